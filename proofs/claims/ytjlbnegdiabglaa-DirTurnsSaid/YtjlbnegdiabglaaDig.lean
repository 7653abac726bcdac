/-
  Whether a directory is one of tables.
-/
import Derived.Test.YtjlbnegdiabglaaDif
set_option linter.unusedSimpArgs false
set_option linter.unusedVariables false
namespace Go.Proofs.Ytjlbnegdiabglaa
open Go Go.RowKit
attribute [local go_sem] via_cell via_frozen
attribute [local go_sem] Oper.semAt_some

/-- What a round of may knows: where the map lies, and the answer's cell. -/
structure MayI (gr gb gm : Nat) (pre : List Rc) (W : World) : Prop where
  ok : allX pre = true
  res : RowAt W gr 4 #[.bool false]
  box : RowAt W gb 90 #[.map (some gm)]
  map : CM Try.prog 3 W gm pre.length (fun s => if s ∈ pre.map (·.e.1) then 1 else 0)
structure MayX (gr : Nat) (c : Code) (pre : List Rc) (W : World) : Prop where
  code : c = .ret
  no : allX pre = false
  res : RowAt W gr 4 #[.bool false]
theorem MayI.stays {n gr gb gm : Nat} (hg : gm < n) : StaysF n (MayI gr gb gm) := fun _ _ _ h hl => ⟨h.ok, h.res.lie hl.lie, h.box.lie hl.lie, h.map.lieF hl hg⟩
theorem MayX.stays (n gr : Nat) (c : Code) : StaysF n (MayX gr c) := fun _ _ _ h hl => ⟨h.code, h.no, h.res.lie hl.lie⟩
theorem MayI.later {gr gb gm : Nat} {pre : List Rc} {A B : World} (h : MayI gr gb gm pre A) (hb : Below A.heap.size A B) : MayI gr gb gm pre B := ⟨h.ok, h.res.below hb, h.box.below hb, h.map.below hb⟩
theorem MayX.later {gr : Nat} {c : Code} {pre : List Rc} {A B : World} (h : MayX gr c pre A) (hb : Below A.heap.size A B) : MayX gr c pre B := ⟨h.code, h.no, h.res.below hb⟩
theorem reach_mem {dep : Int} {es : List En} {x : Rc} (h : x ∈ (runs es).map (rc dep)) (hl : es.length ≤ 32) (ho : entsOk es = true) :
    ∃ (s g : Int) (a m : Nat) (D P : Int), x = ⟨(s, g), D, P, a, m⟩ ∧ 1 ≤ m ∧ a + m ≤ 32 ∧ 0 ≤ s ∧ s < 128 := by
  obtain ⟨r, hr, rfl⟩ := List.mem_map.1 h
  obtain ⟨h1, h2, _, _⟩ := runs_mem hr
  have h3 := runs_ent hr
  have h4 := okEnt_out (List.all_eq_true.1 ho _ h3)
  obtain ⟨k, m, ⟨s, g⟩⟩ := r
  exact ⟨s, g, k, m, _, _, rfl, h1, by dsimp only at h2; omega, h4.1, h4.2.1⟩
theorem below_grown {n b : Nat} {W W' : World} (h : W.grownBy W' (some b)) (hb : n ≤ b) (hn : n ≤ W.heap.size) : Below n W W' :=
  ⟨h.os, h.tape, h.output, h.size, fun j hj => h.block j (by omega) (by intro e; injection e; omega)⟩
theorem RowAt.grown {w w' : World} {g b : Nat} {t : TypeId} {cs : Array Value} (h : RowAt w g t cs) (hg : w.grownBy w' (some b)) (hne : g ≠ b) : RowAt w' g t cs := h.heap (hg.block g h.lt (by intro e; injection e with e; exact hne e))
def MayA (n0 : Nat) (T : Array Value) (x : Rc) (a' : Act) (W : World) : Prop :=
  ∃ gb, a' = { tmps := ((#[20].zip (encRv x)).foldl (fun t (p, v) => t.setIfInBounds p v) T).setIfInBounds 6 (.pointer (some ⟨gb, 0, none⟩)), defers := [] } ∧ RowAt W gb 33 (rC x) ∧ n0 < gb
set_option maxHeartbeats 4000000 in
theorem may_any (B gh : Nat) (dep : Int) (A : Option Addr) (c : Nat) (es : List En) (W : World) (hh : RowAt W gh 71 #[.int .i64 dep, .slice A es.length c]) (hr : Rd W B 2 A es.length (Cs encE es)) (hB : B ≤ W.heap.size) (hBg : B ≤ gh) (hu : ∀ e ∈ es, U64 e.2) (hc : es.length ≤ c) (hcm : c ≤ 9223372036854775807) (r : Bool) (hm : mayB dep es = r) :
    Calls Try.prog 38 #[.pointer (some ⟨gh, 0, none⟩)] W fun e W' => e = .returned (.bool r) ∧ Below W.heap.size W W' := by
  have HU := hide hu
  have HM := hide hm
  have HD := hide hr
  clear hu hm hr
  obtain ⟨w1, hw1⟩ : ∃ w1, W.alloc (.cells #[.bool false] 4) = w1 := ⟨_, rfl⟩
  have s1 : w1.heap.size = W.heap.size + 1 := by rw [← hw1]; simp
  have b1 : Below W.heap.size W w1 := by rw [← hw1]; exact (Below.refl _ _).alloc (Nat.le_refl _) _
  have R1 : Hid (RowAt w1 W.heap.size 4 #[.bool false]) := hide (by have h := RowAt.new W 4 #[.bool false]; rw [hw1] at h; exact h)
  have HB1 := hide b1
  have HH1 := hide (hh.below b1)
  have HD1 := hide (HD.out.below (b1.mono hB))
  refine calls_of_wp_marks Try.func38 rfl ?_
  simp only [Try.ntmps38, List.size_toArray, List.length_cons, List.length_nil, Nat.reduceAdd, Nat.reduceSub, Array.replicate_succ, Array.replicate_zero, List.push_toArray, List.append_toArray, List.nil_append, List.cons_append]
  go_upto_region 1 with (fail)
  have S1 := hide s1
  have HG := hide hh.lt
  clear hw1 s1 b1 hh
  have a0 := HH1.out.cell 0
  have a1 := HH1.out.cell 1
  have al := HH1.out.lt
  by_cases hsh : dirShape dep es.length = true
  case neg =>
    have hsf : dirShape dep es.length = false := by simpa using hsh
    have HF := hide (show r = false from by rw [← HM.out, mayB_all, hsf]; rfl)
    have HC := hide (DirWords_bad A es.length c dep w1 hsf)
    clear hsh hsf
    go_wp2_with fail
    with_reducible refine HC.out.mono ?_
    rintro e w2 ⟨rfl, hb2⟩
    have HB2 := hide (HB1.out.trans (hb2.mono HB1.out.size))
    have hfin := HB2.out.setCell (p := ⟨W.heap.size, 0, none⟩) (Nat.le_refl _) (.bool false)
    have hr3 := (R1.out.below hb2).set 0 (.bool false)
    have q0 := row1 (R1.out.below hb2)
    have ql := (R1.out.below hb2).lt
    have qf := (R1.out.below hb2).frozen 0
    clear hb2
    go_wp2_with fail
    have c9 := row1 hr3
    have l9 := hr3.lt
    clear q0 ql qf hr3
    generalize w2.setCell ⟨W.heap.size, 0, none⟩ (.bool false) = w9 at *
    rw [HF.out]
    exact ⟨_, by simp [results, Try.results38, go_sem, c9, l9], rfl, hfin⟩
  case pos =>
    have hsh2 := hsh
    simp [dirShape] at hsh
    obtain ⟨⟨hd0, hd5⟩, hlen⟩ := hsh
    have hl32 : es.length ≤ 32 := by have := (pow_small dep hd0 hd5).2; omega
    have HC := hide (DirWords_any B A c dep es w1 HD1.out (Nat.le_trans hB (by have := S1.out; omega)) HU.out hd0 hd5 hlen hl32)
    have HSH := hide hsh2
    have HLEN := hide hlen
    clear hlen hsh2
    go_wp2_with fail
    with_reducible refine HC.out.mono ?_
    rintro e w2 (⟨hen, v, rfl, _, hb2⟩ | ⟨hen, rfl, hb2⟩)
    case inr =>
      have HF := hide (show r = false from by rw [← HM.out, mayB_all, hen]; simp)
      have HB2 := hide (HB1.out.trans (hb2.mono HB1.out.size))
      have hfin := HB2.out.setCell (p := ⟨W.heap.size, 0, none⟩) (Nat.le_refl _) (.bool false)
      have hr3 := (R1.out.below hb2).set 0 (.bool false)
      have q0 := row1 (R1.out.below hb2)
      have ql := (R1.out.below hb2).lt
      have qf := (R1.out.below hb2).frozen 0
      clear hb2 hen
      go_wp2_with fail
      have c9 := row1 hr3
      have l9 := hr3.lt
      clear q0 ql qf hr3
      generalize w2.setCell ⟨W.heap.size, 0, none⟩ (.bool false) = w9 at *
      rw [HF.out]
      exact ⟨_, by simp [results, Try.results38, go_sem, c9, l9], rfl, hfin⟩
    case inl =>
      have HEN := hide hen
      have HB2 := hide (HB1.out.trans (hb2.mono HB1.out.size))
      have HR2 := hide (R1.out.below hb2)
      have HH2 := hide (HH1.out.below hb2)
      have HD2 := hide (HD1.out.below (hb2.mono (Nat.le_trans hB (by have := S1.out; omega))))
      obtain ⟨gm, hgm⟩ : ∃ g, w2.heap.size = g := ⟨_, rfl⟩
      have HGM := hide (show W.heap.size < gm from by have h1 := S1.out; have h2 := hb2.size; omega)
      have HGE := hide hgm
      clear hb2 hen hgm a0 a1 al R1 HH1 HD1 HB1 HC
      have hmm := fun w => run_makeMap (P := Try.prog) 90 w
      go_upto_region 5 with (fail)
      clear hmm
      rw [HGE.out]
      have hCM := CM.made Try.prog 3 w2
      have hbx := RowAt.new (w2.alloc (.map #[] 0)) 90 #[.map (some w2.heap.size)]
      have hb4 : Below w2.heap.size w2 ((w2.alloc (.map #[] 0)).alloc (.cells #[.map (some w2.heap.size)] 90)) := ((Below.refl _ w2).alloc (Nat.le_refl _) _).alloc (by simp) _
      have hb4b : Below (w2.alloc (.map #[] 0)).heap.size (w2.alloc (.map #[] 0)) ((w2.alloc (.map #[] 0)).alloc (.cells #[.map (some w2.heap.size)] 90)) := (Below.refl _ _).alloc (Nat.le_refl _) _
      have hs4 : ((w2.alloc (.map #[] 0)).alloc (.cells #[.map (some w2.heap.size)] 90)).heap.size = w2.heap.size + 1 + 1 := by simp
      have hCM4 := hCM.below hb4b
      rw [World.size_alloc] at hbx
      have HH4 := hide (HH2.out.below hb4)
      have HD4 := hide (HD2.out.below (hb4.mono (Nat.le_trans hB HB2.out.size)))
      have HB4 := hide (HB2.out.trans (hb4.mono HB2.out.size))
      have HI4 := hide (show MayI W.heap.size (w2.heap.size + 1) w2.heap.size [] ((w2.alloc (.map #[] 0)).alloc (.cells #[.map (some w2.heap.size)] 90)) from ⟨by rfl, HR2.out.below hb4, hbx, by simpa using hCM4⟩)
      have HS4 := hide hs4
      rw [HGE.out] at HI4 HS4 HH4 HD4 HB4
      (try rw [HGE.out])
      clear hCM hbx hb4 hb4b hs4 hCM4 HH2 HD2 HB2 HR2
      generalize ((w2.alloc (.map #[] 0)).alloc (.cells #[.map (some gm)] 90)) = w4 at *
      go_wp2_with fail
      refine (spans_any gh w4).mono ?_
      rintro e w5 ⟨rfl, hrow, hb⟩
      have hlb := hrow.lt
      have s4 := HS4.out
      have hgm := HGM.out
      have HB5 := hide (HB4.out.trans (hb.mono HB4.out.size))
      have HI5 := hide (HI4.out.later hb)
      have HH5 := hide (HH4.out.below hb)
      have hseq := spans_seq B w4.heap.size gh (w5.heap.size + 2) dep A c es w5 ⟨hrow, HH5.out, HD4.out.below (hb.mono (by omega))⟩ (Nat.le_trans hB HB5.out.size) hl32 hd0 hd5 hc hcm
      have hgh := HG.out
      have hs5 : gm + 1 + 1 < w5.heap.size := by omega
      rw [s4] at hseq ⊢
      have s1 := S1.out
      clear hrow hb hlb s4 HI4 HB4 HS4 HH4 HD4
      go_wp2_with fail
      refine wp_range7 (gf := 59) (lb := #[.pointer (some ⟨gm + 1 + 1, 0, none⟩)]) rfl (enters_of Try.func59 (by kernel_rfl) rfl) hseq W.heap.size (by omega) (fun j hj => by have hj : (j < B ∨ j = gm + 1 + 1 ∨ j = gh) ∨ w5.heap.size + 2 ≤ j := hj; omega) (Below.refl _ _) (fun _ => rfl)
        (MayI W.heap.size (gm + 1) gm) (MayX W.heap.size) (MayI.stays (by omega)) (MayX.stays _ _) (fun _ _ _ h hb => h.later hb) (fun _ _ _ _ h hb => h.later hb) HI5.out
        (MayA (gm + 1 + 1)) (fun T a' x => fun _ _ h hl => by obtain ⟨gb, h1, h2, h3⟩ := h; exact ⟨gb, h1, h2.lie hl.lie, h3⟩) ?assign ?body ?done ?stop ?panic
      case assign =>
        intro lo pre x W2 R hI hb hs hlen hV hn2 hR
        dsimp only [encRv, rC] at hR ⊢
        have HBN := hide (show Below W2.heap.size W2 (W2.alloc (.cells (rC x) 33)) from (Below.refl _ _).alloc (Nat.le_refl _) _)
        have HRN := hide (RowAt.new W2 33 (rC x))
        gi_wp2
        refine hR _ _ (KeepsF.of_others (KeepsOthers.alloc _ _)) (HBN.out.mono (by omega)) (fun j _ hj => HBN.out.block j hj) (hI.later HBN.out) ⟨W2.heap.size, by simp [encRv], HRN.out, by omega⟩
      case body =>
        rintro lo pre x a' W2 hI ⟨gb, hpa, hbox, hgb⟩ hb hs hlen hV hn2
        subst hpa
        obtain ⟨s, g, a, m, D, P, rfl, hm1, ham, hs0, hs1⟩ := reach_mem hV hl32 HEN.out
        dsimp only [encRv, rC] at hbox ⊢
        have HIh := hide hI
        have HBX := hide hbox
        have hws : (Lit.int .i64 s).wf = true := wf64 (by omega) (by omega)
        have hzz : ∀ w : World, (zeroValue 3).run Try.prog w = .ok (.int .i64 0) w := fun w => by kernel_rfl
        have HEP : Hid (∀ w9, W2.grownBy w9 (some gm) → allX (pre ++ [(⟨(s, g), D, P, a, m⟩ : Rc)]) = false → KeepsF w5.heap.size W2 (w9.setCell ⟨W.heap.size, 0, none⟩ (.bool false)) ∧ Below W.heap.size W2 (w9.setCell ⟨W.heap.size, 0, none⟩ (.bool false)) ∧ MayX W.heap.size .ret (pre ++ [(⟨(s, g), D, P, a, m⟩ : Rc)]) (w9.setCell ⟨W.heap.size, 0, none⟩ (.bool false))) := hide (fun w9 hg9 hno =>
          ⟨(KeepsF.of_grown hg9 (by omega)).trans (KeepsF.of_others (KeepsOthers.setCell _ _ _)), (below_grown (n := W.heap.size) hg9 (by omega) (by omega)).setCell (p := ⟨W.heap.size, 0, none⟩) (Nat.le_refl _) _, rfl, hno, by
            have h := (HIh.out.res.grown hg9 (by omega)).set 0 (.bool false)
            simpa using h⟩)
        have HEN9 : Hid (∀ w9, W2.grownBy w9 (some gm) → CM Try.prog 3 w9 gm (pre.length + 1) (fun x => if x = s then 1 else if x ∈ pre.map (·.e.1) then 1 else 0) → okX ⟨(s, g), D, P, a, m⟩ = true → s ∉ pre.map (·.e.1) → KeepsF w5.heap.size W2 w9 ∧ Below W.heap.size W2 w9 ∧ (∀ j, keptK B (gm + 1 + 1) gh (w5.heap.size + 2) j → j < W2.heap.size → w9.heap[j]? = W2.heap[j]?) ∧ MayI W.heap.size (gm + 1) gm (pre ++ [(⟨(s, g), D, P, a, m⟩ : Rc)]) w9) := hide (fun w9 hg9 hcm9 hok hns =>
          ⟨KeepsF.of_grown hg9 (by omega), below_grown hg9 (by omega) (by omega), fun j hj hl => hg9.block j hl (by intro e; injection e with e; have hj : (j < B ∨ j = gm + 1 + 1 ∨ j = gh) ∨ w5.heap.size + 2 ≤ j := hj; omega),
            by rw [allX_snoc, HIh.out.ok, hok]; simpa using hns, HIh.out.res.grown hg9 (by omega), HIh.out.box.grown hg9 (by omega), by
              have e : (fun x => if x ∈ (pre ++ [(⟨(s, g), D, P, a, m⟩ : Rc)]).map (·.e.1) then (1 : Int) else 0) = (fun x => if x = s then 1 else if x ∈ pre.map (·.e.1) then 1 else 0) := by
                funext x
                simp only [List.map_append, List.map_cons, List.map_nil, List.mem_append, List.mem_singleton]
                by_cases h1 : x = s
                · simp [h1]
                · simp [h1]
              rw [e, List.length_append]
              exact hcm9⟩)
        have q0 := row1 hI.box
        have ql := hI.box.lt
        have e0 := hbox.cell 0
        have el := hbox.lt
        have xl := hI.res.lt
        have hlen9 : pre.length < maxLen := by
          have h1 : (List.map (rc dep) (runs es)).length ≤ 64 := by
            rw [List.length_map]
            have := runs_len es
            omega
          unfold maxLen; omega
        obtain ⟨Aq, hAq⟩ : ∃ q : Int, ((m &&& (m - 1) : Nat) : Int) = q := ⟨_, rfl⟩
        obtain ⟨Rq, hRq⟩ : ∃ q : Int, (a : Int) % (m : Int) = q := ⟨_, rfl⟩
        have hand := and_small32 hm1 (by omega)
        rw [hAq] at hand
        obtain ⟨b1, hb1⟩ : ∃ b : Bool, (Aq != 0) = b := ⟨_, rfl⟩
        obtain ⟨b2, hb2⟩ : ∃ b : Bool, (Rq != 0) = b := ⟨_, rfl⟩
        have hmz : ¬ ((m : Int) = 0) := by omega
        have hm32 : (m : Int) ≤ 32 := by omega
        have HOX := hide (show okX ⟨(s, g), D, P, a, m⟩ = (!b1 && !b2) from by
          rw [← hb1, ← hb2, ← hAq, ← hRq]
          simp only [okX, Int.toNat_natCast]
          congr 1
          · rw [Bool.eq_iff_iff]; simp
          · rw [Bool.eq_iff_iff]; simp; omega)
        clear hAq
        by_cases hin : s ∈ pre.map (·.e.1)
        case pos =>
          have hlook := hI.map.look (t := 90) Try.underlying3 Try.underlying90 (hzz _) hws
          rw [if_pos hin] at hlook
          obtain ⟨w3, hupd, hcm3, hg3⟩ := hI.map.upd (t := 90) (v := 2) Try.underlying3 Try.underlying90 hlen9 hws (wf64 (by omega) (by omega))
          have hlook3 := hcm3.look (t := 90) Try.underlying3 Try.underlying90 (hzz _) hws
          rw [if_pos rfl] at hlook3
          have HCM3 := hide hcm3
          have HG3 := hide hg3
          have HIN := hide hin
          have f5 := row1 (hI.box.grown hg3 (by omega))
          have fl5 := (hI.box.grown hg3 (by omega)).lt
          have k0 := (hbox.grown hg3 (by omega)).cell 0
          have k4 := (hbox.grown hg3 (by omega)).cell 4
          have k5 := (hbox.grown hg3 (by omega)).cell 5
          have kl := (hbox.grown hg3 (by omega)).lt
          have x0 := row1 (hI.res.grown hg3 (by omega))
          have xl3 := (hI.res.grown hg3 (by omega)).lt
          have xf := (hI.res.grown hg3 (by omega)).frozen 0
          clear hcm3 hg3 hI hbox hb hV hzz hin
          cases b1
          · cases b2
            · have HNO := hide (show allX (pre ++ [(⟨(s, g), D, P, a, m⟩ : Rc)]) = false from by rw [allX_snoc]; have h := HIN.out; simp [h])
              gi_wp2_with (with_reducible refine wpListIn_skipH ?_ ?_; · exact ⟨⟨_, rfl⟩, rfl, rfl⟩)
              exact HEP.out _ HG3.out HNO.out
            · have HNO := hide (show allX (pre ++ [(⟨(s, g), D, P, a, m⟩ : Rc)]) = false from by rw [allX_snoc, HOX.out]; simp)
              gi_wp2_with (with_reducible refine wpListIn_skipH ?_ ?_; · exact ⟨⟨_, rfl⟩, rfl, rfl⟩)
              exact HEP.out _ HG3.out HNO.out
          · have HNO := hide (show allX (pre ++ [(⟨(s, g), D, P, a, m⟩ : Rc)]) = false from by rw [allX_snoc, HOX.out]; simp)
            gi_wp2_with (with_reducible refine wpListIn_skipH ?_ ?_; · exact ⟨⟨_, rfl⟩, rfl, rfl⟩)
            exact HEP.out _ HG3.out HNO.out
        case neg =>
          have hlook := hI.map.look (t := 90) Try.underlying3 Try.underlying90 (hzz _) hws
          rw [if_neg hin] at hlook
          obtain ⟨w3, hupd, hcm3, hg3⟩ := hI.map.upd (t := 90) (v := 1) Try.underlying3 Try.underlying90 hlen9 hws (wf64 (by omega) (by omega))
          have hlook3 := hcm3.look (t := 90) Try.underlying3 Try.underlying90 (hzz _) hws
          rw [if_pos rfl] at hlook3
          have HCM3 := hide hcm3
          have HG3 := hide hg3
          have HIN := hide hin
          have f5 := row1 (hI.box.grown hg3 (by omega))
          have fl5 := (hI.box.grown hg3 (by omega)).lt
          have k0 := (hbox.grown hg3 (by omega)).cell 0
          have k4 := (hbox.grown hg3 (by omega)).cell 4
          have k5 := (hbox.grown hg3 (by omega)).cell 5
          have kl := (hbox.grown hg3 (by omega)).lt
          have x0 := row1 (hI.res.grown hg3 (by omega))
          have xl3 := (hI.res.grown hg3 (by omega)).lt
          have xf := (hI.res.grown hg3 (by omega)).frozen 0
          clear hcm3 hg3 hI hbox hb hV hzz hin
          cases b1
          · cases b2
            · gi_wp2_with (with_reducible refine wpListIn_skipH ?_ ?_; · exact ⟨⟨_, rfl⟩, rfl, rfl⟩)
              exact HEN9.out _ HG3.out HCM3.out (by rw [HOX.out]; rfl) HIN.out
            · have HNO := hide (show allX (pre ++ [(⟨(s, g), D, P, a, m⟩ : Rc)]) = false from by rw [allX_snoc, HOX.out]; simp)
              gi_wp2_with (with_reducible refine wpListIn_skipH ?_ ?_; · exact ⟨⟨_, rfl⟩, rfl, rfl⟩)
              exact HEP.out _ HG3.out HNO.out
          · have HNO := hide (show allX (pre ++ [(⟨(s, g), D, P, a, m⟩ : Rc)]) = false from by rw [allX_snoc, HOX.out]; simp)
            gi_wp2_with (with_reducible refine wpListIn_skipH ?_ ?_; · exact ⟨⟨_, rfl⟩, rfl, rfl⟩)
            exact HEP.out _ HG3.out HNO.out
      case done =>
        rintro ys W2 rfl hI hb hs hD
        have HRR := hide (show r = true from by rw [← HM.out, mayB_all, HSH.out, HEN.out, hI.ok]; rfl)
        have q0 := row1 hI.res
        have ql := hI.res.lt
        have qf := hI.res.frozen 0
        have HD9 := hide hD
        have HBF := hide (HB5.out.trans (hb.mono (Nat.le_refl _)))
        have hRZ := (hI.res.set 0 (.bool true))
        clear hb hD hI
        unfold marked
        go_wp2_with fail
        have hD9 : (W2.setCell ⟨W.heap.size, 0, none⟩ (.bool true)).heap[w5.heap.size]? = some (.deferred (some [])) := (heap_setCell_ne _ _ _ _ (by show w5.heap.size ≠ W.heap.size; omega)).trans HD9.out
        have hr9 : RowAt ((W2.setCell ⟨W.heap.size, 0, none⟩ (.bool true)).putObj w5.heap.size (.deferred none)) W.heap.size 4 #[.bool true] := RowAt.lie hRZ (CellsLie.putObj _ hD9 rfl)
        have c9 := row1 hr9
        have l9 := hr9.lt
        refine ⟨by simp, .inl ⟨_, _, rfl, run_takeDeferred hD9, ?_⟩⟩
        rw [HRR.out]
        have hfin : Below W.heap.size W ((W2.setCell ⟨W.heap.size, 0, none⟩ (.bool true)).putObj w5.heap.size (.deferred none)) := (HBF.out.trans ((Below.refl _ _).setCell (p := ⟨W.heap.size, 0, none⟩) (by simp) _)).trans (below_putObj (o := .deferred (some [])) _ (by omega))
        generalize (W2.setCell ⟨W.heap.size, 0, none⟩ (.bool true)).putObj w5.heap.size (.deferred none) = w9 at *
        exact ⟨_, by simp [results, Try.results38, go_sem, c9, l9], rfl, hfin⟩
      case stop =>
        rintro c2 pre W2 ⟨rr, hr2⟩ ⟨rfl, hno, hres⟩ hb hs hD
        have HRR := hide (show r = false from by rw [← HM.out, mayB_all, ← hr2, allX_pre hno]; simp)
        have HE9 := hide hres
        have HD9 := hide hD
        have HBF := hide (HB5.out.trans (hb.mono (Nat.le_refl _)))
        clear hb hD hres hno hr2
        unfold marked
        go_wp2_with fail
        have hr9 : RowAt (W2.putObj w5.heap.size (.deferred none)) W.heap.size 4 #[.bool false] := RowAt.lie HE9.out (CellsLie.putObj _ HD9.out rfl)
        have c9 := row1 hr9
        have l9 := hr9.lt
        have hfin : Below W.heap.size W (W2.putObj w5.heap.size (.deferred none)) := HBF.out.trans (below_putObj (o := .deferred (some [])) _ (by omega))
        refine ⟨by simp, .inl ⟨_, _, rfl, run_takeDeferred HD9.out, ?_⟩⟩
        rw [HRR.out]
        generalize W2.putObj w5.heap.size (.deferred none) = w9 at *
        exact ⟨_, by simp [results, Try.results38, go_sem, c9, l9], rfl, hfin⟩
      case panic =>
        rintro pre W2 h
        exact h.elim
end Go.Proofs.Ytjlbnegdiabglaa
