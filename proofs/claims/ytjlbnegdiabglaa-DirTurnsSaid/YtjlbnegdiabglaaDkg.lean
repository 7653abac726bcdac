/-
  Tables split, one behind the other.
-/
import Derived.Test.YtjlbnegdiabglaaDke
import Derived.Test.YtjlbnegdiabglaaDju
set_option linter.unusedSimpArgs false
set_option linter.unusedVariables false
namespace Go.Proofs.Ytjlbnegdiabglaa
open Go Go.RowKit
attribute [local go_sem] via_cell via_frozen

theorem elT : ElemOk Try.prog 51 52 6 48 (.agg #[.int .i64 0, .int .u64 0, .int .i64 0, .int .u64 0, .int .i64 0, .int .u64 0]) := ⟨Try.underlying51, by kernel_rfl, rfl, by omega, by omega, by intro u hu; simp [Value.cells] at hu; rcases hu with rfl | rfl | rfl | rfl | rfl | rfl <;> rfl⟩
theorem encT_one : ∀ x, ∀ u ∈ encT x, u.oneCell' = true := by intro x u hu; simp [encT] at hu; rcases hu with rfl | rfl | rfl | rfl | rfl | rfl <;> rfl
set_option maxHeartbeats 400000 in
theorem CloneT (B : Nat) (A : Option Addr) (n c : Nat) (xs : List Value) (W : World) (hr : Rd W B 6 A n xs) (hB : B ≤ W.heap.size) (h1 : ∀ u ∈ xs, u.oneCell' = true) (hb : n ≤ 4096) :
    Calls Try.prog 31 #[.slice A n c] W fun e W' => ∃ v, e = .returned v ∧ W'.ownsRow W.heap.size 52 6 v n xs ∧ Below W.heap.size W W' := by
  cases A with
  | none =>
    obtain rfl := rd_none hr
    obtain rfl := hr.nil
    have hn := fun w => Lib.run_eql_slice_nil (P := Try.prog) w 51 52 none 0 c 0 0 Try.underlying51
    go_enter Try.func31, Try.ntmps31
    go_wp2
    go_ret
    exact ⟨_, rfl, World.ownsRow_nil _ _ _ _, Below.refl _ _⟩
  | some a =>
    have hn := fun w => Lib.run_eql_slice_nil (P := Try.prog) w 51 52 (some a) n c 0 0 Try.underlying51
    have hown := World.ownsRow_lit (base := W.heap.size) (e := 52) (size := 6) W #[] 0 (Nat.le_refl _) (by simp [maxLen]) rfl
    go_enter Try.func31, Try.ntmps31
    go_wp2_with (at_builtin; refine wpList_app elT rfl _ _ rfl rfl hown rfl (hr.alloc hB _) h1 (by omega) (by simp) ?_; intro v1 w1 hown1 hb1 _ _)
    go_ret
    exact ⟨v1, rfl, by simpa using hown1, ((Below.refl _ _).alloc (Nat.le_refl _) _).trans hb1⟩

/-- One split of many. -/
def splStep (s : Int × List En) (t : Tri) : Except Int (Int × List En) := if mayB s.1 s.2 then splitO s.1 s.2 t.1 t.2.1 t.2.2 else .error 310
/-- Splits, one behind the other: what is left, and how many were passed over. -/
def splRun (s : Int × List En) : List Tri → (Int × List En) × Nat
  | [] => (s, 0)
  | t :: ts => match splStep s t with
    | .ok x => splRun x ts
    | .error _ => ((splRun s ts).1, (splRun s ts).2 + 1)
def splMany : List Tri → (Int × List En) → Nat → (Int × List En) × Nat
  | [], s, k => (s, k)
  | t :: ts, s, k => match splStep s t with
    | .ok x => splMany ts x k
    | .error _ => splMany ts s (k + 1)
theorem splMany_snoc (t : Tri) : ∀ (ts : List Tri) (s : Int × List En) (k : Nat), splMany (ts ++ [t]) s k = (match splStep (splMany ts s k).1 t with | .ok x => (x, (splMany ts s k).2) | .error _ => ((splMany ts s k).1, (splMany ts s k).2 + 1))
  | [], s, k => by
    show splMany [t] s k = _
    simp only [splMany]
  | a :: ts, s, k => by
    show splMany (a :: (ts ++ [t])) s k = _
    simp only [splMany]
    cases h : splStep s a with
    | ok x => exact splMany_snoc t ts x k
    | error _ => exact splMany_snoc t ts s (k + 1)
theorem splMany_le : ∀ (ts : List Tri) (s : Int × List En) (k : Nat), (splMany ts s k).2 ≤ k + ts.length
  | [], s, k => Nat.le_refl _
  | a :: ts, s, k => by
    simp only [splMany, List.length_cons]
    cases h : splStep s a with
    | ok x => exact Nat.le_trans (splMany_le ts x k) (by omega)
    | error _ => exact Nat.le_trans (splMany_le ts s (k + 1)) (by omega)
theorem splStep_err {s : Int × List En} {t : Tri} {k : Int} (h : splStep s t = .error k) : k ≠ 0 := splitErr h
theorem splStep_ok {s x : Int × List En} {t : Tri} (h : splStep s t = .ok x) (hs : ∀ e ∈ s.2, U64 e.2) (ht : TriU t) : mayB x.1 x.2 = true ∧ ∀ e ∈ x.2, U64 e.2 := by
  obtain ⟨hm, hso⟩ := splitOk (x := x) (es := s.2) h
  obtain ⟨pre, y, post, gx, lo, hi9, hP, hm2, hmem⟩ := split_plain hm hso
  refine ⟨hm2, fun e he => ?_⟩
  rcases hmem e he with h | rfl | rfl
  · exact hs e h
  · exact ht.2.1
  · exact ht.2.2
theorem splits1_any (gh gs : Nat) (dep : Int) (A : Option Addr) (c : Nat) (es : List En) (w : World) (h : HandO w gh gs dep A c es) : Calls Try.prog 58 #[.pointer (some ⟨gh, 0, none⟩)] w (DoesO gs gh w (.ok (dep, es))) := by
  have H := hide h
  clear h
  go_enter Try.func58, Try.ntmps58
  go_wp2_with fail
  go_end0
  exact ⟨rfl, ⟨A, c, H.out⟩, Below.refl _ _⟩
/-- What Splits comes to. -/
def SplsR (W : World) (d : Int) (es : List En) (ts : List Tri) : Bool → Ending → World → Prop
  | true, e, W' => ∃ A c, e = .returned (.tuple #[.agg #[.int .i64 (splMany ts (d, es) 0).1.1, .slice A (splMany ts (d, es) 0).1.2.length c], .int .i64 ((splMany ts (d, es) 0).2 : Nat), .int .i64 0]) ∧ W'.ownsRow W.heap.size 31 2 (.slice A (splMany ts (d, es) 0).1.2.length c) (splMany ts (d, es) 0).1.2.length (Cs encE (splMany ts (d, es) 0).1.2) ∧ Below W.heap.size W W'
  | false, e, W' => e = .returned (.tuple #[.agg #[.int .i64 0, .slice none 0 0], .int .i64 0, .int .i64 310]) ∧ Below W.heap.size W W'
set_option maxRecDepth 100000 in
set_option maxHeartbeats 16000000 in
theorem Splits_any (A : Option Addr) (c : Nat) (dep : Int) (es : List En) (B : Nat) (AT : Option Addr) (cT nT : Nat) (ts : List Tri) (W : World) (h : DirAt W W.heap.size A c es) (hT : Rd W B 6 AT nT (Cs encT ts)) (hB : B ≤ W.heap.size) (hTx : ts.length = nT) (hTn : nT ≤ 4096) (hTu : ∀ t ∈ ts, TriU t) (r : Bool) (hr : mayB dep es = r) :
    Calls Try.prog 33 #[.agg #[.int .i64 dep, .slice A es.length c], .slice AT nT cT] W (SplsR W dep es ts r) := by
  obtain ⟨n, hn⟩ : ∃ n, es.length = n := ⟨_, rfl⟩
  have ha1 := (Below.refl _ W).alloc (Nat.le_refl _) (.cells #[.int .i64 dep, .slice A n c] 24)
  have ha2 := (Below.refl _ (W.alloc (.cells #[.int .i64 dep, .slice A n c] 24))).alloc (Nat.le_refl _) (.cells #[.int .i64 0, .slice none 0 0] 24)
  have R2 := hide ((RowAt.new W 24 #[.int .i64 dep, .slice A n c]).below ha2)
  have R4 := hide (show RowAt ((W.alloc (.cells #[.int .i64 dep, .slice A n c] 24)).alloc (.cells #[.int .i64 0, .slice none 0 0] 24)) (W.heap.size + 1) 24 #[.int .i64 0, .slice none 0 0] from by have h := RowAt.new (W.alloc (.cells #[.int .i64 dep, .slice A n c] 24)) 24 #[.int .i64 0, .slice none 0 0]; rw [World.size_alloc] at h; exact h)
  have HB := hide (ha1.trans (ha2.mono ha1.size))
  have S2 := hide (show ((W.alloc (.cells #[.int .i64 dep, .slice A n c] 24)).alloc (.cells #[.int .i64 0, .slice none 0 0] 24)).heap.size = W.heap.size + 1 + 1 from by simp)
  have HT := hide hT
  have HTU := hide hTu
  have HTX := hide hTx
  have HR := hide hr
  have HU := hide h.u
  have HTR := hide (fun w (hb : Below W.heap.size W w) => tries_any A c 58 #[] dep es w (enters_of Try.func58 (by kernel_rfl) rfl) ((h.below hb).more hb.size) (.ok (dep, es)) (fun hm w gh gs A c hh _ _ _ => splits1_any gh gs dep A c es w hh))
  rw [hr] at HTR
  rw [hn] at HTR
  rw [hn]
  have HN := hide hn
  clear ha1 ha2 hT hTu hTx hr hn h
  go_enter Try.func33, Try.ntmps33
  go_upto_region 1 with (fail)
  generalize (W.alloc (.cells #[.int .i64 dep, .slice A n c] 24)).alloc (.cells #[.int .i64 0, .slice none 0 0] 24) = w1 at *
  have q0 := row20 R2.out
  have q1 := row21 R2.out
  have ql := R2.out.lt
  go_wp2_with fail
  refine (HTR.out w1 HB.out).mono ?_
  cases r
  · rintro e w2 ⟨rfl, hb⟩
    dsimp only
    have hba := (Below.refl _ w2).alloc (Nat.le_refl _) (.cells #[.int .i64 0, .slice none 0 0] 24)
    have hb2 := hb.trans (hba.mono hb.size)
    replace R4 := hide (R4.out.below hb2)
    replace HB := hide (HB.out.trans (hb2.mono HB.out.size))
    clear hb hba hb2 q0 q1 ql HTR
    go_upto_region 2 with (fail)
    generalize w2.alloc (.cells #[.int .i64 0, .slice none 0 0] 24) = w3 at *
    have z0 := row20 R4.out
    have z1 := row21 R4.out
    have zl := R4.out.lt
    have zf0 := R4.out.frozen 0
    have zf1 := R4.out.frozen 1
    have hr9 := (R4.out.set 0 (.int .i64 0)).set 1 (.slice none 0 0)
    have HR9 := hide (show RowAt ((w3.setCell ⟨W.heap.size + 1, 0, none⟩ (.int .i64 0)).setCell ⟨W.heap.size + 1, 1, none⟩ (.slice none 0 0)) (W.heap.size + 1) 24 #[.int .i64 0, .slice none 0 0] from hr9)
    have HB9 := hide ((HB.out.setCell (p := ⟨W.heap.size + 1, 0, none⟩) (by simp) (.int .i64 0)).setCell (p := ⟨W.heap.size + 1, 1, none⟩) (by simp) (.slice none 0 0))
    clear hr9
    go_wp2_with fail
    have hr9 := HR9.out
    have hb9 := HB9.out
    generalize (w3.setCell ⟨W.heap.size + 1, 0, none⟩ (.int .i64 0)).setCell ⟨W.heap.size + 1, 1, none⟩ (.slice none 0 0) = w9 at *
    have x0 := row20 hr9
    have x1 := row21 hr9
    have xl := hr9.lt
    exact bodyPost_ret (v := .tuple #[.agg #[.int .i64 0, .slice none 0 0], .int .i64 0, .int .i64 310]) (by simp [results, Try.results33, go_sem, x0, x1, xl]) rfl ⟨rfl, hb9⟩
  · rintro e w2 ⟨A2, c2, rfl, ho, hb⟩
    dsimp only at ho ⊢
    have hba := (Below.refl _ w2).alloc (Nat.le_refl _) (.cells #[.int .i64 dep, .slice A2 es.length c2] 24)
    have R7 := hide (RowAt.new w2 24 #[.int .i64 dep, .slice A2 es.length c2])
    have hb2 := hb.trans (hba.mono hb.size)
    have O7 := hide (own_keepB (ownsRow_base (base' := W.heap.size) ho HB.out.size) hba)
    replace R4 := hide (R4.out.below hb2)
    replace HB := hide (HB.out.trans (hb2.mono HB.out.size))
    have HG7 := hide (show W.heap.size + 1 + 1 ≤ w2.heap.size from by have h1 := S2.out; have h2 := hb.size; omega)
    clear hb hba hb2 q0 q1 ql HTR ho R2
    go_upto_region 4 with (fail)
    generalize hg : w2.heap.size = g7 at *
    clear hg
    generalize w2.alloc (.cells #[.int .i64 dep, .slice A2 es.length c2] 24) = w3 at *
    go_wp2_with fail
    go_loopw [9, 25] (fun ov iv wr => ∃ (i : Nat) (d : Int) (A : Option Addr) (c : Nat) (L : List En) (k : Nat), i ≤ nT ∧ iv = .int .i64 i ∧ ov = .int .i64 (k : Int) ∧ k ≤ i ∧ splMany (ts.take i) (dep, es) 0 = ((d, L), k) ∧ RowAt wr g7 24 #[.int .i64 d, .slice A L.length c] ∧ RowAt wr (W.heap.size + 1) 24 #[.int .i64 0, .slice none 0 0] ∧ wr.ownsRow W.heap.size 31 2 (.slice A L.length c) L.length (Cs encE L) ∧ (∀ e ∈ L, U64 e.2) ∧ Below W.heap.size W wr) (fun _ iv _ => nT - (intOf iv).toNat)
    case atStart => exact ⟨0, dep, _, c2, es, 0, Nat.zero_le _, rfl, rfl, Nat.le_refl _, rfl, R7.out, R4.out, O7.out, HU.out, HB.out⟩
    case round =>
      clear R7 O7 HB R4
      obtain ⟨i, d, A, c, L, k, hi, rfl, rfl, hki, hsp, hR, hR4, hO, hU, hB'⟩ := hrel
      have R5 := hide hR
      have R4 := hide hR4
      have O5 := hide hO
      have HU := hide hU
      have HB := hide hB'
      have HSP := hide hsp
      clear hR hO hU hB' hsp hR4
      by_cases hlt : i < nT
      · have hix : i < ts.length := by rw [HTX.out]; exact hlt
        have hrd := HT.out.below (HB.out.mono hB)
        rw [← HTX.out] at hrd
        obtain ⟨b, off, hA, hbl, hc⟩ := hrd.elem encT_len hix
        obtain ⟨s, hs⟩ : ∃ s, ts[i] = s := ⟨_, rfl⟩
        have hsu : TriU s := by rw [← hs]; exact HTU.out _ (List.getElem_mem hix)
        have HSN := hide (show splMany (ts.take (i + 1)) (dep, es) 0 = (match splStep (d, L) s with | .ok x => (x, k) | .error _ => ((d, L), k + 1)) from by
          rw [List.take_succ_eq_append_getElem hix, splMany_snoc, HSP.out, hs])
        have hsu2 := hide hsu
        rw [hs] at hc
        obtain ⟨e, low, high⟩ := s
        have d0 := hc 0 _ (by omega) rfl
        have d1 := hc 1 _ (by omega) rfl
        have d2 := hc 2 _ (by omega) rfl
        have d3 := hc 3 _ (by omega) rfl
        have d4 := hc 4 _ (by omega) rfl
        have d5 := hc 5 _ (by omega) rfl
        simp only [Nat.add_zero] at d0
        dsimp only at d0 d1 d2 d3 d4 d5
        subst hA
        have hbl2 : b < wr.heap.size := Nat.lt_of_lt_of_le hbl (Nat.le_trans hB HB.out.size)
        have hiI : (i : Int) < (nT : Int) := by omega
        obtain ⟨hue, hul, huh⟩ := hsu
        have hba := (Below.refl _ wr).alloc (Nat.le_refl _) (.cells #[.int .i64 e.1, .int .u64 e.2, .int .i64 low.1, .int .u64 low.2, .int .i64 high.1, .int .u64 high.2] 52)
        have R11 := hide (RowAt.new wr 52 #[.int .i64 e.1, .int .u64 e.2, .int .i64 low.1, .int .u64 low.2, .int .i64 high.1, .int .u64 high.2])
        replace R5 := hide (R5.out.below hba)
        replace R4 := hide (R4.out.below hba)
        replace O5 := hide (own_keepB O5.out hba)
        replace HB := hide (HB.out.trans (hba.mono HB.out.size))
        clear hba hc hrd hbl hs hix
        go_upto_region 8 with (fail)
        clear d0 d1 d2 d3 d4 d5 hbl2
        generalize hg : wr.heap.size = g11 at *
        clear hg
        generalize wr.alloc (.cells #[.int .i64 e.1, .int .u64 e.2, .int .i64 low.1, .int .u64 low.2, .int .i64 high.1, .int .u64 high.2] 52) = w5 at *
        have HDA := hide (show DirAt w5 w5.heap.size A c L from DirAt.of_own (base := W.heap.size) O5.out HU.out)
        obtain ⟨o, ho⟩ : ∃ o, splStep (d, L) (e, low, high) = o := ⟨_, rfl⟩
        have HSPL := hide (Split_any A c d L e low high w5 HDA.out hul huh o ho)
        have HO := hide ho
        rw [ho] at HSN
        clear ho
        have q0 := row20 R5.out
        have q1 := row21 R5.out
        have ql := R5.out.lt
        obtain ⟨t0, t1, t2, t3, t4, t5⟩ := row6 R11.out
        have tl := R11.out.lt
        cases o with
        | error kk =>
          have hk0 := splStep_err HO.out
          have hkb : (kk != 0) = true := by simpa using hk0
          go_wp2_with fail
          refine HSPL.out.mono ?_
          rintro e1 w6 ⟨rfl, hb⟩
          dsimp only
          have hba := (Below.refl _ w6).alloc (Nat.le_refl _) (.cells #[.int .i64 0, .slice none 0 0] 24)
          have hb2 := hb.trans (hba.mono hb.size)
          replace R5 := hide (R5.out.below hb2)
          replace R4 := hide (R4.out.below hb2)
          replace O5 := hide (own_keepB O5.out hb2)
          replace HB := hide (HB.out.trans (hb2.mono HB.out.size))
          clear hb hba hb2 q0 q1 ql t0 t1 t2 t3 t4 t5 tl HSPL R11 HDA
          go_upto_region 9 with (fail)
          generalize w6.alloc (.cells #[.int .i64 0, .slice none 0 0] 24) = w7 at *
          go_wp2_with fail
          go_roundw
          case rel => exact ⟨i + 1, d, A, c, L, k + 1, by omega, by go_num, by go_num, by omega, HSN.out, R5.out, R4.out, O5.out, HU.out, HB.out⟩
          case measure => simp [intOf]; omega
        | ok x =>
          obtain ⟨D2, L2⟩ := x
          have HU2 := hide (splStep_ok HO.out HU.out hsu2.out).2
          go_wp2_with fail
          refine HSPL.out.mono ?_
          rintro e1 w6 ⟨A8, c8, rfl, ho, hb⟩
          dsimp only at ho ⊢
          have O8 := hide (ownsRow_base (base' := W.heap.size) ho HB.out.size)
          have hba := (Below.refl _ w6).alloc (Nat.le_refl _) (.cells #[.int .i64 D2, .slice A8 L2.length c8] 24)
          have R12 := hide (RowAt.new w6 24 #[.int .i64 D2, .slice A8 L2.length c8])
          have hb2 := hb.trans (hba.mono hb.size)
          replace R5 := hide (R5.out.below hb2)
          replace R4 := hide (R4.out.below hb2)
          replace O8 := hide (own_keepB O8.out hba)
          replace HB := hide (HB.out.trans (hb2.mono HB.out.size))
          clear hb hba hb2 q0 q1 ql t0 t1 t2 t3 t4 t5 tl HSPL R11 HDA ho O5
          go_upto_region 9 with (fail)
          generalize hg : w6.heap.size = g12 at *
          clear hg
          generalize w6.alloc (.cells #[.int .i64 D2, .slice A8 L2.length c8] 24) = w7 at *
          have R5n := hide ((R5.out.set 0 (.int .i64 D2)).set 1 (.slice A8 L2.length c8))
          have R4n := hide ((R4.out.setNe (g2 := g7) (o := 0) (v := .int .i64 D2) (by have := HG7.out; omega)).setNe (g2 := g7) (o := 1) (v := .slice A8 L2.length c8) (by have := HG7.out; omega))
          have O8n := hide (own_setBox (own_setBox O8.out R5.out (by decide) 0 (.int .i64 D2)) (R5.out.set 0 (.int .i64 D2)) (by decide) 1 (.slice A8 L2.length c8))
          have HBn := hide ((HB.out.setCell (p := ⟨g7, 0, none⟩) (by have := HG7.out; simp; omega) (.int .i64 D2)).setCell (p := ⟨g7, 1, none⟩) (by have := HG7.out; simp; omega) (.slice A8 L2.length c8))
          have q0 := row20 R5.out
          have q1 := row21 R5.out
          have ql := R5.out.lt
          have qf0 := R5.out.frozen 0
          have qf1 := R5.out.frozen 1
          have p0 := row20 R12.out
          have p1 := row21 R12.out
          have pl := R12.out.lt
          go_wp2_with fail
          go_roundw
          case rel => exact ⟨i + 1, D2, A8, c8, L2, k, by omega, by go_num, rfl, by omega, HSN.out, R5n.out, R4n.out, O8n.out, HU2.out, HBn.out⟩
          case measure => simp [intOf]; omega
      · obtain rfl : i = nT := by omega
        have hfin := HSP.out
        rw [List.take_of_length_le (by rw [HTX.out]; exact Nat.le_refl _)] at hfin
        have HFIN := hide hfin
        clear hfin
        obtain ⟨ln, hln⟩ : ∃ n, L.length = n := ⟨_, rfl⟩
        have HLN := hide hln
        rw [hln] at R5 O5
        clear hln
        have q0 := row20 R5.out
        have q1 := row21 R5.out
        have ql := R5.out.lt
        have z0 := row20 R4.out
        have z1 := row21 R4.out
        have zl := R4.out.lt
        have zf0 := R4.out.frozen 0
        have zf1 := R4.out.frozen 1
        have hr9 := (R4.out.set 0 (.int .i64 d)).set 1 (.slice A ln c)
        have HR9 := hide (show RowAt ((wr.setCell ⟨W.heap.size + 1, 0, none⟩ (.int .i64 d)).setCell ⟨W.heap.size + 1, 1, none⟩ (.slice A ln c)) (W.heap.size + 1) 24 #[.int .i64 d, .slice A ln c] from hr9)
        have HO9 := hide (own_setBox (own_setBox O5.out R4.out (by decide) 0 (.int .i64 d)) (R4.out.set 0 (.int .i64 d)) (by decide) 1 (.slice A ln c))
        have HB9 := hide ((HB.out.setCell (p := ⟨W.heap.size + 1, 0, none⟩) (by simp) (.int .i64 d)).setCell (p := ⟨W.heap.size + 1, 1, none⟩) (by simp) (.slice A ln c))
        clear hr9
        go_wp2_with fail
        have hr9 := HR9.out
        have hb9 := HB9.out
        have ho9 := HO9.out
        generalize (wr.setCell ⟨W.heap.size + 1, 0, none⟩ (.int .i64 d)).setCell ⟨W.heap.size + 1, 1, none⟩ (.slice A ln c) = w9 at *
        have x0 := row20 hr9
        have x1 := row21 hr9
        have xl := hr9.lt
        refine bodyPost_ret (v := .tuple #[.agg #[.int .i64 d, .slice A ln c], .int .i64 (k : Int), .int .i64 0]) (by simp [results, Try.results33, go_sem, x0, x1, xl]) rfl ⟨A, c, ?_, ?_, hb9⟩
        · rw [HFIN.out]; dsimp only; rw [HLN.out]
        · rw [HFIN.out]; dsimp only; rw [HLN.out]; exact ho9
end Go.Proofs.Ytjlbnegdiabglaa
