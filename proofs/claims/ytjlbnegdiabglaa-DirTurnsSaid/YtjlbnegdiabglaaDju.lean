/-
  DirSplits, walked.
-/
import Derived.Test.YtjlbnegdiabglaaDjc
import Derived.Test.YtjlbnegdiabglaaDjt
import Derived.Test.YtjlbnegdiabglaaDjopen2
import Derived.BigQuiet
import Derived.Deep.CutRange
import Derived.Deep.CutBlock
import Derived.Deep.RegionHeld3
set_option linter.unusedSimpArgs false
set_option linter.unusedVariables false
namespace Go.Proofs.Ytjlbnegdiabglaa
open Go Go.RowKit
attribute [local go_sem] via_cell via_frozen

theorem row6 {w : World} {g : Nat} {t : TypeId} {a b c d e f : Value} (h : RowAt w g t #[a, b, c, d, e, f]) : w.cell? ⟨g, 0, none⟩ = some a ∧ w.cell? ⟨g, 1, none⟩ = some b ∧ w.cell? ⟨g, 2, none⟩ = some c ∧ w.cell? ⟨g, 3, none⟩ = some d ∧ w.cell? ⟨g, 4, none⟩ = some e ∧ w.cell? ⟨g, 5, none⟩ = some f :=
  ⟨h.cell 0, h.cell 1, h.cell 2, h.cell 3, h.cell 4, h.cell 5⟩
theorem Parted.other {was is : List Rc} {e low high : En} {pre : List Rc} {x : Rc} {post : List Rc} {g : Rc → Rc} {lo hi : Rc} (h : Parted was is e low high pre x post g lo hi) {j : Nat} (hjk : j ≠ pre.length) : is[if pre.length < j then j + 1 else j]? = (was[j]?).map g := by
  rw [h.is, h.was]
  rcases Nat.lt_or_gt_of_ne hjk with hj | hj
  · rw [if_neg (by omega), List.getElem?_append_left (by rw [List.length_map]; exact hj), List.getElem?_append_left hj, List.getElem?_map]
  · obtain ⟨i, rfl⟩ : ∃ i, j = pre.length + (i + 1) := ⟨j - pre.length - 1, by omega⟩
    rw [if_pos hj, List.getElem?_append_right (by rw [List.length_map]; omega), List.getElem?_append_right (by omega), List.length_map, show pre.length + (i + 1) + 1 - pre.length = i + 2 by omega, Nat.add_sub_cancel_left]
    simp
theorem Parted.other2 {was is : List Rc} {e low high : En} {pre : List Rc} {x : Rc} {post : List Rc} {g : Rc → Rc} {lo hi : Rc} (h : Parted was is e low high pre x post g lo hi) {j k m : Nat} (hk : pre.length = k) (hjk : j ≠ k) (hj : j < was.length) {t : Rc} (ht : was[j] = t) (hm : (if k < j then j + 1 else j) = m) : ∃ a n : Int, is[m]? = some ⟨t.e, t.dep, t.pre, a, n⟩ := by
  subst hk
  have h1 := h.other hjk
  rw [hm, List.getElem?_eq_getElem hj, ht] at h1
  obtain ⟨k1, k2, k3⟩ := h.keep t
  refine ⟨(g t).at_, (g t).many, ?_⟩
  rw [h1, ← k1, ← k2, ← k3]
  rfl
theorem two_alloc (w : World) (t : TypeId) (a b : Array Value) : RowAt (((w.alloc (.cells a t)).alloc (.cells b t)).drew) w.heap.size t a ∧ RowAt (((w.alloc (.cells a t)).alloc (.cells b t)).drew) (w.heap.size + 1) t b ∧ Below w.heap.size w (((w.alloc (.cells a t)).alloc (.cells b t)).drew) := by
  have h1 := (Below.refl _ w).alloc (Nat.le_refl _) (.cells a t)
  have h2 := (Below.refl _ (w.alloc (.cells a t))).alloc (Nat.le_refl _) (.cells b t)
  have r2 := RowAt.new (w.alloc (.cells a t)) t b
  rw [World.size_alloc] at r2
  exact ⟨((RowAt.new w t a).below h2).drew, r2.drew, (h1.trans (h2.mono h1.size)).drew⟩
/-- The law's closure: is it the entry's? -/
theorem law1_any (g : Nat) (e low high : En) (W : World) (hr : RowAt W g 52 #[.int .i64 e.1, .int .u64 e.2, .int .i64 low.1, .int .u64 low.2, .int .i64 high.1, .int .u64 high.2]) :
    ClosP 24 #[.pointer (some ⟨g, 0, none⟩)] vR (fun t => decide (t.e = e)) (fun _ => True) W := by
  intro w x hb _
  obtain ⟨d0, d1, -⟩ := row6 (hr.below hb)
  have dl := (hr.below hb).lt
  have HB1 := hide (show Below w.heap.size w (w.alloc (.cells (rC x) 33)) from (Below.refl _ _).alloc (Nat.le_refl _) _)
  obtain ⟨b, hbb⟩ : ∃ b, decide (x.e = e) = b := ⟨_, rfl⟩
  have HE := fun w => eqlE w x.e e b hbb
  dsimp only
  rw [hbb]
  clear hb hr hbb
  go_enter Try.func24, Try.ntmps24
  go_wp2_with fail
  go_ret
  exact ⟨ret_bool rfl, HB1.out⟩
theorem splitErr {dep k : Int} {es : List En} {e low high : En} (h : (if mayB dep es then splitO dep es e low high else .error 310) = .error k) : k ≠ 0 := by
  unfold splitO at h
  split at h
  · split at h
    · injection h with h; omega
    · split at h
      · injection h with h; omega
      · split at h
        · injection h with h; omega
        · split at h
          · split at h
            · split at h
              · injection h with h; omega
              · cases h
            · injection h with h; omega
          · cases h
  · injection h with h; omega
theorem splitOk {dep : Int} {x : Int × List En} {es : List En} {e low high : En} (h : (if mayB dep es then splitO dep es e low high else .error 310) = .ok x) : mayB dep es = true ∧ splitO dep es e low high = .ok (x.1, x.2) := by
  by_cases hm : mayB dep es = true
  · rw [if_pos hm] at h; exact ⟨hm, h⟩
  · rw [if_neg hm] at h; cases h
set_option maxRecDepth 100000 in
set_option maxHeartbeats 16000000 in
theorem Splits_walk (A0 : Option Addr) (c0 n0 : Nat) (dep : Int) (es0 : List En) (AT : Option Addr) (cT nT : Nat) (ts : List Tri) (W : World) (h0 : Rd W W.heap.size 2 A0 n0 (Cs encE es0)) (hx0 : es0.length = n0) (hn0 : n0 ≤ c0) (hm0 : c0 ≤ 9223372036854775807) (hu0 : ∀ e ∈ es0, U64 e.2) (hT : Rd W W.heap.size 6 AT nT (Cs encT ts)) (hTx : ts.length = nT) (hTn : nT ≤ cT) (hTm : cT ≤ 9223372036854775807) (hTu : ∀ t ∈ ts, TriU t) :
    Calls Try.prog 5 #[.agg #[.int .i64 dep, .slice A0 n0 c0], .slice AT nT cT] W fun e W' => e = .returned (.bool true) ∧ Below W.heap.size W W' := by
  obtain ⟨L, hL⟩ : ∃ L, es0.take 34 = L := ⟨_, rfl⟩
  have HUL := hide (show ∀ e ∈ L, U64 e.2 from fun e he => hu0 e (by rw [← hL] at he; exact List.mem_of_mem_take he))
  have HLL := hide (show L.length ≤ 34 from by rw [← hL, List.length_take]; omega)
  have hb1 : Below W.heap.size W (W.alloc (.cells #[.int .i64 dep, .slice A0 n0 c0] 24)) := (Below.refl _ _).alloc (Nat.le_refl _) _
  have HR1 := hide (RowAt.new W 24 #[.int .i64 dep, .slice A0 n0 c0])
  have HOWN := hide (fun w (hb : Below W.heap.size W w) => own_any W.heap.size A0 c0 n0 dep es0 w (h0.below hb) hx0 hb.size hn0 hm0)
  rw [hL] at HOWN
  have HB := hide hb1
  have HT := hide hT
  have HTU := hide hTu
  have HTX := hide hTx
  clear h0 hu0 hx0 hL hb1 hT hTu hTx
  go_enter Try.func5, Try.ntmps5
  go_upto_region 1 with (fail)
  generalize W.alloc (.cells #[.int .i64 dep, .slice A0 n0 c0] 24) = w1 at *
  go_wp2_with fail
  with_reducible refine (wakes_any w1).mono ?_
  rintro e w2 ⟨rfl, hb⟩
  replace HR1 := hide (HR1.out.below hb)
  replace HB := hide (HB.out.trans (hb.mono HB.out.size))
  clear hb
  have q0 := row20 HR1.out
  have q1 := row21 HR1.out
  have ql := HR1.out.lt
  go_wp2_with fail
  refine (HOWN.out w2 HB.out).mono ?_
  rintro e w3 ⟨A, c, rfl, ho, hb⟩
  have O := hide (ownsRow_base (base' := W.heap.size) ho HB.out.size)
  replace HB := hide (HB.out.trans (hb.mono HB.out.size))
  clear hb ho q0 q1 ql HR1 HOWN
  dsimp only
  obtain ⟨n, hn⟩ : ∃ n, L.length = n := ⟨_, rfl⟩
  have HN := hide hn
  rw [hn] at O
  have hn34 : n ≤ 34 := by have := HLL.out; omega
  obtain ⟨_, _, hsf, hnc, hcm⟩ := own_form2 O.out
  obtain ⟨-, -, rfl⟩ := slice_form hsf
  clear hsf
  rw [hn]
  clear hn
  go_upto_region 4 with (fail)
  have hba := (Below.refl _ w3).alloc (Nat.le_refl _) (.cells #[.int .i64 dep, .slice A n c] 24)
  have R3 := hide (RowAt.new w3 24 #[.int .i64 dep, .slice A n c])
  have hg3 := HB.out.size
  replace O := hide (own_keepB O.out hba)
  replace HB := hide (HB.out.trans (hba.mono HB.out.size))
  clear hba
  generalize hg : w3.heap.size = g3 at *
  clear hg
  generalize w3.alloc (.cells #[.int .i64 dep, .slice A n c] 24) = w4 at *
  go_wp2_with fail
  go_loopw [24] (fun iv wr => ∃ (i : Nat) (d : Int) (A : Option Addr) (c : Nat) (es : List En), i ≤ nT ∧ iv = .int .i64 i ∧ RowAt wr g3 24 #[.int .i64 d, .slice A es.length c] ∧ wr.ownsRow W.heap.size 31 2 (.slice A es.length c) es.length (Cs encE es) ∧ (∀ e ∈ es, U64 e.2) ∧ Below W.heap.size W wr) (fun iv _ => nT - (intOf iv).toNat)
  case atStart => exact ⟨0, dep, _, c, L, Nat.zero_le _, rfl, by rw [HN.out]; exact R3.out, by rw [HN.out]; exact O.out, HUL.out, HB.out⟩
  case round =>
    clear R3 O HB HN HUL HLL hn34 hnc hcm
    obtain ⟨i, d, A, c, es, hi, rfl, hR, hO, hU, hB⟩ := hrel
    have R5 := hide hR
    have O5 := hide hO
    have HU := hide hU
    have HB := hide hB
    clear hR hO hU hB
    by_cases hlt : i < nT
    · have hix : i < ts.length := by rw [HTX.out]; exact hlt
      have hrd := HT.out.below HB.out
      rw [← HTX.out] at hrd
      obtain ⟨b, off, hA, hbl, hc⟩ := hrd.elem encT_len hix
      obtain ⟨s, hs⟩ : ∃ s, ts[i] = s := ⟨_, rfl⟩
      have hsu : TriU s := by rw [← hs]; exact HTU.out _ (List.getElem_mem hix)
      rw [hs] at hc
      obtain ⟨e, low, high⟩ := s
      have d0 := hc 0 _ (by omega) rfl
      have d1 := hc 1 _ (by omega) rfl
      have d2 := hc 2 _ (by omega) rfl
      have d3 := hc 3 _ (by omega) rfl
      have d4 := hc 4 _ (by omega) rfl
      have d5 := hc 5 _ (by omega) rfl
      simp only [Nat.add_zero] at d0
      dsimp only at d0 d1 d2 d3 d4 d5
      subst hA
      have hbl2 : b < wr.heap.size := Nat.lt_of_lt_of_le hbl HB.out.size
      have hiI : (i : Int) < (nT : Int) := by omega
      obtain ⟨hue, hul, huh⟩ := hsu
      have hba := (Below.refl _ wr).alloc (Nat.le_refl _) (.cells #[.int .i64 e.1, .int .u64 e.2, .int .i64 low.1, .int .u64 low.2, .int .i64 high.1, .int .u64 high.2] 52)
      have R7 := hide (RowAt.new wr 52 #[.int .i64 e.1, .int .u64 e.2, .int .i64 low.1, .int .u64 low.2, .int .i64 high.1, .int .u64 high.2])
      replace R5 := hide (R5.out.below hba)
      replace O5 := hide (own_keepB O5.out hba)
      replace HB := hide (HB.out.trans (hba.mono HB.out.size))
      clear hba hc hrd hbl hs hix
      by_cases h10 : i = 10
      · have hd10 : ((i : Int) == 10) = true := by rw [h10]; rfl
        clear h10
        go_wp2_with fail
        go_ret
        exact ⟨ret_bool (by simp), HB.out⟩
      · have hd10 : ((i : Int) == 10) = false := by rw [beq_eq_false_iff_ne]; omega
        clear h10
        go_upto_region 8 with (fail)
        clear d0 d1 d2 d3 d4 d5 hbl2 hd10
        generalize hg : wr.heap.size = g7 at *
        clear hg
        generalize wr.alloc (.cells #[.int .i64 e.1, .int .u64 e.2, .int .i64 low.1, .int .u64 low.2, .int .i64 high.1, .int .u64 high.2] 52) = w5 at *
        have HDA := hide (show ∀ w, Below w5.heap.size w5 w → DirAt w w.heap.size A c es from fun w hb => DirAt.of_own (base := W.heap.size) (own_keepB O5.out hb) HU.out)
        obtain ⟨o, ho⟩ : ∃ o, (if mayB d es then splitO d es e low high else .error 310) = o := ⟨_, rfl⟩
        have HSP := hide (Split_any A c d es e low high w5 (HDA.out w5 (Below.refl _ _)) hul huh o ho)
        have HO := hide ho
        clear ho
        have q0 := row20 R5.out
        have q1 := row21 R5.out
        have ql := R5.out.lt
        obtain ⟨t0, t1, t2, t3, t4, t5⟩ := row6 R7.out
        have tl := R7.out.lt
        cases o with
        | error k =>
          have hk0 := splitErr HO.out
          have hkb : (k != 0) = true := by simpa using hk0
          go_wp2_with fail
          refine HSP.out.mono ?_
          rintro e1 w6 ⟨rfl, hb⟩
          dsimp only
          have hba := (Below.refl _ w6).alloc (Nat.le_refl _) (.cells #[.int .i64 0, .slice none 0 0] 24)
          have R8 := hide (RowAt.new w6 24 #[.int .i64 0, .slice none 0 0])
          have hb2 := hb.trans (hba.mono hb.size)
          replace R5 := hide (R5.out.below hb2)
          replace O5 := hide (own_keepB O5.out hb2)
          replace HB := hide (HB.out.trans (hb2.mono HB.out.size))
          clear hb hba hb2 q0 q1 ql t0 t1 t2 t3 t4 t5 tl HSP R7 HDA
          go_upto_region 9 with (fail)
          generalize hg : w6.heap.size = g8 at *
          clear hg
          generalize w6.alloc (.cells #[.int .i64 0, .slice none 0 0] 24) = w7 at *
          have p1 := row21 R8.out
          have pl := R8.out.lt
          go_wp2_with fail
          go_roundw
          case rel => exact ⟨i + 1, d, A, c, es, by omega, by go_num, R5.out, O5.out, HU.out, HB.out⟩
          case measure => simp [intOf]; omega
        | ok x =>
          obtain ⟨d2, es2⟩ := x
          obtain ⟨hm, hso⟩ := splitOk HO.out
          obtain ⟨pre, x, post, gx, lo, hi9, hP, hm2, hmem⟩ := split_plain hm hso
          obtain ⟨el, dl, pl, al, ml⟩ := lo
          obtain ⟨eh, dh, ph, ah, mh⟩ := hi9
          obtain ⟨ex, D, P, ax, mx⟩ := x
          obtain rfl : e = ex := hP.at_.symm
          obtain rfl : low = el := hP.low.symm
          obtain rfl : high = eh := hP.high.symm
          obtain rfl : dl = D + 1 := hP.dlo
          obtain rfl : dh = D + 1 := hP.dhi
          obtain rfl : pl = 2 * P := hP.plo
          obtain rfl : ph = 2 * P + 1 := hP.phi
          have hsane := sane_span d es ⟨e, D, P, ax, mx⟩ (by rw [hP.was]; simp)
          obtain ⟨hD0, hD1, hP0, hP1⟩ := hsane
          dsimp only at hD0 hD1 hP0 hP1
          have HP := hide hP
          have HM2 := hide hm2
          have HU2 := hide (show ∀ y ∈ es2, U64 y.2 from fun y hy => by
            rcases hmem y hy with h | rfl | rfl
            · exact HU.out y h
            · exact hul
            · exact huh)
          clear hP hm2 hmem hm hso HO
          go_wp2_with fail
          refine HSP.out.mono ?_
          rintro e1 w6 ⟨A8, c8, rfl, ho, hb⟩
          dsimp only at ho ⊢
          have O8 := hide (ownsRow_base (base' := W.heap.size) ho HB.out.size)
          have hba := (Below.refl _ w6).alloc (Nat.le_refl _) (.cells #[.int .i64 d2, .slice A8 es2.length c8] 24)
          have R8 := hide (RowAt.new w6 24 #[.int .i64 d2, .slice A8 es2.length c8])
          have hb2 := hb.trans (hba.mono hb.size)
          have hg8 := Nat.le_trans HB.out.size hb.size
          replace R5 := hide (R5.out.below hb2)
          replace R7 := hide (R7.out.below hb2)
          replace O5 := hide (own_keepB O5.out hb2)
          replace O8 := hide (own_keepB O8.out hba)
          replace HB := hide (HB.out.trans (hb2.mono HB.out.size))
          clear hb hba hb2 q0 q1 ql t0 t1 t2 t3 t4 t5 tl HSP HDA ho
          go_upto_region 12 with (fail)
          generalize hg : w6.heap.size = g8 at *
          clear hg
          generalize w6.alloc (.cells #[.int .i64 d2, .slice A8 es2.length c8] 24) = w7 at *
          obtain ⟨nn, hnn⟩ : ∃ n, es2.length = n := ⟨_, rfl⟩
          have HDA5 := hide (show ∀ w, Below w7.heap.size w7 w → DirAt w w.heap.size A c es from fun w hb => DirAt.of_own (base := W.heap.size) (own_keepB O5.out hb) HU.out)
          have HDA8 := hide (show ∀ w, Below w7.heap.size w7 w → DirAt w w.heap.size A8 c8 es2 from fun w hb => DirAt.of_own (base := W.heap.size) (own_keepB O8.out hb) HU2.out)
          clear hnn nn
          obtain ⟨xs, hxs⟩ : ∃ x, spansX d es = x := ⟨_, rfl⟩
          obtain ⟨ys, hys⟩ : ∃ x, spansX d2 es2 = x := ⟨_, rfl⟩
          have HXS := hide hxs
          have HYS := hide hys
          have HS5 := hide (fun (w : World) (hb : Below w7.heap.size w7 w) => Spans_any w.heap.size A c d es w (HDA5.out w hb) (Nat.le_refl _) xs hxs)
          have HS8 := hide (fun (w : World) (hb : Below w7.heap.size w7 w) => Spans_any w.heap.size A8 c8 d2 es2 w (HDA8.out w hb) (Nat.le_refl _) ys hys)
          rw [hxs, hys] at HP
          clear hxs hys
          have q0 := row20 R5.out
          have q1 := row21 R5.out
          have p0 := row20 R8.out
          have p1 := row21 R8.out
          have HS : Hid (∀ w w', Below w.heap.size w w' → (Below w7.heap.size w7 w ∧ w.cell? ⟨g3, 0, none⟩ = some (.int .i64 d) ∧ w.cell? ⟨g3, 1, none⟩ = some (.slice A es.length c) ∧ w.cell? ⟨g8, 0, none⟩ = some (.int .i64 d2) ∧ w.cell? ⟨g8, 1, none⟩ = some (.slice A8 es2.length c8)) → (Below w7.heap.size w7 w' ∧ w'.cell? ⟨g3, 0, none⟩ = some (.int .i64 d) ∧ w'.cell? ⟨g3, 1, none⟩ = some (.slice A es.length c) ∧ w'.cell? ⟨g8, 0, none⟩ = some (.int .i64 d2) ∧ w'.cell? ⟨g8, 1, none⟩ = some (.slice A8 es2.length c8))) := hide (fun w w' hb h => ⟨h.1.trans (hb.mono h.1.size), kept hb h.2.1, kept hb h.2.2.1, kept hb h.2.2.2.1, kept hb h.2.2.2.2⟩)
          have hS0 : Below w7.heap.size w7 w7.drew ∧ w7.drew.cell? ⟨g3, 0, none⟩ = some (.int .i64 d) ∧ w7.drew.cell? ⟨g3, 1, none⟩ = some (.slice A es.length c) ∧ w7.drew.cell? ⟨g8, 0, none⟩ = some (.int .i64 d2) ∧ w7.drew.cell? ⟨g8, 1, none⟩ = some (.slice A8 es2.length c8) := ⟨(Below.refl _ _).drew, q0, q1, p0, p1⟩
          go_region_held3 (fun wX => Below w7.heap.size w7 wX ∧ wX.cell? ⟨g3, 0, none⟩ = some (.int .i64 d) ∧ wX.cell? ⟨g3, 1, none⟩ = some (.slice A es.length c) ∧ wX.cell? ⟨g8, 0, none⟩ = some (.int .i64 d2) ∧ wX.cell? ⟨g8, 1, none⟩ = some (.slice A8 es2.length c8))
            (first | exact hS0 | exact HS.out _ _ hb (by assumption) | go_keep)
            (first
              | (go_at_call 10; (with_reducible refine (HS5.out _ (And.left ‹Below w7.heap.size w7 _ ∧ _›)).mono ?_); rintro e1 wa ⟨Aa, ca, rfl, hoa, hb⟩; have HBa := hide hb; have OA := hide (fun (w : World) (h : Below wa.heap.size wa w) => own_keepB hoa h); clear hoa)
              | (go_at_call 10; (with_reducible refine (HS8.out _ (And.left ‹Below w7.heap.size w7 _ ∧ _›)).mono ?_); rintro e1 wb ⟨Ab, cb, rfl, hob, hb⟩; have HBb := hide hb; have OB := hide (fun (w : World) (h : Below wb.heap.size wb w) => own_keepB hob h); clear hob))
          rename_i hHeld
          have hbX := And.left hHeld
          have OA := hide (ownsRow_base (base' := W.heap.size) (OA.out wb HBb.out) HB.out.size)
          have OB := hide (ownsRow_base (base' := W.heap.size) (OB.out wb (Below.refl _ _)) (Nat.le_trans HB.out.size HBa.out.size))
          replace R5 := hide (R5.out.below hbX)
          replace R7 := hide (R7.out.below hbX)
          replace R8 := hide (R8.out.below hbX)
          replace O8 := hide (own_keepB O8.out hbX)
          replace HDA5 := hide (fun w (hw : Below wb.heap.size wb w) => HDA5.out w (hbX.trans (hw.mono hbX.size)))
          replace HDA8 := hide (fun w (hw : Below wb.heap.size wb w) => HDA8.out w (hbX.trans (hw.mono hbX.size)))
          replace HB := hide (HB.out.trans (hbX.mono HB.out.size))
          clear hHeld hS0 hbX HBa HBb HS HS5 HS8 q0 q1 p0 p1 O5
          obtain ⟨n, hn⟩ : ∃ n, xs.length = n := ⟨_, rfl⟩
          have hnl : n ≤ 4096 := by rw [← hn, ← HXS.out]; exact span_len d es
          have hyn : ys.length = n + 1 := by rw [HP.out.finer.2.2, hn]
          rw [hn, hyn]
          rw [hn] at OA
          rw [hyn] at OB
          have HN := hide hn
          have HYN := hide hyn
          have HIX := hide (indexR_any wb.heap.size Aa ca 24 #[.pointer (some ⟨g7, 0, none⟩)] (enters_of Try.func24 (by kernel_rfl) rfl) _ (fun _ => True) xs wb (by rw [hn]; exact Rd.of_own OA.out) (by rw [hn]; exact hnl) (Nat.le_refl _) (fun _ _ => trivial) (law1_any g7 e low high wb R7.out))
          rw [hn] at HIX
          clear hn hyn
          go_wp2_with fail
          with_reducible refine HIX.out.mono ?_
          rintro e1 w8 ⟨⟨ki, rfl, hf⟩, hb⟩
          obtain rfl := HP.out.first hf
          clear hf HIX
          replace R5 := hide (R5.out.below hb)
          replace R7 := hide (R7.out.below hb)
          replace R8 := hide (R8.out.below hb)
          replace O8 := hide (own_keepB O8.out hb)
          replace OA := hide (own_keepB OA.out hb)
          replace OB := hide (own_keepB OB.out hb)
          replace HDA5 := hide (fun w (hw : Below w8.heap.size w8 w) => HDA5.out w (hb.trans (hw.mono hb.size)))
          replace HDA8 := hide (fun w (hw : Below w8.heap.size w8 w) => HDA8.out w (hb.trans (hw.mono hb.size)))
          replace HB := hide (HB.out.trans (hb.mono HB.out.size))
          clear hb
          dsimp only
          obtain ⟨k, hk⟩ : ∃ k, pre.length = k := ⟨_, rfl⟩
          rw [hk]
          have HK := hide hk
          have hkn : k < n := by rw [← hk, ← HN.out, HP.out.was]; simp
          clear hk
          have hk0 : ¬ ((k : Int) < 0) := by omega
          have hnw : IntKind.i64.wrap ((n : Int) + 1) = (n : Int) + 1 := IntWalk.i64_in _ (by omega)
          have hF1 := hide (fun (w : World) (hb : Below w8.heap.size w8 w) => Finer_any A8 A c8 c d2 d es2 es w (HDA8.out w hb) (HDA5.out w hb) true (by rw [HXS.out, HYS.out]; exact HP.out.finer.1))
          have hF2 := hide (fun (w : World) (hb : Below w8.heap.size w8 w) => Finer_any A A8 c c8 d d2 es es2 w (HDA5.out w hb) (HDA8.out w hb) false (by rw [HXS.out, HYS.out]; exact HP.out.finer.2.1))
          have hCK := hide (fun (w : World) (hb : Below w8.heap.size w8 w) => check_any w.heap.size A8 c8 d2 es2 w (HDA8.out w hb) (Nat.le_refl _) 0 (by rw [HM2.out]; rfl))
          have q0 := row20 R5.out
          have q1 := row21 R5.out
          have ql := R5.out.lt
          have p0 := row20 R8.out
          have p1 := row21 R8.out
          have pl := R8.out.lt
          go_wp2_with fail
          with_reducible refine (hF1.out _ (Below.refl _ _)).mono ?_
          rintro e1 w9 ⟨rfl, hb⟩
          have hb1 := hb
          replace q0 := kept hb q0
          replace q1 := kept hb q1
          replace p0 := kept hb p0
          replace p1 := kept hb p1
          replace ql := Nat.lt_of_lt_of_le ql hb.size
          replace pl := Nat.lt_of_lt_of_le pl hb.size
          have HB1 := hide hb1
          clear hb hb1
          dsimp only
          go_wp2_with fail
          with_reducible refine (hF2.out _ HB1.out).mono ?_
          rintro e1 w10 ⟨rfl, hb⟩
          have HB2 := hide (HB1.out.trans (hb.mono HB1.out.size))
          replace q0 := kept hb q0
          replace q1 := kept hb q1
          replace p0 := kept hb p0
          replace p1 := kept hb p1
          replace ql := Nat.lt_of_lt_of_le ql hb.size
          replace pl := Nat.lt_of_lt_of_le pl hb.size
          clear hb HB1
          dsimp only
          go_wp2_with fail
          with_reducible refine (hCK.out _ HB2.out).mono ?_
          rintro e1 w11 ⟨rfl, hb⟩
          replace hb := HB2.out.trans (hb.mono HB2.out.size)
          replace R5 := hide (R5.out.below hb)
          replace R7 := hide (R7.out.below hb)
          replace R8 := hide (R8.out.below hb)
          replace O8 := hide (own_keepB O8.out hb)
          replace OA := hide (own_keepB OA.out hb)
          replace OB := hide (own_keepB OB.out hb)
          replace HB := hide (HB.out.trans (hb.mono HB.out.size))
          clear hb HB2 hF1 hF2 hCK HDA5 HDA8 q0 q1 p0 p1 ql pl
          dsimp only
          obtain ⟨k1, hk1⟩ : ∃ k1, k + 1 = k1 := ⟨_, rfl⟩
          have hky : k < ys.length := by rw [HYN.out]; omega
          have hky1 : k1 < ys.length := by rw [HYN.out]; omega
          have hg0 : ys[k] = ⟨low, D + 1, 2 * P, al, ml⟩ := by
            have h : ys[k]? = some ⟨low, D + 1, 2 * P, al, ml⟩ := by
              rw [HP.out.is, List.getElem?_append_right (by rw [List.length_map, HK.out]; exact Nat.le_refl _), List.length_map, HK.out, Nat.sub_self]; rfl
            rw [List.getElem?_eq_getElem hky] at h
            exact Option.some.inj h
          have hg1 : ys[k1] = ⟨high, D + 1, 2 * P + 1, ah, mh⟩ := by
            have h : ys[k1]? = some ⟨high, D + 1, 2 * P + 1, ah, mh⟩ := by
              rw [HP.out.is, List.getElem?_append_right (by rw [List.length_map, HK.out]; omega), List.length_map, HK.out, ← hk1, Nat.add_sub_cancel_left]; rfl
            rw [List.getElem?_eq_getElem hky1] at h
            exact Option.some.inj h
          have hrd := Rd.of_own OB.out
          rw [← HYN.out] at hrd
          obtain ⟨bB, oB, hAB, hblB, hcB⟩ := hrd.elem encR_len hky
          obtain ⟨bC, oC, hAC, _, hcC⟩ := hrd.elem encR_len hky1
          subst hAB
          injection hAC with hAC
          injection hAC with hAC1 hAC2 _
          subst hAC1
          subst hAC2
          rw [hg0] at hcB
          rw [hg1] at hcC
          have z0 := hcB 0 _ (by omega) rfl
          have z1 := hcB 1 _ (by omega) rfl
          have z2 := hcB 2 _ (by omega) rfl
          have z3 := hcB 3 _ (by omega) rfl
          have z4 := hcB 4 _ (by omega) rfl
          have z5 := hcB 5 _ (by omega) rfl
          have f0 := hcC 0 _ (by omega) rfl
          have f1 := hcC 1 _ (by omega) rfl
          have f2 := hcC 2 _ (by omega) rfl
          have f3 := hcC 3 _ (by omega) rfl
          have f4 := hcC 4 _ (by omega) rfl
          have f5 := hcC 5 _ (by omega) rfl
          simp only [Nat.add_zero] at z0 f0
          have hkw : IntKind.i64.wrap ((k : Int) + 1) = (k1 : Int) := by rw [← hk1]; exact IntWalk.i64_in _ (by omega)
          have hk1n : (k1 : Int) < (n : Int) + 1 := by omega
          have hkn1 : (k : Int) < (n : Int) + 1 := by omega
          clear hcB hcC hrd hg0 hg1
          go_upto_region 16 with (fail)
          go_cut [13, 14] from 81 to 89 (fun s13 s14 wx => ∃ g13 g14, s13 = .pointer (some ⟨g13, 0, none⟩) ∧ s14 = .pointer (some ⟨g14, 0, none⟩) ∧ RowAt wx g13 33 #[.int .i64 low.1, .int .u64 low.2, .int .i64 (D + 1), .int .u64 (2 * P), .int .i64 al, .int .i64 ml] ∧ RowAt wx g14 33 #[.int .i64 high.1, .int .u64 high.2, .int .i64 (D + 1), .int .u64 (2 * P + 1), .int .i64 ah, .int .i64 mh] ∧ Below w11.heap.size w11 wx)
          case first =>
            go_region
            · go_wp2_with fail
              go_meet
              case rel =>
                obtain ⟨h1, h2, h3⟩ := two_alloc w11 33 #[.int .i64 low.1, .int .u64 low.2, .int .i64 (D + 1), .int .u64 (2 * P), .int .i64 al, .int .i64 ml] #[.int .i64 high.1, .int .u64 high.2, .int .i64 (D + 1), .int .u64 (2 * P + 1), .int .i64 ah, .int .i64 mh]
                exact ⟨_, _, rfl, rfl, h1, h2, h3⟩
            · go_wp2_with fail
              go_meet
              case rel =>
                obtain ⟨h1, h2, h3⟩ := two_alloc w11 33 #[.int .i64 high.1, .int .u64 high.2, .int .i64 (D + 1), .int .u64 (2 * P + 1), .int .i64 ah, .int .i64 mh] #[.int .i64 low.1, .int .u64 low.2, .int .i64 (D + 1), .int .u64 (2 * P), .int .i64 al, .int .i64 ml]
                exact ⟨_, _, rfl, rfl, h2, h1, h3⟩
          case rest =>
            rename_i K hK
            refine hK _ _ ?_
            clear hK K
            obtain ⟨w12, hw12⟩ : ∃ w, w = wc := ⟨_, rfl⟩
            subst hw12
            obtain ⟨g13, g14, rfl, rfl, h13, h14, hb⟩ := hcut
            have R13 := hide h13
            have R14 := hide h14
            replace R5 := hide (R5.out.below hb)
            replace R7 := hide (R7.out.below hb)
            replace R8 := hide (R8.out.below hb)
            replace O8 := hide (own_keepB O8.out hb)
            replace OA := hide (own_keepB OA.out hb)
            replace OB := hide (own_keepB OB.out hb)
            replace HB := hide (HB.out.trans (hb.mono HB.out.size))
            clear h13 h14 hb z0 z1 z2 z3 z4 z5 f0 f1 f2 f3 f4 f5 hblB hkw
            have hkx : k < xs.length := by rw [HN.out]; exact hkn
            have hgx : xs[k] = ⟨e, D, P, ax, mx⟩ := by
              have h : xs[k]? = some ⟨e, D, P, ax, mx⟩ := by
                rw [HP.out.was, List.getElem?_append_right (by rw [HK.out]; exact Nat.le_refl _), HK.out, Nat.sub_self]; rfl
              rw [List.getElem?_eq_getElem hkx] at h
              exact Option.some.inj h
            have hrd := Rd.of_own OA.out
            rw [← HN.out] at hrd
            obtain ⟨bA, oA, hAA, hblA, hcA⟩ := hrd.elem encR_len hkx
            subst hAA
            rw [hgx] at hcA
            have z1 := hcA 2 _ (by omega) rfl
            have z2 := hcA 3 _ (by omega) rfl
            dsimp only at z1 z2
            clear hcA hrd hgx
            obtain ⟨a0, a1, a2, a3, a4, a5⟩ := row6 R13.out
            have a_l := R13.out.lt
            obtain ⟨c0', c1, c2, c3, c4, c5⟩ := row6 R14.out
            have c_l := R14.out.lt
            obtain ⟨t0, t1, t2, t3, t4, t5⟩ := row6 R7.out
            have tl := R7.out.lt
            have hne1 := fun w => neqE w low low true (by simp)
            have hne2 := fun w => neqE w high high true (by simp)
            have hw1 : IntKind.i64.wrap (D + 1) = D + 1 := IntWalk.i64_in _ (by omega)
            have hw2 : IntKind.u64.wrap (2 * P) = 2 * P := IntWalk.u64_in _ (by omega)
            have hw3 : IntKind.u64.wrap (2 * P + 1) = 2 * P + 1 := IntWalk.u64_in _ (by omega)
            have hkI : (k : Int) < (n : Int) := by omega
            go_upto_region 17 with (fail)
            go_quiet (fail)
            have hbq := below_drewN (Below.refl w12.heap.size w12) nq
            replace R5 := hide (R5.out.below hbq)
            replace R8 := hide (R8.out.below hbq)
            replace O8 := hide (own_keepB O8.out hbq)
            replace OA := hide (own_keepB OA.out hbq)
            replace OB := hide (own_keepB OB.out hbq)
            replace HB := hide (HB.out.trans (hbq.mono HB.out.size))
            clear hbq t0 t1 t2 t3 t4 t5 tl a0 a1 a2 a3 a4 a5 a_l c0' c1 c2 c3 c4 c5 c_l z1 z2 R7 R13 R14 hne1 hne2 hw1 hw2 hw3 hblA
            generalize w12.drewN nq = w13 at *
            go_wp2_with fail
            go_loopw [141] (fun jv wr2 => ∃ j : Nat, j ≤ n ∧ jv = .int .i64 j ∧ Below w13.heap.size w13 wr2) (fun jv _ => n - (intOf jv).toNat)
            case atStart => exact ⟨0, Nat.zero_le _, rfl, Below.refl _ _⟩
            case round =>
              obtain ⟨j, hj, rfl, hb⟩ := hrel
              have HB2 := hide hb
              clear hb
              by_cases hlt2 : j < n
              · have hjx : j < xs.length := by rw [HN.out]; exact hlt2
                have hrd := (Rd.of_own OA.out).below HB2.out
                rw [← HN.out] at hrd
                obtain ⟨bX, oX, hAX, hblX, hcX⟩ := hrd.elem encR_len hjx
                injection hAX with hAX
                injection hAX with hAX1 hAX2 _
                subst hAX1
                subst hAX2
                obtain ⟨t, hts⟩ : ∃ t, xs[j] = t := ⟨_, rfl⟩
                rw [hts] at hcX
                obtain ⟨et, Dt, Pt, at', mt⟩ := t
                have z0 := hcX 0 _ (by omega) rfl
                have z1 := hcX 1 _ (by omega) rfl
                have z2 := hcX 2 _ (by omega) rfl
                have z3 := hcX 3 _ (by omega) rfl
                have z4 := hcX 4 _ (by omega) rfl
                have z5 := hcX 5 _ (by omega) rfl
                simp only [Nat.add_zero] at z0
                dsimp only at z1 z2 z3 z4 z5
                have hbX : bA < wr.heap.size := Nat.lt_of_lt_of_le hblX HB2.out.size
                have hjI : (j : Int) < (n : Int) := by omega
                have hba2 := (Below.refl _ wr).alloc (Nat.le_refl _) (.cells #[.int .i64 et.1, .int .u64 et.2, .int .i64 Dt, .int .u64 Pt, .int .i64 at', .int .i64 mt] 33)
                have R16 := hide (RowAt.new wr 33 #[.int .i64 et.1, .int .u64 et.2, .int .i64 Dt, .int .u64 Pt, .int .i64 at', .int .i64 mt])
                have hneT := fun w => neqE w et et true (by simp)
                clear hcX hrd
                by_cases hjk : j = k
                · have hjb : ((j : Int) == (k : Int)) = true := by rw [hjk]; simp
                  clear hjk
                  have HB3 := hide (HB2.out.trans (hba2.mono HB2.out.size))
                  clear hba2 R16
                  go_wp2_with fail
                  go_roundw
                  case rel => exact ⟨j + 1, by omega, by go_num, HB3.out⟩
                  case measure => simp [intOf]; omega
                · have hjb : ((j : Int) == (k : Int)) = false := by rw [beq_eq_false_iff_ne]; omega
                  by_cases hgt : k < j
                  · have hcmp : (k : Int) < (j : Int) := by omega
                    obtain ⟨m, hm⟩ : ∃ m, j + 1 = m := ⟨_, rfl⟩
                    obtain ⟨ag, mg, hgy⟩ := HP.out.other2 HK.out hjk hjx hts (m := m) (by rw [if_pos (by omega)]; exact hm)
                    have hmy : m < ys.length := (List.getElem?_eq_some_iff.1 hgy).1
                    have hgy2 : ys[m] = ⟨et, Dt, Pt, ag, mg⟩ := by
                      rw [List.getElem?_eq_getElem hmy] at hgy
                      exact Option.some.inj hgy
                    have hrd2 := (Rd.of_own OB.out).below HB2.out
                    rw [← HYN.out] at hrd2
                    obtain ⟨bY, oY, hAY, hblY, hcY⟩ := hrd2.elem encR_len hmy
                    injection hAY with hAY
                    injection hAY with hAY1 hAY2 _
                    subst hAY1
                    subst hAY2
                    rw [hgy2] at hcY
                    have y0 := kept hba2 (hcY 0 _ (by omega) rfl)
                    have y1 := kept hba2 (hcY 1 _ (by omega) rfl)
                    have y2 := kept hba2 (hcY 2 _ (by omega) rfl)
                    have y3 := kept hba2 (hcY 3 _ (by omega) rfl)
                    simp only [Nat.add_zero] at y0
                    dsimp only at y1 y2 y3
                    have hmn : (m : Int) < (n : Int) + 1 := by have := HYN.out; omega
                    have hjw : IntKind.i64.wrap ((j : Int) + 1) = (m : Int) := by rw [← hm]; exact IntWalk.i64_in _ (by omega)
                    clear hcY hrd2 hgy hgy2 hblY
                    go_upto_region 26 with (fail)
                    clear z0 z1 z2 z3 z4 z5
                    have HB3 := hide (HB2.out.trans (hba2.mono HB2.out.size))
                    clear hba2
                    generalize hg16 : wr.heap.size = g16 at *
                    clear hg16
                    generalize wr.alloc (.cells #[.int .i64 et.1, .int .u64 et.2, .int .i64 Dt, .int .u64 Pt, .int .i64 at', .int .i64 mt] 33) = w14 at *
                    obtain ⟨u0, u1, u2, u3, u4, u5⟩ := row6 R16.out
                    have ul := R16.out.lt
                    go_quiet (fail)
                    have HB4 := hide (below_drewN HB3.out nq)
                    clear u0 u1 u2 u3 u4 u5 ul y0 y1 y2 y3
                    generalize w14.drewN nq = w15 at *
                    go_wp2_with fail
                    go_roundw
                    case rel => exact ⟨j + 1, by omega, by go_num, HB4.out⟩
                    case measure => simp [intOf]; omega
                  · have hcmp : ¬ ((k : Int) < (j : Int)) := by omega
                    obtain ⟨m, hm⟩ : ∃ m, j = m := ⟨_, rfl⟩
                    obtain ⟨ag, mg, hgy⟩ := HP.out.other2 HK.out hjk hjx hts (m := m) (by rw [if_neg (by omega)]; exact hm)
                    have hmy : m < ys.length := (List.getElem?_eq_some_iff.1 hgy).1
                    have hgy2 : ys[m] = ⟨et, Dt, Pt, ag, mg⟩ := by
                      rw [List.getElem?_eq_getElem hmy] at hgy
                      exact Option.some.inj hgy
                    have hrd2 := (Rd.of_own OB.out).below HB2.out
                    rw [← HYN.out] at hrd2
                    obtain ⟨bY, oY, hAY, hblY, hcY⟩ := hrd2.elem encR_len hmy
                    injection hAY with hAY
                    injection hAY with hAY1 hAY2 _
                    subst hAY1
                    subst hAY2
                    rw [hgy2] at hcY
                    have y0 := kept hba2 (hcY 0 _ (by omega) rfl)
                    have y1 := kept hba2 (hcY 1 _ (by omega) rfl)
                    have y2 := kept hba2 (hcY 2 _ (by omega) rfl)
                    have y3 := kept hba2 (hcY 3 _ (by omega) rfl)
                    simp only [Nat.add_zero] at y0
                    dsimp only at y1 y2 y3
                    have hmn : (m : Int) < (n : Int) + 1 := by have := HYN.out; omega
                    subst hm
                    clear hcY hrd2 hgy hgy2 hblY
                    go_upto_region 26 with (fail)
                    clear z0 z1 z2 z3 z4 z5
                    have HB3 := hide (HB2.out.trans (hba2.mono HB2.out.size))
                    clear hba2
                    generalize hg16 : wr.heap.size = g16 at *
                    clear hg16
                    generalize wr.alloc (.cells #[.int .i64 et.1, .int .u64 et.2, .int .i64 Dt, .int .u64 Pt, .int .i64 at', .int .i64 mt] 33) = w14 at *
                    obtain ⟨u0, u1, u2, u3, u4, u5⟩ := row6 R16.out
                    have ul := R16.out.lt
                    go_quiet (fail)
                    have HB4 := hide (below_drewN HB3.out nq)
                    clear u0 u1 u2 u3 u4 u5 ul y0 y1 y2 y3
                    generalize w14.drewN nq = w15 at *
                    go_wp2_with fail
                    go_roundw
                    case rel => exact ⟨j + 1, by omega, by go_num, HB4.out⟩
                    case measure => simp [intOf]; omega
              · obtain rfl : j = n := by omega
                have hb2 := HB2.out
                replace R5 := hide (R5.out.below hb2)
                replace R8 := hide (R8.out.below hb2)
                replace O8 := hide (own_keepB O8.out hb2)
                replace HB := hide (HB.out.trans (hb2.mono HB.out.size))
                clear hb2 HB2
                have R5n := hide ((R5.out.set 0 (.int .i64 d2)).set 1 (.slice A8 es2.length c8))
                have O8n := hide (own_setBox (own_setBox O8.out R5.out (by decide) 0 (.int .i64 d2)) (R5.out.set 0 (.int .i64 d2)) (by decide) 1 (.slice A8 es2.length c8))
                have HBn := hide ((HB.out.setCell (p := ⟨g3, 0, none⟩) hg3 (.int .i64 d2)).setCell (p := ⟨g3, 1, none⟩) hg3 (.slice A8 es2.length c8))
                have q0 := row20 R5.out
                have q1 := row21 R5.out
                have ql := R5.out.lt
                have qf0 := R5.out.frozen 0
                have qf1 := R5.out.frozen 1
                have p0 := row20 R8.out
                have p1 := row21 R8.out
                have pl := R8.out.lt
                go_wp2_with fail
                go_roundw
                case rel => exact ⟨i + 1, d2, A8, c8, es2, by omega, by go_num, R5n.out, O8n.out, HU2.out, HBn.out⟩
                case measure => simp [intOf]; omega
    · obtain rfl : i = nT := by omega
      go_wp2_with fail
      go_ret
      exact ⟨ret_bool (by simp), HB.out⟩
end Go.Proofs.Ytjlbnegdiabglaa
