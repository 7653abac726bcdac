/-
  Pins that change: pinned, the epoch gone on.
-/
import Derived.Test.YtopaopfebgonjaaPng
set_option linter.unusedSimpArgs false
set_option linter.unusedVariables false
namespace Go.Proofs.Ytopaopfebgonjaa
open Go Go.RowKit
attribute [local go_sem] via_cell via_frozen

set_option maxHeartbeats 2000000 in
theorem pin_any (gh gs n : Nat) (e : Int) (S : List Int) (g b : Int) (W : World) (h : HandP W gh gs n e S) (hn : n ≤ 4096) (hS : ∀ s ∈ S, U64 s) (h0 : 0 ≤ e) (he : e ≤ 4611686018427387904) (hb0 : 0 ≤ b) :
    Calls Try.prog 39 #[.pointer (some ⟨gh, 0, none⟩), .agg #[.int .i64 1, .int .i64 g, .int .u64 b]] W (ActRes W gh gs n (dE e S 1 g b) (dX e 1) (dS e S 1 g b)) := by
  have hb1 : Below W.heap.size W (W.alloc (.cells #[.int .i64 1, .int .i64 g, .int .u64 b] 32)) := (Below.refl _ _).alloc (Nat.le_refl _) _
  have HSL := hide (slot_any gh gs n e S 1 g b _ (h.below hb1) hn)
  have HB := hide hb1
  have HH := hide (h.below hb1)
  have HS := hide hS
  have hghW := h.box.lt
  have hgsW := h.row.lt
  have RO := hide (RowAt.new W 32 #[.int .i64 1, .int .i64 g, .int .u64 b])
  clear hb1 h hS
  go_enter Try.func39, Try.ntmps39
  go_wp2_with fail
  refine HSL.out.mono ?_
  rintro x w1 ⟨hb, hres⟩
  replace HB := hide (HB.out.trans (hb.mono HB.out.size))
  replace HH := hide (HH.out.below hb)
  replace RO := hide (RO.out.below hb)
  clear hb HSL
  rcases hres with ⟨k, rfl, hk, rfl⟩ | ⟨ho, rfl⟩
  · have c0 := HH.out.cell hk
    have l0 := HH.out.row.lt
    have hu : U64 (S.getD k 0) := by
      have hk' : k < S.length := by rw [HH.out.len]; exact hk
      rw [List.getD_eq_getElem?_getD, List.getElem?_eq_getElem hk']
      exact HS.out _ (List.getElem_mem hk')
    have HE := hide (show dE e S 1 k b = if 0 < S.getD k 0 then 5 else if e < b then 4 else 0 by
      unfold dE
      have := HH.out.len
      rw [if_neg (by omega), if_neg (by omega), if_pos rfl]; simp)
    generalize S.getD k 0 = s at *
    by_cases hs : s = 0
    · have hsb : (s == 0) = true := by simpa using hs
      clear hs
      go_wp2_with fail
      refine (need_ok 5 _).mono ?_
      rintro x w3 ⟨rfl, rfl⟩
      go_wp2_with fail
      have a0 := row20 HH.out.box
      have la := HH.out.box.lt
      have o2 := RO.out.cell 2
      simp only [List.getElem?_toArray, List.getElem?_cons_succ, List.getElem?_cons_zero] at o2
      have lo := RO.out.lt
      have hs0 : s = 0 := by simpa using hsb
      clear hsb
      subst hs0
      clear c0
      by_cases hbe : b ≤ e
      · refine wp_region_tail 8 (by kernel_rfl) (by kernel_rfl) ?_
        simp only [List.take_succ_cons, List.take_zero, List.drop_succ_cons, List.drop_zero]
        repeat (go_big_quiet_step (fail))
        refine tail_out fun w2 hb2 => ?_
        replace HB := hide (HB.out.trans (hb2.mono HB.out.size))
        replace HH := hide (HH.out.below hb2)
        replace RO := hide (RO.out.below hb2)
        clear a0 la o2 lo l0 hb2
        go_wp2_with fail
        refine (need_ok 4 _).mono ?_
        rintro x w3 ⟨rfl, rfl⟩
        have a0 := row20 HH.out.box
        have la := HH.out.box.lt
        have o2 := RO.out.cell 2
        simp only [List.getElem?_toArray, List.getElem?_cons_succ, List.getElem?_cons_zero] at o2
        have lo := RO.out.lt
        have l0 := HH.out.row.lt
        have u0 : (0 : Int) ≤ e - b := by omega
        have u1 : e - b < 18446744073709551616 := by omega
        have u2 : (0 : Int) ≤ e - b + 1 := by omega
        have u3 : e - b + 1 < 18446744073709551616 := by omega
        go_wp2_with fail
        refine wp_region_tail 11 (by kernel_rfl) (by kernel_rfl) ?_
        simp only [List.take_succ_cons, List.take_zero, List.drop_succ_cons, List.drop_zero]
        repeat (go_big_quiet_step (fail))
        refine tail_out fun w4 hb2 => ?_
        replace HB := hide (HB.out.trans (hb2.mono HB.out.size))
        replace HH := hide (HH.out.below hb2)
        clear a0 la o2 lo l0 hb2
        have c0 := HH.out.cell hk
        have f0 := HH.out.row.frozen k
        have l0 := HH.out.row.lt
        go_wp2_with fail
        go_end0
        have hE0 : dE e S 1 k b = 0 := by rw [HE.out, if_neg (by omega), if_neg (by omega)]
        refine .inl ⟨hE0, rfl, ?_, (Past2.of_below HB.out).trans (Past2.set2 _ _)⟩
        have := HH.out.set k (e - b + 1)
        have hv : e - b + 1 = e + 1 - b := by omega
        rw [hv] at this ⊢
        simpa [dX, dS] using this
      · have hbe' : decide (b ≤ e) = false := by simp; omega
        refine wp_region_tail 8 (by kernel_rfl) (by kernel_rfl) ?_
        simp only [List.take_succ_cons, List.take_zero, List.drop_succ_cons, List.drop_zero]
        repeat (go_big_quiet_step (fail))
        refine tail_out fun w2 hb2 => ?_
        replace HB := hide (HB.out.trans (hb2.mono HB.out.size))
        clear a0 la o2 lo l0 hb2
        go_wp2_with fail
        refine (need_no 4 _).mono ?_
        rintro x w3 ⟨rfl, rfl⟩
        go_wp2_with fail
        have he : dE e S 1 k b = 4 := by rw [HE.out, if_neg (by omega), if_pos (by omega)]
        exact ⟨rfl, .inr ⟨by rw [he]; omega, by rw [he], HB.out⟩⟩
    · have hsb : (s == 0) = false := by simpa using hs
      have hs0 : 0 < s := by unfold U64 at hu; omega
      clear hs
      go_wp2_with fail
      refine (need_no 5 _).mono ?_
      rintro x w3 ⟨rfl, rfl⟩
      go_wp2_with fail
      have he : dE e S 1 k b = 5 := by rw [HE.out, if_pos hs0]
      exact ⟨rfl, .inr ⟨by rw [he]; omega, by rw [he], HB.out⟩⟩
  · go_wp2_with fail
    have he : dE e S 1 g b = 2 := by
      unfold dE
      have := HH.out.len
      rw [if_pos (by omega)]
    exact ⟨rfl, .inr ⟨by rw [he]; omega, by rw [he], HB.out⟩⟩

theorem rd_flags {w : World} {g : Nat} {t : TypeId} {F : List Bool} {n : Nat} (h : RowAt w g t (Cs encB F).toArray) (hn : F.length = n) : Rd w w.heap.size 1 (some ⟨g, 0, none⟩) n (Cs encB F) := by
  refine ⟨by rw [Cs_length encB_len, hn], fun _ => ⟨g, 0, rfl, h.lt, fun j u hu => ?_⟩⟩
  rw [Nat.zero_add, h.cell]
  simpa using hu

set_option maxHeartbeats 2000000 in
theorem goes_any (gh gs n : Nat) (e : Int) (S : List Int) (g b : Int) (W : World) (h : HandP W gh gs n e S) (hS : ∀ s ∈ S, U64 s) (h0 : 0 ≤ e) (ho : pOk e S = true) :
    Calls Try.prog 38 #[.pointer (some ⟨gh, 0, none⟩), .agg #[.int .i64 3, .int .i64 g, .int .u64 b]] W (ActRes W gh gs n (dE e S 3 g b) (dX e 3) (dS e S 3 g b)) := by
  have g8 := (pOk_out ho).2.1
  have he := (pOk_out ho).2.2.1
  have hb1 : Below W.heap.size W (W.alloc (.cells #[.int .i64 3, .int .i64 g, .int .u64 b] 32)) := (Below.refl _ _).alloc (Nat.le_refl _) _
  have HB := hide hb1
  have HH := hide (h.below hb1)
  have HS := hide hS
  have hghW := h.box.lt
  have hgsW := h.row.lt
  have HBK := hide (back_any (some ⟨gs, 0, none⟩) n n e S _ (h.below hb1).rd h.len hS ho)
  have HE := hide (show dE e S 3 g b = if S.any (heldB e) = true then 231 else if e = 4611686018427387904 then 6 else 0 by
    unfold dE; rw [if_neg (by omega), if_pos rfl])
  have hfl8 := hide (flags_length e S g8)
  have HAN := hide (flags_any e S)
  have a0 := row20 HH.out.box
  have a1 := row21 HH.out.box
  have la := HH.out.box.lt
  clear hb1 h hS ho
  go_enter Try.func38, Try.ntmps38
  go_wp2_with fail
  refine HBK.out.mono ?_
  rintro x w1 ⟨rfl, hb⟩
  replace HB := hide (HB.out.trans (hb.mono HB.out.size))
  replace HH := hide (HH.out.below hb)
  clear hb HBK a0 a1 la
  obtain ⟨F, hF⟩ : ∃ F, flags e S = F := ⟨_, rfl⟩
  rw [hF] at hfl8 HAN ⊢
  clear hF
  obtain ⟨X, hX⟩ : ∃ X, (Cs encB F).toArray = X := ⟨_, rfl⟩
  have hXs : X.size = 8 := by rw [← hX]; simp [Cs_length encB_len, hfl8.out]
  have hX1 : X.all (·.oneCell') = true := by
    rw [← hX, Array.all_eq_true_iff_forall_mem]
    intro v hv
    exact Cs_one_cell (enc := encB) (by intro x u hu; simp [encB] at hu; subst hu; rfl) F v (by simpa using hv)
  have HX := hide hX
  rw [hX]
  have INF : Hid ((Try.prog.info? 68).map (·.size) = some X.size) := hide (by rw [hXs]; kernel_rfl)
  have INF8 : Hid ((#[.bool false, .bool false, .bool false, .bool false, .bool false, .bool false, .bool false, .bool false] : Array Value).size = X.size) := hide (by rw [hXs]; rfl)
  have HX1 := hide hX1
  clear hXs hX1 hX
  go_wp2_with (refine wpList_store_new rfl 68 _ _ rfl _ X w1.heap.size rfl rfl rfl INF.out INF8.out HX1.out ?_)
  have hb4 : Below w1.heap.size w1 (w1.alloc (.cells X 68)) := (Below.refl _ _).alloc (Nat.le_refl _) _
  have r4 : RowAt (w1.alloc (.cells X 68)) w1.heap.size 68 (Cs encB F).toArray := by rw [HX.out]; exact RowAt.new _ _ _
  replace HB := hide (HB.out.trans (hb4.mono HB.out.size))
  replace HH := hide (HH.out.below hb4)
  obtain ⟨q, hq⟩ : ∃ q, S.any (heldB e) = q := ⟨_, rfl⟩
  have HC := hide (ContainsBB _ (some ⟨w1.heap.size, 0, none⟩) 8 8 F _ (rd_flags r4 hfl8.out) hfl8.out (Nat.le_refl _) (by omega) q (by rw [HAN.out, hq]))
  have HQ := hide hq
  clear hb4 r4 hq
  generalize (w1.alloc (.cells X 68)) = w2 at *
  refine HC.out.mono ?_
  rintro x w3 ⟨rfl, rfl⟩
  cases q
  · go_wp2_with fail
    refine (need_ok 231 _).mono ?_
    rintro x w3 ⟨rfl, rfl⟩
    have a0 := row20 HH.out.box
    have f0 := HH.out.box.frozen 0
    have la := HH.out.box.lt
    by_cases hm : e < 4611686018427387904
    · have u0 : (0 : Int) ≤ e + 1 := by omega
      have u1 : e + 1 < 18446744073709551616 := by omega
      go_wp2_with fail
      refine (need_ok 6 _).mono ?_
      rintro x w3 ⟨rfl, rfl⟩
      go_wp2_with fail
      go_end0
      refine .inl ⟨by rw [HE.out, HQ.out]; simp; omega, rfl, ?_, (Past2.of_below HB.out).trans (Past2.set1 _ _)⟩
      have := HH.out.setE (e + 1)
      simpa [dX, dS] using this
    · have hm' : decide (e < 4611686018427387904) = false := by simp; omega
      go_wp2_with fail
      refine (need_no 6 _).mono ?_
      rintro x w3 ⟨rfl, rfl⟩
      go_wp2_with fail
      have he : dE e S 3 g b = 6 := by rw [HE.out, HQ.out]; simp; omega
      exact ⟨rfl, .inr ⟨by rw [he]; omega, by rw [he], HB.out⟩⟩
  · go_wp2_with fail
    refine (need_no 231 _).mono ?_
    rintro x w3 ⟨rfl, rfl⟩
    go_wp2_with fail
    have he : dE e S 3 g b = 231 := by rw [HE.out, HQ.out]; simp
    exact ⟨rfl, .inr ⟨by rw [he]; omega, by rw [he], HB.out⟩⟩
end Go.Proofs.Ytopaopfebgonjaa
