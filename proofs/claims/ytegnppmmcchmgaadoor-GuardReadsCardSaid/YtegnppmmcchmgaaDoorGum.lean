/-
  The law's own: few sections, and whether the layer does anything.
-/
import Derived.Test.YtegnppmmcchmgaaDoorGuj
import Derived.Test.YtegnppmmcchmgaaDoorGuk
set_option linter.unusedSimpArgs false
set_option linter.unusedVariables false
namespace Go.Proofs.YtegnppmmcchmgaaDoor
open Go Go.RowKit
attribute [local go_sem] via_cell via_frozen

/-- A slice's first ones. -/
theorem Rd.first {w : World} {B n k : Nat} {A : Option Addr} {X : List Sec} (h : Rd w B 2 A n (Cs encS X)) (hx : X.length = n) (hk : k ≤ n) : Rd w B 2 A k (Cs encS (X.take k)) := by
  refine ⟨by rw [Cs_length encS_len, List.length_take, hx, Nat.min_eq_left hk], fun hp => ?_⟩
  obtain ⟨b, off, e, hb, hc⟩ := h.2 (by omega)
  refine ⟨b, off, e, hb, fun j u hu => hc j u ?_⟩
  have h1 : Cs encS X = Cs encS (X.take k) ++ Cs encS (X.drop k) := by rw [← Cs_append, List.take_append_drop]
  rw [h1, List.getElem?_append_left (List.getElem?_eq_some_iff.1 hu).1]
  exact hu
set_option maxHeartbeats 1000000 in
theorem few_any (B : Nat) (A : Option Addr) (c n : Nat) (X : List Sec) (W : World) (h : Rd W B 2 A n (Cs encS X)) (hx : X.length = n) (hn : (n : Int) ≤ 9223372036854775807) (hc : (n : Int) ≤ (c : Int) ∧ (c : Int) ≤ 9223372036854775807) (hB : B ≤ W.heap.size) :
    Calls Tryd.prog 15 #[.slice A n c] W fun e W' => ∃ v, e = .returned v ∧ W'.ownsRow W.heap.size 33 2 v (X.take 16).length (Cs encS (X.take 16)) ∧ Below W.heap.size W W' := by
  obtain ⟨k, hk⟩ : ∃ k, min n 16 = k := ⟨_, rfl⟩
  have hkI : min (n : Int) 16 = (k : Int) := by omega
  have hk1 : k ≤ n := by omega
  have hk2 : k ≤ 16 := by omega
  have hkc : (k : Int) ≤ (c : Int) := by omega
  have hcI := hc.2
  have HT := hide (show X.take 16 = X.take k from by rw [← hk, ← hx]; exact (List.take_eq_take_min).trans (by rw [Nat.min_comm]))
  have HL := hide (show (X.take k).length = k from by rw [List.length_take, hx, Nat.min_eq_left hk1])
  have HC := hide (CloneS B A k c (Cs encS (X.take k)) W (h.first hx hk1) hB (Cs_one_cell encS_one _) (by omega))
  rw [HT.out, HL.out]
  clear h hx hk hc
  go_enter Tryd.func15, Tryd.ntmps15
  go_wp2_with fail
  with_reducible refine HC.out.mono ?_
  rintro e w1 ⟨v, rfl, hown, hb⟩
  go_wp2_with fail
  go_ret
  exact ⟨_, rfl, hown, hb⟩
/-- The chapter's sections lie where the package's variable says. -/
structure TwoAt (w : World) (B : Nat) : Prop where
  own : ∃ A c, w.cell? ⟨0, 0, none⟩ = some (.slice A 2 c) ∧ Rd w B 2 A 2 (Cs encS [(3, 5), (8, 0)])
  lt : 0 < B
theorem TwoAt.below {w w' : World} {B : Nat} (h : TwoAt w B) (hb : Below B w w') : TwoAt w' B := by
  obtain ⟨⟨A, c, h1, h2⟩, h3⟩ := h
  exact ⟨⟨A, c, (hb.cell (p := ⟨0, 0, none⟩) h3).trans h1, h2.below hb⟩, h3⟩
set_option maxHeartbeats 4000000 in
theorem wakes_any (B : Nat) (W : World) (h : TwoAt W B) (hB : B ≤ W.heap.size) : Calls Tryd.prog 8 #[] W fun e W' => e = .returned (.bool true) ∧ Below W.heap.size W W' := by
  obtain ⟨⟨A, c, h0, hr⟩, hl0⟩ := h
  have HR := hide hr
  have hl : 0 < W.heap.size := by omega
  have HN := hide (countN_any B A c 2 [(3, 5), (8, 0)] 9 W hr rfl hB (by omega) (3, 0) (by decide))
  clear hr
  go_enter Tryd.func8, Tryd.ntmps8
  go_wp2_with fail
  with_reducible refine HN.out.mono ?_
  rintro e w1 ⟨rfl, hb1⟩
  have q1 := kept hb1 h0
  have l1 : 0 < w1.heap.size := by have := hb1.size; omega
  have HB1 := hide hb1
  have HR1 := hide (HR.out.below (hb1.mono hB))
  have HNEW := hide (show Rd (w1.alloc (.cells #[.int .i64 1, .int .i64 2, .int .i64 2, .int .i64 5, .int .i64 5, .int .i64 7, .int .i64 9, .int .i64 9] 23)) (w1.heap.size + 1) 2 (some ⟨w1.heap.size, 0, none⟩) ([(1, 2), (2, 5), (5, 7), (9, 9)] : List Sec).length (Cs encS [(1, 2), (2, 5), (5, 7), (9, 9)]) from Rd.new w1 #[.int .i64 1, .int .i64 2, .int .i64 2, .int .i64 5, .int .i64 5, .int .i64 7, .int .i64 9, .int .i64 9] 23 2 4 rfl)
  have HBN := hide (show Below W.heap.size W (w1.alloc (.cells #[.int .i64 1, .int .i64 2, .int .i64 2, .int .i64 5, .int .i64 5, .int .i64 7, .int .i64 9, .int .i64 9] 23)) from hb1.trans ((Below.refl _ _).alloc hb1.size _))
  clear hb1 h0
  dsimp only [pairU]
  go_wp2_with fail
  generalize hwA : w1.alloc (.cells #[.int .i64 1, .int .i64 2, .int .i64 2, .int .i64 5, .int .i64 5, .int .i64 7, .int .i64 9, .int .i64 9] 23) = wA at *
  have HA := hide (show B ≤ wA.heap.size ∧ w1.heap.size + 1 ≤ wA.heap.size from ⟨by have := HBN.out.size; omega, by rw [← hwA]; simp⟩)
  have qA : wA.cell? ⟨0, 0, none⟩ = some (.slice A 2 c) := by rw [← hwA]; exact kept ((Below.refl _ _).alloc (Nat.le_refl _) _) q1
  clear hwA q1
  have HRDS := hide (show Calls Tryd.prog 13 #[.slice A 2 c, .slice (some ⟨w1.heap.size, 0, none⟩) 4 4] wA _ from (reads_any B (w1.heap.size + 1) A (some ⟨w1.heap.size, 0, none⟩) c 4 2 [(3, 5), (8, 0)] [(1, 2), (2, 5), (5, 7), (9, 9)] wA (HR.out.below (HBN.out.mono hB)) rfl HA.out.1 (by omega) HNEW.out HA.out.2 (by simp) [true, false, true, false] 0 (by decide)))
  with_reducible refine HRDS.out.mono ?_
  rintro e w2 ⟨vr, rfl, hor, hb2⟩
  have HB2 := hide (HBN.out.trans (hb2.mono HBN.out.size))
  have HOR := hide hor
  have q2 := kept hb2 qA
  have l2 : 0 < w2.heap.size := by have := HB2.out.size; omega
  clear hb2 hor qA
  go_wp2_with fail
  with_reducible refine (spans_any B A c 2 [(3, 5), (8, 0)] 1 10 w2 (HR.out.below (HB2.out.mono hB)) rfl (Nat.le_trans hB HB2.out.size) (by omega) [(1, 2), (5, 7)] 0 (by decide)).mono ?_
  rintro e w3 ⟨vs, rfl, hos, _, hb3⟩
  have HB3 := hide (HB2.out.trans (hb3.mono HB2.out.size))
  have HOS := hide hos
  have HOR3 := hide (own_keepB HOR.out hb3)
  have q3 := kept hb3 q2
  have l3 : 0 < w3.heap.size := by have := HB3.out.size; omega
  clear hb3 hos q2
  go_wp2_with fail
  with_reducible refine (nextN_any B A c 2 [(3, 5), (8, 0)] 3 w3 (HR.out.below (HB3.out.mono hB)) rfl (Nat.le_trans hB HB3.out.size) (by omega) (5, 0) (by decide)).mono ?_
  rintro e w4 ⟨rfl, hb4⟩
  have HB4 := hide (HB3.out.trans (hb4.mono HB3.out.size))
  have HOS4 := hide (own_keepB HOS.out hb4)
  have HOR4 := hide (own_keepB HOR3.out hb4)
  have q4 := kept hb4 q3
  have l4 : 0 < w4.heap.size := by have := HB4.out.size; omega
  clear hb4 q3
  dsimp only [pairI]
  go_wp2_with fail
  with_reducible refine (nextN_any B A c 2 [(3, 5), (8, 0)] 8 w4 (HR.out.below (HB4.out.mono hB)) rfl (Nat.le_trans hB HB4.out.size) (by omega) (0, 4) (by decide)).mono ?_
  rintro e w5 ⟨rfl, hb5⟩
  have HB5 := hide (HB4.out.trans (hb5.mono HB4.out.size))
  have HOS5 := hide (own_keepB HOS4.out hb5)
  have HOR5 := hide (own_keepB HOR4.out hb5)
  have q5 := kept hb5 q4
  have l5 : 0 < w5.heap.size := by have := HB5.out.size; omega
  clear hb5 q4
  dsimp only [pairI]
  go_wp2_with fail
  have HO := hide (open_any 2 ⟨by omega, by omega⟩ w5)
  rw [show moreV 2 false = (3, 0) from by decide] at HO
  with_reducible refine HO.out.mono ?_
  rintro e w6 ⟨rfl, rfl⟩
  dsimp only [pairU]
  go_wp2_with fail
  have HO2 := hide (close_any 3 ⟨by omega, by omega⟩ w5)
  rw [show moreV 3 true = (4, 0) from by decide] at HO2
  with_reducible refine HO2.out.mono ?_
  rintro e w6 ⟨rfl, rfl⟩
  dsimp only [pairU]
  obtain ⟨Ar, cr, rfl, _⟩ := own_form HOR5.out
  obtain ⟨As, cs, rfl, _⟩ := own_form HOS5.out
  have HNB := hide (show Rd (w5.alloc (.cells #[.bool true, .bool false, .bool true, .bool false] 4)) (w5.heap.size + 1) 1 (some ⟨w5.heap.size, 0, none⟩) ([true, false, true, false] : List Bool).length (Cs encB [true, false, true, false]) from Rd.new w5 #[.bool true, .bool false, .bool true, .bool false] 4 1 4 rfl)
  have HBB := hide (show Below w5.heap.size w5 (w5.alloc (.cells #[.bool true, .bool false, .bool true, .bool false] 4)) from (Below.refl _ _).alloc (Nat.le_refl _) _)
  have HBS := hide (show w5.heap.size + 1 ≤ (w5.alloc (.cells #[.bool true, .bool false, .bool true, .bool false] 4)).heap.size from by simp)
  have HRR := hide ((Rd.of_own HOR5.out).below HBB.out)
  have HRS := hide ((Rd.of_own HOS5.out).below HBB.out)
  have q6 := kept HBB.out q5
  go_wp2_with fail
  generalize w5.alloc (.cells #[.bool true, .bool false, .bool true, .bool false] 4) = w6 at *
  have HEB := hide (show Calls Tryd.prog 25 #[.slice Ar 4 cr, .slice (some ⟨w5.heap.size, 0, none⟩) 4 4] w6 _ from (EqualB w5.heap.size (w5.heap.size + 1) Ar (some ⟨w5.heap.size, 0, none⟩) cr 4 [true, false, true, false] [true, false, true, false] w6 HRR.out HNB.out (by have := HBS.out; omega) HBS.out (by simp) (by simp) true (by decide)))
  with_reducible refine HEB.out.mono ?_
  rintro e w7 ⟨rfl, hb7⟩
  have HB7 := hide (HB5.out.trans ((HBB.out.trans (hb7.mono HBB.out.size)).mono HB5.out.size))
  have q7 := kept hb7 q6
  have l7 : 0 < w7.heap.size := by have := HB7.out.size; omega
  have HRS7 := hide (HRS.out.below (hb7.mono (by have := HBS.out; omega)))
  have hs7 : w5.heap.size ≤ w7.heap.size := by have := HBS.out; have := hb7.size; omega
  have HNC := hide (show Rd (w7.alloc (.cells #[.int .i64 1, .int .i64 2, .int .i64 5, .int .i64 7] 23)) (w7.heap.size + 1) 2 (some ⟨w7.heap.size, 0, none⟩) ([(1, 2), (5, 7)] : List Sec).length (Cs encS [(1, 2), (5, 7)]) from Rd.new w7 #[.int .i64 1, .int .i64 2, .int .i64 5, .int .i64 7] 23 2 2 rfl)
  have HBC := hide (show Below w7.heap.size w7 (w7.alloc (.cells #[.int .i64 1, .int .i64 2, .int .i64 5, .int .i64 7] 23)) from (Below.refl _ _).alloc (Nat.le_refl _) _)
  have HBT := hide (show w7.heap.size + 1 ≤ (w7.alloc (.cells #[.int .i64 1, .int .i64 2, .int .i64 5, .int .i64 7] 23)).heap.size from by simp)
  have HRT := hide (HRS7.out.below (HBC.out.mono hs7))
  have q8 := kept HBC.out q7
  clear hb7 q6 q5
  go_wp2_with fail
  generalize w7.alloc (.cells #[.int .i64 1, .int .i64 2, .int .i64 5, .int .i64 7] 23) = w8 at *
  have HEL := hide (show Calls Tryd.prog 27 #[.slice As 2 cs, .slice (some ⟨w7.heap.size, 0, none⟩) 2 2] w8 _ from (EqualL w5.heap.size (w7.heap.size + 1) As (some ⟨w7.heap.size, 0, none⟩) cs 2 [(1, 2), (5, 7)] [(1, 2), (5, 7)] w8 HRT.out HNC.out (by have := HBT.out; omega) HBT.out (by simp) (by simp) true (by decide)))
  with_reducible refine HEL.out.mono ?_
  rintro e w9 ⟨rfl, hb9⟩
  have HB9 := hide (HB7.out.trans ((HBC.out.trans (hb9.mono HBC.out.size)).mono HB7.out.size))
  have q9 := kept hb9 q8
  have l9 : 0 < w9.heap.size := by have := HB9.out.size; omega
  clear hb9 q8
  go_wp2_with fail
  have HG1 := hide (good_any 2 2 ⟨by omega, by omega⟩ w9)
  rw [show goodB 2 2 = true from by decide] at HG1
  have HG2 := hide (good_any 3 3 ⟨by omega, by omega⟩ w9)
  rw [show goodB 3 3 = false from by decide] at HG2
  with_reducible refine HG1.out.mono ?_
  rintro e w10 ⟨rfl, rfl⟩
  go_wp2_with fail
  with_reducible refine HG2.out.mono ?_
  rintro e w10 ⟨rfl, rfl⟩
  go_wp2_with fail
  with_reducible refine (clear_any B A c 2 [(3, 5), (8, 0)] 5 7 w9 (HR.out.below (HB9.out.mono hB)) rfl (Nat.le_trans hB HB9.out.size) (by omega) true (by decide)).mono ?_
  rintro e w10 ⟨rfl, hb10⟩
  have HB10 := hide (HB9.out.trans (hb10.mono HB9.out.size))
  clear hb10
  go_wp2_with fail
  go_ret
  exact ⟨rfl, HB10.out⟩
end Go.Proofs.YtegnppmmcchmgaaDoor
