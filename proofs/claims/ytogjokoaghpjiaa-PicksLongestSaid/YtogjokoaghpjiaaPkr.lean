/-
  The law's: the layer wakes.
-/
import Derived.Test.YtogjokoaghpjiaaPkq
set_option linter.unusedSimpArgs false
set_option linter.unusedVariables false
namespace Go.Proofs.Ytogjokoaghpjiaa
open Go Go.RowKit
attribute [local go_sem] via_cell via_frozen

theorem EqualIn (B1 B2 : Nat) (A1 A2 : Option Addr) (c1 c2 n m : Nat) (xs ys : List Int) (W : World) (hn : xs.length = n) (hm : ys.length = m) (h1 : Rd W B1 1 A1 n (Cs encI xs)) (h2 : Rd W B2 1 A2 m (Cs encI ys)) (hB1 : B1 ≤ W.heap.size) (hB2 : B2 ≤ W.heap.size)
    (hl1 : n ≤ 4096) (hl2 : m ≤ 4096) (r : Bool) (hr : decide (xs = ys) = r) :
    Calls Try.prog 16 #[.slice A1 n c1, .slice A2 m c2] W fun e W' => e = .returned (.bool r) ∧ Below W.heap.size W W' := by
  subst hn hm
  exact EqualI B1 B2 A1 A2 c1 c2 xs ys W h1 h2 hB1 hB2 hl1 hl2 r hr
theorem rdNew (w : World) (l : List Int) : Rd (w.alloc (.cells (vals l) 3)) (w.alloc (.cells (vals l) 3)).heap.size 1 (some ⟨w.heap.size, 0, none⟩) l.length (Cs encI l) := by
  have h := Rd.new w (vals l) 3 1 l.length (by simp [vals])
  have e : (vals l).toList = Cs encI l := by
    clear h
    unfold vals Cs
    induction l with
    | nil => rfl
    | cons x l ih => simp [encI, valI] at ih ⊢; exact ih
  rw [e] at h
  exact h.more (by rw [World.size_alloc]; exact Nat.le_refl _)
def L3 : List Tn := [([0, 1], 0), ([0, 1], 0), ([0, 1], 1)]
set_option maxHeartbeats 4000000 in
theorem wakes_any (W : World) : Calls Try.prog 9 #[] W fun e W' => e = .returned (.bool true) ∧ Below W.heap.size W W' := by
  go_enter Try.func9, Try.ntmps9
  have HR1 := hide (show Rd (W.alloc (.cells #[.int .i64 0, .int .i64 2, .int .i64 5] 3)) (W.alloc (.cells #[.int .i64 0, .int .i64 2, .int .i64 5] 3)).heap.size 1 (some ⟨W.heap.size, 0, none⟩) 3 (Cs encI [0, 2, 5]) from rdNew W [0, 2, 5])
  have HA1 := hide (show Below W.heap.size W (W.alloc (.cells #[.int .i64 0, .int .i64 2, .int .i64 5] 3)) from (Below.refl _ _).alloc (Nat.le_refl _) _)
  have HC1 := hide (choose_yes (some ⟨W.heap.size, 0, none⟩) 3 3 [0, 2, 5] 4 (W.alloc (.cells #[.int .i64 0, .int .i64 2, .int .i64 5] 3)) HR1.out rfl (by omega) (by decide) (by unfold I64; omega) 2 (by decide))
  go_wp2_with fail
  with_reducible refine HC1.out.mono ?_
  rintro e w1 ⟨rfl, hb1⟩
  have HB1 := hide (HA1.out.trans (hb1.mono HA1.out.size))
  clear hb1
  have HR2 := hide (show Rd (w1.alloc (.cells #[.int .i64 0, .int .i64 2, .int .i64 5] 3)) (w1.alloc (.cells #[.int .i64 0, .int .i64 2, .int .i64 5] 3)).heap.size 1 (some ⟨w1.heap.size, 0, none⟩) 3 (Cs encI [0, 2, 5]) from rdNew w1 [0, 2, 5])
  have HA2 := hide (show Below w1.heap.size w1 (w1.alloc (.cells #[.int .i64 0, .int .i64 2, .int .i64 5] 3)) from (Below.refl _ _).alloc (Nat.le_refl _) _)
  have HC2 := hide (choose_yes (some ⟨w1.heap.size, 0, none⟩) 3 3 [0, 2, 5] (-1) (w1.alloc (.cells #[.int .i64 0, .int .i64 2, .int .i64 5] 3)) HR2.out rfl (by omega) (by decide) (by unfold I64; omega) 5 (by decide))
  go_wp2_with fail
  with_reducible refine HC2.out.mono ?_
  rintro e w2 ⟨rfl, hb2⟩
  have HB2 := hide (HB1.out.trans ((HA2.out.trans (hb2.mono HA2.out.size)).mono HB1.out.size))
  clear hb2
  have HR3 := hide (show Rd (w2.alloc (.cells #[.int .i64 0, .int .i64 2, .int .i64 5] 3)) (w2.alloc (.cells #[.int .i64 0, .int .i64 2, .int .i64 5] 3)).heap.size 1 (some ⟨w2.heap.size, 0, none⟩) 3 (Cs encI [0, 2, 5]) from rdNew w2 [0, 2, 5])
  have HA3 := hide (show Below w2.heap.size w2 (w2.alloc (.cells #[.int .i64 0, .int .i64 2, .int .i64 5] 3)) from (Below.refl _ _).alloc (Nat.le_refl _) _)
  have HC3 := hide (steer_yes (some ⟨w2.heap.size, 0, none⟩) 3 3 [0, 2, 5] 5 (w2.alloc (.cells #[.int .i64 0, .int .i64 2, .int .i64 5] 3)) HR3.out rfl (by omega) (by decide))
  go_wp2_with fail
  with_reducible refine HC3.out.mono ?_
  rintro e w3 ⟨⟨i, r, hf, rfl⟩, hb3⟩
  obtain ⟨rfl, rfl⟩ : i = 2 ∧ r = true := by
    obtain ⟨⟨h1, h2, h3⟩, h4⟩ := hf
    have e2 : i = 2 := by
      match i, h1 with
      | 0, _ => exact absurd (h3 0 (by omega) (by decide)) (by decide)
      | 1, _ => exact absurd (h3 1 (by omega) (by decide)) (by decide)
      | 2, _ => rfl
      | 3, _ => exact absurd (h2 2 (by omega)) (by decide)
    subst e2
    exact ⟨rfl, by rw [← h4]; decide⟩
  clear hf
  have HB3 := hide (HB2.out.trans ((HA3.out.trans (hb3.mono HA3.out.size)).mono HB2.out.size))
  clear hb3
  have HR4 := hide (show Rd (w3.alloc (.cells #[.int .i64 0, .int .i64 0, .int .i64 1] 3)) (w3.alloc (.cells #[.int .i64 0, .int .i64 0, .int .i64 1] 3)).heap.size 1 (some ⟨w3.heap.size, 0, none⟩) 3 (Cs encI [0, 0, 1]) from rdNew w3 [0, 0, 1])
  have HA4 := hide (show Below w3.heap.size w3 (w3.alloc (.cells #[.int .i64 0, .int .i64 0, .int .i64 1] 3)) from (Below.refl _ _).alloc (Nat.le_refl _) _)
  have HC4 := hide (both_any (some ⟨w3.heap.size, 0, none⟩) 3 3 [0, 0, 1] (w3.alloc (.cells #[.int .i64 0, .int .i64 0, .int .i64 1] 3)) HR4.out rfl (by omega))
  go_wp2_with fail
  with_reducible refine HC4.out.mono ?_
  rintro e w4 ⟨⟨A, m, c, us, rfl, hmc, hcm, hul, hmade⟩, hb4⟩
  have HM := hide (show MadeAt _ w4 (.slice A m c) us L3 from hmade)
  have hm3 : m = 3 := by rw [← hul, ← tns_len, hmade.2.1]; rfl
  subst hm3
  have HS := hide (show SmallT us from HM.out.small (by decide))
  have HE := hide (show tns us = L3 from HM.out.2.1)
  have HRT := hide (fun (w : World) (hb : Below w4.heap.size w4 w) => ((HM.out.rt hul).below hb))
  have hc3 : (3 : Int) ≤ (c : Int) := by omega
  clear hmade hul hcm hmc
  have HB4 := hide (HB3.out.trans ((HA4.out.trans (hb4.mono HA4.out.size)).mono HB3.out.size))
  clear hb4
  have HR5 := hide (show Rd (w4.alloc (.cells #[.int .i64 0, .int .i64 1] 3)) (w4.alloc (.cells #[.int .i64 0, .int .i64 1] 3)).heap.size 1 (some ⟨w4.heap.size, 0, none⟩) 2 (Cs encI [0, 1]) from rdNew w4 [0, 1])
  have HA5 := hide (show Below w4.heap.size w4 (w4.alloc (.cells #[.int .i64 0, .int .i64 1] 3)) from (Below.refl _ _).alloc (Nat.le_refl _) _)
  have HC5 : Hid (Calls Try.prog 17 #[.int .i64 2, .slice A 3 c, .slice (some ⟨w4.heap.size, 0, none⟩) 2 2] (w4.alloc (.cells #[.int .i64 0, .int .i64 1] 3)) fun e W' => e = .returned (.tuple #[.int .i64 0, .int .i64 0]) ∧ Below (w4.alloc (.cells #[.int .i64 0, .int .i64 1] 3)).heap.size (w4.alloc (.cells #[.int .i64 0, .int .i64 1] 3)) W') := hide (next_any (w4.alloc (.cells #[.int .i64 0, .int .i64 1] 3)).heap.size A (some ⟨w4.heap.size, 0, none⟩) c 3 2 2 2 us [0, 1] (w4.alloc (.cells #[.int .i64 0, .int .i64 1] 3)) ((HRT.out _ HA5.out).more HA5.out.size) HR5.out rfl (by omega) (Nat.le_refl _) HS.out (0, 0) (by rw [HE.out]; decide))
  go_wp2_with fail
  with_reducible refine HC5.out.mono ?_
  rintro e w5 ⟨rfl, hb5⟩
  have HB45 := hide (show Below w4.heap.size w4 w5 from HA5.out.trans (hb5.mono HA5.out.size))
  have HB5 := hide (HB4.out.trans ((HA5.out.trans (hb5.mono HA5.out.size)).mono HB4.out.size))
  clear hb5
  have HR6 := hide (show Rd (w5.alloc (.cells #[.int .i64 0] 3)) (w5.alloc (.cells #[.int .i64 0] 3)).heap.size 1 (some ⟨w5.heap.size, 0, none⟩) 1 (Cs encI [0]) from rdNew w5 [0])
  have HA6 := hide (show Below w5.heap.size w5 (w5.alloc (.cells #[.int .i64 0] 3)) from (Below.refl _ _).alloc (Nat.le_refl _) _)
  have HC6 := hide (steer_yes (some ⟨w5.heap.size, 0, none⟩) 1 1 [0] 1 (w5.alloc (.cells #[.int .i64 0] 3)) HR6.out rfl (by omega) (by decide))
  go_wp2_with fail
  with_reducible refine HC6.out.mono ?_
  rintro e w6 ⟨⟨i, r, hf, rfl⟩, hb6⟩
  obtain rfl : r = false := by
    obtain ⟨⟨h1, h2, h3⟩, h4⟩ := hf
    match i, h1 with
    | 0, _ => rw [← h4]; decide
    | 1, _ => rw [← h4]; decide
  have HB46 := hide (show Below w4.heap.size w4 w6 from HB45.out.trans ((HA6.out.trans (hb6.mono HA6.out.size)).mono HB45.out.size))
  clear hf
  have HB6 := hide (HB5.out.trans ((HA6.out.trans (hb6.mono HA6.out.size)).mono HB5.out.size))
  clear hb6
  have HC7 : Hid (Calls Try.prog _ _ w6 fun e W' => ∃ v, e = .returned v ∧ W'.ownsRow w6.heap.size 3 1 v 1 (Cs encI [1]) ∧ Below w6.heap.size w6 W') := hide (by
    have h := hungry_any w6.heap.size A c 3 2 us 2 w6 ((HRT.out _ HB46.out).more HB46.out.size) (Nat.le_refl _) HS.out
    rw [show hungryP 2 (tns us) 2 = [1] from by rw [HE.out]; decide] at h
    exact h)
  go_wp2_with fail
  with_reducible refine HC7.out.mono ?_
  rintro e w7 ⟨v7, rfl, hown7, hb7⟩
  obtain ⟨A7, c7, rfl, _, _⟩ := own_form2 hown7
  have HO7 := hide (Rd.of_own hown7)
  have HB47 := hide (HB46.out.trans (hb7.mono HB46.out.size))
  have HB7 := hide (HB6.out.trans (hb7.mono HB6.out.size))
  clear hown7 hb7
  have HR8 := hide (show Rd (w7.alloc (.cells #[.int .i64 1] 3)) (w7.alloc (.cells #[.int .i64 1] 3)).heap.size 1 (some ⟨w7.heap.size, 0, none⟩) 1 (Cs encI [1]) from rdNew w7 [1])
  have HA8 := hide (show Below w7.heap.size w7 (w7.alloc (.cells #[.int .i64 1] 3)) from (Below.refl _ _).alloc (Nat.le_refl _) _)
  have HC8 := hide (EqualIn (w7.alloc (.cells #[.int .i64 1] 3)).heap.size (w7.alloc (.cells #[.int .i64 1] 3)).heap.size A7 (some ⟨w7.heap.size, 0, none⟩) c7 1 1 1 [1] [1] (w7.alloc (.cells #[.int .i64 1] 3)) rfl rfl ((HO7.out.below HA8.out).more HA8.out.size) HR8.out (Nat.le_refl _) (Nat.le_refl _) (by omega) (by omega) true (by decide))
  go_wp2_with fail
  with_reducible refine HC8.out.mono ?_
  rintro e w8 ⟨rfl, hb8⟩
  have HB48 := hide (HB47.out.trans ((HA8.out.trans (hb8.mono HA8.out.size)).mono HB47.out.size))
  have HB8 := hide (HB7.out.trans ((HA8.out.trans (hb8.mono HA8.out.size)).mono HB7.out.size))
  clear hb8
  have HC9 := hide (least_any w8.heap.size A c 3 2 us w8 ((HRT.out _ HB48.out).more HB48.out.size) (Nat.le_refl _) HS.out 3 (by rw [HE.out]; decide))
  go_wp2_with fail
  with_reducible refine HC9.out.mono ?_
  rintro e w9 ⟨rfl, hb9⟩
  have HB49 := hide (HB48.out.trans (hb9.mono HB48.out.size))
  have HB9 := hide (HB8.out.trans (hb9.mono HB8.out.size))
  clear hb9
  have HC10 := hide (laps_any w9.heap.size A c 3 2 us w9 ((HRT.out _ HB49.out).more HB49.out.size) (Nat.le_refl _) HS.out 1 (by rw [HE.out]; decide))
  go_wp2_with fail
  with_reducible refine HC10.out.mono ?_
  rintro e w10 ⟨rfl, hb10⟩
  have HB410 := hide (HB49.out.trans (hb10.mono HB49.out.size))
  have HB10 := hide (HB9.out.trans (hb10.mono HB9.out.size))
  clear hb10
  have HC11 : Hid (Calls Try.prog _ _ w10 fun e W' => (∃ v, e = .returned v ∧ W'.ownsRow w10.heap.size 3 1 v 2 (Cs encI [2, 1])) ∧ Below w10.heap.size w10 W') := hide (by
    have h := shares_any w10.heap.size A c 3 2 us w10 ((HRT.out _ HB410.out).more HB410.out.size) (Nat.le_refl _) HS.out
    rw [show sharesP 2 (tns us) = [2, 1] from by rw [HE.out]; decide] at h
    exact h)
  go_wp2_with fail
  with_reducible refine HC11.out.mono ?_
  rintro e w11 ⟨⟨v11, rfl, hown11⟩, hb11⟩
  obtain ⟨A11, c11, rfl, _, _⟩ := own_form2 hown11
  have HO11 := hide (Rd.of_own hown11)
  have HB11 := hide (HB10.out.trans (hb11.mono HB10.out.size))
  clear hown11 hb11
  have HR12 := hide (show Rd (w11.alloc (.cells #[.int .i64 2, .int .i64 1] 3)) (w11.alloc (.cells #[.int .i64 2, .int .i64 1] 3)).heap.size 1 (some ⟨w11.heap.size, 0, none⟩) 2 (Cs encI [2, 1]) from rdNew w11 [2, 1])
  have HA12 := hide (show Below w11.heap.size w11 (w11.alloc (.cells #[.int .i64 2, .int .i64 1] 3)) from (Below.refl _ _).alloc (Nat.le_refl _) _)
  have HC12 := hide (EqualIn (w11.alloc (.cells #[.int .i64 2, .int .i64 1] 3)).heap.size (w11.alloc (.cells #[.int .i64 2, .int .i64 1] 3)).heap.size A11 (some ⟨w11.heap.size, 0, none⟩) c11 2 2 2 [2, 1] [2, 1] (w11.alloc (.cells #[.int .i64 2, .int .i64 1] 3)) rfl rfl ((HO11.out.below HA12.out).more HA12.out.size) HR12.out (Nat.le_refl _) (Nat.le_refl _) (by omega) (by omega) true (by decide))
  go_wp2_with fail
  with_reducible refine HC12.out.mono ?_
  rintro e w12 ⟨rfl, hb12⟩
  have HB12 := hide (HB11.out.trans ((HA12.out.trans (hb12.mono HA12.out.size)).mono HB11.out.size))
  clear hb12
  go_wp2_with fail
  go_ret
  exact ⟨rfl, HB12.out⟩
end Go.Proofs.Ytogjokoaghpjiaa
