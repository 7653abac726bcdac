/-
  The reference's: back by marks.
-/
import Derived.Test.YtadgihmokmfejaaCeq
import Derived.Test.YtadgihmokmfejaaCed
set_option linter.unusedSimpArgs false
set_option linter.unusedVariables false
namespace Go.Proofs.Ytadgihmokmfejaa
open Go Go.RowKit
attribute [local go_sem] via_cell via_frozen

/-- What the reference's Back comes to. -/
def RBackRes (W : World) (n : Nat) (Yo : Option (List Int)) (x : Ending) (W' : World) : Prop :=
  Below W.heap.size W W' ∧ ((Yo = none ∧ x = .returned (.tuple #[.slice none 0 0, .int .i64 2])) ∨
    ∃ Y A c, Yo = some Y ∧ x = .returned (.tuple #[.slice A n c, .int .i64 0]) ∧ n ≤ c ∧ c ≤ 9223372036854775807 ∧ Rd W' W'.heap.size 1 A n (Cs encW Y))
def RBackAt (W : World) (n : Nat) (X : List Int) (ms : List Mk) (j : Nat) (z : Int) (v : Value) (wr : World) : Prop :=
  z = (j : Int) - 1 ∧ ∃ Y A c, backR X (ms.reverse.take (ms.length - j)) = some Y ∧ v = .slice A n c ∧ n ≤ c ∧ c ≤ 9223372036854775807 ∧ Rd wr wr.heap.size 1 A n (Cs encW Y) ∧ Below W.heap.size W wr

theorem rback_zero (A Am : Option Addr) (c cm m : Nat) (W : World) : Calls Try.prog 28 #[.slice A 0 c, .slice Am m cm] W fun e W' => e = .returned (.tuple #[.slice none 0 0, .int .i64 120]) ∧ Below W.heap.size W W' := by
  have HC := hide (right_any A c 0 W false (by decide))
  go_enter Try.func28, Try.ntmps28
  go_wp2_with fail
  with_reducible refine HC.out.mono ?_
  rintro x w1 ⟨rfl, rfl⟩
  go_wp2_with fail
  go_ret2
  exact ⟨rfl, Below.refl _ _⟩

set_option maxRecDepth 100000 in
set_option maxHeartbeats 4000000 in
theorem rback_any (A Am : Option Addr) (c n cm m : Nat) (X : List Int) (ms : List Mk) (W : World) (h : Rd W W.heap.size 1 A n (Cs encW X)) (hx : X.length = n) (hc : n ≤ c) (hcm : c ≤ 9223372036854775807) (hn1 : 1 ≤ n) (hn : n ≤ 4096) (hl : Rd W W.heap.size 4 Am m (Cs encM ms)) (hm : ms.length = m) (hm2 : m ≤ 1000) (Yo : Option (List Int)) (hY : backX X ms = Yo) :
    Calls Try.prog 28 #[.slice A n c, .slice Am m cm] W (RBackRes W n Yo) := by
  have p0 : (1 : Int) ≤ n := by omega
  have HL := hide hl
  have HLM := hide hm
  have HE := hide hY
  have HXL := hide hx
  have HRD := hide h
  have HRT := hide (right_any A c n W true (by simp; omega))
  clear h hl hY hx
  go_enter Try.func28, Try.ntmps28
  go_wp2_with fail
  with_reducible refine HRT.out.mono ?_
  rintro x w1 ⟨rfl, rfl⟩
  clear HRT
  go_wp2_with fail
  go_loopw [0, 6] (fun v i wr => ∃ (j : Nat) (z : Int), j ≤ m ∧ i = .int .i64 z ∧ RBackAt W n X ms j z v wr) (fun _ i _ => (intOf i + 1).toNat)
  case atStart => exact ⟨m, (m : Int) - 1, Nat.le_refl _, by first | rfl | go_num, rfl, X, A, c, by rw [HLM.out, Nat.sub_self]; rfl, rfl, hc, hcm, HRD.out, Below.refl _ _⟩
  case round =>
    obtain ⟨j, z, hj, rfl, hz, Y, A1, c1, hyy, rfl, hc1, hcm1, hrd, hbW⟩ := hrel
    have HYY := hide hyy
    have HR := hide hrd
    have HB := hide hbW
    have HLY := hide (show Y.length = n by rw [backR_length hyy, HXL.out])
    clear hyy hrd hbW
    by_cases h0 : j = 0
    · subst h0
      obtain rfl : z = -1 := by omega
      clear hz
      go_wp2_with fail
      go_ret2
      exact ⟨HB.out, .inr ⟨Y, A1, c1, by rw [← HE.out]; exact back_all HYY.out, rfl, hc1, hcm1, HR.out⟩⟩
    · obtain ⟨k, rfl⟩ : ∃ k, j = k + 1 := ⟨j - 1, by omega⟩
      obtain rfl : z = (k : Int) := by omega
      clear hz
      have hkm : k < m := by omega
      obtain ⟨b, o, rfl, hb, mk, hmk, d0, d1, d2, d3⟩ := (HL.out.below HB.out).mark HLM.out hkm
      obtain ⟨m1, at_, m3, m4⟩ := mk
      dsimp only at d0 d1 d2 d3
      have hszW := HB.out.size
      have hbl : b < wr.heap.size := by omega
      have hmk2 : ms[k]'(by rw [HLM.out]; exact hkm) = (m1, at_, m3, m4) := by
        rw [List.getElem?_eq_getElem (by rw [HLM.out]; exact hkm)] at hmk
        injection hmk
      have HMK := hide hmk2
      have HB2 := hide (show Below wr.heap.size wr (wr.alloc (.cells #[.int .i64 m1, .int .i64 at_, .int .u64 m3, .int .u64 m4] 57)) from (Below.refl _ _).alloc (Nat.le_refl _) _)
      have R2 := hide (RowAt.new wr 57 #[.int .i64 m1, .int .i64 at_, .int .u64 m3, .int .u64 m4])
      clear hmk hmk2
      by_cases h1 : at_ < 0
      · have hd : decide (at_ < 0) = true := by simpa using h1
        have HNO := hide (show none = Yo from by rw [← HE.out]; exact (back_no (show k < ms.length by rw [HLM.out]; exact hkm) HYY.out (by rw [HMK.out]; exact ok_neg h1)).symm)
        clear h1
        go_wp2_with fail
        go_quiet (fail)
        go_wp2_with fail
        go_ret2
        exact ⟨below_drewN (HB.out.trans (HB2.out.mono HB.out.size)) _, .inl ⟨HNO.out.symm, rfl⟩⟩
      · have hd : decide (at_ < 0) = false := by simpa using h1
        by_cases h2 : (n : Int) ≤ at_
        · have hd2 : decide ((n : Int) ≤ at_) = true := by simpa using h2
          have HNO := hide (show none = Yo from by rw [← HE.out]; exact (back_no (show k < ms.length by rw [HLM.out]; exact hkm) HYY.out (by rw [HMK.out]; exact ok_big (by rw [HLY.out]; exact h2))).symm)
          clear h1 h2
          go_wp2_with fail
          go_quiet (fail)
          go_wp2_with fail
          go_ret2
          exact ⟨below_drewN (HB.out.trans (HB2.out.mono HB.out.size)) _, .inl ⟨HNO.out.symm, rfl⟩⟩
        · have hd2 : decide ((n : Int) ≤ at_) = false := by simpa using h2
          obtain ⟨k2, rfl⟩ : ∃ k2 : Nat, at_ = k2 := ⟨at_.toNat, by omega⟩
          have hk2 : k2 < n := by omega
          have hk2n : (k2 : Int) < n := by omega
          have hd3 : decide ((k2 : Int) < n) = true := by simpa using hk2n
          have hd4 : decide (n ≤ k2) = false := by simp; omega
          obtain ⟨b1, o1, rfl, hb1, x0⟩ := HR.out.word HLY.out hk2
          have hv := ok_in (Y := Y) (m := (m1, (k2 : Int), m3, m4)) (k := k2) rfl (by rw [HLY.out]; exact hk2)
          dsimp only at hv
          have HV := hide hv
          generalize hcy : ceAt Y k2 = y at *
          clear h1 h2 hv hcy
          by_cases hym : y = m4
          · have hne : (y != m4) = false := by simpa using hym
            have HOK := hide (show backOk Y (m1, (k2 : Int), m3, m4) = true by rw [HV.out]; simpa using hym)
            clear hym
            go_wp2_with fail
            go_quiet (fail)
            go_wp2_with fail
            have HBq := hide (below_drewN (HB2.out) nq)
            generalize ((wr.alloc (.cells #[.int .i64 m1, .int .i64 k2, .int .u64 m3, .int .u64 m4] 57)).drewN nq) = w5 at *
            with_reducible refine (with_any wr.heap.size (some ⟨b1, o1, none⟩) c1 n Y k2 m3 w5 (HR.out.below HBq.out) HBq.out.size HLY.out hk2 hn).mono ?_
            rintro x w6 ⟨g, c2, rfl, hc2, hcm2, hown, hb6⟩
            have HO := hide hown
            have HB6 := hide (HB.out.trans ((HBq.out.trans (hb6.mono HBq.out.size)).mono HB.out.size))
            clear hown hb6
            go_wp2_with fail
            go_roundw
            case rel => exact ⟨k, (k : Int) - 1, by omega, rfl, rfl, back1 Y (m1, (k2 : Int), m3, m4), _, c2, by have h := back_yes (show k < ms.length by rw [HLM.out]; exact hkm) HYY.out (by rw [HMK.out]; exact HOK.out); rw [HMK.out] at h; exact h, rfl, hc2, hcm2, Rd.of_own HO.out, HB6.out⟩
            case measure => simp [intOf]
          · have hne : (y != m4) = true := by simpa using hym
            have HNO := hide (show none = Yo from by rw [← HE.out]; exact (back_no (show k < ms.length by rw [HLM.out]; exact hkm) HYY.out (by rw [HMK.out, HV.out]; simpa using hym)).symm)
            clear hym
            go_wp2_with fail
            go_quiet (fail)
            go_wp2_with fail
            go_ret2
            exact ⟨below_drewN (HB.out.trans (HB2.out.mono HB.out.size)) _, .inl ⟨HNO.out.symm, rfl⟩⟩
end Go.Proofs.Ytadgihmokmfejaa
