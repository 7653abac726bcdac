/-
  Who is steered to is chosen, and no less pick chooses that one.
-/
import Derived.Test.YtogjokoaghpjiaaPkv
set_option linter.unusedSimpArgs false
set_option linter.unusedVariables false
namespace Go.Proofs.Ytogjokoaghpjiaa
open Go Go.RowKit
attribute [local go_sem] via_cell via_frozen
theorem u_mod (g : Int) (m : Nat) (hm : 0 < m) (hmb : m ≤ 4096) : ∃ k : Nat, k < m ∧ wrap64 ((IntKind.u64.wrap g).tmod (m : Int)) = (k : Int) := by
  have hwg : IntKind.u64.wrap g = g % 18446744073709551616 := rfl
  have hw0 : 0 ≤ IntKind.u64.wrap g := by rw [hwg]; exact Int.emod_nonneg _ (by decide)
  generalize IntKind.u64.wrap g = u at *
  have h1 := Int.tmod_nonneg (m : Int) hw0
  have h2 := Int.tmod_lt_of_pos u (show (0 : Int) < (m : Int) by omega)
  refine ⟨(u.tmod (m : Int)).toNat, by omega, ?_⟩
  rw [IntWalk.wrap64_in _ (by clear hwg hw0; omega)]
  omega
theorem chooseX_shift (ys : List Int) (i m : Nat) (s : Int) (hi : i < ys.length) (hm : ys.length = m) : chooseX ys ((i : Int) + s * (m : Int)) = ys.getD i 0 := by
  unfold chooseX
  rw [hm, Int.add_mul_emod_self_right, Int.emod_eq_of_lt (by omega) (by omega)]; rfl
set_option maxRecDepth 100000 in
set_option maxHeartbeats 4000000 in
theorem Steers_walk (A0 : Option Addr) (c0 n0 : Nat) (xs0 : List Int) (g1 g2 : Int) (W : World) (h0 : Rd W W.heap.size 1 A0 n0 (Cs encI xs0)) (hx0 : xs0.length = n0) (hn0 : n0 ≤ c0) (hm0 : c0 ≤ 9223372036854775807) (hg1 : I64 g1) (hg2 : I64 g2) :
    Calls Try.prog 6 #[.slice A0 n0 c0, .int .i64 g1, .int .i64 g2] W fun e W' => e = .returned (.bool true) ∧ Below W.heap.size W W' := by
  have HB := hide (Below.refl W.heap.size W)
  obtain ⟨j, hj⟩ : ∃ j, min n0 10 = j := ⟨_, rfl⟩
  have hjI : min (n0 : Int) 10 = (j : Int) := by omega
  have hj1 : j ≤ n0 := by omega
  have hj3 : j ≤ 10 := by omega
  have hjc : (j : Int) ≤ (c0 : Int) := by omega
  have hcI : (c0 : Int) ≤ 9223372036854775807 := by omega
  have hlI : (n0 : Int) ≤ 9223372036854775807 := by omega
  have HX0 := hide (show Rd W W.heap.size 1 A0 j (Cs encI (xs0.take j)) from by
    have h := h0.take hj1
    rw [← Cs_take encI_len] at h; exact h)
  have HL0 := hide (show (xs0.take j).length = j from by rw [List.length_take]; omega)
  generalize xs0.take j = ys at *
  clear h0 hx0 hn0 hm0 hj hg1 hg2
  go_enter Try.func6, Try.ntmps6
  go_wp2_with fail
  with_reducible refine (wakes_any W).mono ?_
  rintro e w1 ⟨rfl, hb⟩
  replace HX0 := hide ((HX0.out.below hb).more hb.size)
  replace HB := hide (HB.out.trans (hb.mono HB.out.size))
  clear hb
  go_wp2_with fail
  with_reducible refine (CloneI w1.heap.size A0 j c0 (Cs encI ys) w1 HX0.out (Nat.le_refl _) (Cs_one_cell encI_one _) (by omega)).mono ?_
  rintro e w2 ⟨v3, rfl, hown, hb⟩
  obtain ⟨A3, c3, rfl, hc3, _⟩ := own_form2 hown
  have HO3 := hide (Rd.of_own hown)
  have hc3I : (j : Int) ≤ (c3 : Int) := by omega
  replace HX0 := hide ((HX0.out.below hb).more hb.size)
  replace HB := hide (HB.out.trans (hb.mono HB.out.size))
  clear hb hown
  cases hr : canB 8 ys with
  | false =>
    have HRR := hide hr
    clear hr
    go_wp2_with fail
    with_reducible refine (choose_no A3 c3 j ys 0 w2 HO3.out HL0.out (by omega) HRR.out).mono ?_
    rintro e w3 ⟨rfl, hb⟩
    replace HX0 := hide ((HX0.out.below hb).more hb.size)
    replace HO3 := hide ((HO3.out.below hb).more hb.size)
    replace HB := hide (HB.out.trans (hb.mono HB.out.size))
    clear hb
    go_wp2_with fail
    with_reducible refine (steer_no A3 c3 j ys 0 w3 HO3.out HL0.out (by omega) HRR.out).mono ?_
    rintro e w4 ⟨rfl, hb⟩
    replace HX0 := hide ((HX0.out.below hb).more hb.size)
    replace HO3 := hide ((HO3.out.below hb).more hb.size)
    replace HB := hide (HB.out.trans (hb.mono HB.out.size))
    clear hb
    go_wp2_with fail
    go_ret
    exact ⟨rfl, HB.out⟩
  | true =>
    have HRR := hide hr
    clear hr
    have hj0 : 0 < j := by
      have h := canB_ne HRR.out
      have h2 := HL0.out
      cases ys with
      | nil => exact absurd rfl h
      | cons a l => simp at h2; omega
    go_wp2_with fail
    with_reducible refine (choose_yes A3 c3 j ys 0 w2 HO3.out HL0.out (by omega) HRR.out (by unfold I64; omega) _ rfl).mono ?_
    rintro e w3 ⟨rfl, hb⟩
    replace HX0 := hide ((HX0.out.below hb).more hb.size)
    replace HO3 := hide ((HO3.out.below hb).more hb.size)
    replace HB := hide (HB.out.trans (hb.mono HB.out.size))
    clear hb
    go_upto_region 8 with (fail)
    obtain ⟨a, ha, hix⟩ := u_mod g1 j hj0 (by omega)
    have haI : (a : Int) < (j : Int) := by omega
    obtain ⟨b, o, rfl, hbl, d0⟩ := HO3.out.numD HL0.out ha
    have hz : ((j : Int) == 0) = false := by rw [beq_eq_false_iff_ne]; omega
    have hz2 : ¬ (j : Int) = 0 := by omega
    have HM := hide (show ys.contains (ys.getD a 0) = true from by
      rw [List.contains_iff_mem, List.getD_eq_getElem?_getD, List.getElem?_eq_getElem (show a < ys.length by have := HL0.out; omega)]; exact List.getElem_mem _)
    generalize ys.getD a 0 = who at *
    obtain ⟨q0, hq0⟩ : ∃ q0, chooseX ys 0 = q0 := ⟨_, rfl⟩
    rw [hq0]
    clear hq0
    go_wp2_with fail
    with_reducible refine (steer_yes (some ⟨b, o, none⟩) c3 j ys who w3 HO3.out HL0.out (by omega) HRR.out).mono ?_
    rintro e w4 ⟨⟨i, q, hf, rfl⟩, hb⟩
    replace HX0 := hide ((HX0.out.below hb).more hb.size)
    replace HO3 := hide ((HO3.out.below hb).more hb.size)
    replace HB := hide (HB.out.trans (hb.mono HB.out.size))
    clear hb
    obtain rfl : true = q := HM.out.symm.trans (found_contains HRR.out hf)
    obtain ⟨hi, hip⟩ : i < j ∧ ys.getD i 0 = who := by
      obtain ⟨_, h4⟩ := hf
      rw [decide_eq_true_iff] at h4
      exact ⟨by have := HL0.out; omega, h4.2⟩
    have HIP := hide hip
    have HF := hide hf
    have hiI : (i : Int) < (j : Int) := by omega
    have HSH := hide (fun s => (chooseX_shift ys i j s (by have := HL0.out; omega) HL0.out).trans hip)
    have HCI := hide ((chooseX_at ys i (by have := HL0.out; omega)).trans hip)
    clear hip hf hix d0 hbl
    go_wp2_with fail
    with_reducible refine (choose_yes (some ⟨b, o, none⟩) c3 j ys (i : Int) w4 HO3.out HL0.out (by omega) HRR.out (by unfold I64; omega) who HCI.out).mono ?_
    rintro e w5 ⟨rfl, hb⟩
    replace HX0 := hide ((HX0.out.below hb).more hb.size)
    replace HO3 := hide ((HO3.out.below hb).more hb.size)
    replace HB := hide (HB.out.trans (hb.mono HB.out.size))
    clear hb
    have hd1 : (who != who) = false := by simp
    have hd2 : decide ((i : Int) < 0) = false := by simp
    have hd3 : decide (j ≤ i) = false := by simp; omega
    go_wp2_with fail
    go_loopw [94] (fun si wr => ∃ k : Nat, k ≤ i ∧ si = .int .i64 k ∧ Below w5.heap.size w5 wr) (fun si _ => i - (intOf si).toNat)
    case atStart => exact ⟨0, Nat.zero_le _, rfl, Below.refl _ _⟩
    case round =>
      obtain ⟨k, hk, rfl, hb⟩ := hrel
      replace HX0 := hide ((HX0.out.below hb).more hb.size)
      replace HO3 := hide ((HO3.out.below hb).more hb.size)
      replace HB := hide (HB.out.trans (hb.mono HB.out.size))
      have HBQ := hide hb
      clear hb
      by_cases hlt : k < i
      · have hkm : (k : Int) < (i : Int) := by omega
        have hne : (ys.getD k 0 == who) = false := by
          rw [beq_eq_false_iff_ne]
          have := HF.out.1.2.1 k hlt
          omega
        have HCK := hide (chooseX_at ys k (by have := HL0.out; omega))
        generalize ys.getD k 0 = z at *
        go_wp2_with fail
        with_reducible refine (choose_yes (some ⟨b, o, none⟩) c3 j ys (k : Int) wr HO3.out HL0.out (by omega) HRR.out (by unfold I64; omega) z HCK.out).mono ?_
        rintro e w6 ⟨rfl, hb⟩
        replace HX0 := hide ((HX0.out.below hb).more hb.size)
        replace HO3 := hide ((HO3.out.below hb).more hb.size)
        replace HB := hide (HB.out.trans (hb.mono HB.out.size))
        replace HBQ := hide (HBQ.out.trans (hb.mono HBQ.out.size))
        clear hb
        go_wp2_with fail
        go_roundw
        case rel => exact ⟨k + 1, by omega, by go_num, HBQ.out⟩
        case measure => simp [intOf]; omega
      · have hkm : ¬ (k : Int) < (i : Int) := by omega
        obtain ⟨mm, hmm, hix⟩ := u_mod g2 1000 (by omega) (by omega)
        have hc9 : ((1000 : Nat) : Int) = 1000 := rfl
        rw [hc9] at hix
        clear hc9
        have hm1 : (mm : Int) * (j : Int) ≤ 1000 * 10 := Int.mul_le_mul (by omega) (by omega) (by omega) (by omega)
        have hm0 : 0 ≤ (mm : Int) * (j : Int) := Int.mul_nonneg (by omega) (by omega)
        have HS1 := hide (HSH.out (mm : Int))
        have HS2 := hide (show chooseX ys ((i : Int) - (mm : Int) * (j : Int)) = who from by
          have h := HSH.out (-(mm : Int))
          rw [Int.neg_mul] at h
          rw [Int.sub_eq_add_neg]; exact h)
        have hw1 : wrap64 ((mm : Int) * (j : Int)) = (mm : Int) * (j : Int) := IntWalk.wrap64_in _ (by omega)
        have hw2 : wrap64 ((i : Int) + (mm : Int) * (j : Int)) = (i : Int) + (mm : Int) * (j : Int) := IntWalk.wrap64_in _ (by clear hw1; omega)
        have hw3 : wrap64 ((i : Int) - (mm : Int) * (j : Int)) = (i : Int) - (mm : Int) * (j : Int) := IntWalk.wrap64_in _ (by clear hw1 hw2; omega)
        have HI1 := hide (show I64 ((i : Int) + (mm : Int) * (j : Int)) from by clear hw1 hw2 hw3; unfold I64; omega)
        have HI2 := hide (show I64 ((i : Int) - (mm : Int) * (j : Int)) from by clear hw1 hw2 hw3; unfold I64; omega)
        clear hm0 hm1
        go_wp2_with fail
        with_reducible refine (choose_yes (some ⟨b, o, none⟩) c3 j ys ((i : Int) + (mm : Int) * (j : Int)) wr HO3.out HL0.out (by omega) HRR.out HI1.out who HS1.out).mono ?_
        rintro e w6 ⟨rfl, hb⟩
        replace HX0 := hide ((HX0.out.below hb).more hb.size)
        replace HO3 := hide ((HO3.out.below hb).more hb.size)
        replace HB := hide (HB.out.trans (hb.mono HB.out.size))
        replace HBQ := hide (HBQ.out.trans (hb.mono HBQ.out.size))
        clear hb
        go_wp2_with fail
        with_reducible refine (choose_yes (some ⟨b, o, none⟩) c3 j ys ((i : Int) - (mm : Int) * (j : Int)) w6 HO3.out HL0.out (by omega) HRR.out HI2.out who HS2.out).mono ?_
        rintro e w7 ⟨rfl, hb⟩
        replace HX0 := hide ((HX0.out.below hb).more hb.size)
        replace HO3 := hide ((HO3.out.below hb).more hb.size)
        replace HB := hide (HB.out.trans (hb.mono HB.out.size))
        replace HBQ := hide (HBQ.out.trans (hb.mono HBQ.out.size))
        clear hb
        have hd4 : (who == who) = true := by simp
        go_wp2_with fail
        go_ret
        exact ⟨rfl, HB.out⟩
end Go.Proofs.Ytogjokoaghpjiaa
