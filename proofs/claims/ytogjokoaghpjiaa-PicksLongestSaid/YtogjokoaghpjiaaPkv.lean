/-
  Who is chosen, and by which pick: the program answers as the reference.
-/
import Derived.Test.YtogjokoaghpjiaaPku
set_option linter.unusedSimpArgs false
set_option linter.unusedVariables false
namespace Go.Proofs.Ytogjokoaghpjiaa
open Go Go.RowKit
attribute [local go_sem] via_cell via_frozen
theorem found_contains {n : Int} {ys : List Int} {p : Int} {i : Nat} {r : Bool} (hc : canB n ys = true) (h : FoundX ys p i r) : ys.contains p = r := by
  obtain ⟨⟨h1, h2, h3⟩, h4⟩ := h
  have hs := canB_sorted hc
  rw [← h4, Bool.eq_iff_iff, decide_eq_true_iff, List.contains_iff_mem]
  constructor
  · intro hm
    obtain ⟨k, hk, e⟩ := List.getElem_of_mem hm
    have ek : ys.getD k 0 = p := by rw [List.getD_eq_getElem?_getD, List.getElem?_eq_getElem hk]; exact e
    have hik : i ≤ k := by
      rcases Nat.lt_or_ge k i with h | h
      · have := h2 k h; omega
      · exact h
    have h5 := h3 i (Nat.le_refl _) (by omega)
    have h6 := hs i k hik hk
    exact ⟨by omega, by omega⟩
  · rintro ⟨hi, e⟩
    rw [← e, List.getD_eq_getElem?_getD, List.getElem?_eq_getElem hi]
    exact List.getElem_mem _
theorem chooseX_at (ys : List Int) (k : Nat) (hk : k < ys.length) : chooseX ys k = ys.getD k 0 := by
  unfold chooseX
  rw [Int.emod_eq_of_lt (by omega) (by omega)]; rfl
set_option maxHeartbeats 4000000 in
theorem Choose_walk (A0 : Option Addr) (c0 n0 : Nat) (xs0 : List Int) (A1 : Option Addr) (c1 n1 : Nat) (xs1 : List Int) (W : World) (h0 : Rd W W.heap.size 1 A0 n0 (Cs encI xs0)) (h1 : Rd W W.heap.size 1 A1 n1 (Cs encI xs1)) (hx0 : xs0.length = n0) (hx1 : xs1.length = n1) (hn0 : n0 ≤ c0) (hm0 : c0 ≤ 9223372036854775807) (hn1 : n1 ≤ c1) (hm1 : c1 ≤ 9223372036854775807) (hu1 : ∀ e ∈ xs1, I64 e) :
    Calls Try.prog 3 #[.slice A0 n0 c0, .slice A1 n1 c1] W fun e W' => e = .returned (.bool true) ∧ Below W.heap.size W W' := by
  have HB := hide (Below.refl W.heap.size W)
  obtain ⟨j, hj⟩ : ∃ j, min n0 10 = j := ⟨_, rfl⟩
  have hjI : min (n0 : Int) 10 = (j : Int) := by omega
  have hj1 : j ≤ n0 := by omega
  have hj3 : j ≤ 10 := by omega
  have hjc : (j : Int) ≤ (c0 : Int) := by omega
  have hcI : (c0 : Int) ≤ 9223372036854775807 := by omega
  have hlI : (n0 : Int) ≤ 9223372036854775807 := by omega
  have HX0 := hide (show Rd W W.heap.size 1 A0 j (Cs encI (xs0.take j)) from by
    have h := h0.take hj1
    rw [← Cs_take encI_len] at h; exact h)
  have HL0 := hide (show (xs0.take j).length = j from by rw [List.length_take]; omega)
  generalize xs0.take j = ys at *
  have HX1 := hide h1
  have HLX := hide hx1
  have HU1 := hide hu1
  have hlI1 : (n1 : Int) ≤ 9223372036854775807 := by omega
  clear h0 h1 hx0 hx1 hn0 hm0 hn1 hm1 hu1 hj
  go_enter Try.func3, Try.ntmps3
  go_wp2_with fail
  with_reducible refine (wakes_any W).mono ?_
  rintro e w1 ⟨rfl, hb⟩
  replace HX0 := hide ((HX0.out.below hb).more hb.size)
  replace HX1 := hide ((HX1.out.below hb).more hb.size)
  replace HB := hide (HB.out.trans (hb.mono HB.out.size))
  clear hb
  go_wp2_with fail
  with_reducible refine (CloneI w1.heap.size A0 j c0 (Cs encI ys) w1 HX0.out (Nat.le_refl _) (Cs_one_cell encI_one _) (by omega)).mono ?_
  rintro e w2 ⟨v3, rfl, hown, hb⟩
  obtain ⟨A3, c3, rfl, hc3, _⟩ := own_form2 hown
  have HO3 := hide (Rd.of_own hown)
  have hc3I : (j : Int) ≤ (c3 : Int) := by omega
  replace HX0 := hide ((HX0.out.below hb).more hb.size)
  replace HX1 := hide ((HX1.out.below hb).more hb.size)
  replace HB := hide (HB.out.trans (hb.mono HB.out.size))
  clear hb hown
  obtain ⟨r, hr⟩ : ∃ r, canB 8 ys = r := ⟨_, rfl⟩
  have HRR := hide hr
  clear hr
  go_wp2_with fail
  with_reducible refine (can_any w2.heap.size A3 c3 j 8 ys w2 HO3.out HL0.out (by omega) (Nat.le_refl _) r HRR.out).mono ?_
  rintro e w3 ⟨rfl, rfl⟩
  go_wp2_with fail
  go_loopw [29] (fun i wr => ∃ k : Nat, k ≤ n1 ∧ k ≤ 12 ∧ i = .int .i64 k ∧ Below w2.heap.size w2 wr) (fun i _ => n1 - (intOf i).toNat)
  case atStart => exact ⟨0, Nat.zero_le _, Nat.zero_le _, rfl, Below.refl _ _⟩
  case round =>
    obtain ⟨k, hk, hk12, rfl, hb⟩ := hrel
    replace HX0 := hide ((HX0.out.below hb).more hb.size)
    replace HX1 := hide ((HX1.out.below hb).more hb.size)
    replace HO3 := hide ((HO3.out.below hb).more hb.size)
    replace HB := hide (HB.out.trans (hb.mono HB.out.size))
    have HBQ := hide hb
    clear hb
    by_cases hlt : k < n1
    · have hkm : (k : Int) < (n1 : Int) := by omega
      obtain ⟨b, o, rfl, hbl, d0⟩ := HX1.out.numD HLX.out hlt
      have hp := HU1.out (xs1.getD k 0) (by rw [List.getD_eq_getElem?_getD, List.getElem?_eq_getElem (show k < xs1.length by rw [HLX.out]; exact hlt)]; exact List.getElem_mem _)
      generalize xs1.getD k 0 = p at *
      by_cases h12 : k = 12
      · have hd12 : ((k : Int) == 12) = true := by rw [beq_iff_eq]; omega
        clear h12
        go_wp2_with fail
        with_reducible refine (EqualIn wr.heap.size wr.heap.size A3 A0 c3 c0 j j ys ys wr HL0.out HL0.out HO3.out HX0.out (Nat.le_refl _) (Nat.le_refl _) (by omega) (by omega) true (by simp)).mono ?_
        rintro e w4 ⟨rfl, hb⟩
        replace HX0 := hide ((HX0.out.below hb).more hb.size)
        replace HX1 := hide ((HX1.out.below hb).more hb.size)
        replace HO3 := hide ((HO3.out.below hb).more hb.size)
        replace HB := hide (HB.out.trans (hb.mono HB.out.size))
        replace HBQ := hide (HBQ.out.trans (hb.mono HBQ.out.size))
        clear hb
        go_wp2_with fail
        go_ret
        exact ⟨rfl, HB.out⟩
      · have hd12 : ((k : Int) == 12) = false := by rw [beq_eq_false_iff_ne]; omega
        cases r with
        | false =>
            go_wp2_with fail
            with_reducible refine (choose_no A3 c3 j ys p wr HO3.out HL0.out (by omega) HRR.out).mono ?_
            rintro e w4 ⟨rfl, hb⟩
            replace HX0 := hide ((HX0.out.below hb).more hb.size)
            replace HX1 := hide ((HX1.out.below hb).more hb.size)
            replace HO3 := hide ((HO3.out.below hb).more hb.size)
            replace HB := hide (HB.out.trans (hb.mono HB.out.size))
            replace HBQ := hide (HBQ.out.trans (hb.mono HBQ.out.size))
            clear hb
            go_wp2_with fail
            with_reducible refine (steer_no A3 c3 j ys p w4 HO3.out HL0.out (by omega) HRR.out).mono ?_
            rintro e w5 ⟨rfl, hb⟩
            replace HX0 := hide ((HX0.out.below hb).more hb.size)
            replace HX1 := hide ((HX1.out.below hb).more hb.size)
            replace HO3 := hide ((HO3.out.below hb).more hb.size)
            replace HB := hide (HB.out.trans (hb.mono HB.out.size))
            replace HBQ := hide (HBQ.out.trans (hb.mono HBQ.out.size))
            clear hb
            go_wp2_with fail
            go_roundw
            case rel => exact ⟨k + 1, by omega, by omega, by go_num, HBQ.out⟩
            case measure => simp [intOf]; omega
        | true =>
            obtain ⟨v, hv⟩ : ∃ v, chooseX ys p = v := ⟨_, rfl⟩
            have HV := hide hv
            clear hv
            go_wp2_with fail
            with_reducible refine (choose_yes A3 c3 j ys p wr HO3.out HL0.out (by omega) HRR.out hp v HV.out).mono ?_
            rintro e w4 ⟨rfl, hb⟩
            replace HX0 := hide ((HX0.out.below hb).more hb.size)
            replace HX1 := hide ((HX1.out.below hb).more hb.size)
            replace HO3 := hide ((HO3.out.below hb).more hb.size)
            replace HB := hide (HB.out.trans (hb.mono HB.out.size))
            replace HBQ := hide (HBQ.out.trans (hb.mono HBQ.out.size))
            clear hb
            go_wp2_with fail
            with_reducible refine (steer_yes A3 c3 j ys p w4 HO3.out HL0.out (by omega) HRR.out).mono ?_
            rintro e w5 ⟨⟨i, q, hf, rfl⟩, hb⟩
            replace HX0 := hide ((HX0.out.below hb).more hb.size)
            replace HX1 := hide ((HX1.out.below hb).more hb.size)
            replace HO3 := hide ((HO3.out.below hb).more hb.size)
            replace HB := hide (HB.out.trans (hb.mono HB.out.size))
            replace HBQ := hide (HBQ.out.trans (hb.mono HBQ.out.size))
            clear hb
            have HF := hide hf
            have HQ := hide (found_contains HRR.out hf)
            have hj0 : 0 < j := by
              have h := canB_ne HRR.out
              have h2 := HL0.out
              cases ys with
              | nil => exact absurd rfl h
              | cons a l => simp at h2; omega
            clear hf
            cases q with
            | false =>
                go_wp2_with fail
                with_reducible refine (rchoose_any A3 c3 j ys p w5 HO3.out HL0.out hj0 (by omega) hp v HV.out).mono ?_
                rintro e w6 ⟨rfl, rfl⟩
                go_wp2_with fail
                with_reducible refine (contains_any w5.heap.size A3 c3 j ys p w5 HO3.out HL0.out (by omega) (Nat.le_refl _) false HQ.out).mono ?_
                rintro e w7 ⟨rfl, rfl⟩
                go_wp2_with fail
                go_roundw
                case rel => exact ⟨k + 1, by omega, by omega, by go_num, HBQ.out⟩
                case measure => simp [intOf]; omega
            | true =>
                go_wp2_with fail
                with_reducible refine (rchoose_any A3 c3 j ys p w5 HO3.out HL0.out hj0 (by omega) hp v HV.out).mono ?_
                rintro e w6 ⟨rfl, rfl⟩
                go_wp2_with fail
                with_reducible refine (contains_any w5.heap.size A3 c3 j ys p w5 HO3.out HL0.out (by omega) (Nat.le_refl _) true HQ.out).mono ?_
                rintro e w7 ⟨rfl, rfl⟩
                obtain ⟨hi, hip⟩ : i < j ∧ ys.getD i 0 = p := by
                  obtain ⟨_, h4⟩ := HF.out
                  rw [decide_eq_true_iff] at h4
                  exact ⟨by have := HL0.out; omega, h4.2⟩
                have HIP := hide hip
                clear hip
                go_wp2_with fail
                go_loopw [14] (fun sp wr => ∃ kk : Nat, kk ≤ i ∧ sp = .int .i64 kk ∧ wr = w5) (fun sp _ => i - (intOf sp).toNat)
                case atStart => exact ⟨0, Nat.zero_le _, rfl, rfl⟩
                case round =>
                  obtain ⟨kk, hkk, rfl, rfl⟩ := hrel
                  have HCH := hide (chooseX_at ys kk (by have := HL0.out; omega))
                  by_cases hki : kk < i
                  · have hne : (ys.getD kk 0 != p) = true := by
                      rw [bne_iff_ne]
                      have := HF.out.1.2.1 kk hki
                      omega
                    generalize ys.getD kk 0 = z at *
                    have HC := hide (rchoose_any A3 c3 j ys kk wr HO3.out HL0.out hj0 (by omega) (by unfold I64; omega) z HCH.out)
                    go_wp2_with fail
                    with_reducible refine HC.out.mono ?_
                    rintro e w9 ⟨rfl, rfl⟩
                    go_wp2_with fail
                    go_roundw
                    case rel => exact ⟨kk + 1, by omega, by go_num, by trivial⟩
                    case measure => simp [intOf]; omega
                  · obtain rfl : kk = i := by omega
                    have hne : (p != p) = false := by simp
                    have HC := hide (rchoose_any A3 c3 j ys kk wr HO3.out HL0.out hj0 (by omega) (by unfold I64; omega) p (HCH.out.trans HIP.out))
                    go_wp2_with fail
                    with_reducible refine HC.out.mono ?_
                    rintro e w9 ⟨rfl, rfl⟩
                    go_wp2_with fail
                    go_roundw
                    case rel => exact ⟨k + 1, by omega, by omega, by go_num, HBQ.out⟩
                    case measure => simp [intOf]; omega
    · have hkm : ¬ (k : Int) < (n1 : Int) := by omega
      go_wp2_with fail
      with_reducible refine (EqualIn wr.heap.size wr.heap.size A3 A0 c3 c0 j j ys ys wr HL0.out HL0.out HO3.out HX0.out (Nat.le_refl _) (Nat.le_refl _) (by omega) (by omega) true (by simp)).mono ?_
      rintro e w4 ⟨rfl, hb⟩
      replace HX0 := hide ((HX0.out.below hb).more hb.size)
      replace HX1 := hide ((HX1.out.below hb).more hb.size)
      replace HO3 := hide ((HO3.out.below hb).more hb.size)
      replace HB := hide (HB.out.trans (hb.mono HB.out.size))
      replace HBQ := hide (HBQ.out.trans (hb.mono HBQ.out.size))
      clear hb
      go_wp2_with fail
      go_ret
      exact ⟨rfl, HB.out⟩
end Go.Proofs.Ytogjokoaghpjiaa
