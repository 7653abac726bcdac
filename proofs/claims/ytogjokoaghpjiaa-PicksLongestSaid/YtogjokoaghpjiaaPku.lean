/-
  Who waits longest: the program answers as the reference.
-/
import Derived.Test.YtogjokoaghpjiaaPkt
set_option linter.unusedSimpArgs false
set_option linter.unusedVariables false
namespace Go.Proofs.Ytogjokoaghpjiaa
open Go Go.RowKit
attribute [local go_sem] via_cell via_frozen
set_option maxHeartbeats 4000000 in
theorem Next_walk (n : Int) (A1 : Option Addr) (c1 n1 : Nat) (xs1 : List Tm) (A2 : Option Addr) (c2 n2 : Nat) (xs2 : List Int) (W : World) (h1 : RT W W.heap.size A1 n1 xs1) (h2 : Rd W W.heap.size 1 A2 n2 (Cs encI xs2)) (hx2 : xs2.length = n2) (hn1 : n1 ≤ c1) (hm1 : c1 ≤ 9223372036854775807) (hcap : CapT xs1) (hn2 : n2 ≤ c2) (hm2 : c2 ≤ 9223372036854775807) :
    Calls Try.prog 8 #[.int .i64 n, .slice A1 n1 c1, .slice A2 n2 c2] W fun e W' => e = .returned (.bool true) ∧ Below W.heap.size W W' := by
  have HB := hide (Below.refl W.heap.size W)
  have HX1 := hide h1
  have HN1 := hide hn1
  have HM1 := hide hm1
  have HCAP := hide hcap
  obtain ⟨j2, hj2⟩ : ∃ j2, min n2 10 = j2 := ⟨_, rfl⟩
  have hjI : min (n2 : Int) 10 = (j2 : Int) := by omega
  have hj1 : j2 ≤ n2 := by omega
  have hj3 : j2 ≤ 10 := by omega
  have hjc : (j2 : Int) ≤ (c2 : Int) := by omega
  have hcI : (c2 : Int) ≤ 9223372036854775807 := by omega
  have hlI : (n2 : Int) ≤ 9223372036854775807 := by omega
  have HX2 := hide (show Rd W W.heap.size 1 A2 j2 (Cs encI (xs2.take j2)) from by
    have h := h2.take hj1
    rw [← Cs_take encI_len] at h; exact h)
  have HL2 := hide (show (xs2.take j2).length = j2 from by rw [List.length_take]; omega)
  generalize xs2.take j2 = ys2 at *
  clear h1 h2 hn1 hm1 hcap hx2 hn2 hm2 hj2
  go_enter Try.func8, Try.ntmps8
  go_wp2_with fail
  with_reducible refine (wakes_any W).mono ?_
  rintro e w1 ⟨rfl, hb⟩
  replace HX2 := hide ((HX2.out.below hb).more hb.size)
  replace HX1 := hide (HX1.out.belowS hb)
  replace HB := hide (HB.out.trans (hb.mono HB.out.size))
  clear hb
  go_wp2_with fail
  have HF := hide (few_any A1 c1 n1 xs1 w1.drew (HX1.out.belowS (Below.refl _ _).drew) HN1.out HM1.out (capT HCAP.out))
  have HCL := hide (fun (w' : World) (hb : Below w1.drew.heap.size w1.drew w') => CloneI w'.heap.size A2 j2 c2 (Cs encI ys2) w' (((HX2.out.drew).below (hb.mono (Nat.le_refl _))).more hb.size) (Nat.le_refl _) (Cs_one_cell encI_one _) (by omega))
  go_region_held3 (fun wX => True)
    (first | trivial | go_keep)
    (first
      | (go_at_call 21; (with_reducible refine HF.out.mono ?_); rintro e wf ⟨⟨Af1, mf1, cf1, us1, rfl, hmc, hcm, hm40, hul, hfew⟩, hbf⟩)
      | (go_at_call 10; (with_reducible refine (HCL.out _ hbf).mono ?_); rintro e wg ⟨vg, rfl, hown, hbg⟩))
  all_goals
    have hb : Below w1.heap.size w1 wg := ((Below.refl _ _).drew.trans hbf).trans (hbg.mono hbf.size)
    obtain ⟨A3, c3, rfl, hc3, _⟩ := own_form2 hown
    replace hfew := (show FewAt _ wg _ us1 _ from hfew.made.below hbg)
    have HRT1 := hide (hfew.made.rt hul)
    have HSM1 := hide (show SmallT us1 from hfew.made.small (Nat.le_trans (fewX_len _) (by omega)))
    have HTN1 := hide (show tns us1 = fewX (tns xs1) from hfew.2.1)
    have HMC1 := hide hmc
    have HM401 := hide hm40
    have hcmI1 : (mf1 : Int) ≤ (cf1 : Int) := by omega
    have HAF1 := hide (own_addr hfew.1.own)
    clear hmc hcm hm40 hul hfew
    replace HX2 := hide ((HX2.out.below hb).more hb.size)
    replace HX1 := hide (HX1.out.belowS hb)
    replace HB := hide (HB.out.trans (hb.mono HB.out.size))
    have HO3 := hide (Rd.of_own hown)
    have hc3I : (j2 : Int) ≤ (c3 : Int) := by omega
    clear hb hbf hbg hown HF HCL
    obtain ⟨z, hz⟩ : ∃ z, nextP n (tns us1) ys2 = z := ⟨_, rfl⟩
    have HZ := hide hz
    clear hz
    go_wp2_with fail
    with_reducible refine (next_any wg.heap.size Af1 A3 cf1 mf1 c3 j2 n us1 ys2 wg HRT1.out HO3.out HL2.out (by omega) (Nat.le_refl _) HSM1.out z HZ.out).mono ?_
    rintro e w2 ⟨rfl, hb⟩
    replace HX2 := hide ((HX2.out.below hb).more hb.size)
    replace HO3 := hide ((HO3.out.below hb).more hb.size)
    replace HX1 := hide (HX1.out.belowS hb)
    replace HRT1 := hide (HRT1.out.belowS hb)
    replace HB := hide (HB.out.trans (hb.mono HB.out.size))
    clear hb
    obtain ⟨r, hr⟩ : ∃ r, rightB n (tns us1) = r := ⟨_, rfl⟩
    have HRR := hide hr
    clear hr
    go_wp2_with fail
    with_reducible refine (right_any w2.heap.size Af1 cf1 mf1 n us1 w2 HRT1.out (Nat.le_refl _) HSM1.out r HRR.out).mono ?_
    rintro e w3 ⟨rfl, hb⟩
    replace HX2 := hide ((HX2.out.below hb).more hb.size)
    replace HO3 := hide ((HO3.out.below hb).more hb.size)
    replace HX1 := hide (HX1.out.belowS hb)
    replace HRT1 := hide (HRT1.out.belowS hb)
    replace HB := hide (HB.out.trans (hb.mono HB.out.size))
    clear hb
    cases r with
    | false =>
        have HP := hide (show nextP n (tns us1) ys2 = (0, 140) from by unfold nextP; rw [HRR.out]; rfl)
        have e1 : z.1 = 0 := by rw [← HZ.out, HP.out]
        have e2 : z.2 = 140 := by rw [← HZ.out, HP.out]
        obtain ⟨z1, z2⟩ := z
        dsimp only at e1 e2 ⊢
        subst e1 e2
        go_wp2_with fail
        with_reducible refine (few_any A1 c1 n1 xs1 w3 HX1.out HN1.out HM1.out (capT HCAP.out)).mono ?_
        rintro e w4 ⟨⟨Af2, mf2, cf2, us2, rfl, hmc, hcm, hm40, hul, hfew⟩, hb⟩
        have HRT2 := hide (hfew.made.rt hul)
        have HSM2 := hide (show SmallT us2 from hfew.made.small (Nat.le_trans (fewX_len _) (by omega)))
        have HTN2 := hide (show tns us2 = fewX (tns xs1) from hfew.2.1)
        have HMC2 := hide hmc
        have HM402 := hide hm40
        have hcmI2 : (mf2 : Int) ≤ (cf2 : Int) := by omega
        have HAF2 := hide (own_addr hfew.1.own)
        clear hmc hcm hm40 hul hfew
        replace HX2 := hide ((HX2.out.below hb).more hb.size)
        replace HO3 := hide ((HO3.out.below hb).more hb.size)
        replace HX1 := hide (HX1.out.belowS hb)
        replace HRT1 := hide (HRT1.out.belowS hb)
        replace HB := hide (HB.out.trans (hb.mono HB.out.size))
        clear hb
        go_wp2_with fail
        with_reducible refine (same_any w4.heap.size w4.heap.size Af1 Af2 cf1 cf2 mf1 mf2 us1 us2 w4 HRT1.out HRT2.out (Nat.le_refl _) (Nat.le_refl _) HSM1.out HSM2.out true (by rw [HTN1.out, HTN2.out]; simp)).mono ?_
        rintro e w5 ⟨rfl, hb⟩
        replace HX2 := hide ((HX2.out.below hb).more hb.size)
        replace HO3 := hide ((HO3.out.below hb).more hb.size)
        replace HX1 := hide (HX1.out.belowS hb)
        replace HRT1 := hide (HRT1.out.belowS hb)
        replace HRT2 := hide (HRT2.out.belowS hb)
        replace HB := hide (HB.out.trans (hb.mono HB.out.size))
        clear hb
        go_wp2_with fail
        with_reducible refine (EqualIn w5.heap.size w5.heap.size A3 A2 c3 c2 j2 j2 ys2 ys2 w5 HL2.out HL2.out HO3.out HX2.out (Nat.le_refl _) (Nat.le_refl _) (by omega) (by omega) true (by simp)).mono ?_
        rintro e w6 ⟨rfl, hb⟩
        replace HX2 := hide ((HX2.out.below hb).more hb.size)
        replace HO3 := hide ((HO3.out.below hb).more hb.size)
        replace HX1 := hide (HX1.out.belowS hb)
        replace HRT1 := hide (HRT1.out.belowS hb)
        replace HRT2 := hide (HRT2.out.belowS hb)
        replace HB := hide (HB.out.trans (hb.mono HB.out.size))
        clear hb
        go_wp2_with fail
        go_ret
        exact ⟨rfl, HB.out⟩
    | true =>
      obtain ⟨q, hq⟩ : ∃ q, canB n ys2 = q := ⟨_, rfl⟩
      have HQ := hide hq
      clear hq
      go_wp2_with fail
      with_reducible refine (can_any w3.heap.size A3 c3 j2 n ys2 w3 HO3.out HL2.out (by omega) (Nat.le_refl _) q HQ.out).mono ?_
      rintro e w4 ⟨rfl, rfl⟩
      cases q with
      | false =>
          have HP := hide (show nextP n (tns us1) ys2 = (0, 2) from by unfold nextP; rw [HRR.out, HQ.out]; rfl)
          have e1 : z.1 = 0 := by rw [← HZ.out, HP.out]
          have e2 : z.2 = 2 := by rw [← HZ.out, HP.out]
          obtain ⟨z1, z2⟩ := z
          dsimp only at e1 e2 ⊢
          subst e1 e2
          go_wp2_with fail
          with_reducible refine (few_any A1 c1 n1 xs1 w3 HX1.out HN1.out HM1.out (capT HCAP.out)).mono ?_
          rintro e w5 ⟨⟨Af2, mf2, cf2, us2, rfl, hmc, hcm, hm40, hul, hfew⟩, hb⟩
          have HRT2 := hide (hfew.made.rt hul)
          have HSM2 := hide (show SmallT us2 from hfew.made.small (Nat.le_trans (fewX_len _) (by omega)))
          have HTN2 := hide (show tns us2 = fewX (tns xs1) from hfew.2.1)
          have HMC2 := hide hmc
          have HM402 := hide hm40
          have hcmI2 : (mf2 : Int) ≤ (cf2 : Int) := by omega
          have HAF2 := hide (own_addr hfew.1.own)
          clear hmc hcm hm40 hul hfew
          replace HX2 := hide ((HX2.out.below hb).more hb.size)
          replace HO3 := hide ((HO3.out.below hb).more hb.size)
          replace HX1 := hide (HX1.out.belowS hb)
          replace HRT1 := hide (HRT1.out.belowS hb)
          replace HB := hide (HB.out.trans (hb.mono HB.out.size))
          clear hb
          go_wp2_with fail
          with_reducible refine (same_any w5.heap.size w5.heap.size Af1 Af2 cf1 cf2 mf1 mf2 us1 us2 w5 HRT1.out HRT2.out (Nat.le_refl _) (Nat.le_refl _) HSM1.out HSM2.out true (by rw [HTN1.out, HTN2.out]; simp)).mono ?_
          rintro e w6 ⟨rfl, hb⟩
          replace HX2 := hide ((HX2.out.below hb).more hb.size)
          replace HO3 := hide ((HO3.out.below hb).more hb.size)
          replace HX1 := hide (HX1.out.belowS hb)
          replace HRT1 := hide (HRT1.out.belowS hb)
          replace HRT2 := hide (HRT2.out.belowS hb)
          replace HB := hide (HB.out.trans (hb.mono HB.out.size))
          clear hb
          go_wp2_with fail
          with_reducible refine (EqualIn w6.heap.size w6.heap.size A3 A2 c3 c2 j2 j2 ys2 ys2 w6 HL2.out HL2.out HO3.out HX2.out (Nat.le_refl _) (Nat.le_refl _) (by omega) (by omega) true (by simp)).mono ?_
          rintro e w7 ⟨rfl, hb⟩
          replace HX2 := hide ((HX2.out.below hb).more hb.size)
          replace HO3 := hide ((HO3.out.below hb).more hb.size)
          replace HX1 := hide (HX1.out.belowS hb)
          replace HRT1 := hide (HRT1.out.belowS hb)
          replace HRT2 := hide (HRT2.out.belowS hb)
          replace HB := hide (HB.out.trans (hb.mono HB.out.size))
          clear hb
          go_wp2_with fail
          go_ret
          exact ⟨rfl, HB.out⟩
      | true =>
          have HP := hide (show nextP n (tns us1) ys2 = (nextX (tns us1) ys2, 0) from by unfold nextP; rw [HRR.out, HQ.out]; rfl)
          have hj0 : 0 < j2 := by
            have h := canB_ne HQ.out
            have h2 := HL2.out
            cases ys2 with
            | nil => exact absurd rfl h
            | cons a l => simp at h2; omega
          go_wp2_with fail
          with_reducible refine (rnext_any w3.heap.size Af1 A3 cf1 mf1 c3 j2 us1 ys2 w3 HRT1.out HO3.out HL2.out hj0 (by omega) (Nat.le_refl _) HSM1.out _ rfl).mono ?_
          rintro e w5 ⟨rfl, hb⟩
          replace HX2 := hide ((HX2.out.below hb).more hb.size)
          replace HO3 := hide ((HO3.out.below hb).more hb.size)
          replace HX1 := hide (HX1.out.belowS hb)
          replace HRT1 := hide (HRT1.out.belowS hb)
          replace HB := hide (HB.out.trans (hb.mono HB.out.size))
          clear hb
          have e1 : z.1 = nextX (tns us1) ys2 := by rw [← HZ.out, HP.out]
          have e2 : z.2 = 0 := by rw [← HZ.out, HP.out]
          obtain ⟨z1, z2⟩ := z
          dsimp only at e1 e2 ⊢
          subst e1 e2
          go_wp2_with fail
          with_reducible refine (few_any A1 c1 n1 xs1 w5 HX1.out HN1.out HM1.out (capT HCAP.out)).mono ?_
          rintro e w6 ⟨⟨Af2, mf2, cf2, us2, rfl, hmc, hcm, hm40, hul, hfew⟩, hb⟩
          have HRT2 := hide (hfew.made.rt hul)
          have HSM2 := hide (show SmallT us2 from hfew.made.small (Nat.le_trans (fewX_len _) (by omega)))
          have HTN2 := hide (show tns us2 = fewX (tns xs1) from hfew.2.1)
          have HMC2 := hide hmc
          have HM402 := hide hm40
          have hcmI2 : (mf2 : Int) ≤ (cf2 : Int) := by omega
          have HAF2 := hide (own_addr hfew.1.own)
          clear hmc hcm hm40 hul hfew
          replace HX2 := hide ((HX2.out.below hb).more hb.size)
          replace HO3 := hide ((HO3.out.below hb).more hb.size)
          replace HX1 := hide (HX1.out.belowS hb)
          replace HRT1 := hide (HRT1.out.belowS hb)
          replace HB := hide (HB.out.trans (hb.mono HB.out.size))
          clear hb
          go_wp2_with fail
          with_reducible refine (same_any w6.heap.size w6.heap.size Af1 Af2 cf1 cf2 mf1 mf2 us1 us2 w6 HRT1.out HRT2.out (Nat.le_refl _) (Nat.le_refl _) HSM1.out HSM2.out true (by rw [HTN1.out, HTN2.out]; simp)).mono ?_
          rintro e w7 ⟨rfl, hb⟩
          replace HX2 := hide ((HX2.out.below hb).more hb.size)
          replace HO3 := hide ((HO3.out.below hb).more hb.size)
          replace HX1 := hide (HX1.out.belowS hb)
          replace HRT1 := hide (HRT1.out.belowS hb)
          replace HRT2 := hide (HRT2.out.belowS hb)
          replace HB := hide (HB.out.trans (hb.mono HB.out.size))
          clear hb
          go_wp2_with fail
          with_reducible refine (EqualIn w7.heap.size w7.heap.size A3 A2 c3 c2 j2 j2 ys2 ys2 w7 HL2.out HL2.out HO3.out HX2.out (Nat.le_refl _) (Nat.le_refl _) (by omega) (by omega) true (by simp)).mono ?_
          rintro e w8 ⟨rfl, hb⟩
          replace HX2 := hide ((HX2.out.below hb).more hb.size)
          replace HO3 := hide ((HO3.out.below hb).more hb.size)
          replace HX1 := hide (HX1.out.belowS hb)
          replace HRT1 := hide (HRT1.out.belowS hb)
          replace HRT2 := hide (HRT2.out.belowS hb)
          replace HB := hide (HB.out.trans (hb.mono HB.out.size))
          clear hb
          go_wp2_with fail
          go_ret
          exact ⟨rfl, HB.out⟩
end Go.Proofs.Ytogjokoaghpjiaa
