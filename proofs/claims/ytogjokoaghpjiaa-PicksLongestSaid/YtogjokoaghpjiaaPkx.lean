/-
  A part of turns lets nobody be hungry who is not; fair turns have laps.
-/
import Derived.Test.YtogjokoaghpjiaaPkxp
import Derived.BigQuiet
import Derived.Deep.QuietTactic
set_option linter.unusedSimpArgs false
set_option linter.unusedVariables false
namespace Go.Proofs.Ytogjokoaghpjiaa
open Go Go.RowKit
attribute [local go_sem] via_cell via_frozen
theorem rightB_part {n : Nat} {l : List Tn} (h : rightB (n : Int) l = true) (f k : Nat) : rightB (n : Int) ((l.drop f).take k) = true := by
  unfold rightB at h ⊢
  simp only [Bool.and_eq_true, decide_eq_true_eq, List.all_eq_true] at h ⊢
  exact ⟨h.1, fun t ht => h.2 t (List.mem_of_mem_drop (List.mem_of_mem_take ht))⟩
theorem split_part (l : List Tn) (f k : Nat) : l = l.take f ++ (l.drop f).take k ++ (l.drop f).drop k := by
  rw [List.append_assoc, List.take_append_drop, List.take_append_drop]
theorem quo_le (m lw q : Nat) (h1 : 1 ≤ lw) (hm : m ≤ 40) (h : m ≤ q * lw + (lw - 1)) : decide (wrap64 ((m : Int) / (lw : Int)) ≤ (q : Int)) = true := by
  have h2 : m / lw < q + 1 := (Nat.div_lt_iff_lt_mul (by omega)).2 (by rw [Nat.add_mul]; omega)
  have h3 : m / lw ≤ m := Nat.div_le_self _ _
  have e : (m : Int) / (lw : Int) = ((m / lw : Nat) : Int) := rfl
  rw [e]
  clear e
  generalize m / lw = d at h2 h3 ⊢
  rw [IntWalk.wrap64_in _ (by omega)]
  simp
  omega
def sumTo (l : List Int) (k : Nat) : Int := (l.take k).sum
theorem sumTo_succ (l : List Int) (k : Nat) (hk : k < l.length) : sumTo l (k + 1) = sumTo l k + l.getD k 0 := by
  unfold sumTo
  rw [List.take_succ_eq_append_getElem hk, List.sum_append, List.getD_eq_getElem?_getD, List.getElem?_eq_getElem hk]
  simp
theorem sumTo_le (n : Nat) (l : List Tn) (k : Nat) : 0 ≤ sumTo (sharesX n l) k ∧ sumTo (sharesX n l) k ≤ (n : Int) * l.length := by
  have h : ∀ x ∈ sharesX n l, 0 ≤ x ∧ x ≤ (l.length : Int) := by
    intro x hx
    unfold sharesX at hx
    obtain ⟨g, _, rfl⟩ := List.mem_map.1 hx
    have := List.length_filter_le (fun t : Tn => t.2 == g) l
    exact ⟨by omega, by omega⟩
  have hg : ∀ m : List Int, (∀ x ∈ m, 0 ≤ x ∧ x ≤ (l.length : Int)) → 0 ≤ m.sum ∧ m.sum ≤ (m.length : Int) * l.length := by
    intro m
    induction m with
    | nil => intro _; simp
    | cons x m ih =>
      intro hm
      have h1 := ih (fun y hy => hm y (by simp [hy]))
      have h2 := hm x (by simp)
      rw [List.sum_cons, List.length_cons]
      have e : ((m.length + 1 : Nat) : Int) * l.length = (m.length : Int) * l.length + l.length := by
        rw [Int.natCast_add, Int.add_mul]; simp
      rw [e]
      omega
  have h1 := hg ((sharesX n l).take k) (fun x hx => h x (List.mem_of_mem_take hx))
  unfold sumTo
  refine ⟨h1.1, Int.le_trans h1.2 (Int.mul_le_mul_of_nonneg_right ?_ (by omega))⟩
  rw [List.length_take, sharesX_length]
  omega
set_option maxRecDepth 100000 in
set_option maxHeartbeats 8000000 in
theorem Parts_walk (n : Int) (A1 : Option Addr) (c1 n1 : Nat) (xs1 : List Tm) (pa pb : Int) (W : World) (h1 : RT W W.heap.size A1 n1 xs1) (hn1 : n1 ≤ c1) (hm1 : c1 ≤ 9223372036854775807) (hcap : CapT xs1) (hpa : I64 pa) (hpb : I64 pb) :
    Calls Try.prog 5 #[.int .i64 n, .slice A1 n1 c1, .agg #[.int .i64 pa, .int .i64 pb]] W fun e W' => e = .returned (.bool true) ∧ Below W.heap.size W W' := by
  have hbx : Below W.heap.size W (W.alloc (.cells #[.int .i64 pa, .int .i64 pb] 42)) := (Below.refl _ _).alloc (Nat.le_refl _) _
  have HB := hide hbx
  have HX1 := hide (h1.belowS hbx)
  have HN1 := hide hn1
  have HM1 := hide hm1
  have HCAP := hide hcap
  have RP := hide (RowAt.new W 42 #[.int .i64 pa, .int .i64 pb])
  clear h1 hn1 hm1 hcap hpa hpb hbx
  go_enter Try.func5, Try.ntmps5
  go_wp2_with fail
  generalize W.alloc (.cells #[.int .i64 pa, .int .i64 pb] 42) = w0 at *
  with_reducible refine (wakes_any w0).mono ?_
  rintro e w1 ⟨rfl, hb⟩
  replace RP := hide (RP.out.below hb)
  replace HX1 := hide (HX1.out.belowS hb)
  replace HB := hide (HB.out.trans (hb.mono HB.out.size))
  clear hb
  go_wp2_with fail
  with_reducible refine (few_any A1 c1 n1 xs1 w1 HX1.out HN1.out HM1.out (capT HCAP.out)).mono ?_
  rintro e w2 ⟨⟨Af1, mf1, cf1, us1, rfl, hmc, hcm, hm40, hul, hfew⟩, hb⟩
  have HRT1 := hide (hfew.made.rt hul)
  have HSM1 := hide (show SmallT us1 from hfew.made.small (Nat.le_trans (fewX_len _) (by omega)))
  have HTN1 := hide (show tns us1 = fewX (tns xs1) from hfew.2.1)
  have HMC1 := hide hmc
  have HM401 := hide hm40
  have hcmI1 : (mf1 : Int) ≤ (cf1 : Int) := by omega
  have HAF1 := hide (own_addr hfew.1.own)
  clear hmc hcm hm40 hul hfew
  replace RP := hide (RP.out.below hb)
  replace HX1 := hide (HX1.out.belowS hb)
  replace HB := hide (HB.out.trans (hb.mono HB.out.size))
  clear hb
  have HLT := hide (show (tns us1).length = mf1 from by rw [tns_len]; exact HRT1.out.len)
  cases hr : rightB n (tns us1) with
  | false =>
    have HRR := hide hr
    clear hr
    go_wp2_with fail
    with_reducible refine (check_any w2.heap.size Af1 cf1 mf1 n us1 w2 HRT1.out (Nat.le_refl _) HSM1.out 140 (by rw [HRR.out, errT_no])).mono ?_
    rintro e w3 ⟨rfl, hb⟩
    replace RP := hide (RP.out.below hb)
    replace HX1 := hide (HX1.out.belowS hb)
    replace HRT1 := hide (HRT1.out.belowS hb)
    replace HB := hide (HB.out.trans (hb.mono HB.out.size))
    clear hb
    go_wp2_with fail
    with_reducible refine (least_any w3.heap.size Af1 cf1 mf1 n us1 w3 HRT1.out (Nat.le_refl _) HSM1.out 0 (by unfold leastP; rw [HRR.out]; simp)).mono ?_
    rintro e w4 ⟨rfl, hb⟩
    replace RP := hide (RP.out.below hb)
    replace HX1 := hide (HX1.out.belowS hb)
    replace HRT1 := hide (HRT1.out.belowS hb)
    replace HB := hide (HB.out.trans (hb.mono HB.out.size))
    clear hb
    go_wp2_with fail
    go_ret
    exact ⟨rfl, HB.out⟩
  | true =>
    have HRR := hide hr
    obtain ⟨n, rfl, hk1, hk8, hall⟩ := right_n hr
    have HALL := hide (right_range hall)
    obtain ⟨lw, hlw⟩ : ∃ lw, leastX n (tns us1) = lw := ⟨_, rfl⟩
    have HLW := hide hlw
    have hlw1 := leastX_ge n (tns us1)
    have hlw2 := leastX_le n (tns us1)
    rw [hlw] at hlw1 hlw2
    rw [HLT.out] at hlw2
    have hm40 := HM401.out
    have hlwI : (1 : Int) ≤ (lw : Int) := by omega
    have hlwI2 : (lw : Int) ≤ 4096 := by omega
    have HLP := hide (show leastP (n : Int) (tns us1) = (lw : Int) from by unfold leastP; rw [HRR.out]; simp [hlw])
    clear hr hall hlw
    go_wp2_with fail
    with_reducible refine (check_any w2.heap.size Af1 cf1 mf1 n us1 w2 HRT1.out (Nat.le_refl _) HSM1.out 0 (by rw [HRR.out, errT_yes])).mono ?_
    rintro e w3 ⟨rfl, hb⟩
    replace RP := hide (RP.out.below hb)
    replace HX1 := hide (HX1.out.belowS hb)
    replace HRT1 := hide (HRT1.out.belowS hb)
    replace HB := hide (HB.out.trans (hb.mono HB.out.size))
    clear hb
    go_wp2_with fail
    with_reducible refine (least_any w3.heap.size Af1 cf1 mf1 n us1 w3 HRT1.out (Nat.le_refl _) HSM1.out (lw : Int) HLP.out).mono ?_
    rintro e w4 ⟨rfl, hb⟩
    replace RP := hide (RP.out.below hb)
    replace HX1 := hide (HX1.out.belowS hb)
    replace HRT1 := hide (HRT1.out.belowS hb)
    replace HB := hide (HB.out.trans (hb.mono HB.out.size))
    clear hb
    go_upto_region 7 with (fail)
    obtain ⟨f, hf, hix1⟩ := u_mod pa (mf1 + 1) (by omega) (by omega)
    obtain ⟨k, hk, hix2⟩ := u_mod pb (mf1 - f + 1) (by omega) (by omega)
    rw [show ((mf1 + 1 : Nat) : Int) = (mf1 : Int) + 1 from by omega] at hix1
    rw [show ((mf1 - f + 1 : Nat) : Int) = (mf1 : Int) - (f : Int) + 1 from by omega] at hix2
    have hz1 : (((mf1 : Int) + 1) == 0) = false := by rw [beq_eq_false_iff_ne]; omega
    have hz1' : ¬ ((mf1 : Int) + 1) = 0 := by omega
    have hz2 : (((mf1 : Int) - (f : Int) + 1) == 0) = false := by rw [beq_eq_false_iff_ne]; omega
    have hz2' : ¬ ((mf1 : Int) - (f : Int) + 1) = 0 := by omega
    have hfI : (f : Int) ≤ (mf1 : Int) := by omega
    have hkI : (f : Int) + (k : Int) ≤ (mf1 : Int) := by omega
    have hfkc : (f : Int) + (k : Int) ≤ (cf1 : Int) := by omega
    have hff : (f : Int) ≤ (f : Int) + (k : Int) := by omega
    have hmI : (mf1 : Int) ≤ 40 := by omega
    have hfk : f + k - f = k := by omega
    have HPART := hide (show tns ((us1.drop f).take k) = ((tns us1).drop f).take k from by rw [tns_take, tns_drop])
    have HRP := hide (show rightB (n : Int) (tns ((us1.drop f).take k)) = true from by rw [HPART.out]; exact rightB_part HRR.out f k)
    have HPL := hide (show leastX n (tns ((us1.drop f).take k)) ≤ lw from by
      rw [HPART.out, ← HLW.out]
      have h := leastX_part n ((tns us1).take f) (((tns us1).drop f).take k) (((tns us1).drop f).drop k)
      rw [← split_part] at h
      exact h)
    have HPLEN := hide (show (tns ((us1.drop f).take k)).length = k from by rw [HPART.out, List.length_take, List.length_drop, HLT.out]; omega)
    have HPS := hide (show SmallT ((us1.drop f).take k) from HSM1.out.seg f k)
    have HPMANY := hide (laps_many n (tns ((us1.drop f).take k)) lw (fun t ht => HALL.out.1 t (by rw [HPART.out] at ht; exact List.mem_of_mem_drop (List.mem_of_mem_take ht))) HPL.out)
    have HLMANY := hide (laps_many n (tns us1) lw HALL.out.1 (Nat.le_of_eq HLW.out))
    have HSUM := hide (shares_sum n (tns us1) HALL.out.2)
    rcases HAF1.out with rfl | ⟨b, rfl⟩
    · skip
      have hm0 : mf1 = 0 := rd_none HRT1.out.rd
      have hf0 : f = 0 := by omega
      have hk0 : k = 0 := by omega
      subst hm0 hf0 hk0
      have HRTP := hide (show RT w4 w4.heap.size none 0 ((us1.drop 0).take 0) from ⟨Rd.none_, rfl, by simp⟩)
      have qRP_0 := row20 RP.out
      have qRP_1 := row21 RP.out
      have lRP := RP.out.lt
      go_wp2_with fail
      clear qRP_0 qRP_1 lRP
      obtain ⟨lp, hlp⟩ : ∃ lp, leastX n (tns ((us1.drop 0).take 0)) = lp := ⟨_, rfl⟩
      have hlpw : lp ≤ lw := by rw [← hlp]; exact HPL.out
      have HLPP := hide (show leastP (n : Int) (tns ((us1.drop 0).take 0)) = (lp : Int) from by unfold leastP; rw [HRP.out, if_pos rfl, Int.toNat_natCast, hlp])
      have HPE := hide (show hungryP (n : Int) (tns ((us1.drop 0).take 0)) (lw : Int) = [] from by
        unfold hungryP
        rw [HRP.out]
        simp only [if_true, Int.toNat_natCast]
        apply List.eq_nil_of_length_eq_zero
        have h := hungryX_least n (tns ((us1.drop 0).take 0)) lw hlw1
        rw [hlp] at h
        omega)
      have hd1 : decide ((lw : Int) < (lp : Int)) = false := by simp; omega
      have hd1' : decide (lw < lp) = false := by simp; omega
      clear hlp hix1 hix2
      with_reducible refine (least_any w4.heap.size none cf1 0 n ((us1.drop 0).take 0) w4 HRTP.out (Nat.le_refl _) HPS.out (lp : Int) HLPP.out).mono ?_
      rintro e w5 ⟨rfl, hb⟩
      replace RP := hide (RP.out.below hb)
      replace HX1 := hide (HX1.out.belowS hb)
      replace HRT1 := hide (HRT1.out.belowS hb)
      replace HRTP := hide (HRTP.out.belowS hb)
      replace HB := hide (HB.out.trans (hb.mono HB.out.size))
      clear hb
      go_wp2_with fail
      with_reducible refine (hungry_any w5.heap.size none cf1 0 n ((us1.drop 0).take 0) (lw : Int) w5 HRTP.out (Nat.le_refl _) HPS.out).mono ?_
      rintro e w6 ⟨vp, rfl, hown, hb⟩
      rw [HPE.out, List.length_nil] at hown
      obtain ⟨Ap, cp, rfl, _, _⟩ := own_form2 hown
      have HOp := hide (Rd.of_own hown)
      replace RP := hide (RP.out.below hb)
      replace HX1 := hide (HX1.out.belowS hb)
      replace HRT1 := hide (HRT1.out.belowS hb)
      replace HRTP := hide (HRTP.out.belowS hb)
      replace HB := hide (HB.out.trans (hb.mono HB.out.size))
      clear hb hown
      by_cases hl1 : 1 < lw
      · exfalso; omega
      · have hd2 : decide ((1 : Int) < (lw : Int)) = false := by simp; omega
        have hd2' : decide (1 < lw) = false := by simp; omega
        by_cases hkl : lw ≤ 0
        · exfalso; omega
        · have hd3 : decide ((lw : Int) ≤ ((0 : Nat) : Int)) = false := by simp; omega
          have hd3' : decide (lw ≤ 0) = false := by simp; omega
          have hlz : ((lw : Int) == 0) = false := by rw [beq_eq_false_iff_ne]; omega
          have hlz' : ¬ (lw : Int) = 0 := by omega
          have HXS := hide (show sharesP (n : Int) (tns us1) = sharesX n (tns us1) from by unfold sharesP; rw [HRR.out]; simp)
          go_wp2_with fail
          with_reducible refine (shares_any w6.heap.size none cf1 0 n us1 w6 HRT1.out (Nat.le_refl _) HSM1.out).mono ?_
          rintro e w7 ⟨⟨vs, rfl, hown⟩, hb⟩
          rw [HXS.out, sharesX_length] at hown
          obtain ⟨As, cs, rfl, _, _⟩ := own_form2 hown
          have HOs := hide (Rd.of_own hown)
          replace HOp := hide ((HOp.out.below hb).more hb.size)
          replace RP := hide (RP.out.below hb)
          replace HX1 := hide (HX1.out.belowS hb)
          replace HRT1 := hide (HRT1.out.belowS hb)
          replace HRTP := hide (HRTP.out.belowS hb)
          replace HB := hide (HB.out.trans (hb.mono HB.out.size))
          clear hb hown
          have HSL := hide (sharesX_length n (tns us1))
          have HSB := hide (fun k => sumTo_le n (tns us1) k)
          have HSS := hide (show sumTo (sharesX n (tns us1)) n = (0 : Int) from by
            unfold sumTo
            rw [List.take_of_length_le (by rw [sharesX_length]; exact Nat.le_refl _), HSUM.out, HLT.out]
            try rfl)
          have HSU := hide (fun k hk => sumTo_succ (sharesX n (tns us1)) k hk)
          generalize sharesX n (tns us1) = S at *
          go_wp2_with fail
          go_loopw [11, 94] (fun st si wr => ∃ j : Nat, j ≤ n ∧ si = .int .i64 j ∧ st = .int .i64 (sumTo S j) ∧ wr = w7) (fun _ si _ => n - (intOf si).toNat)
          case atStart => exact ⟨0, Nat.zero_le _, rfl, rfl, rfl⟩
          case round =>
            obtain ⟨j, hj, rfl, rfl, rfl⟩ := hrel
            by_cases hjn : j < n
            · obtain ⟨bs, os, rfl, hbs, e0⟩ := HOs.out.numD HSL.out hjn
              have hjI : (j : Int) < (n : Int) := by omega
              have hb0 := HSB.out j
              have hb1 := HSB.out (j + 1)
              have hsu := HSU.out j (by rw [HSL.out]; exact hjn)
              have hnm : (n : Int) * (tns us1).length ≤ 8 * 40 := Int.mul_le_mul (by omega) (by rw [HLT.out]; omega) (by omega) (by omega)
              have HSN := hide hsu
              have hbig : sumTo S j + S.getD j 0 ≤ 4096 ∧ 0 ≤ sumTo S j + S.getD j 0 := by rw [← hsu]; omega
              obtain ⟨hbig1, hbig2⟩ := hbig
              clear hb0 hb1 hsu hnm
              generalize sumTo S j = tj at *
              generalize S.getD j 0 = sj at *
              go_wp2_with fail
              go_roundw
              case rel => exact ⟨j + 1, by omega, by go_num, by rw [HSN.out], by trivial⟩
              case measure => simp [intOf]; omega
            · obtain rfl : j = n := by omega
              have HXP := hide (show lapsP (j : Int) (tns us1) = ((lapsX j (tns us1) : Nat) : Int) from by unfold lapsP; rw [HRR.out]; simp)
              obtain ⟨q2, hq2⟩ : ∃ q2, lapsX j (tns us1) = q2 := ⟨_, rfl⟩
              have HQ2 := hide (show 0 ≤ q2 * lw + (lw - 1) from by have h := HLMANY.out; rw [HLT.out, hq2] at h; exact h)
              rw [hq2] at HXP
              have HQU := hide (quo_le 0 lw q2 hlw1 (by omega) HQ2.out)
              have HSS2 := HSS.out
              rw [HSS2]
              clear hq2 HSS2
              have hmm : ((0 : Int) == (0 : Int)) = true := by simp
              have HLAPS := hide (fun z => laps_any (via wr z).heap.size none cf1 0 j us1 (via wr z) (HRT1.out.belowS (via_below wr z)) (Nat.le_refl _) HSM1.out (q2 : Int) HXP.out)
              go_wp2_with fail
              refine wp_region_via (by kernel_rfl) (by kernel_rfl) ?_
              repeat (go_big_quiet_step ((go_at_call 22; exact via_of (HLAPS.out _))))
              refine via_out fun w9 hb9 => ?_
              go_wp2_with fail
              go_ret
              first
                | exact ⟨rfl, HB.out.trans (hb9.mono HB.out.size)⟩
                | exact ⟨ret_bool HQU.out, HB.out.trans (hb9.mono HB.out.size)⟩
    · by_cases hcf : cf1 = f
      · skip
        subst hcf
        have hk0 : k = 0 := by have := HMC1.out; omega
        subst hk0
        have HRTP := hide (show RT w4 w4.heap.size (some ⟨b, 0, none⟩) 0 ((us1.drop cf1).take 0) from ⟨⟨rfl, fun h => absurd h (Nat.lt_irrefl _)⟩, rfl, by simp⟩)
        have qRP_0 := row20 RP.out
        have qRP_1 := row21 RP.out
        have lRP := RP.out.lt
        go_wp2_with fail
        clear qRP_0 qRP_1 lRP
        obtain ⟨lp, hlp⟩ : ∃ lp, leastX n (tns ((us1.drop cf1).take 0)) = lp := ⟨_, rfl⟩
        have hlpw : lp ≤ lw := by rw [← hlp]; exact HPL.out
        have HLPP := hide (show leastP (n : Int) (tns ((us1.drop cf1).take 0)) = (lp : Int) from by unfold leastP; rw [HRP.out, if_pos rfl, Int.toNat_natCast, hlp])
        have HPE := hide (show hungryP (n : Int) (tns ((us1.drop cf1).take 0)) (lw : Int) = [] from by
          unfold hungryP
          rw [HRP.out]
          simp only [if_true, Int.toNat_natCast]
          apply List.eq_nil_of_length_eq_zero
          have h := hungryX_least n (tns ((us1.drop cf1).take 0)) lw hlw1
          rw [hlp] at h
          omega)
        have hd1 : decide ((lw : Int) < (lp : Int)) = false := by simp; omega
        have hd1' : decide (lw < lp) = false := by simp; omega
        clear hlp hix1 hix2
        with_reducible refine (least_any w4.heap.size (some ⟨b, 0, none⟩) 0 0 n ((us1.drop cf1).take 0) w4 HRTP.out (Nat.le_refl _) HPS.out (lp : Int) HLPP.out).mono ?_
        rintro e w5 ⟨rfl, hb⟩
        replace RP := hide (RP.out.below hb)
        replace HX1 := hide (HX1.out.belowS hb)
        replace HRT1 := hide (HRT1.out.belowS hb)
        replace HRTP := hide (HRTP.out.belowS hb)
        replace HB := hide (HB.out.trans (hb.mono HB.out.size))
        clear hb
        go_wp2_with fail
        with_reducible refine (hungry_any w5.heap.size (some ⟨b, 0, none⟩) 0 0 n ((us1.drop cf1).take 0) (lw : Int) w5 HRTP.out (Nat.le_refl _) HPS.out).mono ?_
        rintro e w6 ⟨vp, rfl, hown, hb⟩
        rw [HPE.out, List.length_nil] at hown
        obtain ⟨Ap, cp, rfl, _, _⟩ := own_form2 hown
        have HOp := hide (Rd.of_own hown)
        replace RP := hide (RP.out.below hb)
        replace HX1 := hide (HX1.out.belowS hb)
        replace HRT1 := hide (HRT1.out.belowS hb)
        replace HRTP := hide (HRTP.out.belowS hb)
        replace HB := hide (HB.out.trans (hb.mono HB.out.size))
        clear hb hown
        by_cases hl1 : 1 < lw
        · have hd2 : decide ((1 : Int) < (lw : Int)) = true := by simp; omega
          have hd2' : decide (1 < lw) = true := by simp; omega
          have HPF := hide (show ((((hungryP (n : Int) (tns us1) ((lw : Int) - 1)).length : Nat) : Int) == 0) = false from by
            unfold hungryP
            rw [HRR.out]
            simp only [if_true, Int.toNat_natCast]
            have h := (hungryX_least n (tns us1) (lw - 1) (by omega)).2 (by rw [HLW.out]; omega)
            rw [show ((lw - 1 : Nat) : Int) = (lw : Int) - 1 from by omega] at h
            rw [beq_eq_false_iff_ne]
            omega)
          obtain ⟨L2, hL2⟩ : ∃ L2, hungryP (n : Int) (tns us1) ((lw : Int) - 1) = L2 := ⟨_, rfl⟩
          have HL2 := hide hL2
          rw [hL2] at HPF
          have hpf := HPF.out
          clear hL2
          go_wp2_with fail
          with_reducible refine (hungry_any w6.heap.size (some ⟨b, 0, none⟩) cf1 mf1 n us1 ((lw : Int) - 1) w6 HRT1.out (Nat.le_refl _) HSM1.out).mono ?_
          rintro e w7 ⟨vq, rfl, hown, hb⟩
          rw [HL2.out] at hown
          obtain ⟨Aq, cq, rfl, _, _⟩ := own_form2 hown
          have HOq := hide (Rd.of_own hown)
          replace HOp := hide ((HOp.out.below hb).more hb.size)
          replace RP := hide (RP.out.below hb)
          replace HX1 := hide (HX1.out.belowS hb)
          replace HRT1 := hide (HRT1.out.belowS hb)
          replace HRTP := hide (HRTP.out.belowS hb)
          replace HB := hide (HB.out.trans (hb.mono HB.out.size))
          clear hb hown
          by_cases hkl : lw ≤ 0
          · exfalso; omega
          · have hd3 : decide ((lw : Int) ≤ ((0 : Nat) : Int)) = false := by simp; omega
            have hd3' : decide (lw ≤ 0) = false := by simp; omega
            have hlz : ((lw : Int) == 0) = false := by rw [beq_eq_false_iff_ne]; omega
            have hlz' : ¬ (lw : Int) = 0 := by omega
            have HXS := hide (show sharesP (n : Int) (tns us1) = sharesX n (tns us1) from by unfold sharesP; rw [HRR.out]; simp)
            go_wp2_with fail
            with_reducible refine (shares_any w7.heap.size (some ⟨b, 0, none⟩) cf1 mf1 n us1 w7 HRT1.out (Nat.le_refl _) HSM1.out).mono ?_
            rintro e w8 ⟨⟨vs, rfl, hown⟩, hb⟩
            rw [HXS.out, sharesX_length] at hown
            obtain ⟨As, cs, rfl, _, _⟩ := own_form2 hown
            have HOs := hide (Rd.of_own hown)
            replace HOp := hide ((HOp.out.below hb).more hb.size)
            replace HOq := hide ((HOq.out.below hb).more hb.size)
            replace RP := hide (RP.out.below hb)
            replace HX1 := hide (HX1.out.belowS hb)
            replace HRT1 := hide (HRT1.out.belowS hb)
            replace HRTP := hide (HRTP.out.belowS hb)
            replace HB := hide (HB.out.trans (hb.mono HB.out.size))
            clear hb hown
            have HSL := hide (sharesX_length n (tns us1))
            have HSB := hide (fun k => sumTo_le n (tns us1) k)
            have HSS := hide (show sumTo (sharesX n (tns us1)) n = (mf1 : Int) from by
              unfold sumTo
              rw [List.take_of_length_le (by rw [sharesX_length]; exact Nat.le_refl _), HSUM.out, HLT.out]
              try rfl)
            have HSU := hide (fun k hk => sumTo_succ (sharesX n (tns us1)) k hk)
            generalize sharesX n (tns us1) = S at *
            go_wp2_with fail
            go_loopw [11, 94] (fun st si wr => ∃ j : Nat, j ≤ n ∧ si = .int .i64 j ∧ st = .int .i64 (sumTo S j) ∧ wr = w8) (fun _ si _ => n - (intOf si).toNat)
            case atStart => exact ⟨0, Nat.zero_le _, rfl, rfl, rfl⟩
            case round =>
              obtain ⟨j, hj, rfl, rfl, rfl⟩ := hrel
              by_cases hjn : j < n
              · obtain ⟨bs, os, rfl, hbs, e0⟩ := HOs.out.numD HSL.out hjn
                have hjI : (j : Int) < (n : Int) := by omega
                have hb0 := HSB.out j
                have hb1 := HSB.out (j + 1)
                have hsu := HSU.out j (by rw [HSL.out]; exact hjn)
                have hnm : (n : Int) * (tns us1).length ≤ 8 * 40 := Int.mul_le_mul (by omega) (by rw [HLT.out]; omega) (by omega) (by omega)
                have HSN := hide hsu
                have hbig : sumTo S j + S.getD j 0 ≤ 4096 ∧ 0 ≤ sumTo S j + S.getD j 0 := by rw [← hsu]; omega
                obtain ⟨hbig1, hbig2⟩ := hbig
                clear hb0 hb1 hsu hnm
                generalize sumTo S j = tj at *
                generalize S.getD j 0 = sj at *
                go_wp2_with fail
                go_roundw
                case rel => exact ⟨j + 1, by omega, by go_num, by rw [HSN.out], by trivial⟩
                case measure => simp [intOf]; omega
              · obtain rfl : j = n := by omega
                have HXP := hide (show lapsP (j : Int) (tns us1) = ((lapsX j (tns us1) : Nat) : Int) from by unfold lapsP; rw [HRR.out]; simp)
                obtain ⟨q2, hq2⟩ : ∃ q2, lapsX j (tns us1) = q2 := ⟨_, rfl⟩
                have HQ2 := hide (show mf1 ≤ q2 * lw + (lw - 1) from by have h := HLMANY.out; rw [HLT.out, hq2] at h; exact h)
                rw [hq2] at HXP
                have HQU := hide (quo_le mf1 lw q2 hlw1 (by omega) HQ2.out)
                have HSS2 := HSS.out
                rw [HSS2]
                clear hq2 HSS2
                have hmm : ((mf1 : Int) == (mf1 : Int)) = true := by simp
                have HLAPS := hide (fun z => laps_any (via wr z).heap.size (some ⟨b, 0, none⟩) cf1 mf1 j us1 (via wr z) (HRT1.out.belowS (via_below wr z)) (Nat.le_refl _) HSM1.out (q2 : Int) HXP.out)
                go_wp2_with fail
                refine wp_region_via (by kernel_rfl) (by kernel_rfl) ?_
                repeat (go_big_quiet_step ((go_at_call 22; exact via_of (HLAPS.out _))))
                refine via_out fun w9 hb9 => ?_
                go_wp2_with fail
                go_ret
                first
                  | exact ⟨rfl, HB.out.trans (hb9.mono HB.out.size)⟩
                  | exact ⟨ret_bool HQU.out, HB.out.trans (hb9.mono HB.out.size)⟩
        · have hd2 : decide ((1 : Int) < (lw : Int)) = false := by simp; omega
          have hd2' : decide (1 < lw) = false := by simp; omega
          by_cases hkl : lw ≤ 0
          · exfalso; omega
          · have hd3 : decide ((lw : Int) ≤ ((0 : Nat) : Int)) = false := by simp; omega
            have hd3' : decide (lw ≤ 0) = false := by simp; omega
            have hlz : ((lw : Int) == 0) = false := by rw [beq_eq_false_iff_ne]; omega
            have hlz' : ¬ (lw : Int) = 0 := by omega
            have HXS := hide (show sharesP (n : Int) (tns us1) = sharesX n (tns us1) from by unfold sharesP; rw [HRR.out]; simp)
            go_wp2_with fail
            with_reducible refine (shares_any w6.heap.size (some ⟨b, 0, none⟩) cf1 mf1 n us1 w6 HRT1.out (Nat.le_refl _) HSM1.out).mono ?_
            rintro e w7 ⟨⟨vs, rfl, hown⟩, hb⟩
            rw [HXS.out, sharesX_length] at hown
            obtain ⟨As, cs, rfl, _, _⟩ := own_form2 hown
            have HOs := hide (Rd.of_own hown)
            replace HOp := hide ((HOp.out.below hb).more hb.size)
            replace RP := hide (RP.out.below hb)
            replace HX1 := hide (HX1.out.belowS hb)
            replace HRT1 := hide (HRT1.out.belowS hb)
            replace HRTP := hide (HRTP.out.belowS hb)
            replace HB := hide (HB.out.trans (hb.mono HB.out.size))
            clear hb hown
            have HSL := hide (sharesX_length n (tns us1))
            have HSB := hide (fun k => sumTo_le n (tns us1) k)
            have HSS := hide (show sumTo (sharesX n (tns us1)) n = (mf1 : Int) from by
              unfold sumTo
              rw [List.take_of_length_le (by rw [sharesX_length]; exact Nat.le_refl _), HSUM.out, HLT.out]
              try rfl)
            have HSU := hide (fun k hk => sumTo_succ (sharesX n (tns us1)) k hk)
            generalize sharesX n (tns us1) = S at *
            go_wp2_with fail
            go_loopw [11, 94] (fun st si wr => ∃ j : Nat, j ≤ n ∧ si = .int .i64 j ∧ st = .int .i64 (sumTo S j) ∧ wr = w7) (fun _ si _ => n - (intOf si).toNat)
            case atStart => exact ⟨0, Nat.zero_le _, rfl, rfl, rfl⟩
            case round =>
              obtain ⟨j, hj, rfl, rfl, rfl⟩ := hrel
              by_cases hjn : j < n
              · obtain ⟨bs, os, rfl, hbs, e0⟩ := HOs.out.numD HSL.out hjn
                have hjI : (j : Int) < (n : Int) := by omega
                have hb0 := HSB.out j
                have hb1 := HSB.out (j + 1)
                have hsu := HSU.out j (by rw [HSL.out]; exact hjn)
                have hnm : (n : Int) * (tns us1).length ≤ 8 * 40 := Int.mul_le_mul (by omega) (by rw [HLT.out]; omega) (by omega) (by omega)
                have HSN := hide hsu
                have hbig : sumTo S j + S.getD j 0 ≤ 4096 ∧ 0 ≤ sumTo S j + S.getD j 0 := by rw [← hsu]; omega
                obtain ⟨hbig1, hbig2⟩ := hbig
                clear hb0 hb1 hsu hnm
                generalize sumTo S j = tj at *
                generalize S.getD j 0 = sj at *
                go_wp2_with fail
                go_roundw
                case rel => exact ⟨j + 1, by omega, by go_num, by rw [HSN.out], by trivial⟩
                case measure => simp [intOf]; omega
              · obtain rfl : j = n := by omega
                have HXP := hide (show lapsP (j : Int) (tns us1) = ((lapsX j (tns us1) : Nat) : Int) from by unfold lapsP; rw [HRR.out]; simp)
                obtain ⟨q2, hq2⟩ : ∃ q2, lapsX j (tns us1) = q2 := ⟨_, rfl⟩
                have HQ2 := hide (show mf1 ≤ q2 * lw + (lw - 1) from by have h := HLMANY.out; rw [HLT.out, hq2] at h; exact h)
                rw [hq2] at HXP
                have HQU := hide (quo_le mf1 lw q2 hlw1 (by omega) HQ2.out)
                have HSS2 := HSS.out
                rw [HSS2]
                clear hq2 HSS2
                have hmm : ((mf1 : Int) == (mf1 : Int)) = true := by simp
                have HLAPS := hide (fun z => laps_any (via wr z).heap.size (some ⟨b, 0, none⟩) cf1 mf1 j us1 (via wr z) (HRT1.out.belowS (via_below wr z)) (Nat.le_refl _) HSM1.out (q2 : Int) HXP.out)
                go_wp2_with fail
                refine wp_region_via (by kernel_rfl) (by kernel_rfl) ?_
                repeat (go_big_quiet_step ((go_at_call 22; exact via_of (HLAPS.out _))))
                refine via_out fun w9 hb9 => ?_
                go_wp2_with fail
                go_ret
                first
                  | exact ⟨rfl, HB.out.trans (hb9.mono HB.out.size)⟩
                  | exact ⟨ret_bool HQU.out, HB.out.trans (hb9.mono HB.out.size)⟩
      · skip
        have HRTP := hide (show RT w4 w4.heap.size (some ⟨b, f * 2, none⟩) k ((us1.drop f).take k) from by have h := HRT1.out.seg (f := f) (k := k) (by omega); rw [Nat.zero_add] at h; exact h)
        have qRP_0 := row20 RP.out
        have qRP_1 := row21 RP.out
        have lRP := RP.out.lt
        go_wp2_with fail
        clear qRP_0 qRP_1 lRP
        obtain ⟨lp, hlp⟩ : ∃ lp, leastX n (tns ((us1.drop f).take k)) = lp := ⟨_, rfl⟩
        have hlpw : lp ≤ lw := by rw [← hlp]; exact HPL.out
        have HLPP := hide (show leastP (n : Int) (tns ((us1.drop f).take k)) = (lp : Int) from by unfold leastP; rw [HRP.out, if_pos rfl, Int.toNat_natCast, hlp])
        have HPE := hide (show hungryP (n : Int) (tns ((us1.drop f).take k)) (lw : Int) = [] from by
          unfold hungryP
          rw [HRP.out]
          simp only [if_true, Int.toNat_natCast]
          apply List.eq_nil_of_length_eq_zero
          have h := hungryX_least n (tns ((us1.drop f).take k)) lw hlw1
          rw [hlp] at h
          omega)
        have hd1 : decide ((lw : Int) < (lp : Int)) = false := by simp; omega
        have hd1' : decide (lw < lp) = false := by simp; omega
        clear hlp hix1 hix2
        with_reducible refine (least_any w4.heap.size (some ⟨b, f * 2, none⟩) (cf1 - f) k n ((us1.drop f).take k) w4 HRTP.out (Nat.le_refl _) HPS.out (lp : Int) HLPP.out).mono ?_
        rintro e w5 ⟨rfl, hb⟩
        replace RP := hide (RP.out.below hb)
        replace HX1 := hide (HX1.out.belowS hb)
        replace HRT1 := hide (HRT1.out.belowS hb)
        replace HRTP := hide (HRTP.out.belowS hb)
        replace HB := hide (HB.out.trans (hb.mono HB.out.size))
        clear hb
        go_wp2_with fail
        with_reducible refine (hungry_any w5.heap.size (some ⟨b, f * 2, none⟩) (cf1 - f) k n ((us1.drop f).take k) (lw : Int) w5 HRTP.out (Nat.le_refl _) HPS.out).mono ?_
        rintro e w6 ⟨vp, rfl, hown, hb⟩
        rw [HPE.out, List.length_nil] at hown
        obtain ⟨Ap, cp, rfl, _, _⟩ := own_form2 hown
        have HOp := hide (Rd.of_own hown)
        replace RP := hide (RP.out.below hb)
        replace HX1 := hide (HX1.out.belowS hb)
        replace HRT1 := hide (HRT1.out.belowS hb)
        replace HRTP := hide (HRTP.out.belowS hb)
        replace HB := hide (HB.out.trans (hb.mono HB.out.size))
        clear hb hown
        by_cases hl1 : 1 < lw
        · have hd2 : decide ((1 : Int) < (lw : Int)) = true := by simp; omega
          have hd2' : decide (1 < lw) = true := by simp; omega
          have HPF := hide (show ((((hungryP (n : Int) (tns us1) ((lw : Int) - 1)).length : Nat) : Int) == 0) = false from by
            unfold hungryP
            rw [HRR.out]
            simp only [if_true, Int.toNat_natCast]
            have h := (hungryX_least n (tns us1) (lw - 1) (by omega)).2 (by rw [HLW.out]; omega)
            rw [show ((lw - 1 : Nat) : Int) = (lw : Int) - 1 from by omega] at h
            rw [beq_eq_false_iff_ne]
            omega)
          obtain ⟨L2, hL2⟩ : ∃ L2, hungryP (n : Int) (tns us1) ((lw : Int) - 1) = L2 := ⟨_, rfl⟩
          have HL2 := hide hL2
          rw [hL2] at HPF
          have hpf := HPF.out
          clear hL2
          go_wp2_with fail
          with_reducible refine (hungry_any w6.heap.size (some ⟨b, 0, none⟩) cf1 mf1 n us1 ((lw : Int) - 1) w6 HRT1.out (Nat.le_refl _) HSM1.out).mono ?_
          rintro e w7 ⟨vq, rfl, hown, hb⟩
          rw [HL2.out] at hown
          obtain ⟨Aq, cq, rfl, _, _⟩ := own_form2 hown
          have HOq := hide (Rd.of_own hown)
          replace HOp := hide ((HOp.out.below hb).more hb.size)
          replace RP := hide (RP.out.below hb)
          replace HX1 := hide (HX1.out.belowS hb)
          replace HRT1 := hide (HRT1.out.belowS hb)
          replace HRTP := hide (HRTP.out.belowS hb)
          replace HB := hide (HB.out.trans (hb.mono HB.out.size))
          clear hb hown
          by_cases hkl : lw ≤ k
          · have hd3 : decide ((lw : Int) ≤ ((k : Nat) : Int)) = true := by simp; omega
            have hd3' : decide (lw ≤ k) = true := by simp; omega
            have HLXP := hide (show lapsP (n : Int) (tns ((us1.drop f).take k)) = ((lapsX n (tns ((us1.drop f).take k)) : Nat) : Int) from by unfold lapsP; rw [HRP.out]; simp)
            obtain ⟨q, hq⟩ : ∃ q, lapsX n (tns ((us1.drop f).take k)) = q := ⟨_, rfl⟩
            have hq1 : 1 ≤ q := by
              have h := HPMANY.out
              rw [HPLEN.out, hq] at h
              rcases Nat.eq_zero_or_pos q with h0 | h0
              · rw [h0] at h; omega
              · exact h0
            rw [hq] at HLXP
            have hd4 : decide ((q : Int) < 1) = false := by simp; omega
            clear hq
            go_wp2_with fail
            with_reducible refine (laps_any w7.heap.size (some ⟨b, f * 2, none⟩) (cf1 - f) k n ((us1.drop f).take k) w7 HRTP.out (Nat.le_refl _) HPS.out (q : Int) HLXP.out).mono ?_
            rintro e w8 ⟨rfl, hb⟩
            replace HOp := hide ((HOp.out.below hb).more hb.size)
            replace HOq := hide ((HOq.out.below hb).more hb.size)
            replace RP := hide (RP.out.below hb)
            replace HX1 := hide (HX1.out.belowS hb)
            replace HRT1 := hide (HRT1.out.belowS hb)
            replace HRTP := hide (HRTP.out.belowS hb)
            replace HB := hide (HB.out.trans (hb.mono HB.out.size))
            clear hb
            have hlz : ((lw : Int) == 0) = false := by rw [beq_eq_false_iff_ne]; omega
            have hlz' : ¬ (lw : Int) = 0 := by omega
            have HXS := hide (show sharesP (n : Int) (tns us1) = sharesX n (tns us1) from by unfold sharesP; rw [HRR.out]; simp)
            go_wp2_with fail
            with_reducible refine (shares_any w8.heap.size (some ⟨b, 0, none⟩) cf1 mf1 n us1 w8 HRT1.out (Nat.le_refl _) HSM1.out).mono ?_
            rintro e w9 ⟨⟨vs, rfl, hown⟩, hb⟩
            rw [HXS.out, sharesX_length] at hown
            obtain ⟨As, cs, rfl, _, _⟩ := own_form2 hown
            have HOs := hide (Rd.of_own hown)
            replace HOp := hide ((HOp.out.below hb).more hb.size)
            replace HOq := hide ((HOq.out.below hb).more hb.size)
            replace RP := hide (RP.out.below hb)
            replace HX1 := hide (HX1.out.belowS hb)
            replace HRT1 := hide (HRT1.out.belowS hb)
            replace HRTP := hide (HRTP.out.belowS hb)
            replace HB := hide (HB.out.trans (hb.mono HB.out.size))
            clear hb hown
            have HSL := hide (sharesX_length n (tns us1))
            have HSB := hide (fun k => sumTo_le n (tns us1) k)
            have HSS := hide (show sumTo (sharesX n (tns us1)) n = (mf1 : Int) from by
              unfold sumTo
              rw [List.take_of_length_le (by rw [sharesX_length]; exact Nat.le_refl _), HSUM.out, HLT.out]
              try rfl)
            have HSU := hide (fun k hk => sumTo_succ (sharesX n (tns us1)) k hk)
            generalize sharesX n (tns us1) = S at *
            go_wp2_with fail
            go_loopw [11, 94] (fun st si wr => ∃ j : Nat, j ≤ n ∧ si = .int .i64 j ∧ st = .int .i64 (sumTo S j) ∧ wr = w9) (fun _ si _ => n - (intOf si).toNat)
            case atStart => exact ⟨0, Nat.zero_le _, rfl, rfl, rfl⟩
            case round =>
              obtain ⟨j, hj, rfl, rfl, rfl⟩ := hrel
              by_cases hjn : j < n
              · obtain ⟨bs, os, rfl, hbs, e0⟩ := HOs.out.numD HSL.out hjn
                have hjI : (j : Int) < (n : Int) := by omega
                have hb0 := HSB.out j
                have hb1 := HSB.out (j + 1)
                have hsu := HSU.out j (by rw [HSL.out]; exact hjn)
                have hnm : (n : Int) * (tns us1).length ≤ 8 * 40 := Int.mul_le_mul (by omega) (by rw [HLT.out]; omega) (by omega) (by omega)
                have HSN := hide hsu
                have hbig : sumTo S j + S.getD j 0 ≤ 4096 ∧ 0 ≤ sumTo S j + S.getD j 0 := by rw [← hsu]; omega
                obtain ⟨hbig1, hbig2⟩ := hbig
                clear hb0 hb1 hsu hnm
                generalize sumTo S j = tj at *
                generalize S.getD j 0 = sj at *
                go_wp2_with fail
                go_roundw
                case rel => exact ⟨j + 1, by omega, by go_num, by rw [HSN.out], by trivial⟩
                case measure => simp [intOf]; omega
              · obtain rfl : j = n := by omega
                have HXP := hide (show lapsP (j : Int) (tns us1) = ((lapsX j (tns us1) : Nat) : Int) from by unfold lapsP; rw [HRR.out]; simp)
                obtain ⟨q2, hq2⟩ : ∃ q2, lapsX j (tns us1) = q2 := ⟨_, rfl⟩
                have HQ2 := hide (show mf1 ≤ q2 * lw + (lw - 1) from by have h := HLMANY.out; rw [HLT.out, hq2] at h; exact h)
                rw [hq2] at HXP
                have HQU := hide (quo_le mf1 lw q2 hlw1 (by omega) HQ2.out)
                have HSS2 := HSS.out
                rw [HSS2]
                clear hq2 HSS2
                have hmm : ((mf1 : Int) == (mf1 : Int)) = true := by simp
                have HLAPS := hide (fun z => laps_any (via wr z).heap.size (some ⟨b, 0, none⟩) cf1 mf1 j us1 (via wr z) (HRT1.out.belowS (via_below wr z)) (Nat.le_refl _) HSM1.out (q2 : Int) HXP.out)
                go_wp2_with fail
                refine wp_region_via (by kernel_rfl) (by kernel_rfl) ?_
                repeat (go_big_quiet_step ((go_at_call 22; exact via_of (HLAPS.out _))))
                refine via_out fun w9 hb9 => ?_
                go_wp2_with fail
                go_ret
                first
                  | exact ⟨rfl, HB.out.trans (hb9.mono HB.out.size)⟩
                  | exact ⟨ret_bool HQU.out, HB.out.trans (hb9.mono HB.out.size)⟩
          · have hd3 : decide ((lw : Int) ≤ ((k : Nat) : Int)) = false := by simp; omega
            have hd3' : decide (lw ≤ k) = false := by simp; omega
            have hlz : ((lw : Int) == 0) = false := by rw [beq_eq_false_iff_ne]; omega
            have hlz' : ¬ (lw : Int) = 0 := by omega
            have HXS := hide (show sharesP (n : Int) (tns us1) = sharesX n (tns us1) from by unfold sharesP; rw [HRR.out]; simp)
            go_wp2_with fail
            with_reducible refine (shares_any w7.heap.size (some ⟨b, 0, none⟩) cf1 mf1 n us1 w7 HRT1.out (Nat.le_refl _) HSM1.out).mono ?_
            rintro e w8 ⟨⟨vs, rfl, hown⟩, hb⟩
            rw [HXS.out, sharesX_length] at hown
            obtain ⟨As, cs, rfl, _, _⟩ := own_form2 hown
            have HOs := hide (Rd.of_own hown)
            replace HOp := hide ((HOp.out.below hb).more hb.size)
            replace HOq := hide ((HOq.out.below hb).more hb.size)
            replace RP := hide (RP.out.below hb)
            replace HX1 := hide (HX1.out.belowS hb)
            replace HRT1 := hide (HRT1.out.belowS hb)
            replace HRTP := hide (HRTP.out.belowS hb)
            replace HB := hide (HB.out.trans (hb.mono HB.out.size))
            clear hb hown
            have HSL := hide (sharesX_length n (tns us1))
            have HSB := hide (fun k => sumTo_le n (tns us1) k)
            have HSS := hide (show sumTo (sharesX n (tns us1)) n = (mf1 : Int) from by
              unfold sumTo
              rw [List.take_of_length_le (by rw [sharesX_length]; exact Nat.le_refl _), HSUM.out, HLT.out]
              try rfl)
            have HSU := hide (fun k hk => sumTo_succ (sharesX n (tns us1)) k hk)
            generalize sharesX n (tns us1) = S at *
            go_wp2_with fail
            go_loopw [11, 94] (fun st si wr => ∃ j : Nat, j ≤ n ∧ si = .int .i64 j ∧ st = .int .i64 (sumTo S j) ∧ wr = w8) (fun _ si _ => n - (intOf si).toNat)
            case atStart => exact ⟨0, Nat.zero_le _, rfl, rfl, rfl⟩
            case round =>
              obtain ⟨j, hj, rfl, rfl, rfl⟩ := hrel
              by_cases hjn : j < n
              · obtain ⟨bs, os, rfl, hbs, e0⟩ := HOs.out.numD HSL.out hjn
                have hjI : (j : Int) < (n : Int) := by omega
                have hb0 := HSB.out j
                have hb1 := HSB.out (j + 1)
                have hsu := HSU.out j (by rw [HSL.out]; exact hjn)
                have hnm : (n : Int) * (tns us1).length ≤ 8 * 40 := Int.mul_le_mul (by omega) (by rw [HLT.out]; omega) (by omega) (by omega)
                have HSN := hide hsu
                have hbig : sumTo S j + S.getD j 0 ≤ 4096 ∧ 0 ≤ sumTo S j + S.getD j 0 := by rw [← hsu]; omega
                obtain ⟨hbig1, hbig2⟩ := hbig
                clear hb0 hb1 hsu hnm
                generalize sumTo S j = tj at *
                generalize S.getD j 0 = sj at *
                go_wp2_with fail
                go_roundw
                case rel => exact ⟨j + 1, by omega, by go_num, by rw [HSN.out], by trivial⟩
                case measure => simp [intOf]; omega
              · obtain rfl : j = n := by omega
                have HXP := hide (show lapsP (j : Int) (tns us1) = ((lapsX j (tns us1) : Nat) : Int) from by unfold lapsP; rw [HRR.out]; simp)
                obtain ⟨q2, hq2⟩ : ∃ q2, lapsX j (tns us1) = q2 := ⟨_, rfl⟩
                have HQ2 := hide (show mf1 ≤ q2 * lw + (lw - 1) from by have h := HLMANY.out; rw [HLT.out, hq2] at h; exact h)
                rw [hq2] at HXP
                have HQU := hide (quo_le mf1 lw q2 hlw1 (by omega) HQ2.out)
                have HSS2 := HSS.out
                rw [HSS2]
                clear hq2 HSS2
                have hmm : ((mf1 : Int) == (mf1 : Int)) = true := by simp
                have HLAPS := hide (fun z => laps_any (via wr z).heap.size (some ⟨b, 0, none⟩) cf1 mf1 j us1 (via wr z) (HRT1.out.belowS (via_below wr z)) (Nat.le_refl _) HSM1.out (q2 : Int) HXP.out)
                go_wp2_with fail
                refine wp_region_via (by kernel_rfl) (by kernel_rfl) ?_
                repeat (go_big_quiet_step ((go_at_call 22; exact via_of (HLAPS.out _))))
                refine via_out fun w9 hb9 => ?_
                go_wp2_with fail
                go_ret
                first
                  | exact ⟨rfl, HB.out.trans (hb9.mono HB.out.size)⟩
                  | exact ⟨ret_bool HQU.out, HB.out.trans (hb9.mono HB.out.size)⟩
        · have hd2 : decide ((1 : Int) < (lw : Int)) = false := by simp; omega
          have hd2' : decide (1 < lw) = false := by simp; omega
          by_cases hkl : lw ≤ k
          · have hd3 : decide ((lw : Int) ≤ ((k : Nat) : Int)) = true := by simp; omega
            have hd3' : decide (lw ≤ k) = true := by simp; omega
            have HLXP := hide (show lapsP (n : Int) (tns ((us1.drop f).take k)) = ((lapsX n (tns ((us1.drop f).take k)) : Nat) : Int) from by unfold lapsP; rw [HRP.out]; simp)
            obtain ⟨q, hq⟩ : ∃ q, lapsX n (tns ((us1.drop f).take k)) = q := ⟨_, rfl⟩
            have hq1 : 1 ≤ q := by
              have h := HPMANY.out
              rw [HPLEN.out, hq] at h
              rcases Nat.eq_zero_or_pos q with h0 | h0
              · rw [h0] at h; omega
              · exact h0
            rw [hq] at HLXP
            have hd4 : decide ((q : Int) < 1) = false := by simp; omega
            clear hq
            go_wp2_with fail
            with_reducible refine (laps_any w6.heap.size (some ⟨b, f * 2, none⟩) (cf1 - f) k n ((us1.drop f).take k) w6 HRTP.out (Nat.le_refl _) HPS.out (q : Int) HLXP.out).mono ?_
            rintro e w7 ⟨rfl, hb⟩
            replace HOp := hide ((HOp.out.below hb).more hb.size)
            replace RP := hide (RP.out.below hb)
            replace HX1 := hide (HX1.out.belowS hb)
            replace HRT1 := hide (HRT1.out.belowS hb)
            replace HRTP := hide (HRTP.out.belowS hb)
            replace HB := hide (HB.out.trans (hb.mono HB.out.size))
            clear hb
            have hlz : ((lw : Int) == 0) = false := by rw [beq_eq_false_iff_ne]; omega
            have hlz' : ¬ (lw : Int) = 0 := by omega
            have HXS := hide (show sharesP (n : Int) (tns us1) = sharesX n (tns us1) from by unfold sharesP; rw [HRR.out]; simp)
            go_wp2_with fail
            with_reducible refine (shares_any w7.heap.size (some ⟨b, 0, none⟩) cf1 mf1 n us1 w7 HRT1.out (Nat.le_refl _) HSM1.out).mono ?_
            rintro e w8 ⟨⟨vs, rfl, hown⟩, hb⟩
            rw [HXS.out, sharesX_length] at hown
            obtain ⟨As, cs, rfl, _, _⟩ := own_form2 hown
            have HOs := hide (Rd.of_own hown)
            replace HOp := hide ((HOp.out.below hb).more hb.size)
            replace RP := hide (RP.out.below hb)
            replace HX1 := hide (HX1.out.belowS hb)
            replace HRT1 := hide (HRT1.out.belowS hb)
            replace HRTP := hide (HRTP.out.belowS hb)
            replace HB := hide (HB.out.trans (hb.mono HB.out.size))
            clear hb hown
            have HSL := hide (sharesX_length n (tns us1))
            have HSB := hide (fun k => sumTo_le n (tns us1) k)
            have HSS := hide (show sumTo (sharesX n (tns us1)) n = (mf1 : Int) from by
              unfold sumTo
              rw [List.take_of_length_le (by rw [sharesX_length]; exact Nat.le_refl _), HSUM.out, HLT.out]
              try rfl)
            have HSU := hide (fun k hk => sumTo_succ (sharesX n (tns us1)) k hk)
            generalize sharesX n (tns us1) = S at *
            go_wp2_with fail
            go_loopw [11, 94] (fun st si wr => ∃ j : Nat, j ≤ n ∧ si = .int .i64 j ∧ st = .int .i64 (sumTo S j) ∧ wr = w8) (fun _ si _ => n - (intOf si).toNat)
            case atStart => exact ⟨0, Nat.zero_le _, rfl, rfl, rfl⟩
            case round =>
              obtain ⟨j, hj, rfl, rfl, rfl⟩ := hrel
              by_cases hjn : j < n
              · obtain ⟨bs, os, rfl, hbs, e0⟩ := HOs.out.numD HSL.out hjn
                have hjI : (j : Int) < (n : Int) := by omega
                have hb0 := HSB.out j
                have hb1 := HSB.out (j + 1)
                have hsu := HSU.out j (by rw [HSL.out]; exact hjn)
                have hnm : (n : Int) * (tns us1).length ≤ 8 * 40 := Int.mul_le_mul (by omega) (by rw [HLT.out]; omega) (by omega) (by omega)
                have HSN := hide hsu
                have hbig : sumTo S j + S.getD j 0 ≤ 4096 ∧ 0 ≤ sumTo S j + S.getD j 0 := by rw [← hsu]; omega
                obtain ⟨hbig1, hbig2⟩ := hbig
                clear hb0 hb1 hsu hnm
                generalize sumTo S j = tj at *
                generalize S.getD j 0 = sj at *
                go_wp2_with fail
                go_roundw
                case rel => exact ⟨j + 1, by omega, by go_num, by rw [HSN.out], by trivial⟩
                case measure => simp [intOf]; omega
              · obtain rfl : j = n := by omega
                have HXP := hide (show lapsP (j : Int) (tns us1) = ((lapsX j (tns us1) : Nat) : Int) from by unfold lapsP; rw [HRR.out]; simp)
                obtain ⟨q2, hq2⟩ : ∃ q2, lapsX j (tns us1) = q2 := ⟨_, rfl⟩
                have HQ2 := hide (show mf1 ≤ q2 * lw + (lw - 1) from by have h := HLMANY.out; rw [HLT.out, hq2] at h; exact h)
                rw [hq2] at HXP
                have HQU := hide (quo_le mf1 lw q2 hlw1 (by omega) HQ2.out)
                have HSS2 := HSS.out
                rw [HSS2]
                clear hq2 HSS2
                have hmm : ((mf1 : Int) == (mf1 : Int)) = true := by simp
                have HLAPS := hide (fun z => laps_any (via wr z).heap.size (some ⟨b, 0, none⟩) cf1 mf1 j us1 (via wr z) (HRT1.out.belowS (via_below wr z)) (Nat.le_refl _) HSM1.out (q2 : Int) HXP.out)
                go_wp2_with fail
                refine wp_region_via (by kernel_rfl) (by kernel_rfl) ?_
                repeat (go_big_quiet_step ((go_at_call 22; exact via_of (HLAPS.out _))))
                refine via_out fun w9 hb9 => ?_
                go_wp2_with fail
                go_ret
                first
                  | exact ⟨rfl, HB.out.trans (hb9.mono HB.out.size)⟩
                  | exact ⟨ret_bool HQU.out, HB.out.trans (hb9.mono HB.out.size)⟩
          · have hd3 : decide ((lw : Int) ≤ ((k : Nat) : Int)) = false := by simp; omega
            have hd3' : decide (lw ≤ k) = false := by simp; omega
            have hlz : ((lw : Int) == 0) = false := by rw [beq_eq_false_iff_ne]; omega
            have hlz' : ¬ (lw : Int) = 0 := by omega
            have HXS := hide (show sharesP (n : Int) (tns us1) = sharesX n (tns us1) from by unfold sharesP; rw [HRR.out]; simp)
            go_wp2_with fail
            with_reducible refine (shares_any w6.heap.size (some ⟨b, 0, none⟩) cf1 mf1 n us1 w6 HRT1.out (Nat.le_refl _) HSM1.out).mono ?_
            rintro e w7 ⟨⟨vs, rfl, hown⟩, hb⟩
            rw [HXS.out, sharesX_length] at hown
            obtain ⟨As, cs, rfl, _, _⟩ := own_form2 hown
            have HOs := hide (Rd.of_own hown)
            replace HOp := hide ((HOp.out.below hb).more hb.size)
            replace RP := hide (RP.out.below hb)
            replace HX1 := hide (HX1.out.belowS hb)
            replace HRT1 := hide (HRT1.out.belowS hb)
            replace HRTP := hide (HRTP.out.belowS hb)
            replace HB := hide (HB.out.trans (hb.mono HB.out.size))
            clear hb hown
            have HSL := hide (sharesX_length n (tns us1))
            have HSB := hide (fun k => sumTo_le n (tns us1) k)
            have HSS := hide (show sumTo (sharesX n (tns us1)) n = (mf1 : Int) from by
              unfold sumTo
              rw [List.take_of_length_le (by rw [sharesX_length]; exact Nat.le_refl _), HSUM.out, HLT.out]
              try rfl)
            have HSU := hide (fun k hk => sumTo_succ (sharesX n (tns us1)) k hk)
            generalize sharesX n (tns us1) = S at *
            go_wp2_with fail
            go_loopw [11, 94] (fun st si wr => ∃ j : Nat, j ≤ n ∧ si = .int .i64 j ∧ st = .int .i64 (sumTo S j) ∧ wr = w7) (fun _ si _ => n - (intOf si).toNat)
            case atStart => exact ⟨0, Nat.zero_le _, rfl, rfl, rfl⟩
            case round =>
              obtain ⟨j, hj, rfl, rfl, rfl⟩ := hrel
              by_cases hjn : j < n
              · obtain ⟨bs, os, rfl, hbs, e0⟩ := HOs.out.numD HSL.out hjn
                have hjI : (j : Int) < (n : Int) := by omega
                have hb0 := HSB.out j
                have hb1 := HSB.out (j + 1)
                have hsu := HSU.out j (by rw [HSL.out]; exact hjn)
                have hnm : (n : Int) * (tns us1).length ≤ 8 * 40 := Int.mul_le_mul (by omega) (by rw [HLT.out]; omega) (by omega) (by omega)
                have HSN := hide hsu
                have hbig : sumTo S j + S.getD j 0 ≤ 4096 ∧ 0 ≤ sumTo S j + S.getD j 0 := by rw [← hsu]; omega
                obtain ⟨hbig1, hbig2⟩ := hbig
                clear hb0 hb1 hsu hnm
                generalize sumTo S j = tj at *
                generalize S.getD j 0 = sj at *
                go_wp2_with fail
                go_roundw
                case rel => exact ⟨j + 1, by omega, by go_num, by rw [HSN.out], by trivial⟩
                case measure => simp [intOf]; omega
              · obtain rfl : j = n := by omega
                have HXP := hide (show lapsP (j : Int) (tns us1) = ((lapsX j (tns us1) : Nat) : Int) from by unfold lapsP; rw [HRR.out]; simp)
                obtain ⟨q2, hq2⟩ : ∃ q2, lapsX j (tns us1) = q2 := ⟨_, rfl⟩
                have HQ2 := hide (show mf1 ≤ q2 * lw + (lw - 1) from by have h := HLMANY.out; rw [HLT.out, hq2] at h; exact h)
                rw [hq2] at HXP
                have HQU := hide (quo_le mf1 lw q2 hlw1 (by omega) HQ2.out)
                have HSS2 := HSS.out
                rw [HSS2]
                clear hq2 HSS2
                have hmm : ((mf1 : Int) == (mf1 : Int)) = true := by simp
                have HLAPS := hide (fun z => laps_any (via wr z).heap.size (some ⟨b, 0, none⟩) cf1 mf1 j us1 (via wr z) (HRT1.out.belowS (via_below wr z)) (Nat.le_refl _) HSM1.out (q2 : Int) HXP.out)
                go_wp2_with fail
                refine wp_region_via (by kernel_rfl) (by kernel_rfl) ?_
                repeat (go_big_quiet_step ((go_at_call 22; exact via_of (HLAPS.out _))))
                refine via_out fun w9 hb9 => ?_
                go_wp2_with fail
                go_ret
                first
                  | exact ⟨rfl, HB.out.trans (hb9.mono HB.out.size)⟩
                  | exact ⟨ret_bool HQU.out, HB.out.trans (hb9.mono HB.out.size)⟩
end Go.Proofs.Ytogjokoaghpjiaa
