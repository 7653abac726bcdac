/-
  CellsMarks, walked: it answers true.
-/
import Derived.Test.YtadgihmokmfejaaCez
set_option linter.unusedSimpArgs false
set_option linter.unusedVariables false
namespace Go.Proofs.Ytadgihmokmfejaa
open Go Go.RowKit
attribute [local go_sem] via_cell via_frozen

theorem Rd.num {w : World} {B n : Nat} {A : Option Addr} {X : List Int} (h : Rd w B 1 A n (Cs encI X)) (hx : X.length = n) {k : Nat} (hk : k < n) :
    ∃ b off, A = some ⟨b, off, none⟩ ∧ b < B ∧ w.cell? ⟨b, off + k, none⟩ = some (.int .i64 (X.getD k 0)) := by
  subst hx
  obtain ⟨b, off, h1, h2, h3⟩ := h.elem encI_len hk
  have h4 := h3 0 _ (by omega) rfl
  refine ⟨b, off, h1, h2, ?_⟩
  rw [List.getD_eq_getElem?_getD, List.getElem?_eq_getElem hk]
  simpa using h4

set_option maxRecDepth 100000 in
set_option maxHeartbeats 8000000 in
theorem Marks_walk (A0 : Option Addr) (c0 n0 : Nat) (A1 : Option Addr) (c1 n1 : Nat) (A2 : Option Addr) (c2 n2 : Nat) (X : List Int) (ms0 : List Mk) (ps : List Int) (W : World)
    (hr0 : Rd W W.heap.size 1 A0 n0 (Cs encW X)) (hr1 : Rd W W.heap.size 4 A1 n1 (Cs encM ms0)) (hr2 : Rd W W.heap.size 1 A2 n2 (Cs encI ps)) (hx0 : X.length = n0) (hx1 : ms0.length = n1) (hx2 : ps.length = n2)
    (hn0 : n0 ≤ c0) (hn1 : n1 ≤ c1) (hn2 : n2 ≤ c2) (hm0 : c0 ≤ 9223372036854775807) (hm1 : c1 ≤ 9223372036854775807) (hm2 : c2 ≤ 9223372036854775807) :
    Calls Try.prog 7 #[.slice A0 n0 c0, .slice A1 n1 c1, .slice A2 n2 c2] W fun e W' => e = .returned (.bool true) ∧ Below W.heap.size W W' := by
  have HB := hide (Below.refl W.heap.size W)
  obtain ⟨m, hm⟩ : ∃ m, min n0 40 = m := ⟨_, rfl⟩
  obtain ⟨k1, hk1⟩ : ∃ m, min n1 30 = m := ⟨_, rfl⟩
  obtain ⟨k2, hk2⟩ : ∃ m, min n2 6 = m := ⟨_, rfl⟩
  have hkI1 : min (n1 : Int) 30 = (k1 : Int) := by omega
  have hkI2 : min (n2 : Int) 6 = (k2 : Int) := by omega
  have hk11 : k1 ≤ n1 := by omega
  have hk22 : k2 ≤ n2 := by omega
  have hk1c : (k1 : Int) ≤ (c1 : Int) := by omega
  have hk2c : (k2 : Int) ≤ (c2 : Int) := by omega
  have hc1I : (c1 : Int) ≤ 9223372036854775807 := by omega
  have hc2I : (c2 : Int) ≤ 9223372036854775807 := by omega
  have hk1b : k1 ≤ 30 := by omega
  have hk2b : k2 ≤ 6 := by omega
  have hmb : m ≤ 40 := by omega
  have hX40 : (X.take m).length = m := by rw [List.length_take]; omega
  obtain ⟨MS, hMS⟩ : ∃ l, ms0.take k1 = l := ⟨_, rfl⟩
  obtain ⟨PS, hPS⟩ : ∃ l, ps.take k2 = l := ⟨_, rfl⟩
  have hMSl : MS.length = k1 := by rw [← hMS, List.length_take]; omega
  have hPSl : PS.length = k2 := by rw [← hPS, List.length_take]; omega
  have HMT : Hid (Rd W W.heap.size 4 A1 k1 (Cs encM MS)) := hide (by
    have h := hr1.take hk11
    rw [← Cs_take encM_len, hMS] at h; exact h)
  have HPT : Hid (Rd W W.heap.size 1 A2 k2 (Cs encI PS)) := hide (by
    have h := hr2.take hk22
    rw [← Cs_take encI_len, hPS] at h
    exact h)
  have HX0 := hide hr0
  have HHX := hide hx0
  have HHM := hide hm
  have HHX40 := hide hX40
  have HHMS := hide hMSl
  have HHPS := hide hPSl
  obtain ⟨Y, hY⟩ : ∃ Y, backV (X.take m) MS = Y := ⟨_, rfl⟩
  obtain ⟨e, he⟩ : ∃ e, backE (X.take m) MS = e := ⟨_, rfl⟩
  obtain ⟨k, hk⟩ : ∃ k, Y.length = k := ⟨_, rfl⟩
  have hkb : k ≤ 40 := by have h := backV_length (X.take m) MS; rw [hY, hk] at h; omega
  have HY := hide hY
  have HE := hide he
  have HKK := hide hk
  have hee : (e != e) = false := by simp
  clear hr0 hr1 hr2 hx0 hx1 hx2 hm hk1 hk2 hX40 hMS hPS hMSl hPSl hY he hk
  go_enter Try.func7, Try.ntmps7
  go_wp2_with fail
  with_reducible refine (wakes_any _).mono ?_
  rintro e w1 ⟨rfl, hb⟩
  replace HX0 := hide ((HX0.out.below hb).more hb.size)
  replace HMT := hide ((HMT.out.below hb).more hb.size)
  replace HPT := hide ((HPT.out.below hb).more hb.size)
  replace HB := hide (HB.out.trans (hb.mono HB.out.size))
  clear hb
  go_wp2_with fail
  with_reducible refine (few_any A0 c0 n0 X _ HX0.out HHX.out hn0 hm0 m HHM.out).mono ?_
  rintro e w2 ⟨v, rfl, hown, hb⟩
  replace HX0 := hide ((HX0.out.below hb).more hb.size)
  replace HMT := hide ((HMT.out.below hb).more hb.size)
  replace HPT := hide ((HPT.out.below hb).more hb.size)
  replace HB := hide (HB.out.trans (hb.mono HB.out.size))
  clear hb
  obtain ⟨Aw, cAw, rfl, hcAw, hcmAw⟩ := own_form2 hown
  have HW := hide (Rd.of_own hown)
  clear hown
  go_wp2_with fail
  with_reducible refine (CloneM _ A1 k1 c1 _ _ HMT.out (Nat.le_refl _) (Cs_one_cell encM_one _) (by omega)).mono ?_
  rintro e w3 ⟨v, rfl, hown, hb⟩
  replace HX0 := hide ((HX0.out.below hb).more hb.size)
  replace HMT := hide ((HMT.out.below hb).more hb.size)
  replace HPT := hide ((HPT.out.below hb).more hb.size)
  replace HW := hide ((HW.out.below hb).more hb.size)
  replace HB := hide (HB.out.trans (hb.mono HB.out.size))
  clear hb
  obtain ⟨Am, cAm, rfl, hcAm, hcmAm⟩ := own_form2 hown
  have HMS := hide (Rd.of_own hown)
  clear hown
  clear HMT
  go_wp2_with fail
  with_reducible refine (pback_u Aw Am cAw m cAm k1 (X.take m) MS _ HW.out HHX40.out (by omega) HMS.out HHMS.out (by omega) Y e k HY.out HE.out HKK.out).mono ?_
  rintro e w4 ⟨A3, c3, rfl, hc3, hcm3, hrd, hb⟩
  replace HX0 := hide ((HX0.out.below hb).more hb.size)
  replace HPT := hide ((HPT.out.below hb).more hb.size)
  replace HW := hide ((HW.out.below hb).more hb.size)
  replace HMS := hide ((HMS.out.below hb).more hb.size)
  replace HB := hide (HB.out.trans (hb.mono HB.out.size))
  have HB1 := hide (hrd)
  clear hb hrd
  go_wp2_with fail
  with_reducible refine (few_any A0 c0 n0 X _ HX0.out HHX.out hn0 hm0 m HHM.out).mono ?_
  rintro e w5 ⟨v, rfl, hown, hb⟩
  replace HX0 := hide ((HX0.out.below hb).more hb.size)
  replace HPT := hide ((HPT.out.below hb).more hb.size)
  replace HW := hide ((HW.out.below hb).more hb.size)
  replace HMS := hide ((HMS.out.below hb).more hb.size)
  replace HB1 := hide ((HB1.out.below hb).more hb.size)
  replace HB := hide (HB.out.trans (hb.mono HB.out.size))
  clear hb
  obtain ⟨Av, cAv, rfl, hcAv, hcmAv⟩ := own_form2 hown
  have HW2 := hide (Rd.of_own hown)
  clear hown
  go_wp2_with fail
  with_reducible refine (rback_u Av Am cAv m cAm k1 (X.take m) MS _ HW2.out HHX40.out hcAv hcmAv (by omega) HMS.out HHMS.out (by omega) Y e k HY.out HE.out HKK.out).mono ?_
  rintro e w6 ⟨A4, c4, rfl, hc4, hcm4, hrd, hb⟩
  replace HX0 := hide ((HX0.out.below hb).more hb.size)
  replace HPT := hide ((HPT.out.below hb).more hb.size)
  replace HW := hide ((HW.out.below hb).more hb.size)
  replace HMS := hide ((HMS.out.below hb).more hb.size)
  replace HB1 := hide ((HB1.out.below hb).more hb.size)
  replace HW2 := hide ((HW2.out.below hb).more hb.size)
  replace HB := hide (HB.out.trans (hb.mono HB.out.size))
  have HB2 := hide (hrd)
  clear hb hrd
  clear HW2
  go_wp2_with fail
  with_reducible refine (rsame_n _ _ A3 A4 c3 c4 k k Y Y _ HKK.out HKK.out HB1.out HB2.out (Nat.le_refl _) (Nat.le_refl _) (by omega) (by omega) true (by simp)).mono ?_
  rintro e w7 ⟨rfl, hb⟩
  replace HX0 := hide ((HX0.out.below hb).more hb.size)
  replace HPT := hide ((HPT.out.below hb).more hb.size)
  replace HW := hide ((HW.out.below hb).more hb.size)
  replace HMS := hide ((HMS.out.below hb).more hb.size)
  replace HB1 := hide ((HB1.out.below hb).more hb.size)
  replace HB2 := hide ((HB2.out.below hb).more hb.size)
  replace HB := hide (HB.out.trans (hb.mono HB.out.size))
  clear hb
  clear HB1 HB2
  go_wp2_with fail
  with_reducible refine (few_any A0 c0 n0 X _ HX0.out HHX.out hn0 hm0 m HHM.out).mono ?_
  rintro e w8 ⟨v, rfl, hown, hb⟩
  replace HX0 := hide ((HX0.out.below hb).more hb.size)
  replace HPT := hide ((HPT.out.below hb).more hb.size)
  replace HW := hide ((HW.out.below hb).more hb.size)
  replace HMS := hide ((HMS.out.below hb).more hb.size)
  replace HB := hide (HB.out.trans (hb.mono HB.out.size))
  clear hb
  obtain ⟨Au, cAu, rfl, hcAu, hcmAu⟩ := own_form2 hown
  have HW3 := hide (Rd.of_own hown)
  clear hown
  go_wp2_with fail
  with_reducible refine (EqualWn _ _ Aw Au cAw cAu m m (X.take m) (X.take m) _ HHX40.out HHX40.out HW.out HW3.out (Nat.le_refl _) (Nat.le_refl _) (by omega) (by omega) true (by simp)).mono ?_
  rintro e w9 ⟨rfl, hb⟩
  replace HX0 := hide ((HX0.out.below hb).more hb.size)
  replace HPT := hide ((HPT.out.below hb).more hb.size)
  replace HW := hide ((HW.out.below hb).more hb.size)
  replace HMS := hide ((HMS.out.below hb).more hb.size)
  replace HW3 := hide ((HW3.out.below hb).more hb.size)
  replace HB := hide (HB.out.trans (hb.mono HB.out.size))
  clear hb
  clear HW HW3 HX0
  go_wp2_with fail
  obtain ⟨lo, hlo⟩ : ∃ n, w9.heap.size = n := ⟨_, rfl⟩
  have HLO := hide (Nat.le_of_eq hlo.symm)
  have HLE := hide hlo
  have hWlo : W.heap.size ≤ lo := by rw [← hlo]; exact HB.out.size
  rw [hlo] at HMS
  clear hlo
  with_reducible refine (CloneI _ A2 k2 c2 _ _ HPT.out (Nat.le_refl _) (Cs_one_cell encI_one _) (by omega)).mono ?_
  rintro e w10 ⟨v, rfl, hown, hb⟩
  replace HPT := hide ((HPT.out.below hb).more hb.size)
  replace HMS := hide (HMS.out.below (hb.mono HLO.out))
  replace HLO := hide (Nat.le_trans HLO.out hb.size)
  replace HB := hide (HB.out.trans (hb.mono HB.out.size))
  clear hb
  rw [HLE.out] at hown
  obtain ⟨Ap, cAp, rfl, hcAp, hcmAp⟩ := own_form2 hown
  have HOI := hide hown
  clear hown
  clear HPT
  go_wp2_with (at_builtin; refine wpList_app elI rfl _ _ rfl rfl (HOI.out.alloc _) rfl (Rd.new w10 #[.int .i64 0, .int .i64 1] 3 1 2 rfl) (by simp [Value.oneCell']) (by omega) (by rw [World.size_alloc]; exact Nat.le_trans HLO.out (Nat.le_succ _)) ?_; intro v2 wA hownA hbA _ _; obtain ⟨AP, cP, rfl, hcP, hcmP⟩ := own_form2 hownA; have HAP := hide (Rd.of_own hownA); have HBA := hide ((((Below.refl lo w10).alloc HLO.out (.cells #[.int .i64 0, .int .i64 1] 3)).trans hbA)); clear hownA hbA)
  have HSA : Hid (lo ≤ wA.heap.size) := hide (Nat.le_trans HLO.out HBA.out.size)
  replace HMS := hide ((HMS.out.below HBA.out).more HSA.out)
  replace HB := hide (HB.out.trans (HBA.out.mono hWlo))
  have HPLl := hide (show (PS ++ [0, 1]).length = k2 + 2 by rw [List.length_append, HHPS.out]; rfl)
  replace HAP : Hid (Rd wA wA.heap.size 1 AP (k2 + 2) (Cs encI (PS ++ [0, 1]))) := hide (by rw [Cs_append]; exact HAP.out)
  generalize PS ++ [0, 1] = PL at *
  clear HBA HSA HOI HLO HLE
  go_loopw [66] (fun i wr => ∃ j : Nat, j ≤ k2 + 2 ∧ i = .int .i64 j ∧ Below wA.heap.size wA wr) (fun i _ => k2 + 2 - (intOf i).toNat)
  case atStart => exact ⟨0, Nat.zero_le _, rfl, Below.refl _ _⟩
  case round =>
    obtain ⟨j, hj, rfl, hbw⟩ := hrel
    have HBW := hide hbw
    by_cases hlt : j < k2 + 2
    · obtain ⟨b, o, rfl, hb, d0⟩ := (HAP.out.below hbw).num HPLl.out hlt
      have hbl : b < wr.heap.size := Nat.lt_of_lt_of_le hb hbw.size
      have hjn : (j : Int) < ((k2 + 2 : Nat) : Int) := by omega
      generalize PL.getD j 0 = at_ at *
      clear hb hbw
      replace HMS := hide ((HMS.out.below HBW.out).more HBW.out.size)
      replace HB := hide (HB.out.trans (HBW.out.mono HB.out.size))
      obtain ⟨r, hr⟩ : ∃ r, lastX MS at_ = r := ⟨_, rfl⟩
      obtain ⟨L, hL⟩ : ∃ r, heldX MS at_ = r := ⟨_, rfl⟩
      have hLl : L.length ≤ 60 := by have h := heldX_length MS at_; rw [hL, HHMS.out] at h; omega
      have HRL := hide hr
      have HLL := hide hL
      have h1 : (r.1 != r.1) = false := by simp
      have h2 : (r.2 != r.2) = false := by simp
      clear hr hL
      go_wp2_with fail
      with_reducible refine (plast_any Am cAm k1 MS at_ _ HMS.out HHMS.out (by omega) r HRL.out).mono ?_
      rintro e w11 ⟨rfl, hb⟩
      replace HMS := hide ((HMS.out.below hb).more hb.size)
      replace HB := hide (HB.out.trans (hb.mono HB.out.size))
      replace HBW := hide (HBW.out.trans (hb.mono HBW.out.size))
      clear hb
      go_wp2_with fail
      with_reducible refine (rlast_any Am cAm k1 MS at_ _ HMS.out HHMS.out (by omega) r HRL.out).mono ?_
      rintro e w12 ⟨rfl, hb⟩
      replace HMS := hide ((HMS.out.below hb).more hb.size)
      replace HB := hide (HB.out.trans (hb.mono HB.out.size))
      replace HBW := hide (HBW.out.trans (hb.mono HBW.out.size))
      clear hb
      go_wp2_with fail
      with_reducible refine (pheld_any Am cAm k1 MS at_ _ HMS.out HHMS.out (by omega) L HLL.out).mono ?_
      rintro e w13 ⟨A5, c5, rfl, hc5, hcm5, hrd, hb⟩
      replace HMS := hide ((HMS.out.below hb).more hb.size)
      replace HB := hide (HB.out.trans (hb.mono HB.out.size))
      replace HBW := hide (HBW.out.trans (hb.mono HBW.out.size))
      have H5 := hide (hrd)
      clear hb hrd
      go_wp2_with fail
      with_reducible refine (rheld_any Am cAm k1 MS at_ _ HMS.out HHMS.out (by omega) L HLL.out).mono ?_
      rintro e w14 ⟨A6, c6, rfl, hc6, hcm6, hrd, hb⟩
      replace HMS := hide ((HMS.out.below hb).more hb.size)
      replace H5 := hide ((H5.out.below hb).more hb.size)
      replace HB := hide (HB.out.trans (hb.mono HB.out.size))
      replace HBW := hide (HBW.out.trans (hb.mono HBW.out.size))
      have H6 := hide (hrd)
      clear hb hrd
      go_wp2_with fail
      with_reducible refine (EqualWn _ _ A5 A6 c5 c6 L.length L.length L L _ rfl rfl H5.out H6.out (Nat.le_refl _) (Nat.le_refl _) (by omega) (by omega) true (by simp)).mono ?_
      rintro e w15 ⟨rfl, hb⟩
      replace HMS := hide ((HMS.out.below hb).more hb.size)
      replace H5 := hide ((H5.out.below hb).more hb.size)
      replace H6 := hide ((H6.out.below hb).more hb.size)
      replace HB := hide (HB.out.trans (hb.mono HB.out.size))
      replace HBW := hide (HBW.out.trans (hb.mono HBW.out.size))
      clear hb
      go_wp2_with fail
      go_roundw
      case rel => exact ⟨j + 1, by omega, by go_num, HBW.out⟩
      case measure => simp [intOf]; omega
    · go_wp2_with fail
      go_ret
      exact ⟨rfl, HB.out.trans (HBW.out.mono HB.out.size)⟩
end Go.Proofs.Ytadgihmokmfejaa
