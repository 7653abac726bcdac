/-
  What comes of mutexes that are asked for, and left.
-/
import Derived.Test.YtlelpnahillioaaMvd
set_option linter.unusedSimpArgs false
set_option linter.unusedVariables false
namespace Go.Proofs.Ytlelpnahillioaa
open Go Go.RowKit
attribute [local go_sem] via_cell via_frozen

set_option maxHeartbeats 400000 in
theorem CloneD (B : Nat) (A : Option Addr) (n c : Nat) (xs : List Value) (W : World) (hr : Rd W B 3 A n xs) (hB : B ≤ W.heap.size) (h1 : ∀ u ∈ xs, u.oneCell' = true) (hb : n ≤ 4096) :
    Calls Try.prog 11 #[.slice A n c] W fun e W' => ∃ v, e = .returned v ∧ W'.ownsRow W.heap.size 29 3 v n xs ∧ Below W.heap.size W W' := by
  cases A with
  | none =>
    obtain rfl := rd_none hr
    obtain rfl := hr.nil
    have hn := fun w => Lib.run_eql_slice_nil (P := Try.prog) w 23 29 none 0 c 0 0 Try.underlying23
    go_enter Try.func11, Try.ntmps11
    go_wp2
    go_ret
    exact ⟨_, rfl, World.ownsRow_nil _ _ _ _, Below.refl _ _⟩
  | some a =>
    have hn := fun w => Lib.run_eql_slice_nil (P := Try.prog) w 23 29 (some a) n c 0 0 Try.underlying23
    have hown := World.ownsRow_lit (base := W.heap.size) (e := 29) (size := 3) W #[] 0 (Nat.le_refl _) (by simp [maxLen]) rfl
    go_enter Try.func11, Try.ntmps11
    go_wp2_with (at_builtin; refine wpList_app elD rfl _ _ rfl rfl hown rfl (hr.alloc hB _) h1 (by omega) (by simp) ?_; intro v1 w1 hown1 hb1 _ _)
    go_ret
    exact ⟨v1, rfl, by simpa using hown1, ((Below.refl _ _).alloc (Nat.le_refl _) _).trans hb1⟩

theorem ownL_idem (l : Ml) : ownL (ownL l) = ownL l := by
  unfold ownL
  rw [List.take_of_length_le (by rw [List.length_map, List.length_take]; omega), List.map_map]
  apply List.map_congr_left
  intro x _
  show cutM (cutM x) = cutM x
  unfold cutM
  dsimp only
  rw [List.take_take]; rfl
theorem OwnOwnK {b : Nat} {A : Option Addr} {m c : Nat} {l : Ml} {W : World} (h : Own b W A m c l) :
    Calls Try.prog 9 #[.slice A m c] W fun e W' => OwnRes W.heap.size (ownL l) e W' ∧ Below W.heap.size W W' := by
  obtain ⟨ts, h1, h2, h3⟩ := h.ex
  obtain ⟨_, _, he, hc1, hc2⟩ := own_form2 h3.own
  injection he with _ _ he
  subst he
  rw [← h1]
  exact OwnKw (h3.rm h2) (by omega) hc2 (fun t ht => (h3.qs t ht).cap)
theorem own_none (b : Nat) (w : World) : Own b w none 0 0 [] := ⟨[], rfl, rfl, MadeM.nil _ _⟩
theorem small_nil : SmallL [] := by unfold SmallL; decide
theorem ask_small {l : Ml} (h : RightM l) (w g : Int) : SmallL (outL (askX l w g)) := by
  cases hr : askX l w g with
  | error e => exact small_nil
  | ok x => obtain ⟨l2, b⟩ := x; exact (askX_right h hr).small
theorem leave_small {l : Ml} (h : RightM l) (w g : Int) : SmallL (outL (leaveX l w g)) := by
  cases hr : leaveX l w g with
  | error e => exact small_nil
  | ok x => obtain ⟨l2, b⟩ := x; exact (leaveX_right h hr).small
theorem play_small {l : Ml} (h : RightM l) (ds : List Dd) : SmallL (outL (playX l ds 0)) := by
  cases hr : playX l ds 0 with
  | error e => exact small_nil
  | ok x => obtain ⟨l2, b⟩ := x; exact (playX_right ds h hr).small
theorem RPlayK {base : Nat} {A : Option Addr} {m c : Nat} {l : Ml} {Ad : Option Addr} {nd cd : Nat} {ds : List Dd} {W : World} (h : Own base W A m c l) (hright : RightM l) (hd : Rd W W.heap.size 3 Ad nd (Cs encD ds)) (hn : ds.length = nd) (hnd : nd ≤ 4096) {l2 : Ml} {n : Int} {E : Int} (h1 : outL (playX l ds 0) = l2) (h2 : ((outV 0 (playX l ds 0) : Nat) : Int) = n) (h3 : outE (playX l ds 0) = E) :
    Calls Try.prog 19 #[.slice A m c, .slice Ad nd cd] W fun e W' => OutK W.heap.size l2 (.int .i64 n) E e W' ∧ Below W.heap.size W W' := by
  obtain ⟨ts, hl, hr⟩ := h.rm
  exact rplay_any W.heap.size A c m ts Ad nd cd ds W hr (smallM_of hl hright.small) (Nat.le_refl _) (by rw [hl]; exact hright) hd hn hnd l2 n E (by rw [hl]; exact h1) (by rw [hl]; exact h2) (by rw [hl]; exact h3)
set_option maxRecDepth 100000 in
set_option maxHeartbeats 16000000 in
theorem Deeds_walk (A0 : Option Addr) (c0 n0 : Nat) (ts : List Mm) (A1 : Option Addr) (c1 n1 : Nat) (xs1 : List Dd) (W : World) (h0 : RM W W.heap.size A0 n0 ts) (hn0 : n0 ≤ c0) (hm0 : c0 ≤ 9223372036854775807) (hu0 : ∀ t ∈ ts, t.q.length ≤ t.c ∧ t.c ≤ 9223372036854775807)
    (h1 : Rd W W.heap.size 3 A1 n1 (Cs encD xs1)) (hx1 : xs1.length = n1) (hn1 : n1 ≤ c1) (hm1 : c1 ≤ 9223372036854775807) :
    Calls Try.prog 3 #[.slice A0 n0 c0, .slice A1 n1 c1] W fun e W' => e = .returned (.bool true) ∧ Below W.heap.size W W' := by
  have HOW0 := hide (fun w (hb : Below W.heap.size W w) => OwnKw ((h0.below hb).more hb.size) hn0 hm0 (show CapT ts from hu0))
  have HLA := hide (ownL_small (mus ts))
  have HID := hide (ownL_idem (mus ts))
  obtain ⟨j, hj⟩ : ∃ j, min n1 12 = j := ⟨_, rfl⟩
  have hjI : min (n1 : Int) 12 = (j : Int) := by omega
  have hj1 : j ≤ n1 := by omega
  have hj2 : j ≤ 12 := by omega
  have hjc : (j : Int) ≤ (c1 : Int) := by omega
  have htI : (c1 : Int) ≤ 9223372036854775807 := by omega
  have hnI : (n1 : Int) ≤ 9223372036854775807 := by omega
  have HDL := hide (show (xs1.take 12).length = j from by rw [List.length_take, hx1, Nat.min_comm]; exact hj)
  have HDT := hide (show Rd W W.heap.size 3 A1 j (Cs encD (xs1.take 12)) from by
    have h := h1.take hj1
    rw [← Cs_take encD_len] at h
    rw [show xs1.take 12 = xs1.take j from by rw [← hj, ← hx1, Nat.min_comm]; exact List.take_eq_take_min]; exact h)
  clear h0 hu0 h1 hx1 hj
  generalize ownL (mus ts) = la at *
  generalize xs1.take 12 = ds at *
  go_enter Try.func3, Try.ntmps3
  go_wp2_with fail
  with_reducible refine (wakes_any W).mono ?_
  rintro e w0 ⟨rfl, hb0⟩
  have HB0 := hide hb0
  have HC0 := hide (HOW0.out _ HB0.out)
  clear hb0
  go_wp2_with fail
  with_reducible refine HC0.out.mono ?_
  rintro e w1 ⟨⟨Al, ml, cl, rfl, ho⟩, hb⟩
  have HO1 := hide (ho.base HB0.out.size)
  have HB1 := hide (HB0.out.trans (hb.mono HB0.out.size))
  obtain ⟨r, hr⟩ : ∃ x : Bool, rightM la = x := ⟨_, rfl⟩
  have HR := hide hr
  have HCR := hide (RightK HO1.out HLA.out hr)
  clear ho hb HC0 hr
  go_wp2_with fail
  with_reducible refine HCR.out.mono ?_
  rintro e w2 ⟨rfl, hb⟩
  have HO2 := hide (HO1.out.below hb)
  have HB2 := hide (HB1.out.trans (hb.mono HB1.out.size))
  have HCD := hide (CloneD W.heap.size A1 j c1 _ w2 (HDT.out.below HB2.out) HB2.out.size (Cs_one_cell encD_one _) (by omega))
  clear hb HCR
  go_wp2_with fail
  with_reducible refine HCD.out.mono ?_
  rintro e wl ⟨vd, rfl, hod, hb⟩
  obtain ⟨Ad, cd, rfl, _, _⟩ := own_form2 hod
  have HRD := hide (show Rd wl wl.heap.size 3 Ad j (Cs encD ds) from Rd.of_own hod)
  have HOL := hide (HO2.out.below hb)
  have HBL := hide (HB2.out.trans (hb.mono HB2.out.size))
  clear hb hod HCD hjI hjc htI hnI hj1
  cases r
  · have HAF := hide (show ∀ w g, askF la w g = .error 150 from fun w g => by unfold askF; rw [HR.out]; rfl)
    have HLF := hide (show ∀ w g, leaveF la w g = .error 150 from fun w g => by unfold leaveF; rw [HR.out]; rfl)
    have HPF := hide (show playF la ds = .error 150 from by unfold playF; rw [HR.out]; rfl)
    go_wp2_with fail
    go_loopw [41] (fun i wr => ∃ k : Nat, k ≤ j ∧ i = .int .i64 k ∧ Below wl.heap.size wl wr) (fun i _ => j - (intOf i).toNat)
    case atStart => exact ⟨0, Nat.zero_le _, rfl, Below.refl _ _⟩
    case round =>
      obtain ⟨k, hk, rfl, hbn⟩ := hrel
      have HBN := hide hbn
      have HOr := hide (HOL.out.below hbn)
      clear hbn
      by_cases hlt : k < j
      · have hkI : (k : Int) < (j : Int) := by omega
        obtain ⟨b, o, rfl, hb, d0, d1, d2⟩ := (HRD.out.below HBN.out).deed HDL.out hlt
        have hbl : b < wr.heap.size := Nat.lt_of_lt_of_le hb HBN.out.size
        generalize ds.getD k ddZ = d at *
        obtain ⟨lv, dg, dw⟩ := d
        dsimp only at *
        have HBD := hide (show Below wr.heap.size wr (wr.alloc (.cells #[.bool lv, .int .i64 dg, .int .i64 dw] 29)) from (Below.refl _ _).alloc (Nat.le_refl _) _)
        have HRN := hide (RowAt.new wr 29 #[.bool lv, .int .i64 dg, .int .i64 dw])
        have HO5 := hide (HOr.out.below HBD.out)
        have HB5 := hide (HBN.out.trans (HBD.out.mono HBN.out.size))
        obtain ⟨gm, hgm⟩ : ∃ gm, wr.heap.size = gm := ⟨_, rfl⟩
        have HGE := hide hgm
        clear hgm hb
        go_upto_region 9 with (fail)
        (try rw [HGE.out])
        rw [HGE.out] at HRN
        clear HGE d0 d1 d2 hbl HBD HOr
        generalize wr.alloc (.cells #[.bool lv, .int .i64 dg, .int .i64 dw] 29) = w5 at *
        have e0 : w5.cell? ⟨gm, 0, none⟩ = some (.bool lv) := by have := HRN.out.cell 0; simpa using this
        have e1 : w5.cell? ⟨gm, 1, none⟩ = some (.int .i64 dg) := by have := HRN.out.cell 1; simpa using this
        have e2 : w5.cell? ⟨gm, 2, none⟩ = some (.int .i64 dw) := by have := HRN.out.cell 2; simpa using this
        have el := HRN.out.lt
        have HSA := hide small_nil
        have HSB := hide small_nil
        have HC5 := hide (AskK dw dg HO5.out HLA.out (l2 := []) (b := false) (E := 150) (by rw [HAF.out]; rfl) (by rw [HAF.out]; rfl) (by rw [HAF.out]; rfl))
        go_wp2_with fail
        with_reducible refine HC5.out.mono ?_
        rintro e w6 ⟨⟨Aa, ma, ca, rfl, hoa⟩, hb⟩
        have HOA := hide hoa
        have HO6 := hide (HO5.out.below hb)
        have HB6 := hide (HB5.out.trans (hb.mono HB5.out.size))
        have HRN6 := hide (HRN.out.below hb)
        clear hoa hb HC5 e0 e1 e2 el
        have e0 : w6.cell? ⟨gm, 0, none⟩ = some (.bool lv) := by have := HRN6.out.cell 0; simpa using this
        have e1 : w6.cell? ⟨gm, 1, none⟩ = some (.int .i64 dg) := by have := HRN6.out.cell 1; simpa using this
        have e2 : w6.cell? ⟨gm, 2, none⟩ = some (.int .i64 dw) := by have := HRN6.out.cell 2; simpa using this
        have el := HRN6.out.lt
        have HC6 := hide (LeaveK dw dg HO6.out HLA.out (l2 := []) (n := 0) (E := 150) (by rw [HLF.out]; rfl) (by rw [HLF.out]; rfl) (by rw [HLF.out]; rfl))
        go_wp2_with fail
        with_reducible refine HC6.out.mono ?_
        rintro e w7 ⟨⟨Ab, mb, cb, rfl, hob⟩, hb⟩
        have HOB := hide hob
        have HOA7 := hide (HOA.out.below hb)
        have HBA7 := hide (show Below w6.heap.size w6 w7 from hb)
        have HO7 := hide (HO6.out.below hb)
        have HB7 := hide (HB6.out.trans (hb.mono HB6.out.size))
        have HRN7 := hide (HRN6.out.below hb)
        clear hob hb HC6 e0 e1 e2 el
        obtain ⟨w9, h9⟩ : ∃ w, w = w7 := ⟨_, rfl⟩
        subst h9
        have HOC9 := hide (own_none 0 w9)
        have HOE := hide (own_none 0 w9)
        have HOA9 := hide HOA7.out
        have HOB9 := hide HOB.out
        have HBA9 := hide HBA7.out
        have HBB9 := hide (Below.refl w9.heap.size w9)
        have HB9 := hide HB7.out
        have HW79 := hide (Nat.le_refl w9.heap.size)
        have HC9 := hide (RSameK HOA9.out HOC9.out HSA.out HSA.out (r := true) (by simp))
        go_wp2_with fail
        with_reducible refine HC9.out.mono ?_
        rintro e w10 ⟨rfl, hb⟩
        have HBA10 := hide (HBA9.out.trans (hb.mono HBA9.out.size))
        have HBB10 := hide (HBB9.out.trans (hb.mono HBB9.out.size))
        have HB10 := hide (HB9.out.trans (hb.mono HB9.out.size))
        have HC10 := hide (RSameK (HOB9.out.below hb) (HOE.out.below hb) HSB.out HSB.out (r := true) (by simp))
        clear hb HC9
        go_wp2_with fail
        with_reducible refine HC10.out.mono ?_
        rintro e w11 ⟨rfl, hb⟩
        have HBA11 := hide (HBA10.out.trans (hb.mono HBA10.out.size))
        have HBB11 := hide (HBB10.out.trans (hb.mono HBB10.out.size))
        have HB11 := hide (HB10.out.trans (hb.mono HB10.out.size))
        have HC11 := hide (spoil_any w5.heap.size Aa ca ma _ w6 w11 HOA.out HSA.out HBA11.out)
        clear hb HC10
        go_wp2_with fail
        with_reducible refine HC11.out.mono ?_
        rintro e w12 ⟨rfl, hbt⟩
        have HB12 := hide (HB11.out.trans (hbt.below.mono HB5.out.size))
        have HOB12 := hide (((HOB.out.below HBB11.out).betw hbt (Nat.le_refl _)))
        have HZ12 := hide (show w11.heap.size = w12.heap.size from hbt.size.symm)
        have HC12 := hide (spoil_any w6.heap.size Ab cb mb _ w12 w12 HOB12.out HSB.out (Below.refl _ _))
        clear hbt HC11
        go_wp2_with fail
        with_reducible refine HC12.out.mono ?_
        rintro e w13 ⟨rfl, hbt⟩
        have HB13 := hide (HB12.out.trans (hbt.below.mono HB6.out.size))
        clear hbt HC12
        go_wp2_with fail
        go_roundw
        case rel => exact ⟨k + 1, by omega, by go_num, HB13.out⟩
        case measure => simp [intOf]; omega
      · have HSP := hide small_nil
        have HP1 := hide (PlayK HOr.out HLA.out ((HRD.out.below HBN.out).more HBN.out.size) HDL.out (by omega) (cd := cd) (l2 := []) (n := 0) (E := 150) (by rw [HPF.out]; rfl) (by rw [HPF.out]; rfl) (by rw [HPF.out]; rfl))
        go_wp2_with fail
        with_reducible refine HP1.out.mono ?_
        rintro e v1 ⟨⟨Ap, mp, cp, rfl, hop⟩, hb⟩
        have HOP := hide hop
        have HO1 := hide (HOr.out.below hb)
        have HBv1 := hide (HBN.out.trans (hb.mono HBN.out.size))
        have HSZ := hide (show wl.heap.size ≤ wr.heap.size from HBN.out.size)
        clear hop hb HP1
        have HBP3 := hide (Below.refl v1.heap.size v1)
        have HBv3 := hide HBv1.out
        have HP4 := hide (RSameK HOP.out (own_none 0 v1) HSP.out HSP.out (r := true) (by simp))
        go_wp2_with fail
        with_reducible refine HP4.out.mono ?_
        rintro e v4 ⟨rfl, hb⟩
        have HBP4 := hide (HBP3.out.trans (hb.mono HBP3.out.size))
        have HBv4 := hide (HBv3.out.trans (hb.mono HBv3.out.size))
        have HP5 := hide (spoil_any wr.heap.size Ap cp mp _ v1 v4 HOP.out HSP.out HBP4.out)
        clear hb HP4
        go_wp2_with fail
        with_reducible refine HP5.out.mono ?_
        rintro e v5 ⟨rfl, hbt⟩
        have HBv5 := hide (HBv4.out.trans (hbt.below.mono HSZ.out))
        have HOv5 := hide (HOL.out.below HBv5.out)
        have HBW5 := hide (HBL.out.trans (HBv5.out.mono HBL.out.size))
        have HP6 := hide (HOW0.out _ HBW5.out)
        clear hbt HP5
        go_wp2_with fail
        with_reducible refine HP6.out.mono ?_
        rintro e v6 ⟨⟨Az, mz, cz, rfl, hoz⟩, hb⟩
        have HBW6 := hide (HBW5.out.trans (hb.mono HBW5.out.size))
        have HP7 := hide (RSameK (HOv5.out.below hb) hoz HLA.out HLA.out (r := true) (by simp))
        clear hoz hb HP6
        go_wp2_with fail
        with_reducible refine HP7.out.mono ?_
        rintro e v7 ⟨rfl, hb⟩
        have HBW7 := hide (HBW6.out.trans (hb.mono HBW6.out.size))
        clear hb
        go_wp2_with fail
        go_ret
        exact ⟨rfl, HBW7.out⟩
  · have HRM := hide (rightM_iff.1 HR.out)
    have HAF := hide (show ∀ w g, askF la w g = askX la w g from fun w g => by unfold askF; rw [HR.out]; rfl)
    have HLF := hide (show ∀ w g, leaveF la w g = leaveX la w g from fun w g => by unfold leaveF; rw [HR.out]; rfl)
    have HPF := hide (show playF la ds = playX la ds 0 from by unfold playF; rw [HR.out]; rfl)
    go_wp2_with fail
    go_loopw [41] (fun i wr => ∃ k : Nat, k ≤ j ∧ i = .int .i64 k ∧ Below wl.heap.size wl wr) (fun i _ => j - (intOf i).toNat)
    case atStart => exact ⟨0, Nat.zero_le _, rfl, Below.refl _ _⟩
    case round =>
      obtain ⟨k, hk, rfl, hbn⟩ := hrel
      have HBN := hide hbn
      have HOr := hide (HOL.out.below hbn)
      clear hbn
      by_cases hlt : k < j
      · have hkI : (k : Int) < (j : Int) := by omega
        obtain ⟨b, o, rfl, hb, d0, d1, d2⟩ := (HRD.out.below HBN.out).deed HDL.out hlt
        have hbl : b < wr.heap.size := Nat.lt_of_lt_of_le hb HBN.out.size
        generalize ds.getD k ddZ = d at *
        obtain ⟨lv, dg, dw⟩ := d
        dsimp only at *
        have HBD := hide (show Below wr.heap.size wr (wr.alloc (.cells #[.bool lv, .int .i64 dg, .int .i64 dw] 29)) from (Below.refl _ _).alloc (Nat.le_refl _) _)
        have HRN := hide (RowAt.new wr 29 #[.bool lv, .int .i64 dg, .int .i64 dw])
        have HO5 := hide (HOr.out.below HBD.out)
        have HB5 := hide (HBN.out.trans (HBD.out.mono HBN.out.size))
        obtain ⟨gm, hgm⟩ : ∃ gm, wr.heap.size = gm := ⟨_, rfl⟩
        have HGE := hide hgm
        clear hgm hb
        go_upto_region 9 with (fail)
        (try rw [HGE.out])
        rw [HGE.out] at HRN
        clear HGE d0 d1 d2 hbl HBD HOr
        generalize wr.alloc (.cells #[.bool lv, .int .i64 dg, .int .i64 dw] 29) = w5 at *
        have e0 : w5.cell? ⟨gm, 0, none⟩ = some (.bool lv) := by have := HRN.out.cell 0; simpa using this
        have e1 : w5.cell? ⟨gm, 1, none⟩ = some (.int .i64 dg) := by have := HRN.out.cell 1; simpa using this
        have e2 : w5.cell? ⟨gm, 2, none⟩ = some (.int .i64 dw) := by have := HRN.out.cell 2; simpa using this
        have el := HRN.out.lt
        obtain ⟨la2, hla2⟩ : ∃ x, outL (askX la dw dg) = x := ⟨_, rfl⟩
        obtain ⟨ba, hba⟩ : ∃ x, outV false (askX la dw dg) = x := ⟨_, rfl⟩
        obtain ⟨Ea, hEa⟩ : ∃ x, outE (askX la dw dg) = x := ⟨_, rfl⟩
        obtain ⟨lb2, hlb2⟩ : ∃ x, outL (leaveX la dw dg) = x := ⟨_, rfl⟩
        obtain ⟨nb, hnb⟩ : ∃ x, outV 0 (leaveX la dw dg) = x := ⟨_, rfl⟩
        obtain ⟨Eb, hEb⟩ : ∃ x, outE (leaveX la dw dg) = x := ⟨_, rfl⟩
        have HSA := hide (show SmallL la2 from by rw [← hla2]; exact ask_small HRM.out _ _)
        have HSB := hide (show SmallL lb2 from by rw [← hlb2]; exact leave_small HRM.out _ _)
        have H1a := hide hla2
        have H2a := hide hba
        have H3a := hide hEa
        have H1b := hide hlb2
        have H2b := hide hnb
        have H3b := hide hEb
        have hq1 : (Ea != Ea) = false := by simp
        have hq2 : (Eb != Eb) = false := by simp
        have hq3 : (ba != ba) = false := by simp
        have hq4 : (nb != nb) = false := by simp
        have HC5 := hide (AskK dw dg HO5.out HLA.out (l2 := la2) (b := ba) (E := Ea) (by rw [HAF.out]; exact hla2) (by rw [HAF.out]; exact hba) (by rw [HAF.out]; exact hEa))
        clear hla2 hba hEa hlb2 hnb hEb
        go_wp2_with fail
        with_reducible refine HC5.out.mono ?_
        rintro e w6 ⟨⟨Aa, ma, ca, rfl, hoa⟩, hb⟩
        have HOA := hide hoa
        have HO6 := hide (HO5.out.below hb)
        have HB6 := hide (HB5.out.trans (hb.mono HB5.out.size))
        have HRN6 := hide (HRN.out.below hb)
        clear hoa hb HC5 e0 e1 e2 el
        have e0 : w6.cell? ⟨gm, 0, none⟩ = some (.bool lv) := by have := HRN6.out.cell 0; simpa using this
        have e1 : w6.cell? ⟨gm, 1, none⟩ = some (.int .i64 dg) := by have := HRN6.out.cell 1; simpa using this
        have e2 : w6.cell? ⟨gm, 2, none⟩ = some (.int .i64 dw) := by have := HRN6.out.cell 2; simpa using this
        have el := HRN6.out.lt
        have HC6 := hide (LeaveK dw dg HO6.out HLA.out (l2 := lb2) (n := nb) (E := Eb) (by rw [HLF.out]; exact H1b.out) (by rw [HLF.out]; exact H2b.out) (by rw [HLF.out]; exact H3b.out))
        go_wp2_with fail
        with_reducible refine HC6.out.mono ?_
        rintro e w7 ⟨⟨Ab, mb, cb, rfl, hob⟩, hb⟩
        have HOB := hide hob
        have HOA7 := hide (HOA.out.below hb)
        have HBA7 := hide (show Below w6.heap.size w6 w7 from hb)
        have HO7 := hide (HO6.out.below hb)
        have HB7 := hide (HB6.out.trans (hb.mono HB6.out.size))
        have HRN7 := hide (HRN6.out.below hb)
        clear hob hb HC6 e0 e1 e2 el
        have e0 : w7.cell? ⟨gm, 0, none⟩ = some (.bool lv) := by have := HRN7.out.cell 0; simpa using this
        have e1 : w7.cell? ⟨gm, 1, none⟩ = some (.int .i64 dg) := by have := HRN7.out.cell 1; simpa using this
        have e2 : w7.cell? ⟨gm, 2, none⟩ = some (.int .i64 dw) := by have := HRN7.out.cell 2; simpa using this
        have el := HRN7.out.lt
        have HC7 := hide (RAskK dw dg HO7.out HLA.out H1a.out H2a.out H3a.out)
        go_wp2_with fail
        with_reducible refine HC7.out.mono ?_
        rintro e w8 ⟨⟨Ac, mc, cc, rfl, hoc⟩, hb⟩
        have HOC := hide hoc
        have HOA8 := hide (HOA7.out.below hb)
        have HOB8 := hide (HOB.out.below hb)
        have HBA8 := hide (HBA7.out.trans (hb.mono HBA7.out.size))
        have HBB8 := hide (show Below w7.heap.size w7 w8 from hb)
        have HO8 := hide (HO7.out.below hb)
        have HB8 := hide (HB7.out.trans (hb.mono HB7.out.size))
        have HRN8 := hide (HRN7.out.below hb)
        clear hoc hb HC7 e0 e1 e2 el
        have e0 : w8.cell? ⟨gm, 0, none⟩ = some (.bool lv) := by have := HRN8.out.cell 0; simpa using this
        have e1 : w8.cell? ⟨gm, 1, none⟩ = some (.int .i64 dg) := by have := HRN8.out.cell 1; simpa using this
        have e2 : w8.cell? ⟨gm, 2, none⟩ = some (.int .i64 dw) := by have := HRN8.out.cell 2; simpa using this
        have el := HRN8.out.lt
        have HC8 := hide (RLeaveK dw dg HO8.out HRM.out H1b.out H2b.out H3b.out)
        go_wp2_with fail
        with_reducible refine HC8.out.mono ?_
        rintro e w9 ⟨⟨Ae, me, ce, rfl, hoe⟩, hb⟩
        have HOE := hide hoe
        have HOC9 := hide (HOC.out.below hb)
        have HOA9 := hide (HOA8.out.below hb)
        have HOB9 := hide (HOB8.out.below hb)
        have HBA9 := hide (HBA8.out.trans (hb.mono HBA8.out.size))
        have HBB9 := hide (HBB8.out.trans (hb.mono HBB8.out.size))
        have HB9 := hide (HB8.out.trans (hb.mono HB8.out.size))
        clear hoe hb HC8 e0 e1 e2 el
        have HC9 := hide (RSameK HOA9.out HOC9.out HSA.out HSA.out (r := true) (by simp))
        go_wp2_with fail
        with_reducible refine HC9.out.mono ?_
        rintro e w10 ⟨rfl, hb⟩
        have HBA10 := hide (HBA9.out.trans (hb.mono HBA9.out.size))
        have HBB10 := hide (HBB9.out.trans (hb.mono HBB9.out.size))
        have HB10 := hide (HB9.out.trans (hb.mono HB9.out.size))
        have HC10 := hide (RSameK (HOB9.out.below hb) (HOE.out.below hb) HSB.out HSB.out (r := true) (by simp))
        clear hb HC9
        go_wp2_with fail
        with_reducible refine HC10.out.mono ?_
        rintro e w11 ⟨rfl, hb⟩
        have HBA11 := hide (HBA10.out.trans (hb.mono HBA10.out.size))
        have HBB11 := hide (HBB10.out.trans (hb.mono HBB10.out.size))
        have HB11 := hide (HB10.out.trans (hb.mono HB10.out.size))
        have HC11 := hide (spoil_any w5.heap.size Aa ca ma _ w6 w11 HOA.out HSA.out HBA11.out)
        clear hb HC10
        go_wp2_with fail
        with_reducible refine HC11.out.mono ?_
        rintro e w12 ⟨rfl, hbt⟩
        have HB12 := hide (HB11.out.trans (hbt.below.mono HB5.out.size))
        have HOB12 := hide (((HOB.out.below HBB11.out).betw hbt (Nat.le_refl _)))
        have HZ12 := hide (show w11.heap.size = w12.heap.size from hbt.size.symm)
        have HC12 := hide (spoil_any w6.heap.size Ab cb mb _ w12 w12 HOB12.out HSB.out (Below.refl _ _))
        clear hbt HC11
        go_wp2_with fail
        with_reducible refine HC12.out.mono ?_
        rintro e w13 ⟨rfl, hbt⟩
        have HB13 := hide (HB12.out.trans (hbt.below.mono HB6.out.size))
        clear hbt HC12
        go_wp2_with fail
        go_roundw
        case rel => exact ⟨k + 1, by omega, by go_num, HB13.out⟩
        case measure => simp [intOf]; omega
      · obtain ⟨lp, hlp⟩ : ∃ x, outL (playX la ds 0) = x := ⟨_, rfl⟩
        obtain ⟨np, hnp⟩ : ∃ x : Int, ((outV 0 (playX la ds 0) : Nat) : Int) = x := ⟨_, rfl⟩
        obtain ⟨Ep, hEp⟩ : ∃ x, outE (playX la ds 0) = x := ⟨_, rfl⟩
        have HSP := hide (show SmallL lp from by rw [← hlp]; exact play_small HRM.out _)
        have H1 := hide hlp
        have H2 := hide hnp
        have H3 := hide hEp
        have hq1 : (Ep != Ep) = false := by simp
        have hq2 : (np != np) = false := by simp
        have HP1 := hide (PlayK HOr.out HLA.out ((HRD.out.below HBN.out).more HBN.out.size) HDL.out (by omega) (cd := cd) (l2 := lp) (n := np) (E := Ep) (by rw [HPF.out]; exact hlp) (by rw [HPF.out]; exact hnp) (by rw [HPF.out]; exact hEp))
        clear hlp hnp hEp
        go_wp2_with fail
        with_reducible refine HP1.out.mono ?_
        rintro e v1 ⟨⟨Ap, mp, cp, rfl, hop⟩, hb⟩
        have HOP := hide hop
        have HO1 := hide (HOr.out.below hb)
        have HBv1 := hide (HBN.out.trans (hb.mono HBN.out.size))
        have HSZ := hide (show wl.heap.size ≤ wr.heap.size from HBN.out.size)
        clear hop hb HP1
        have HP2 := hide (OwnOwnK HO1.out)
        rw [HID.out] at HP2
        go_wp2_with fail
        with_reducible refine HP2.out.mono ?_
        rintro e v2 ⟨⟨Aq, mq, cq, rfl, hoq⟩, hb⟩
        have HBP2 := hide (show Below v1.heap.size v1 v2 from hb)
        have HBv2 := hide (HBv1.out.trans (hb.mono HBv1.out.size))
        have HP3 := hide (RPlayK hoq HRM.out ((HRD.out.below HBv2.out).more HBv2.out.size) HDL.out (by omega) (cd := cd) H1.out H2.out H3.out)
        clear hoq hb HP2
        go_wp2_with fail
        with_reducible refine HP3.out.mono ?_
        rintro e v3 ⟨⟨Aw, mw, cw, rfl, how⟩, hb⟩
        have HBP3 := hide (HBP2.out.trans (hb.mono HBP2.out.size))
        have HBv3 := hide (HBv2.out.trans (hb.mono HBv2.out.size))
        have HP4 := hide (RSameK (HOP.out.below HBP3.out) how HSP.out HSP.out (r := true) (by simp))
        clear how hb HP3
        go_wp2_with fail
        with_reducible refine HP4.out.mono ?_
        rintro e v4 ⟨rfl, hb⟩
        have HBP4 := hide (HBP3.out.trans (hb.mono HBP3.out.size))
        have HBv4 := hide (HBv3.out.trans (hb.mono HBv3.out.size))
        have HP5 := hide (spoil_any wr.heap.size Ap cp mp _ v1 v4 HOP.out HSP.out HBP4.out)
        clear hb HP4
        go_wp2_with fail
        with_reducible refine HP5.out.mono ?_
        rintro e v5 ⟨rfl, hbt⟩
        have HBv5 := hide (HBv4.out.trans (hbt.below.mono HSZ.out))
        have HOv5 := hide (HOL.out.below HBv5.out)
        have HBW5 := hide (HBL.out.trans (HBv5.out.mono HBL.out.size))
        have HP6 := hide (HOW0.out _ HBW5.out)
        clear hbt HP5
        go_wp2_with fail
        with_reducible refine HP6.out.mono ?_
        rintro e v6 ⟨⟨Az, mz, cz, rfl, hoz⟩, hb⟩
        have HBW6 := hide (HBW5.out.trans (hb.mono HBW5.out.size))
        have HP7 := hide (RSameK (HOv5.out.below hb) hoz HLA.out HLA.out (r := true) (by simp))
        clear hoz hb HP6
        go_wp2_with fail
        with_reducible refine HP7.out.mono ?_
        rintro e v7 ⟨rfl, hb⟩
        have HBW7 := hide (HBW6.out.trans (hb.mono HBW6.out.size))
        clear hb
        go_wp2_with fail
        go_ret
        exact ⟨rfl, HBW7.out⟩
end Go.Proofs.Ytlelpnahillioaa
