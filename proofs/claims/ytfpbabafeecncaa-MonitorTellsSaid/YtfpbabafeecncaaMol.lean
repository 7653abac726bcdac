/-
  A monitor that changes: does.
-/
import Derived.Test.YtfpbabafeecncaaMok
set_option linter.unusedSimpArgs false
set_option linter.unusedVariables false
namespace Go.Proofs.Ytfpbabafeecncaa
open Go Go.RowKit
attribute [local go_sem] via_cell via_frozen

theorem kinds8 {k : Int} (h : 1 ≤ k ∧ k < 9) : k = 1 ∨ k = 2 ∨ k = 3 ∨ k = 4 ∨ k = 5 ∨ k = 6 ∨ k = 7 ∨ k = 8 := by omega
theorem deed1 (m : Mon) (tk : List Ent) (g : Nat) (s z : Int) : deedM m tk (1, (g : Int), s, z) = (if pinM m g then .error 5 else .ok (⟨m.sl, m.pin.set g true, m.has, m.bad⟩, tk)) := by unfold deedM; simp
theorem deed2 (m : Mon) (tk : List Ent) (g : Nat) (s z : Int) : deedM m tk (2, (g : Int), s, z) = (if pinM m g then .ok (⟨m.sl, m.pin.set g false, m.has.set g [], m.bad⟩, tk) else .error 4) := by unfold deedM; simp
theorem deed3 (m : Mon) (tk : List Ent) (g : Nat) (s z : Int) : deedM m tk (3, (g : Int), s, z) = (if pinM m g then .ok (getM m g (s, z), tk) else .error 4) := by unfold deedM; simp
theorem deed4 (m : Mon) (tk : List Ent) (g : Nat) (s z : Int) : deedM m tk (4, (g : Int), s, z) = (if pinM m g then .ok (touchM m (4, (g : Int), s, z), tk) else .error 4) := by unfold deedM; simp
theorem deed5 (m : Mon) (tk : List Ent) (g : Nat) (s z : Int) : deedM m tk (5, (g : Int), s, z) = (if pinM m g then .ok (touchM m (5, (g : Int), s, z), tk) else .error 4) := by unfold deedM; simp
theorem deed6 (m : Mon) (tk : List Ent) (g : Nat) (s z : Int) : deedM m tk (6, (g : Int), s, z) = takeR m tk g := by unfold deedM takeR; simp
theorem deed7 (m : Mon) (tk : List Ent) (g : Nat) (s z : Int) : deedM m tk (7, (g : Int), s, z) = (if rtE m.sl [(s, z)] = 0 then .ok (⟨rtA m.sl [(s, z)], m.pin, m.has, m.bad⟩, tk) else .error (rtE m.sl [(s, z)])) := by unfold deedM; simp
theorem deed8 (m : Mon) (tk : List Ent) (g : Nat) (s z : Int) : deedM m tk (8, (g : Int), s, z) = (if gvE m.sl [(s, z)] = 0 then .ok (⟨gvA m.sl [(s, z)], m.pin, m.has, m.bad⟩, tk) else .error (gvE m.sl [(s, z)])) := by unfold deedM; simp
set_option maxRecDepth 100000 in
set_option maxHeartbeats 4000000 in
theorem does_any (gx base : Nat) (a0 a1 a2 a3 a4 : Option Addr) (n0 n1 n2 n3 n4 c0 c1 c2 c3 c4 : Nat) (ts : List Hm) (m : Mon) (tk : List Ent) (k s z gi : Int) (W : World) (h : WAt W gx base a0 a1 a2 a3 a4 n0 n1 n2 n3 n4 c0 c1 c2 c3 c4 ts m tk) (hbw : base ≤ W.heap.size) (hs : SmallX n0 n1 n2 n3 ts) (ho : OkM m) (hq : ∀ t ∈ ts, t.q.length ≤ 4095) (hn4 : n4 ≤ 4095) (hz : U64 z) (r : Except Int (Mon × List Ent)) (hr : doesM m tk (k, gi, s, z) = r) :
    Calls Try.prog 39 #[.pointer (some ⟨gx, 0, none⟩), .agg #[.int .i64 k, .int .i64 gi, .int .i64 s, .int .u64 z]] W (DeedRes gx base r W) := by
  have hbx : Below W.heap.size W (W.alloc (.cells #[.int .i64 k, .int .i64 gi, .int .i64 s, .int .u64 z] 45)) := (Below.refl _ _).alloc (Nat.le_refl _) _
  have H := hide (h.below hbx)
  have RX := hide (RowAt.new W 45 #[.int .i64 k, .int .i64 gi, .int .i64 s, .int .u64 z])
  have HB := hide hbx
  have HS := hide hs
  have HBW := hide (Nat.le_trans hbw hbx.size)
  have HQ := hide hq
  have HN4 := hide hn4
  have HZ := hide hz
  have HO := hide ho
  have HR := hide hr
  have L1 := hide h.l1
  have L12 := hide (show n2 = n1 from by have h1 := ho.has; rw [h.hs, rowsQ_len, h.l2, h.l1] at h1; exact h1)
  clear h hbx hbw hs hq hn4 hz ho hr
  go_enter Try.func39, Try.ntmps39
  go_upto_region 1 with (fail)
  generalize W.alloc (.cells #[.int .i64 k, .int .i64 gi, .int .i64 s, .int .u64 z] 45) = w1 at *
  have hbw : Below w1.heap.size w1 (w1.alloc (.cells #[.nilFunc, .func (.func 69) #[.pointer (some ⟨gx, 0, none⟩)] #[], .func (.func 70) #[.pointer (some ⟨gx, 0, none⟩)] #[], .func (.func 71) #[.pointer (some ⟨gx, 0, none⟩)] #[], .func (.func 72) #[.pointer (some ⟨gx, 0, none⟩)] #[], .func (.func 72) #[.pointer (some ⟨gx, 0, none⟩)] #[], .func (.func 73) #[.pointer (some ⟨gx, 0, none⟩)] #[], .func (.func 74) #[.pointer (some ⟨gx, 0, none⟩)] #[], .func (.func 75) #[.pointer (some ⟨gx, 0, none⟩)] #[]] 104)) := (Below.refl _ _).alloc (Nat.le_refl _) _
  have RW := hide (RowAt.new w1 104 #[.nilFunc, .func (.func 69) #[.pointer (some ⟨gx, 0, none⟩)] #[], .func (.func 70) #[.pointer (some ⟨gx, 0, none⟩)] #[], .func (.func 71) #[.pointer (some ⟨gx, 0, none⟩)] #[], .func (.func 72) #[.pointer (some ⟨gx, 0, none⟩)] #[], .func (.func 72) #[.pointer (some ⟨gx, 0, none⟩)] #[], .func (.func 73) #[.pointer (some ⟨gx, 0, none⟩)] #[], .func (.func 74) #[.pointer (some ⟨gx, 0, none⟩)] #[], .func (.func 75) #[.pointer (some ⟨gx, 0, none⟩)] #[]])
  replace H := hide (H.out.below hbw)
  replace RX := hide (RX.out.below hbw)
  replace HB := hide (HB.out.trans (hbw.mono HB.out.size))
  replace HBW := hide (Nat.le_trans HBW.out hbw.size)
  clear hbw
  go_upto_region 2 with (refine wpList_store_new rfl 104 _ _ rfl _ #[.nilFunc, .func (.func 69) #[.pointer (some ⟨gx, 0, none⟩)] #[], .func (.func 70) #[.pointer (some ⟨gx, 0, none⟩)] #[], .func (.func 71) #[.pointer (some ⟨gx, 0, none⟩)] #[], .func (.func 72) #[.pointer (some ⟨gx, 0, none⟩)] #[], .func (.func 72) #[.pointer (some ⟨gx, 0, none⟩)] #[], .func (.func 73) #[.pointer (some ⟨gx, 0, none⟩)] #[], .func (.func 74) #[.pointer (some ⟨gx, 0, none⟩)] #[], .func (.func 75) #[.pointer (some ⟨gx, 0, none⟩)] #[]] w1.heap.size rfl rfl rfl (by kernel_rfl) rfl (by simp [Value.oneCell']) ?_)
  generalize w1.alloc (.cells #[.nilFunc, .func (.func 69) #[.pointer (some ⟨gx, 0, none⟩)] #[], .func (.func 70) #[.pointer (some ⟨gx, 0, none⟩)] #[], .func (.func 71) #[.pointer (some ⟨gx, 0, none⟩)] #[], .func (.func 72) #[.pointer (some ⟨gx, 0, none⟩)] #[], .func (.func 72) #[.pointer (some ⟨gx, 0, none⟩)] #[], .func (.func 73) #[.pointer (some ⟨gx, 0, none⟩)] #[], .func (.func 74) #[.pointer (some ⟨gx, 0, none⟩)] #[], .func (.func 75) #[.pointer (some ⟨gx, 0, none⟩)] #[]] 104) = w2 at *
  generalize w1.heap.size = gw at *
  obtain ⟨y0, y1, y2, y3⟩ := row4 RX.out
  have yl := RX.out.lt
  by_cases k1 : 1 ≤ k
  case neg =>
    have hd : decide (1 ≤ k) = false := by simpa using k1
    have HRR := hide (show Except.error 221 = r from by rw [← HR.out]; unfold doesM; rw [if_pos (by show ¬ (1 ≤ k ∧ k < 9); omega)])
    have HP := hide (PastB.of_below (n := base) (kl := gx) HB.out)
    go_wp2_with fail
    refine (mneed_no 221 _).mono ?_
    rintro e w9 ⟨rfl, rfl⟩
    go_wp2_with fail
    exact ⟨rfl, HP.out, .inr ⟨221, HRR.out.symm, rfl⟩⟩
  have hd1 : decide (1 ≤ k) = true := by simpa using k1
  by_cases k2 : k < 9
  case neg =>
    have hd : decide (k < 9) = false := by simpa using k2
    have HRR := hide (show Except.error 221 = r from by rw [← HR.out]; unfold doesM; rw [if_pos (by show ¬ (1 ≤ k ∧ k < 9); omega)])
    have HP := hide (PastB.of_below (n := base) (kl := gx) HB.out)
    go_wp2_with fail
    refine (mneed_no 221 _).mono ?_
    rintro e w9 ⟨rfl, rfl⟩
    go_wp2_with fail
    exact ⟨rfl, HP.out, .inr ⟨221, HRR.out.symm, rfl⟩⟩
  have hd2 : decide (k < 9) = true := by simpa using k2
  have HK := hide (show 1 ≤ k ∧ k < 9 from ⟨k1, k2⟩)
  have HR1 := hide (show (if goerM m gi = false then .error 2 else if askedB k = true ∧ entB (s, z) = false then .error 2 else deedM m tk (k, gi, s, z)) = r from by have h := HR.out; unfold doesM at h; rw [if_neg (by show ¬ ¬ (1 ≤ k ∧ k < 9); omega)] at h; exact h)
  clear k1 k2 HR
  go_wp2_with fail
  refine (mneed_ok 221 _).mono ?_
  rintro e w3 ⟨rfl, rfl⟩
  obtain ⟨x0, x1, x2, x3, x4⟩ := row5 H.out.row
  have xl := H.out.row.lt
  clear hd1 hd2
  go_wp2_with fail
  by_cases g1 : 0 ≤ gi
  case neg =>
    have hd : decide (0 ≤ gi) = false := by simpa using g1
    have HG := hide (show goerM m gi = false from by unfold goerM; rw [hd]; rfl)
    clear g1
    refine wp_region_tail 14 (by kernel_rfl) (by kernel_rfl) ?_
    simp only [List.take_succ_cons, List.take_zero, List.drop_succ_cons, List.drop_zero]
    repeat (go_big_quiet_step (fail))
    refine tail_out fun w3 hb3 => ?_
    replace H := hide (H.out.below hb3)
    replace RX := hide (RX.out.below hb3)
    replace RW := hide (RW.out.below hb3)
    replace HBW := hide (Nat.le_trans HBW.out hb3.size)
    have HB3 := hide (HB.out.trans (hb3.mono HB.out.size))
    clear hb3 x0 x1 x2 x3 x4 xl y0 y1 y2 y3 yl
    have HRR := hide (show Except.error 2 = r from by rw [← HR1.out, if_pos HG.out])
    have HP := hide (PastB.of_below (n := base) (kl := gx) HB3.out)
    go_wp2_with fail
    refine (mneed_no 2 _).mono ?_
    rintro e w9 ⟨rfl, rfl⟩
    go_wp2_with fail
    exact ⟨rfl, HP.out, .inr ⟨2, HRR.out.symm, rfl⟩⟩
  have hd1 : decide (0 ≤ gi) = true := by simpa using g1
  by_cases g2 : gi < (n1 : Int)
  case neg =>
    have hd : decide (gi < (n1 : Int)) = false := by simpa using g2
    have HG := hide (show goerM m gi = false from by unfold goerM; rw [L1.out, hd]; simp)
    clear g1 g2
    refine wp_region_tail 14 (by kernel_rfl) (by kernel_rfl) ?_
    simp only [List.take_succ_cons, List.take_zero, List.drop_succ_cons, List.drop_zero]
    repeat (go_big_quiet_step (fail))
    refine tail_out fun w3 hb3 => ?_
    replace H := hide (H.out.below hb3)
    replace RX := hide (RX.out.below hb3)
    replace RW := hide (RW.out.below hb3)
    replace HBW := hide (Nat.le_trans HBW.out hb3.size)
    have HB3 := hide (HB.out.trans (hb3.mono HB.out.size))
    clear hb3 x0 x1 x2 x3 x4 xl y0 y1 y2 y3 yl
    have HRR := hide (show Except.error 2 = r from by rw [← HR1.out, if_pos HG.out])
    have HP := hide (PastB.of_below (n := base) (kl := gx) HB3.out)
    go_wp2_with fail
    refine (mneed_no 2 _).mono ?_
    rintro e w9 ⟨rfl, rfl⟩
    go_wp2_with fail
    exact ⟨rfl, HP.out, .inr ⟨2, HRR.out.symm, rfl⟩⟩
  have hd2 : decide (gi < (n1 : Int)) = true := by simpa using g2
  have HG := hide (show goerM m gi = true from by unfold goerM; rw [L1.out, hd1, hd2]; rfl)
  have HR2 := hide (show (if askedB k = true ∧ entB (s, z) = false then .error 2 else deedM m tk (k, gi, s, z)) = r from by have h := HR1.out; rw [if_neg (by rw [HG.out]; simp)] at h; exact h)
  obtain ⟨g, hg⟩ := Int.eq_ofNat_of_zero_le g1
  have HGL := hide (show g < n1 from by omega)
  have HGE := hide hg
  clear g1 g2 hg
  refine wp_region_tail 14 (by kernel_rfl) (by kernel_rfl) ?_
  simp only [List.take_succ_cons, List.take_zero, List.drop_succ_cons, List.drop_zero]
  repeat (go_big_quiet_step (fail))
  refine tail_out fun w3 hb3 => ?_
  replace H := hide (H.out.below hb3)
  replace RX := hide (RX.out.below hb3)
  replace RW := hide (RW.out.below hb3)
  replace HBW := hide (Nat.le_trans HBW.out hb3.size)
  have HB3 := hide (HB.out.trans (hb3.mono HB.out.size))
  clear hb3 x0 x1 x2 x3 x4 xl y0 y1 y2 y3 yl
  clear hd1 hd2
  replace HB := HB3
  clear HB3
  obtain ⟨y0, y1, y2, y3⟩ := row4 RX.out
  have yl := RX.out.lt
  go_wp2_with fail
  refine (mneed_ok 2 _).mono ?_
  rintro e w4 ⟨rfl, rfl⟩
  obtain ⟨ba, hba⟩ : ∃ b, askedB k = b := ⟨_, rfl⟩
  have HBA := hide hba
  go_upto_region 4 with (fail)
  go_cut [5] from 47 to 60 (fun s5 wx => s5 = .bool ba ∧ w3 = wx)
  case first =>
    have hbb := HBA.out
    unfold askedB at hbb
    clear hba
    by_cases j1 : k = 1
    · have hd : (k != 1) = false := by simp [j1]
      have hI : ba = false := by rw [← hbb]; simp [j1]
      clear j1 hbb
      go_wp2_with fail
      go_meet
      case rel => exact ⟨by rw [hI], rfl⟩
    · have hd : (k != 1) = true := by simpa using j1
      by_cases j2 : k = 2
      · have hd2 : (k != 2) = false := by simp [j2]
        have hI : ba = false := by rw [← hbb]; simp [j2]
        clear j1 j2 hbb
        go_wp2_with fail
        go_meet
        case rel => exact ⟨by rw [hI], rfl⟩
      · have hd2 : (k != 2) = true := by simpa using j2
        obtain ⟨b6, h6⟩ : ∃ b, (k != 6) = b := ⟨_, rfl⟩
        have hI : ba = b6 := by rw [← hbb, ← h6]; simp [j1, j2, bne, BEq.beq]
        clear j1 j2 hbb
        go_wp2_with fail
        go_meet
        case rel => exact ⟨by rw [hI], rfl⟩
  case rest =>
    rename_i K hK
    refine hK _ _ ?_
    clear hK K hba
    obtain ⟨rfl, rfl⟩ := hcut
    obtain ⟨be, hbe⟩ : ∃ b, entB (s, z) = b := ⟨_, rfl⟩
    have HBE := hide hbe
    have HE := hide (entry_any s z w3 be hbe)
    clear hbe
    have HF5 := hide (show (if ba = true ∧ be = false then .error 2 else deedM m tk (k, gi, s, z)) = r from by rw [HBA.out, HBE.out] at HR2; exact HR2.out)
    clear HR1 HR2
    go_upto_region 5 with (fail)
    go_cut [67] from 60 to 68 (fun s67 wx => s67 = .tuple #[] ∧ (ba = true → be = true) ∧ Below w3.heap.size w3 wx)
    case first =>
      cases ba with
      | false =>
        go_wp2_with fail
        refine (mneed_ok 2 _).mono ?_
        rintro e w4 ⟨rfl, rfl⟩
        go_wp2_with fail
        go_meet
        case rel => exact ⟨rfl, (fun h => by cases h), Below.refl _ _⟩
      | true =>
        go_wp2_with fail
        with_reducible refine HE.out.mono ?_
        rintro e w4 ⟨rfl, hb⟩
        have HB4 := hide hb
        clear hb
        cases be with
        | false =>
          have HRR := hide (show Except.error 2 = r from by have h := HF5.out; rw [if_pos (by simp)] at h; exact h)
          have HP := hide (PastB.of_below (n := base) (kl := gx) (HB.out.trans (HB4.out.mono HB.out.size)))
          go_wp2_with fail
          refine (mneed_no 2 _).mono ?_
          rintro e w9 ⟨rfl, rfl⟩
          go_wp2_with fail
          exact ⟨rfl, HP.out, .inr ⟨2, HRR.out.symm, rfl⟩⟩
        | true =>
          go_wp2_with fail
          refine (mneed_ok 2 _).mono ?_
          rintro e w9 ⟨rfl, rfl⟩
          go_wp2_with fail
          go_meet
          case rel => exact ⟨rfl, (by simp), HB4.out⟩
    case rest =>
      rename_i K hK
      refine hK _ _ ?_
      clear hK K
      obtain ⟨w4, hw4⟩ : ∃ w, w = wc := ⟨_, rfl⟩
      subst hw4
      obtain ⟨rfl, himp, hb⟩ := hcut
      have HRD := hide (show deedM m tk (k, gi, s, z) = r from by
        have h := HF5.out
        rw [if_neg (by rintro ⟨h1, h2⟩; rw [himp h1] at h2; cases h2)] at h
        exact h)
      clear himp y0 y1 y2 y3 yl HE HF5
      replace H := hide (H.out.below hb)
      replace RX := hide (RX.out.below hb)
      replace RW := hide (RW.out.below hb)
      replace HBW := hide (Nat.le_trans HBW.out hb.size)
      replace HB := hide (HB.out.trans (hb.mono HB.out.size))
      clear hb
      have hge := HGE.out
      subst hge
      have HG2 := hide (show g < n2 from by have := L12.out; have := HGL.out; omega)
      obtain ⟨y0, y1, y2, y3⟩ := row4 RX.out
      have yl := RX.out.lt
      have wl := RW.out.lt
      rcases kinds8 HK.out with rfl | rfl | rfl | rfl | rfl | rfl | rfl | rfl
      · have u0 : w4.cell? ⟨gw, 1, none⟩ = some (.func (.func 69) #[.pointer (some ⟨gx, 0, none⟩)] #[]) := by have := RW.out.cell 1; simpa using this
        go_wp2_with fail
        refine wp_region_tail 5 (by kernel_rfl) (by kernel_rfl) ?_
        simp only [List.take_succ_cons, List.take_zero, List.drop_succ_cons, List.drop_zero]
        repeat (go_big_quiet_step (fail))
        refine tail_out fun w5 hb5 => ?_
        have H5 := hide (H.out.below hb5)
        have HBW5 := hide (Nat.le_trans HBW.out hb5.size)
        have HP5 := hide (PastB.of_below (n := base) (kl := gx) (HB.out.trans (hb5.mono HB.out.size)))
        clear hb5 y0 y1 y2 y3 yl wl u0
        have HC := hide (pin_any gx base _ _ _ _ _ _ _ _ _ _ _ _ _ _ _ ts m tk 1 s z g w5 H5.out HS.out.s2 HGL.out r (by rw [← deed1 m tk g s z]; exact HRD.out))
        go_wp2_with fail
        refine HC.out.mono ?_
        rintro e w6 hres
        have HRES := hide (DeedRes.first HP5.out hres)
        clear hres HC
        rcases HRES.out.2 with ⟨m', tk', hx, rfl, hy⟩ | ⟨k', hx, rfl⟩
        · clear hx hy
          go_wp2_with fail
          go_end0
          exact HRES.out
        · clear hx
          go_wp2_with fail
          exact ⟨rfl, HRES.out⟩
      · have u0 : w4.cell? ⟨gw, 2, none⟩ = some (.func (.func 70) #[.pointer (some ⟨gx, 0, none⟩)] #[]) := by have := RW.out.cell 2; simpa using this
        go_wp2_with fail
        refine wp_region_tail 5 (by kernel_rfl) (by kernel_rfl) ?_
        simp only [List.take_succ_cons, List.take_zero, List.drop_succ_cons, List.drop_zero]
        repeat (go_big_quiet_step (fail))
        refine tail_out fun w5 hb5 => ?_
        have H5 := hide (H.out.below hb5)
        have HBW5 := hide (Nat.le_trans HBW.out hb5.size)
        have HP5 := hide (PastB.of_below (n := base) (kl := gx) (HB.out.trans (hb5.mono HB.out.size)))
        clear hb5 y0 y1 y2 y3 yl wl u0
        have HC := hide (unpin_any gx base _ _ _ _ _ _ _ _ _ _ _ _ _ _ _ ts m tk 2 s z g w5 H5.out HS.out.s2 HGL.out HG2.out r (by rw [← deed2 m tk g s z]; exact HRD.out))
        go_wp2_with fail
        refine HC.out.mono ?_
        rintro e w6 hres
        have HRES := hide (DeedRes.first HP5.out hres)
        clear hres HC
        rcases HRES.out.2 with ⟨m', tk', hx, rfl, hy⟩ | ⟨k', hx, rfl⟩
        · clear hx hy
          go_wp2_with fail
          go_end0
          exact HRES.out
        · clear hx
          go_wp2_with fail
          exact ⟨rfl, HRES.out⟩
      · have u0 : w4.cell? ⟨gw, 3, none⟩ = some (.func (.func 71) #[.pointer (some ⟨gx, 0, none⟩)] #[]) := by have := RW.out.cell 3; simpa using this
        go_wp2_with fail
        refine wp_region_tail 5 (by kernel_rfl) (by kernel_rfl) ?_
        simp only [List.take_succ_cons, List.take_zero, List.drop_succ_cons, List.drop_zero]
        repeat (go_big_quiet_step (fail))
        refine tail_out fun w5 hb5 => ?_
        have H5 := hide (H.out.below hb5)
        have HBW5 := hide (Nat.le_trans HBW.out hb5.size)
        have HP5 := hide (PastB.of_below (n := base) (kl := gx) (HB.out.trans (hb5.mono HB.out.size)))
        clear hb5 y0 y1 y2 y3 yl wl u0
        have HC := hide (get_any gx base _ _ _ _ _ _ _ _ _ _ _ _ _ _ _ ts m tk 3 s z g w5 H5.out HBW5.out HS.out HGL.out HG2.out HQ.out r (by rw [← deed3 m tk g s z]; exact HRD.out))
        go_wp2_with fail
        refine HC.out.mono ?_
        rintro e w6 hres
        have HRES := hide (DeedRes.first HP5.out hres)
        clear hres HC
        rcases HRES.out.2 with ⟨m', tk', hx, rfl, hy⟩ | ⟨k', hx, rfl⟩
        · clear hx hy
          go_wp2_with fail
          go_end0
          exact HRES.out
        · clear hx
          go_wp2_with fail
          exact ⟨rfl, HRES.out⟩
      · have u0 : w4.cell? ⟨gw, 4, none⟩ = some (.func (.func 72) #[.pointer (some ⟨gx, 0, none⟩)] #[]) := by have := RW.out.cell 4; simpa using this
        go_wp2_with fail
        refine wp_region_tail 5 (by kernel_rfl) (by kernel_rfl) ?_
        simp only [List.take_succ_cons, List.take_zero, List.drop_succ_cons, List.drop_zero]
        repeat (go_big_quiet_step (fail))
        refine tail_out fun w5 hb5 => ?_
        have H5 := hide (H.out.below hb5)
        have HBW5 := hide (Nat.le_trans HBW.out hb5.size)
        have HP5 := hide (PastB.of_below (n := base) (kl := gx) (HB.out.trans (hb5.mono HB.out.size)))
        clear hb5 y0 y1 y2 y3 yl wl u0
        have HC := hide (touch_any gx base _ _ _ _ _ _ _ _ _ _ _ _ _ _ _ ts m tk 4 s z g w5 H5.out HBW5.out HS.out HGL.out HG2.out r (by rw [← deed4 m tk g s z]; exact HRD.out))
        go_wp2_with fail
        refine HC.out.mono ?_
        rintro e w6 hres
        have HRES := hide (DeedRes.first HP5.out hres)
        clear hres HC
        rcases HRES.out.2 with ⟨m', tk', hx, rfl, hy⟩ | ⟨k', hx, rfl⟩
        · clear hx hy
          go_wp2_with fail
          go_end0
          exact HRES.out
        · clear hx
          go_wp2_with fail
          exact ⟨rfl, HRES.out⟩
      · have u0 : w4.cell? ⟨gw, 5, none⟩ = some (.func (.func 72) #[.pointer (some ⟨gx, 0, none⟩)] #[]) := by have := RW.out.cell 5; simpa using this
        go_wp2_with fail
        refine wp_region_tail 5 (by kernel_rfl) (by kernel_rfl) ?_
        simp only [List.take_succ_cons, List.take_zero, List.drop_succ_cons, List.drop_zero]
        repeat (go_big_quiet_step (fail))
        refine tail_out fun w5 hb5 => ?_
        have H5 := hide (H.out.below hb5)
        have HBW5 := hide (Nat.le_trans HBW.out hb5.size)
        have HP5 := hide (PastB.of_below (n := base) (kl := gx) (HB.out.trans (hb5.mono HB.out.size)))
        clear hb5 y0 y1 y2 y3 yl wl u0
        have HC := hide (touch_any gx base _ _ _ _ _ _ _ _ _ _ _ _ _ _ _ ts m tk 5 s z g w5 H5.out HBW5.out HS.out HGL.out HG2.out r (by rw [← deed5 m tk g s z]; exact HRD.out))
        go_wp2_with fail
        refine HC.out.mono ?_
        rintro e w6 hres
        have HRES := hide (DeedRes.first HP5.out hres)
        clear hres HC
        rcases HRES.out.2 with ⟨m', tk', hx, rfl, hy⟩ | ⟨k', hx, rfl⟩
        · clear hx hy
          go_wp2_with fail
          go_end0
          exact HRES.out
        · clear hx
          go_wp2_with fail
          exact ⟨rfl, HRES.out⟩
      · have u0 : w4.cell? ⟨gw, 6, none⟩ = some (.func (.func 73) #[.pointer (some ⟨gx, 0, none⟩)] #[]) := by have := RW.out.cell 6; simpa using this
        go_wp2_with fail
        refine wp_region_tail 5 (by kernel_rfl) (by kernel_rfl) ?_
        simp only [List.take_succ_cons, List.take_zero, List.drop_succ_cons, List.drop_zero]
        repeat (go_big_quiet_step (fail))
        refine tail_out fun w5 hb5 => ?_
        have H5 := hide (H.out.below hb5)
        have HBW5 := hide (Nat.le_trans HBW.out hb5.size)
        have HP5 := hide (PastB.of_below (n := base) (kl := gx) (HB.out.trans (hb5.mono HB.out.size)))
        clear hb5 y0 y1 y2 y3 yl wl u0
        have HC := hide (mtake_any gx base _ _ _ _ _ _ _ _ _ _ _ _ _ _ _ ts m tk 6 s z g w5 H5.out HBW5.out HS.out HGL.out HG2.out HQ.out HN4.out HO.out r (by rw [← deed6 m tk g s z]; exact HRD.out))
        go_wp2_with fail
        refine HC.out.mono ?_
        rintro e w6 hres
        have HRES := hide (DeedRes.first HP5.out hres)
        clear hres HC
        rcases HRES.out.2 with ⟨m', tk', hx, rfl, hy⟩ | ⟨k', hx, rfl⟩
        · clear hx hy
          go_wp2_with fail
          go_end0
          exact HRES.out
        · clear hx
          go_wp2_with fail
          exact ⟨rfl, HRES.out⟩
      · have u0 : w4.cell? ⟨gw, 7, none⟩ = some (.func (.func 74) #[.pointer (some ⟨gx, 0, none⟩)] #[]) := by have := RW.out.cell 7; simpa using this
        go_wp2_with fail
        refine wp_region_tail 5 (by kernel_rfl) (by kernel_rfl) ?_
        simp only [List.take_succ_cons, List.take_zero, List.drop_succ_cons, List.drop_zero]
        repeat (go_big_quiet_step (fail))
        refine tail_out fun w5 hb5 => ?_
        have H5 := hide (H.out.below hb5)
        have HBW5 := hide (Nat.le_trans HBW.out hb5.size)
        have HP5 := hide (PastB.of_below (n := base) (kl := gx) (HB.out.trans (hb5.mono HB.out.size)))
        clear hb5 y0 y1 y2 y3 yl wl u0
        have HC := hide (mretire_any gx base _ _ _ _ _ _ _ _ _ _ _ _ _ _ _ ts m tk 7 s z g w5 H5.out HBW5.out HS.out HGL.out HG2.out HZ.out r (by rw [← deed7 m tk g s z]; exact HRD.out))
        go_wp2_with fail
        refine HC.out.mono ?_
        rintro e w6 hres
        have HRES := hide (DeedRes.first HP5.out hres)
        clear hres HC
        rcases HRES.out.2 with ⟨m', tk', hx, rfl, hy⟩ | ⟨k', hx, rfl⟩
        · clear hx hy
          go_wp2_with fail
          go_end0
          exact HRES.out
        · clear hx
          go_wp2_with fail
          exact ⟨rfl, HRES.out⟩
      · have u0 : w4.cell? ⟨gw, 8, none⟩ = some (.func (.func 75) #[.pointer (some ⟨gx, 0, none⟩)] #[]) := by have := RW.out.cell 8; simpa using this
        go_wp2_with fail
        refine wp_region_tail 5 (by kernel_rfl) (by kernel_rfl) ?_
        simp only [List.take_succ_cons, List.take_zero, List.drop_succ_cons, List.drop_zero]
        repeat (go_big_quiet_step (fail))
        refine tail_out fun w5 hb5 => ?_
        have H5 := hide (H.out.below hb5)
        have HBW5 := hide (Nat.le_trans HBW.out hb5.size)
        have HP5 := hide (PastB.of_below (n := base) (kl := gx) (HB.out.trans (hb5.mono HB.out.size)))
        clear hb5 y0 y1 y2 y3 yl wl u0
        have HC := hide (mgive_any gx base _ _ _ _ _ _ _ _ _ _ _ _ _ _ _ ts m tk 8 s z g w5 H5.out HBW5.out HS.out HGL.out HG2.out HZ.out r (by rw [← deed8 m tk g s z]; exact HRD.out))
        go_wp2_with fail
        refine HC.out.mono ?_
        rintro e w6 hres
        have HRES := hide (DeedRes.first HP5.out hres)
        clear hres HC
        rcases HRES.out.2 with ⟨m', tk', hx, rfl, hy⟩ | ⟨k', hx, rfl⟩
        · clear hx hy
          go_wp2_with fail
          go_end0
          exact HRES.out
        · clear hx
          go_wp2_with fail
          exact ⟨rfl, HRES.out⟩
end Go.Proofs.Ytfpbabafeecncaa
