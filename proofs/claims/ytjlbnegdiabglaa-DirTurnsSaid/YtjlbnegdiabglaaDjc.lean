/-
  The statements' first lines: does the layer do anything?
-/
import Derived.Test.YtjlbnegdiabglaaDjb
import Derived.Deep.Cut
import Derived.Deep.RegionHeld3
set_option linter.unusedSimpArgs false
set_option linter.unusedVariables false
namespace Go.Proofs.Ytjlbnegdiabglaa
open Go Go.RowKit
attribute [local go_sem] via_cell via_frozen

set_option maxRecDepth 100000 in
set_option maxHeartbeats 16000000 in
theorem wakes_any (W : World) : Calls Try.prog 8 #[] W fun e W' => e = .returned (.bool true) ∧ Below W.heap.size W W' := by
  go_enter Try.func8, Try.ntmps8
  go_wp2_with fail
  refine (slab_any 0 W).mono ?_
  rintro e w1 ⟨rfl, hb1⟩
  have HB1 := hide hb1
  clear hb1
  go_wp2_with fail
  refine (New_any 0 0 u0 w1 _ wk0).mono ?_
  rintro e w2 ⟨A1, c1, rfl, ho, hb⟩
  have HB2 := hide (HB1.out.trans (hb.mono HB1.out.size))
  have O1 : Hid (w2.ownsRow W.heap.size 31 2 (.slice A1 1 c1) 1 (Cs encE wE0)) := hide (ownsRow_base ho HB1.out.size)
  clear ho hb HB1
  simp only [List.length_cons, List.length_nil, Nat.zero_add, Nat.reduceAdd]
  go_upto_region 2 with (fail)
  have hba := (Below.refl _ w2).alloc (Nat.le_refl _) (.cells #[.int .i64 0, .slice A1 1 c1] 24)
  have HG1 := hide (show W.heap.size ≤ w2.heap.size from HB2.out.size)
  have R1 := hide (RowAt.new w2 24 #[.int .i64 0, .slice A1 1 c1])
  replace O1 := hide (own_keepB O1.out hba)
  have HB := hide (HB2.out.trans (hba.mono HB2.out.size))
  clear hba HB2
  generalize hg : w2.heap.size = g1 at *
  clear hg
  generalize w2.alloc (.cells #[.int .i64 0, .slice A1 1 c1] 24) = w3 at *
  go_cut [3] from 16 (fun s3 wx => s3 = .int .i64 0 ∧ ∃ (A : Option Addr) (c : Nat), RowAt wx g1 24 #[.int .i64 1, .slice A 2 c] ∧ wx.ownsRow W.heap.size 31 2 (.slice A 2 c) 2 (Cs encE wE1) ∧ Below W.heap.size W wx)
  case first =>
    refine wp_region_held_drew (S := fun wX => Below W.heap.size W wX) (by kernel_rfl) HB.out.drew (fun hHeld => ?_)
    have HQ := hide HB.out.drew
    have R1 := hide R1.out.drew
    have O1 : Hid (w3.drew.ownsRow W.heap.size 31 2 (.slice A1 1 c1) 1 (Cs encE wE0)) := O1
    clear hHeld HB
    generalize w3.drew = wd at *
    refine wpAnyH_ready (rs := [0, 1]) (by kernel_rfl) (by simp) ?_
    refine (AllReadyH.cons rfl (fun K0 hK0 => ?_) (AllReadyH.cons rfl (fun K0 hK0 => ?_) AllReadyH.nil))
    · skip
      have q0 := row20 R1.out
      have q1 := row21 R1.out
      have ql := R1.out.lt
      have qf0 := R1.out.frozen 0
      have qf1 := R1.out.frozen 1
      go_simp
      clear q0 q1 ql qf0 qf1
      refine hK0.out _ _ (HQ.out) (fun _ => ?_)
      clear hK0 K0
      (try simp only [Act.put, List.getElem_toArray, List.getElem_cons_succ, List.getElem_cons_zero, List.setIfInBounds_toArray, List.set_cons_zero, List.set_cons_succ])
      refine wpAnyH_ready (rs := [1]) (by kernel_rfl) (by simp) ?_
      refine (AllReadyH.cons rfl (fun K1 hK1 => ?_) AllReadyH.nil)
      skip
      go_simp
      refine (slab_any 0 _).mono ?_
      rintro e wa1 ⟨rfl, hb1⟩
      replace R1 := hide (R1.out.below hb1)
      replace O1 := hide (own_keepB O1.out hb1)
      replace HQ := hide (HQ.out.trans (hb1.mono HQ.out.size))
      clear hb1
      refine hK1.out _ _ (HQ.out) (fun _ => ?_)
      clear hK1 K1
      (try simp only [Act.put, List.getElem_toArray, List.getElem_cons_succ, List.getElem_cons_zero, List.setIfInBounds_toArray, List.set_cons_zero, List.set_cons_succ])
      refine wpAnyH_ready (rs := [2]) (by kernel_rfl) (by simp) ?_
      refine (AllReadyH.cons rfl (fun K2 hK2 => ?_) AllReadyH.nil)
      skip
      go_simp
      refine (slab_any 1 _).mono ?_
      rintro e wa2 ⟨rfl, hb2⟩
      replace R1 := hide (R1.out.below hb2)
      replace O1 := hide (own_keepB O1.out hb2)
      replace HQ := hide (HQ.out.trans (hb2.mono HQ.out.size))
      clear hb2
      refine hK2.out _ _ (HQ.out) (fun _ => ?_)
      clear hK2 K2
      (try simp only [Act.put, List.getElem_toArray, List.getElem_cons_succ, List.getElem_cons_zero, List.setIfInBounds_toArray, List.set_cons_zero, List.set_cons_succ])
      refine wpAnyH_ready (rs := [3]) (by kernel_rfl) (by simp) ?_
      refine (AllReadyH.cons rfl (fun K3 hK3 => ?_) AllReadyH.nil)
      skip
      go_simp
      refine (slab_any 2 _).mono ?_
      rintro e wa3 ⟨rfl, hb3⟩
      replace R1 := hide (R1.out.below hb3)
      replace O1 := hide (own_keepB O1.out hb3)
      replace HQ := hide (HQ.out.trans (hb3.mono HQ.out.size))
      clear hb3
      refine hK3.out _ _ (HQ.out) (fun _ => ?_)
      clear hK3 K3
      (try simp only [Act.put, List.getElem_toArray, List.getElem_cons_succ, List.getElem_cons_zero, List.setIfInBounds_toArray, List.set_cons_zero, List.set_cons_succ])
      refine wpAnyH_ready (rs := [4]) (by kernel_rfl) (by simp) ?_
      refine (AllReadyH.cons rfl (fun K4 hK4 => ?_) AllReadyH.nil)
      go_simp
      refine (Split_any A1 c1 0 wE0 (0, 0) (1, 0) (2, 0) wa3 (DirAt.of_own O1.out (uw rfl)) u0 u0 _ wk1).mono ?_
      rintro e wn4 ⟨A2, c2, rfl, ho4, hb4⟩
      have O2 : Hid (wn4.ownsRow W.heap.size 31 2 (.slice A2 2 c2) 2 (Cs encE wE1)) := hide (ownsRow_base ho4 HQ.out.size)
      replace R1 := hide (R1.out.below hb4)
      replace HQ := hide (HQ.out.trans (hb4.mono HQ.out.size))
      clear hb4 ho4 O1
      refine hK4.out _ _ (HQ.out) (fun _ => ?_)
      clear hK4 K4
      simp only [List.length_cons, List.length_nil, Nat.zero_add, Nat.reduceAdd]
      (try simp only [Act.put, List.getElem_toArray, List.getElem_cons_succ, List.getElem_cons_zero, List.setIfInBounds_toArray, List.set_cons_zero, List.set_cons_succ])
      (refine wpAnyH_take (i := 5) (v := ?_) rfl (by kernel_rfl) (by kernel_rfl) (by kernel_rfl) (fun _ _ _ h => h) (Or.inl ⟨by rfl, ?_⟩) (by assumption) ?_; rotate_left; (focus (intro w hSw; (try dsimp only at hSw); go_simp; first | done | with_reducible rfl)); (try simp only [Act.put, List.getElem_toArray, List.getElem_cons_succ, List.getElem_cons_zero, List.setIfInBounds_toArray, List.set_cons_zero, List.set_cons_succ]))
      (refine wpAnyH_take (i := 6) (v := ?_) rfl (by kernel_rfl) (by kernel_rfl) (by kernel_rfl) (fun _ _ _ h => h) (Or.inl ⟨by rfl, ?_⟩) (by assumption) ?_; rotate_left; (focus (intro w hSw; (try dsimp only at hSw); go_simp; first | done | with_reducible rfl)); (try simp only [Act.put, List.getElem_toArray, List.getElem_cons_succ, List.getElem_cons_zero, List.setIfInBounds_toArray, List.set_cons_zero, List.set_cons_succ]))
      (refine wpAnyH_take (i := 7) (v := ?_) rfl (by kernel_rfl) (by kernel_rfl) (by kernel_rfl) (fun _ _ _ h => h) (Or.inl ⟨by rfl, ?_⟩) (by assumption) ?_; rotate_left; (focus (intro w hSw; (try dsimp only at hSw); go_simp; first | done | with_reducible rfl)); (try simp only [Act.put, List.getElem_toArray, List.getElem_cons_succ, List.getElem_cons_zero, List.setIfInBounds_toArray, List.set_cons_zero, List.set_cons_succ]))
      refine wpAnyH_ready (rs := [8]) (by kernel_rfl) (by simp) ?_
      refine (AllReadyH.cons rfl (fun K5 hK5 => ?_) AllReadyH.nil)
      have q0 := row20 R1.out
      have q1 := row21 R1.out
      have ql := R1.out.lt
      have qf0 := R1.out.frozen 0
      have qf1 := R1.out.frozen 1
      go_simp
      have HQ2 := hide ((HQ.out.setCell (p := ⟨g1, 0, none⟩) HG1.out (.int .i64 1)).setCell (p := ⟨g1, 1, none⟩) HG1.out (.slice A2 2 c2))
      refine hK5.out _ _ (HQ2.out) (fun _ => ?_)
      clear hK5 K5
      clear q0 q1 ql qf0 qf1
      have R2 : Hid (RowAt ((wn4.setCell ⟨g1, 0, none⟩ (.int .i64 1)).setCell ⟨g1, 1, none⟩ (.slice A2 2 c2)) g1 24 #[.int .i64 1, .slice A2 2 c2]) := hide ((R1.out.set 0 (.int .i64 1)).set 1 (.slice A2 2 c2))
      replace O2 := hide (own_setBox (own_setBox O2.out R1.out (by decide) 0 (.int .i64 1)) (R1.out.set 0 (.int .i64 1)) (by decide) 1 (.slice A2 2 c2))
      generalize ((wn4.setCell ⟨g1, 0, none⟩ (.int .i64 1)).setCell ⟨g1, 1, none⟩ (.slice A2 2 c2)) = w9 at *
      (try simp only [Act.put, List.getElem_toArray, List.getElem_cons_succ, List.getElem_cons_zero, List.setIfInBounds_toArray, List.set_cons_zero, List.set_cons_succ])
      (refine wpAnyH_take (i := 9) (v := ?_) rfl (by kernel_rfl) (by kernel_rfl) (by kernel_rfl) (fun _ _ _ h => h) (Or.inl ⟨by rfl, ?_⟩) (by assumption) ?_; rotate_left; (focus (intro w hSw; (try dsimp only at hSw); go_simp; first | done | with_reducible rfl)); (try simp only [Act.put, List.getElem_toArray, List.getElem_cons_succ, List.getElem_cons_zero, List.setIfInBounds_toArray, List.set_cons_zero, List.set_cons_succ]))
      refine wpAnyH_done (by kernel_rfl) ?_ _
      go_wp2_with fail
      go_meet
      case rel => exact ⟨rfl, A2, c2, R2.out, O2.out, HQ2.out⟩
    · skip
      go_simp
      refine (slab_any 0 _).mono ?_
      rintro e wa0 ⟨rfl, hb0⟩
      replace R1 := hide (R1.out.below hb0)
      replace O1 := hide (own_keepB O1.out hb0)
      replace HQ := hide (HQ.out.trans (hb0.mono HQ.out.size))
      clear hb0
      refine hK0.out _ _ (HQ.out) (fun _ => ?_)
      clear hK0 K0
      (try simp only [Act.put, List.getElem_toArray, List.getElem_cons_succ, List.getElem_cons_zero, List.setIfInBounds_toArray, List.set_cons_zero, List.set_cons_succ])
      refine wpAnyH_ready (rs := [0, 2]) (by kernel_rfl) (by simp) ?_
      refine (AllReadyH.cons rfl (fun K1 hK1 => ?_) (AllReadyH.cons rfl (fun K1 hK1 => ?_) AllReadyH.nil))
      · skip
        have q0 := row20 R1.out
        have q1 := row21 R1.out
        have ql := R1.out.lt
        have qf0 := R1.out.frozen 0
        have qf1 := R1.out.frozen 1
        go_simp
        clear q0 q1 ql qf0 qf1
        refine hK1.out _ _ (HQ.out) (fun _ => ?_)
        clear hK1 K1
        (try simp only [Act.put, List.getElem_toArray, List.getElem_cons_succ, List.getElem_cons_zero, List.setIfInBounds_toArray, List.set_cons_zero, List.set_cons_succ])
        refine wpAnyH_ready (rs := [2]) (by kernel_rfl) (by simp) ?_
        refine (AllReadyH.cons rfl (fun K2 hK2 => ?_) AllReadyH.nil)
        skip
        go_simp
        refine (slab_any 1 _).mono ?_
        rintro e wa2 ⟨rfl, hb2⟩
        replace R1 := hide (R1.out.below hb2)
        replace O1 := hide (own_keepB O1.out hb2)
        replace HQ := hide (HQ.out.trans (hb2.mono HQ.out.size))
        clear hb2
        refine hK2.out _ _ (HQ.out) (fun _ => ?_)
        clear hK2 K2
        (try simp only [Act.put, List.getElem_toArray, List.getElem_cons_succ, List.getElem_cons_zero, List.setIfInBounds_toArray, List.set_cons_zero, List.set_cons_succ])
        refine wpAnyH_ready (rs := [3]) (by kernel_rfl) (by simp) ?_
        refine (AllReadyH.cons rfl (fun K3 hK3 => ?_) AllReadyH.nil)
        skip
        go_simp
        refine (slab_any 2 _).mono ?_
        rintro e wa3 ⟨rfl, hb3⟩
        replace R1 := hide (R1.out.below hb3)
        replace O1 := hide (own_keepB O1.out hb3)
        replace HQ := hide (HQ.out.trans (hb3.mono HQ.out.size))
        clear hb3
        refine hK3.out _ _ (HQ.out) (fun _ => ?_)
        clear hK3 K3
        (try simp only [Act.put, List.getElem_toArray, List.getElem_cons_succ, List.getElem_cons_zero, List.setIfInBounds_toArray, List.set_cons_zero, List.set_cons_succ])
        refine wpAnyH_ready (rs := [4]) (by kernel_rfl) (by simp) ?_
        refine (AllReadyH.cons rfl (fun K4 hK4 => ?_) AllReadyH.nil)
        go_simp
        refine (Split_any A1 c1 0 wE0 (0, 0) (1, 0) (2, 0) wa3 (DirAt.of_own O1.out (uw rfl)) u0 u0 _ wk1).mono ?_
        rintro e wn4 ⟨A2, c2, rfl, ho4, hb4⟩
        have O2 : Hid (wn4.ownsRow W.heap.size 31 2 (.slice A2 2 c2) 2 (Cs encE wE1)) := hide (ownsRow_base ho4 HQ.out.size)
        replace R1 := hide (R1.out.below hb4)
        replace HQ := hide (HQ.out.trans (hb4.mono HQ.out.size))
        clear hb4 ho4 O1
        refine hK4.out _ _ (HQ.out) (fun _ => ?_)
        clear hK4 K4
        simp only [List.length_cons, List.length_nil, Nat.zero_add, Nat.reduceAdd]
        (try simp only [Act.put, List.getElem_toArray, List.getElem_cons_succ, List.getElem_cons_zero, List.setIfInBounds_toArray, List.set_cons_zero, List.set_cons_succ])
        (refine wpAnyH_take (i := 5) (v := ?_) rfl (by kernel_rfl) (by kernel_rfl) (by kernel_rfl) (fun _ _ _ h => h) (Or.inl ⟨by rfl, ?_⟩) (by assumption) ?_; rotate_left; (focus (intro w hSw; (try dsimp only at hSw); go_simp; first | done | with_reducible rfl)); (try simp only [Act.put, List.getElem_toArray, List.getElem_cons_succ, List.getElem_cons_zero, List.setIfInBounds_toArray, List.set_cons_zero, List.set_cons_succ]))
        (refine wpAnyH_take (i := 6) (v := ?_) rfl (by kernel_rfl) (by kernel_rfl) (by kernel_rfl) (fun _ _ _ h => h) (Or.inl ⟨by rfl, ?_⟩) (by assumption) ?_; rotate_left; (focus (intro w hSw; (try dsimp only at hSw); go_simp; first | done | with_reducible rfl)); (try simp only [Act.put, List.getElem_toArray, List.getElem_cons_succ, List.getElem_cons_zero, List.setIfInBounds_toArray, List.set_cons_zero, List.set_cons_succ]))
        (refine wpAnyH_take (i := 7) (v := ?_) rfl (by kernel_rfl) (by kernel_rfl) (by kernel_rfl) (fun _ _ _ h => h) (Or.inl ⟨by rfl, ?_⟩) (by assumption) ?_; rotate_left; (focus (intro w hSw; (try dsimp only at hSw); go_simp; first | done | with_reducible rfl)); (try simp only [Act.put, List.getElem_toArray, List.getElem_cons_succ, List.getElem_cons_zero, List.setIfInBounds_toArray, List.set_cons_zero, List.set_cons_succ]))
        refine wpAnyH_ready (rs := [8]) (by kernel_rfl) (by simp) ?_
        refine (AllReadyH.cons rfl (fun K5 hK5 => ?_) AllReadyH.nil)
        have q0 := row20 R1.out
        have q1 := row21 R1.out
        have ql := R1.out.lt
        have qf0 := R1.out.frozen 0
        have qf1 := R1.out.frozen 1
        go_simp
        have HQ2 := hide ((HQ.out.setCell (p := ⟨g1, 0, none⟩) HG1.out (.int .i64 1)).setCell (p := ⟨g1, 1, none⟩) HG1.out (.slice A2 2 c2))
        refine hK5.out _ _ (HQ2.out) (fun _ => ?_)
        clear hK5 K5
        clear q0 q1 ql qf0 qf1
        have R2 : Hid (RowAt ((wn4.setCell ⟨g1, 0, none⟩ (.int .i64 1)).setCell ⟨g1, 1, none⟩ (.slice A2 2 c2)) g1 24 #[.int .i64 1, .slice A2 2 c2]) := hide ((R1.out.set 0 (.int .i64 1)).set 1 (.slice A2 2 c2))
        replace O2 := hide (own_setBox (own_setBox O2.out R1.out (by decide) 0 (.int .i64 1)) (R1.out.set 0 (.int .i64 1)) (by decide) 1 (.slice A2 2 c2))
        generalize ((wn4.setCell ⟨g1, 0, none⟩ (.int .i64 1)).setCell ⟨g1, 1, none⟩ (.slice A2 2 c2)) = w9 at *
        (try simp only [Act.put, List.getElem_toArray, List.getElem_cons_succ, List.getElem_cons_zero, List.setIfInBounds_toArray, List.set_cons_zero, List.set_cons_succ])
        (refine wpAnyH_take (i := 9) (v := ?_) rfl (by kernel_rfl) (by kernel_rfl) (by kernel_rfl) (fun _ _ _ h => h) (Or.inl ⟨by rfl, ?_⟩) (by assumption) ?_; rotate_left; (focus (intro w hSw; (try dsimp only at hSw); go_simp; first | done | with_reducible rfl)); (try simp only [Act.put, List.getElem_toArray, List.getElem_cons_succ, List.getElem_cons_zero, List.setIfInBounds_toArray, List.set_cons_zero, List.set_cons_succ]))
        refine wpAnyH_done (by kernel_rfl) ?_ _
        go_wp2_with fail
        go_meet
        case rel => exact ⟨rfl, A2, c2, R2.out, O2.out, HQ2.out⟩
      · skip
        go_simp
        refine (slab_any 1 _).mono ?_
        rintro e wa1 ⟨rfl, hb1⟩
        replace R1 := hide (R1.out.below hb1)
        replace O1 := hide (own_keepB O1.out hb1)
        replace HQ := hide (HQ.out.trans (hb1.mono HQ.out.size))
        clear hb1
        refine hK1.out _ _ (HQ.out) (fun _ => ?_)
        clear hK1 K1
        (try simp only [Act.put, List.getElem_toArray, List.getElem_cons_succ, List.getElem_cons_zero, List.setIfInBounds_toArray, List.set_cons_zero, List.set_cons_succ])
        refine wpAnyH_ready (rs := [0, 3]) (by kernel_rfl) (by simp) ?_
        refine (AllReadyH.cons rfl (fun K2 hK2 => ?_) (AllReadyH.cons rfl (fun K2 hK2 => ?_) AllReadyH.nil))
        · skip
          have q0 := row20 R1.out
          have q1 := row21 R1.out
          have ql := R1.out.lt
          have qf0 := R1.out.frozen 0
          have qf1 := R1.out.frozen 1
          go_simp
          clear q0 q1 ql qf0 qf1
          refine hK2.out _ _ (HQ.out) (fun _ => ?_)
          clear hK2 K2
          (try simp only [Act.put, List.getElem_toArray, List.getElem_cons_succ, List.getElem_cons_zero, List.setIfInBounds_toArray, List.set_cons_zero, List.set_cons_succ])
          refine wpAnyH_ready (rs := [3]) (by kernel_rfl) (by simp) ?_
          refine (AllReadyH.cons rfl (fun K3 hK3 => ?_) AllReadyH.nil)
          skip
          go_simp
          refine (slab_any 2 _).mono ?_
          rintro e wa3 ⟨rfl, hb3⟩
          replace R1 := hide (R1.out.below hb3)
          replace O1 := hide (own_keepB O1.out hb3)
          replace HQ := hide (HQ.out.trans (hb3.mono HQ.out.size))
          clear hb3
          refine hK3.out _ _ (HQ.out) (fun _ => ?_)
          clear hK3 K3
          (try simp only [Act.put, List.getElem_toArray, List.getElem_cons_succ, List.getElem_cons_zero, List.setIfInBounds_toArray, List.set_cons_zero, List.set_cons_succ])
          refine wpAnyH_ready (rs := [4]) (by kernel_rfl) (by simp) ?_
          refine (AllReadyH.cons rfl (fun K4 hK4 => ?_) AllReadyH.nil)
          go_simp
          refine (Split_any A1 c1 0 wE0 (0, 0) (1, 0) (2, 0) wa3 (DirAt.of_own O1.out (uw rfl)) u0 u0 _ wk1).mono ?_
          rintro e wn4 ⟨A2, c2, rfl, ho4, hb4⟩
          have O2 : Hid (wn4.ownsRow W.heap.size 31 2 (.slice A2 2 c2) 2 (Cs encE wE1)) := hide (ownsRow_base ho4 HQ.out.size)
          replace R1 := hide (R1.out.below hb4)
          replace HQ := hide (HQ.out.trans (hb4.mono HQ.out.size))
          clear hb4 ho4 O1
          refine hK4.out _ _ (HQ.out) (fun _ => ?_)
          clear hK4 K4
          simp only [List.length_cons, List.length_nil, Nat.zero_add, Nat.reduceAdd]
          (try simp only [Act.put, List.getElem_toArray, List.getElem_cons_succ, List.getElem_cons_zero, List.setIfInBounds_toArray, List.set_cons_zero, List.set_cons_succ])
          (refine wpAnyH_take (i := 5) (v := ?_) rfl (by kernel_rfl) (by kernel_rfl) (by kernel_rfl) (fun _ _ _ h => h) (Or.inl ⟨by rfl, ?_⟩) (by assumption) ?_; rotate_left; (focus (intro w hSw; (try dsimp only at hSw); go_simp; first | done | with_reducible rfl)); (try simp only [Act.put, List.getElem_toArray, List.getElem_cons_succ, List.getElem_cons_zero, List.setIfInBounds_toArray, List.set_cons_zero, List.set_cons_succ]))
          (refine wpAnyH_take (i := 6) (v := ?_) rfl (by kernel_rfl) (by kernel_rfl) (by kernel_rfl) (fun _ _ _ h => h) (Or.inl ⟨by rfl, ?_⟩) (by assumption) ?_; rotate_left; (focus (intro w hSw; (try dsimp only at hSw); go_simp; first | done | with_reducible rfl)); (try simp only [Act.put, List.getElem_toArray, List.getElem_cons_succ, List.getElem_cons_zero, List.setIfInBounds_toArray, List.set_cons_zero, List.set_cons_succ]))
          (refine wpAnyH_take (i := 7) (v := ?_) rfl (by kernel_rfl) (by kernel_rfl) (by kernel_rfl) (fun _ _ _ h => h) (Or.inl ⟨by rfl, ?_⟩) (by assumption) ?_; rotate_left; (focus (intro w hSw; (try dsimp only at hSw); go_simp; first | done | with_reducible rfl)); (try simp only [Act.put, List.getElem_toArray, List.getElem_cons_succ, List.getElem_cons_zero, List.setIfInBounds_toArray, List.set_cons_zero, List.set_cons_succ]))
          refine wpAnyH_ready (rs := [8]) (by kernel_rfl) (by simp) ?_
          refine (AllReadyH.cons rfl (fun K5 hK5 => ?_) AllReadyH.nil)
          have q0 := row20 R1.out
          have q1 := row21 R1.out
          have ql := R1.out.lt
          have qf0 := R1.out.frozen 0
          have qf1 := R1.out.frozen 1
          go_simp
          have HQ2 := hide ((HQ.out.setCell (p := ⟨g1, 0, none⟩) HG1.out (.int .i64 1)).setCell (p := ⟨g1, 1, none⟩) HG1.out (.slice A2 2 c2))
          refine hK5.out _ _ (HQ2.out) (fun _ => ?_)
          clear hK5 K5
          clear q0 q1 ql qf0 qf1
          have R2 : Hid (RowAt ((wn4.setCell ⟨g1, 0, none⟩ (.int .i64 1)).setCell ⟨g1, 1, none⟩ (.slice A2 2 c2)) g1 24 #[.int .i64 1, .slice A2 2 c2]) := hide ((R1.out.set 0 (.int .i64 1)).set 1 (.slice A2 2 c2))
          replace O2 := hide (own_setBox (own_setBox O2.out R1.out (by decide) 0 (.int .i64 1)) (R1.out.set 0 (.int .i64 1)) (by decide) 1 (.slice A2 2 c2))
          generalize ((wn4.setCell ⟨g1, 0, none⟩ (.int .i64 1)).setCell ⟨g1, 1, none⟩ (.slice A2 2 c2)) = w9 at *
          (try simp only [Act.put, List.getElem_toArray, List.getElem_cons_succ, List.getElem_cons_zero, List.setIfInBounds_toArray, List.set_cons_zero, List.set_cons_succ])
          (refine wpAnyH_take (i := 9) (v := ?_) rfl (by kernel_rfl) (by kernel_rfl) (by kernel_rfl) (fun _ _ _ h => h) (Or.inl ⟨by rfl, ?_⟩) (by assumption) ?_; rotate_left; (focus (intro w hSw; (try dsimp only at hSw); go_simp; first | done | with_reducible rfl)); (try simp only [Act.put, List.getElem_toArray, List.getElem_cons_succ, List.getElem_cons_zero, List.setIfInBounds_toArray, List.set_cons_zero, List.set_cons_succ]))
          refine wpAnyH_done (by kernel_rfl) ?_ _
          go_wp2_with fail
          go_meet
          case rel => exact ⟨rfl, A2, c2, R2.out, O2.out, HQ2.out⟩
        · skip
          go_simp
          refine (slab_any 2 _).mono ?_
          rintro e wa2 ⟨rfl, hb2⟩
          replace R1 := hide (R1.out.below hb2)
          replace O1 := hide (own_keepB O1.out hb2)
          replace HQ := hide (HQ.out.trans (hb2.mono HQ.out.size))
          clear hb2
          refine hK2.out _ _ (HQ.out) (fun _ => ?_)
          clear hK2 K2
          (try simp only [Act.put, List.getElem_toArray, List.getElem_cons_succ, List.getElem_cons_zero, List.setIfInBounds_toArray, List.set_cons_zero, List.set_cons_succ])
          refine wpAnyH_ready (rs := [0]) (by kernel_rfl) (by simp) ?_
          refine (AllReadyH.cons rfl (fun K3 hK3 => ?_) AllReadyH.nil)
          skip
          have q0 := row20 R1.out
          have q1 := row21 R1.out
          have ql := R1.out.lt
          have qf0 := R1.out.frozen 0
          have qf1 := R1.out.frozen 1
          go_simp
          clear q0 q1 ql qf0 qf1
          refine hK3.out _ _ (HQ.out) (fun _ => ?_)
          clear hK3 K3
          (try simp only [Act.put, List.getElem_toArray, List.getElem_cons_succ, List.getElem_cons_zero, List.setIfInBounds_toArray, List.set_cons_zero, List.set_cons_succ])
          refine wpAnyH_ready (rs := [4]) (by kernel_rfl) (by simp) ?_
          refine (AllReadyH.cons rfl (fun K4 hK4 => ?_) AllReadyH.nil)
          go_simp
          refine (Split_any A1 c1 0 wE0 (0, 0) (1, 0) (2, 0) wa2 (DirAt.of_own O1.out (uw rfl)) u0 u0 _ wk1).mono ?_
          rintro e wn4 ⟨A2, c2, rfl, ho4, hb4⟩
          have O2 : Hid (wn4.ownsRow W.heap.size 31 2 (.slice A2 2 c2) 2 (Cs encE wE1)) := hide (ownsRow_base ho4 HQ.out.size)
          replace R1 := hide (R1.out.below hb4)
          replace HQ := hide (HQ.out.trans (hb4.mono HQ.out.size))
          clear hb4 ho4 O1
          refine hK4.out _ _ (HQ.out) (fun _ => ?_)
          clear hK4 K4
          simp only [List.length_cons, List.length_nil, Nat.zero_add, Nat.reduceAdd]
          (try simp only [Act.put, List.getElem_toArray, List.getElem_cons_succ, List.getElem_cons_zero, List.setIfInBounds_toArray, List.set_cons_zero, List.set_cons_succ])
          (refine wpAnyH_take (i := 5) (v := ?_) rfl (by kernel_rfl) (by kernel_rfl) (by kernel_rfl) (fun _ _ _ h => h) (Or.inl ⟨by rfl, ?_⟩) (by assumption) ?_; rotate_left; (focus (intro w hSw; (try dsimp only at hSw); go_simp; first | done | with_reducible rfl)); (try simp only [Act.put, List.getElem_toArray, List.getElem_cons_succ, List.getElem_cons_zero, List.setIfInBounds_toArray, List.set_cons_zero, List.set_cons_succ]))
          (refine wpAnyH_take (i := 6) (v := ?_) rfl (by kernel_rfl) (by kernel_rfl) (by kernel_rfl) (fun _ _ _ h => h) (Or.inl ⟨by rfl, ?_⟩) (by assumption) ?_; rotate_left; (focus (intro w hSw; (try dsimp only at hSw); go_simp; first | done | with_reducible rfl)); (try simp only [Act.put, List.getElem_toArray, List.getElem_cons_succ, List.getElem_cons_zero, List.setIfInBounds_toArray, List.set_cons_zero, List.set_cons_succ]))
          (refine wpAnyH_take (i := 7) (v := ?_) rfl (by kernel_rfl) (by kernel_rfl) (by kernel_rfl) (fun _ _ _ h => h) (Or.inl ⟨by rfl, ?_⟩) (by assumption) ?_; rotate_left; (focus (intro w hSw; (try dsimp only at hSw); go_simp; first | done | with_reducible rfl)); (try simp only [Act.put, List.getElem_toArray, List.getElem_cons_succ, List.getElem_cons_zero, List.setIfInBounds_toArray, List.set_cons_zero, List.set_cons_succ]))
          refine wpAnyH_ready (rs := [8]) (by kernel_rfl) (by simp) ?_
          refine (AllReadyH.cons rfl (fun K5 hK5 => ?_) AllReadyH.nil)
          have q0 := row20 R1.out
          have q1 := row21 R1.out
          have ql := R1.out.lt
          have qf0 := R1.out.frozen 0
          have qf1 := R1.out.frozen 1
          go_simp
          have HQ2 := hide ((HQ.out.setCell (p := ⟨g1, 0, none⟩) HG1.out (.int .i64 1)).setCell (p := ⟨g1, 1, none⟩) HG1.out (.slice A2 2 c2))
          refine hK5.out _ _ (HQ2.out) (fun _ => ?_)
          clear hK5 K5
          clear q0 q1 ql qf0 qf1
          have R2 : Hid (RowAt ((wn4.setCell ⟨g1, 0, none⟩ (.int .i64 1)).setCell ⟨g1, 1, none⟩ (.slice A2 2 c2)) g1 24 #[.int .i64 1, .slice A2 2 c2]) := hide ((R1.out.set 0 (.int .i64 1)).set 1 (.slice A2 2 c2))
          replace O2 := hide (own_setBox (own_setBox O2.out R1.out (by decide) 0 (.int .i64 1)) (R1.out.set 0 (.int .i64 1)) (by decide) 1 (.slice A2 2 c2))
          generalize ((wn4.setCell ⟨g1, 0, none⟩ (.int .i64 1)).setCell ⟨g1, 1, none⟩ (.slice A2 2 c2)) = w9 at *
          (try simp only [Act.put, List.getElem_toArray, List.getElem_cons_succ, List.getElem_cons_zero, List.setIfInBounds_toArray, List.set_cons_zero, List.set_cons_succ])
          (refine wpAnyH_take (i := 9) (v := ?_) rfl (by kernel_rfl) (by kernel_rfl) (by kernel_rfl) (fun _ _ _ h => h) (Or.inl ⟨by rfl, ?_⟩) (by assumption) ?_; rotate_left; (focus (intro w hSw; (try dsimp only at hSw); go_simp; first | done | with_reducible rfl)); (try simp only [Act.put, List.getElem_toArray, List.getElem_cons_succ, List.getElem_cons_zero, List.setIfInBounds_toArray, List.set_cons_zero, List.set_cons_succ]))
          refine wpAnyH_done (by kernel_rfl) ?_ _
          go_wp2_with fail
          go_meet
          case rel => exact ⟨rfl, A2, c2, R2.out, O2.out, HQ2.out⟩
  case rest =>
    rename_i K hK
    refine hK _ _ ?_
    clear hK
    obtain ⟨rfl, A2, c2, hr2, ho2, hb2⟩ := hcut
    obtain ⟨w4, hw4⟩ : ∃ w, w = wc := ⟨_, rfl⟩
    subst hw4
    clear R1 O1 HB
    obtain ⟨A1, hA1⟩ : ∃ A, A = A2 := ⟨_, rfl⟩
    subst hA1
    obtain ⟨c1, hc1⟩ : ∃ c, c = c2 := ⟨_, rfl⟩
    subst hc1
    have R1 := hide hr2
    have O1 := hide ho2
    have HB := hide hb2
    clear hr2 ho2 hb2
    go_upto_region 3 with (fail)
    go_cut [4] from 21 (fun s4 wx => s4 = .int .i64 0 ∧ ∃ (A : Option Addr) (c : Nat), RowAt wx g1 24 #[.int .i64 2, .slice A 4 c] ∧ wx.ownsRow W.heap.size 31 2 (.slice A 4 c) 4 (Cs encE wE2) ∧ Below W.heap.size W wx)
    case first =>
      refine wp_region_held_drew (S := fun wX => Below W.heap.size W wX) (by kernel_rfl) HB.out.drew (fun hHeld => ?_)
      have HQ := hide HB.out.drew
      have R1 := hide R1.out.drew
      have O1 : Hid (w4.drew.ownsRow W.heap.size 31 2 (.slice A1 2 c1) 2 (Cs encE wE1)) := O1
      clear hHeld HB
      generalize w4.drew = wd at *
      refine wpAnyH_ready (rs := [0, 1]) (by kernel_rfl) (by simp) ?_
      refine (AllReadyH.cons rfl (fun K0 hK0 => ?_) (AllReadyH.cons rfl (fun K0 hK0 => ?_) AllReadyH.nil))
      · skip
        have q0 := row20 R1.out
        have q1 := row21 R1.out
        have ql := R1.out.lt
        have qf0 := R1.out.frozen 0
        have qf1 := R1.out.frozen 1
        go_simp
        clear q0 q1 ql qf0 qf1
        refine hK0.out _ _ (HQ.out) (fun _ => ?_)
        clear hK0 K0
        (try simp only [Act.put, List.getElem_toArray, List.getElem_cons_succ, List.getElem_cons_zero, List.setIfInBounds_toArray, List.set_cons_zero, List.set_cons_succ])
        refine wpAnyH_ready (rs := [1]) (by kernel_rfl) (by simp) ?_
        refine (AllReadyH.cons rfl (fun K1 hK1 => ?_) AllReadyH.nil)
        skip
        go_simp
        refine (slab_any 2 _).mono ?_
        rintro e wa1 ⟨rfl, hb1⟩
        replace R1 := hide (R1.out.below hb1)
        replace O1 := hide (own_keepB O1.out hb1)
        replace HQ := hide (HQ.out.trans (hb1.mono HQ.out.size))
        clear hb1
        refine hK1.out _ _ (HQ.out) (fun _ => ?_)
        clear hK1 K1
        (try simp only [Act.put, List.getElem_toArray, List.getElem_cons_succ, List.getElem_cons_zero, List.setIfInBounds_toArray, List.set_cons_zero, List.set_cons_succ])
        refine wpAnyH_ready (rs := [2]) (by kernel_rfl) (by simp) ?_
        refine (AllReadyH.cons rfl (fun K2 hK2 => ?_) AllReadyH.nil)
        skip
        go_simp
        refine (slab_any 3 _).mono ?_
        rintro e wa2 ⟨rfl, hb2⟩
        replace R1 := hide (R1.out.below hb2)
        replace O1 := hide (own_keepB O1.out hb2)
        replace HQ := hide (HQ.out.trans (hb2.mono HQ.out.size))
        clear hb2
        refine hK2.out _ _ (HQ.out) (fun _ => ?_)
        clear hK2 K2
        (try simp only [Act.put, List.getElem_toArray, List.getElem_cons_succ, List.getElem_cons_zero, List.setIfInBounds_toArray, List.set_cons_zero, List.set_cons_succ])
        refine wpAnyH_ready (rs := [3]) (by kernel_rfl) (by simp) ?_
        refine (AllReadyH.cons rfl (fun K3 hK3 => ?_) AllReadyH.nil)
        skip
        go_simp
        refine (slab_any 4 _).mono ?_
        rintro e wa3 ⟨rfl, hb3⟩
        replace R1 := hide (R1.out.below hb3)
        replace O1 := hide (own_keepB O1.out hb3)
        replace HQ := hide (HQ.out.trans (hb3.mono HQ.out.size))
        clear hb3
        refine hK3.out _ _ (HQ.out) (fun _ => ?_)
        clear hK3 K3
        (try simp only [Act.put, List.getElem_toArray, List.getElem_cons_succ, List.getElem_cons_zero, List.setIfInBounds_toArray, List.set_cons_zero, List.set_cons_succ])
        refine wpAnyH_ready (rs := [4]) (by kernel_rfl) (by simp) ?_
        refine (AllReadyH.cons rfl (fun K4 hK4 => ?_) AllReadyH.nil)
        go_simp
        refine (Split_any A1 c1 1 wE1 (2, 0) (3, 0) (4, 0) wa3 (DirAt.of_own O1.out (uw rfl)) u0 u0 _ wk2).mono ?_
        rintro e wn4 ⟨A2, c2, rfl, ho4, hb4⟩
        have O2 : Hid (wn4.ownsRow W.heap.size 31 2 (.slice A2 4 c2) 4 (Cs encE wE2)) := hide (ownsRow_base ho4 HQ.out.size)
        replace R1 := hide (R1.out.below hb4)
        replace HQ := hide (HQ.out.trans (hb4.mono HQ.out.size))
        clear hb4 ho4 O1
        refine hK4.out _ _ (HQ.out) (fun _ => ?_)
        clear hK4 K4
        simp only [List.length_cons, List.length_nil, Nat.zero_add, Nat.reduceAdd]
        (try simp only [Act.put, List.getElem_toArray, List.getElem_cons_succ, List.getElem_cons_zero, List.setIfInBounds_toArray, List.set_cons_zero, List.set_cons_succ])
        (refine wpAnyH_take (i := 5) (v := ?_) rfl (by kernel_rfl) (by kernel_rfl) (by kernel_rfl) (fun _ _ _ h => h) (Or.inl ⟨by rfl, ?_⟩) (by assumption) ?_; rotate_left; (focus (intro w hSw; (try dsimp only at hSw); go_simp; first | done | with_reducible rfl)); (try simp only [Act.put, List.getElem_toArray, List.getElem_cons_succ, List.getElem_cons_zero, List.setIfInBounds_toArray, List.set_cons_zero, List.set_cons_succ]))
        (refine wpAnyH_take (i := 6) (v := ?_) rfl (by kernel_rfl) (by kernel_rfl) (by kernel_rfl) (fun _ _ _ h => h) (Or.inl ⟨by rfl, ?_⟩) (by assumption) ?_; rotate_left; (focus (intro w hSw; (try dsimp only at hSw); go_simp; first | done | with_reducible rfl)); (try simp only [Act.put, List.getElem_toArray, List.getElem_cons_succ, List.getElem_cons_zero, List.setIfInBounds_toArray, List.set_cons_zero, List.set_cons_succ]))
        (refine wpAnyH_take (i := 7) (v := ?_) rfl (by kernel_rfl) (by kernel_rfl) (by kernel_rfl) (fun _ _ _ h => h) (Or.inl ⟨by rfl, ?_⟩) (by assumption) ?_; rotate_left; (focus (intro w hSw; (try dsimp only at hSw); go_simp; first | done | with_reducible rfl)); (try simp only [Act.put, List.getElem_toArray, List.getElem_cons_succ, List.getElem_cons_zero, List.setIfInBounds_toArray, List.set_cons_zero, List.set_cons_succ]))
        refine wpAnyH_ready (rs := [8]) (by kernel_rfl) (by simp) ?_
        refine (AllReadyH.cons rfl (fun K5 hK5 => ?_) AllReadyH.nil)
        have q0 := row20 R1.out
        have q1 := row21 R1.out
        have ql := R1.out.lt
        have qf0 := R1.out.frozen 0
        have qf1 := R1.out.frozen 1
        go_simp
        have HQ2 := hide ((HQ.out.setCell (p := ⟨g1, 0, none⟩) HG1.out (.int .i64 2)).setCell (p := ⟨g1, 1, none⟩) HG1.out (.slice A2 4 c2))
        refine hK5.out _ _ (HQ2.out) (fun _ => ?_)
        clear hK5 K5
        clear q0 q1 ql qf0 qf1
        have R2 : Hid (RowAt ((wn4.setCell ⟨g1, 0, none⟩ (.int .i64 2)).setCell ⟨g1, 1, none⟩ (.slice A2 4 c2)) g1 24 #[.int .i64 2, .slice A2 4 c2]) := hide ((R1.out.set 0 (.int .i64 2)).set 1 (.slice A2 4 c2))
        replace O2 := hide (own_setBox (own_setBox O2.out R1.out (by decide) 0 (.int .i64 2)) (R1.out.set 0 (.int .i64 2)) (by decide) 1 (.slice A2 4 c2))
        generalize ((wn4.setCell ⟨g1, 0, none⟩ (.int .i64 2)).setCell ⟨g1, 1, none⟩ (.slice A2 4 c2)) = w9 at *
        (try simp only [Act.put, List.getElem_toArray, List.getElem_cons_succ, List.getElem_cons_zero, List.setIfInBounds_toArray, List.set_cons_zero, List.set_cons_succ])
        (refine wpAnyH_take (i := 9) (v := ?_) rfl (by kernel_rfl) (by kernel_rfl) (by kernel_rfl) (fun _ _ _ h => h) (Or.inl ⟨by rfl, ?_⟩) (by assumption) ?_; rotate_left; (focus (intro w hSw; (try dsimp only at hSw); go_simp; first | done | with_reducible rfl)); (try simp only [Act.put, List.getElem_toArray, List.getElem_cons_succ, List.getElem_cons_zero, List.setIfInBounds_toArray, List.set_cons_zero, List.set_cons_succ]))
        refine wpAnyH_done (by kernel_rfl) ?_ _
        go_wp2_with fail
        go_meet
        case rel => exact ⟨rfl, A2, c2, R2.out, O2.out, HQ2.out⟩
      · skip
        go_simp
        refine (slab_any 2 _).mono ?_
        rintro e wa0 ⟨rfl, hb0⟩
        replace R1 := hide (R1.out.below hb0)
        replace O1 := hide (own_keepB O1.out hb0)
        replace HQ := hide (HQ.out.trans (hb0.mono HQ.out.size))
        clear hb0
        refine hK0.out _ _ (HQ.out) (fun _ => ?_)
        clear hK0 K0
        (try simp only [Act.put, List.getElem_toArray, List.getElem_cons_succ, List.getElem_cons_zero, List.setIfInBounds_toArray, List.set_cons_zero, List.set_cons_succ])
        refine wpAnyH_ready (rs := [0, 2]) (by kernel_rfl) (by simp) ?_
        refine (AllReadyH.cons rfl (fun K1 hK1 => ?_) (AllReadyH.cons rfl (fun K1 hK1 => ?_) AllReadyH.nil))
        · skip
          have q0 := row20 R1.out
          have q1 := row21 R1.out
          have ql := R1.out.lt
          have qf0 := R1.out.frozen 0
          have qf1 := R1.out.frozen 1
          go_simp
          clear q0 q1 ql qf0 qf1
          refine hK1.out _ _ (HQ.out) (fun _ => ?_)
          clear hK1 K1
          (try simp only [Act.put, List.getElem_toArray, List.getElem_cons_succ, List.getElem_cons_zero, List.setIfInBounds_toArray, List.set_cons_zero, List.set_cons_succ])
          refine wpAnyH_ready (rs := [2]) (by kernel_rfl) (by simp) ?_
          refine (AllReadyH.cons rfl (fun K2 hK2 => ?_) AllReadyH.nil)
          skip
          go_simp
          refine (slab_any 3 _).mono ?_
          rintro e wa2 ⟨rfl, hb2⟩
          replace R1 := hide (R1.out.below hb2)
          replace O1 := hide (own_keepB O1.out hb2)
          replace HQ := hide (HQ.out.trans (hb2.mono HQ.out.size))
          clear hb2
          refine hK2.out _ _ (HQ.out) (fun _ => ?_)
          clear hK2 K2
          (try simp only [Act.put, List.getElem_toArray, List.getElem_cons_succ, List.getElem_cons_zero, List.setIfInBounds_toArray, List.set_cons_zero, List.set_cons_succ])
          refine wpAnyH_ready (rs := [3]) (by kernel_rfl) (by simp) ?_
          refine (AllReadyH.cons rfl (fun K3 hK3 => ?_) AllReadyH.nil)
          skip
          go_simp
          refine (slab_any 4 _).mono ?_
          rintro e wa3 ⟨rfl, hb3⟩
          replace R1 := hide (R1.out.below hb3)
          replace O1 := hide (own_keepB O1.out hb3)
          replace HQ := hide (HQ.out.trans (hb3.mono HQ.out.size))
          clear hb3
          refine hK3.out _ _ (HQ.out) (fun _ => ?_)
          clear hK3 K3
          (try simp only [Act.put, List.getElem_toArray, List.getElem_cons_succ, List.getElem_cons_zero, List.setIfInBounds_toArray, List.set_cons_zero, List.set_cons_succ])
          refine wpAnyH_ready (rs := [4]) (by kernel_rfl) (by simp) ?_
          refine (AllReadyH.cons rfl (fun K4 hK4 => ?_) AllReadyH.nil)
          go_simp
          refine (Split_any A1 c1 1 wE1 (2, 0) (3, 0) (4, 0) wa3 (DirAt.of_own O1.out (uw rfl)) u0 u0 _ wk2).mono ?_
          rintro e wn4 ⟨A2, c2, rfl, ho4, hb4⟩
          have O2 : Hid (wn4.ownsRow W.heap.size 31 2 (.slice A2 4 c2) 4 (Cs encE wE2)) := hide (ownsRow_base ho4 HQ.out.size)
          replace R1 := hide (R1.out.below hb4)
          replace HQ := hide (HQ.out.trans (hb4.mono HQ.out.size))
          clear hb4 ho4 O1
          refine hK4.out _ _ (HQ.out) (fun _ => ?_)
          clear hK4 K4
          simp only [List.length_cons, List.length_nil, Nat.zero_add, Nat.reduceAdd]
          (try simp only [Act.put, List.getElem_toArray, List.getElem_cons_succ, List.getElem_cons_zero, List.setIfInBounds_toArray, List.set_cons_zero, List.set_cons_succ])
          (refine wpAnyH_take (i := 5) (v := ?_) rfl (by kernel_rfl) (by kernel_rfl) (by kernel_rfl) (fun _ _ _ h => h) (Or.inl ⟨by rfl, ?_⟩) (by assumption) ?_; rotate_left; (focus (intro w hSw; (try dsimp only at hSw); go_simp; first | done | with_reducible rfl)); (try simp only [Act.put, List.getElem_toArray, List.getElem_cons_succ, List.getElem_cons_zero, List.setIfInBounds_toArray, List.set_cons_zero, List.set_cons_succ]))
          (refine wpAnyH_take (i := 6) (v := ?_) rfl (by kernel_rfl) (by kernel_rfl) (by kernel_rfl) (fun _ _ _ h => h) (Or.inl ⟨by rfl, ?_⟩) (by assumption) ?_; rotate_left; (focus (intro w hSw; (try dsimp only at hSw); go_simp; first | done | with_reducible rfl)); (try simp only [Act.put, List.getElem_toArray, List.getElem_cons_succ, List.getElem_cons_zero, List.setIfInBounds_toArray, List.set_cons_zero, List.set_cons_succ]))
          (refine wpAnyH_take (i := 7) (v := ?_) rfl (by kernel_rfl) (by kernel_rfl) (by kernel_rfl) (fun _ _ _ h => h) (Or.inl ⟨by rfl, ?_⟩) (by assumption) ?_; rotate_left; (focus (intro w hSw; (try dsimp only at hSw); go_simp; first | done | with_reducible rfl)); (try simp only [Act.put, List.getElem_toArray, List.getElem_cons_succ, List.getElem_cons_zero, List.setIfInBounds_toArray, List.set_cons_zero, List.set_cons_succ]))
          refine wpAnyH_ready (rs := [8]) (by kernel_rfl) (by simp) ?_
          refine (AllReadyH.cons rfl (fun K5 hK5 => ?_) AllReadyH.nil)
          have q0 := row20 R1.out
          have q1 := row21 R1.out
          have ql := R1.out.lt
          have qf0 := R1.out.frozen 0
          have qf1 := R1.out.frozen 1
          go_simp
          have HQ2 := hide ((HQ.out.setCell (p := ⟨g1, 0, none⟩) HG1.out (.int .i64 2)).setCell (p := ⟨g1, 1, none⟩) HG1.out (.slice A2 4 c2))
          refine hK5.out _ _ (HQ2.out) (fun _ => ?_)
          clear hK5 K5
          clear q0 q1 ql qf0 qf1
          have R2 : Hid (RowAt ((wn4.setCell ⟨g1, 0, none⟩ (.int .i64 2)).setCell ⟨g1, 1, none⟩ (.slice A2 4 c2)) g1 24 #[.int .i64 2, .slice A2 4 c2]) := hide ((R1.out.set 0 (.int .i64 2)).set 1 (.slice A2 4 c2))
          replace O2 := hide (own_setBox (own_setBox O2.out R1.out (by decide) 0 (.int .i64 2)) (R1.out.set 0 (.int .i64 2)) (by decide) 1 (.slice A2 4 c2))
          generalize ((wn4.setCell ⟨g1, 0, none⟩ (.int .i64 2)).setCell ⟨g1, 1, none⟩ (.slice A2 4 c2)) = w9 at *
          (try simp only [Act.put, List.getElem_toArray, List.getElem_cons_succ, List.getElem_cons_zero, List.setIfInBounds_toArray, List.set_cons_zero, List.set_cons_succ])
          (refine wpAnyH_take (i := 9) (v := ?_) rfl (by kernel_rfl) (by kernel_rfl) (by kernel_rfl) (fun _ _ _ h => h) (Or.inl ⟨by rfl, ?_⟩) (by assumption) ?_; rotate_left; (focus (intro w hSw; (try dsimp only at hSw); go_simp; first | done | with_reducible rfl)); (try simp only [Act.put, List.getElem_toArray, List.getElem_cons_succ, List.getElem_cons_zero, List.setIfInBounds_toArray, List.set_cons_zero, List.set_cons_succ]))
          refine wpAnyH_done (by kernel_rfl) ?_ _
          go_wp2_with fail
          go_meet
          case rel => exact ⟨rfl, A2, c2, R2.out, O2.out, HQ2.out⟩
        · skip
          go_simp
          refine (slab_any 3 _).mono ?_
          rintro e wa1 ⟨rfl, hb1⟩
          replace R1 := hide (R1.out.below hb1)
          replace O1 := hide (own_keepB O1.out hb1)
          replace HQ := hide (HQ.out.trans (hb1.mono HQ.out.size))
          clear hb1
          refine hK1.out _ _ (HQ.out) (fun _ => ?_)
          clear hK1 K1
          (try simp only [Act.put, List.getElem_toArray, List.getElem_cons_succ, List.getElem_cons_zero, List.setIfInBounds_toArray, List.set_cons_zero, List.set_cons_succ])
          refine wpAnyH_ready (rs := [0, 3]) (by kernel_rfl) (by simp) ?_
          refine (AllReadyH.cons rfl (fun K2 hK2 => ?_) (AllReadyH.cons rfl (fun K2 hK2 => ?_) AllReadyH.nil))
          · skip
            have q0 := row20 R1.out
            have q1 := row21 R1.out
            have ql := R1.out.lt
            have qf0 := R1.out.frozen 0
            have qf1 := R1.out.frozen 1
            go_simp
            clear q0 q1 ql qf0 qf1
            refine hK2.out _ _ (HQ.out) (fun _ => ?_)
            clear hK2 K2
            (try simp only [Act.put, List.getElem_toArray, List.getElem_cons_succ, List.getElem_cons_zero, List.setIfInBounds_toArray, List.set_cons_zero, List.set_cons_succ])
            refine wpAnyH_ready (rs := [3]) (by kernel_rfl) (by simp) ?_
            refine (AllReadyH.cons rfl (fun K3 hK3 => ?_) AllReadyH.nil)
            skip
            go_simp
            refine (slab_any 4 _).mono ?_
            rintro e wa3 ⟨rfl, hb3⟩
            replace R1 := hide (R1.out.below hb3)
            replace O1 := hide (own_keepB O1.out hb3)
            replace HQ := hide (HQ.out.trans (hb3.mono HQ.out.size))
            clear hb3
            refine hK3.out _ _ (HQ.out) (fun _ => ?_)
            clear hK3 K3
            (try simp only [Act.put, List.getElem_toArray, List.getElem_cons_succ, List.getElem_cons_zero, List.setIfInBounds_toArray, List.set_cons_zero, List.set_cons_succ])
            refine wpAnyH_ready (rs := [4]) (by kernel_rfl) (by simp) ?_
            refine (AllReadyH.cons rfl (fun K4 hK4 => ?_) AllReadyH.nil)
            go_simp
            refine (Split_any A1 c1 1 wE1 (2, 0) (3, 0) (4, 0) wa3 (DirAt.of_own O1.out (uw rfl)) u0 u0 _ wk2).mono ?_
            rintro e wn4 ⟨A2, c2, rfl, ho4, hb4⟩
            have O2 : Hid (wn4.ownsRow W.heap.size 31 2 (.slice A2 4 c2) 4 (Cs encE wE2)) := hide (ownsRow_base ho4 HQ.out.size)
            replace R1 := hide (R1.out.below hb4)
            replace HQ := hide (HQ.out.trans (hb4.mono HQ.out.size))
            clear hb4 ho4 O1
            refine hK4.out _ _ (HQ.out) (fun _ => ?_)
            clear hK4 K4
            simp only [List.length_cons, List.length_nil, Nat.zero_add, Nat.reduceAdd]
            (try simp only [Act.put, List.getElem_toArray, List.getElem_cons_succ, List.getElem_cons_zero, List.setIfInBounds_toArray, List.set_cons_zero, List.set_cons_succ])
            (refine wpAnyH_take (i := 5) (v := ?_) rfl (by kernel_rfl) (by kernel_rfl) (by kernel_rfl) (fun _ _ _ h => h) (Or.inl ⟨by rfl, ?_⟩) (by assumption) ?_; rotate_left; (focus (intro w hSw; (try dsimp only at hSw); go_simp; first | done | with_reducible rfl)); (try simp only [Act.put, List.getElem_toArray, List.getElem_cons_succ, List.getElem_cons_zero, List.setIfInBounds_toArray, List.set_cons_zero, List.set_cons_succ]))
            (refine wpAnyH_take (i := 6) (v := ?_) rfl (by kernel_rfl) (by kernel_rfl) (by kernel_rfl) (fun _ _ _ h => h) (Or.inl ⟨by rfl, ?_⟩) (by assumption) ?_; rotate_left; (focus (intro w hSw; (try dsimp only at hSw); go_simp; first | done | with_reducible rfl)); (try simp only [Act.put, List.getElem_toArray, List.getElem_cons_succ, List.getElem_cons_zero, List.setIfInBounds_toArray, List.set_cons_zero, List.set_cons_succ]))
            (refine wpAnyH_take (i := 7) (v := ?_) rfl (by kernel_rfl) (by kernel_rfl) (by kernel_rfl) (fun _ _ _ h => h) (Or.inl ⟨by rfl, ?_⟩) (by assumption) ?_; rotate_left; (focus (intro w hSw; (try dsimp only at hSw); go_simp; first | done | with_reducible rfl)); (try simp only [Act.put, List.getElem_toArray, List.getElem_cons_succ, List.getElem_cons_zero, List.setIfInBounds_toArray, List.set_cons_zero, List.set_cons_succ]))
            refine wpAnyH_ready (rs := [8]) (by kernel_rfl) (by simp) ?_
            refine (AllReadyH.cons rfl (fun K5 hK5 => ?_) AllReadyH.nil)
            have q0 := row20 R1.out
            have q1 := row21 R1.out
            have ql := R1.out.lt
            have qf0 := R1.out.frozen 0
            have qf1 := R1.out.frozen 1
            go_simp
            have HQ2 := hide ((HQ.out.setCell (p := ⟨g1, 0, none⟩) HG1.out (.int .i64 2)).setCell (p := ⟨g1, 1, none⟩) HG1.out (.slice A2 4 c2))
            refine hK5.out _ _ (HQ2.out) (fun _ => ?_)
            clear hK5 K5
            clear q0 q1 ql qf0 qf1
            have R2 : Hid (RowAt ((wn4.setCell ⟨g1, 0, none⟩ (.int .i64 2)).setCell ⟨g1, 1, none⟩ (.slice A2 4 c2)) g1 24 #[.int .i64 2, .slice A2 4 c2]) := hide ((R1.out.set 0 (.int .i64 2)).set 1 (.slice A2 4 c2))
            replace O2 := hide (own_setBox (own_setBox O2.out R1.out (by decide) 0 (.int .i64 2)) (R1.out.set 0 (.int .i64 2)) (by decide) 1 (.slice A2 4 c2))
            generalize ((wn4.setCell ⟨g1, 0, none⟩ (.int .i64 2)).setCell ⟨g1, 1, none⟩ (.slice A2 4 c2)) = w9 at *
            (try simp only [Act.put, List.getElem_toArray, List.getElem_cons_succ, List.getElem_cons_zero, List.setIfInBounds_toArray, List.set_cons_zero, List.set_cons_succ])
            (refine wpAnyH_take (i := 9) (v := ?_) rfl (by kernel_rfl) (by kernel_rfl) (by kernel_rfl) (fun _ _ _ h => h) (Or.inl ⟨by rfl, ?_⟩) (by assumption) ?_; rotate_left; (focus (intro w hSw; (try dsimp only at hSw); go_simp; first | done | with_reducible rfl)); (try simp only [Act.put, List.getElem_toArray, List.getElem_cons_succ, List.getElem_cons_zero, List.setIfInBounds_toArray, List.set_cons_zero, List.set_cons_succ]))
            refine wpAnyH_done (by kernel_rfl) ?_ _
            go_wp2_with fail
            go_meet
            case rel => exact ⟨rfl, A2, c2, R2.out, O2.out, HQ2.out⟩
          · skip
            go_simp
            refine (slab_any 4 _).mono ?_
            rintro e wa2 ⟨rfl, hb2⟩
            replace R1 := hide (R1.out.below hb2)
            replace O1 := hide (own_keepB O1.out hb2)
            replace HQ := hide (HQ.out.trans (hb2.mono HQ.out.size))
            clear hb2
            refine hK2.out _ _ (HQ.out) (fun _ => ?_)
            clear hK2 K2
            (try simp only [Act.put, List.getElem_toArray, List.getElem_cons_succ, List.getElem_cons_zero, List.setIfInBounds_toArray, List.set_cons_zero, List.set_cons_succ])
            refine wpAnyH_ready (rs := [0]) (by kernel_rfl) (by simp) ?_
            refine (AllReadyH.cons rfl (fun K3 hK3 => ?_) AllReadyH.nil)
            skip
            have q0 := row20 R1.out
            have q1 := row21 R1.out
            have ql := R1.out.lt
            have qf0 := R1.out.frozen 0
            have qf1 := R1.out.frozen 1
            go_simp
            clear q0 q1 ql qf0 qf1
            refine hK3.out _ _ (HQ.out) (fun _ => ?_)
            clear hK3 K3
            (try simp only [Act.put, List.getElem_toArray, List.getElem_cons_succ, List.getElem_cons_zero, List.setIfInBounds_toArray, List.set_cons_zero, List.set_cons_succ])
            refine wpAnyH_ready (rs := [4]) (by kernel_rfl) (by simp) ?_
            refine (AllReadyH.cons rfl (fun K4 hK4 => ?_) AllReadyH.nil)
            go_simp
            refine (Split_any A1 c1 1 wE1 (2, 0) (3, 0) (4, 0) wa2 (DirAt.of_own O1.out (uw rfl)) u0 u0 _ wk2).mono ?_
            rintro e wn4 ⟨A2, c2, rfl, ho4, hb4⟩
            have O2 : Hid (wn4.ownsRow W.heap.size 31 2 (.slice A2 4 c2) 4 (Cs encE wE2)) := hide (ownsRow_base ho4 HQ.out.size)
            replace R1 := hide (R1.out.below hb4)
            replace HQ := hide (HQ.out.trans (hb4.mono HQ.out.size))
            clear hb4 ho4 O1
            refine hK4.out _ _ (HQ.out) (fun _ => ?_)
            clear hK4 K4
            simp only [List.length_cons, List.length_nil, Nat.zero_add, Nat.reduceAdd]
            (try simp only [Act.put, List.getElem_toArray, List.getElem_cons_succ, List.getElem_cons_zero, List.setIfInBounds_toArray, List.set_cons_zero, List.set_cons_succ])
            (refine wpAnyH_take (i := 5) (v := ?_) rfl (by kernel_rfl) (by kernel_rfl) (by kernel_rfl) (fun _ _ _ h => h) (Or.inl ⟨by rfl, ?_⟩) (by assumption) ?_; rotate_left; (focus (intro w hSw; (try dsimp only at hSw); go_simp; first | done | with_reducible rfl)); (try simp only [Act.put, List.getElem_toArray, List.getElem_cons_succ, List.getElem_cons_zero, List.setIfInBounds_toArray, List.set_cons_zero, List.set_cons_succ]))
            (refine wpAnyH_take (i := 6) (v := ?_) rfl (by kernel_rfl) (by kernel_rfl) (by kernel_rfl) (fun _ _ _ h => h) (Or.inl ⟨by rfl, ?_⟩) (by assumption) ?_; rotate_left; (focus (intro w hSw; (try dsimp only at hSw); go_simp; first | done | with_reducible rfl)); (try simp only [Act.put, List.getElem_toArray, List.getElem_cons_succ, List.getElem_cons_zero, List.setIfInBounds_toArray, List.set_cons_zero, List.set_cons_succ]))
            (refine wpAnyH_take (i := 7) (v := ?_) rfl (by kernel_rfl) (by kernel_rfl) (by kernel_rfl) (fun _ _ _ h => h) (Or.inl ⟨by rfl, ?_⟩) (by assumption) ?_; rotate_left; (focus (intro w hSw; (try dsimp only at hSw); go_simp; first | done | with_reducible rfl)); (try simp only [Act.put, List.getElem_toArray, List.getElem_cons_succ, List.getElem_cons_zero, List.setIfInBounds_toArray, List.set_cons_zero, List.set_cons_succ]))
            refine wpAnyH_ready (rs := [8]) (by kernel_rfl) (by simp) ?_
            refine (AllReadyH.cons rfl (fun K5 hK5 => ?_) AllReadyH.nil)
            have q0 := row20 R1.out
            have q1 := row21 R1.out
            have ql := R1.out.lt
            have qf0 := R1.out.frozen 0
            have qf1 := R1.out.frozen 1
            go_simp
            have HQ2 := hide ((HQ.out.setCell (p := ⟨g1, 0, none⟩) HG1.out (.int .i64 2)).setCell (p := ⟨g1, 1, none⟩) HG1.out (.slice A2 4 c2))
            refine hK5.out _ _ (HQ2.out) (fun _ => ?_)
            clear hK5 K5
            clear q0 q1 ql qf0 qf1
            have R2 : Hid (RowAt ((wn4.setCell ⟨g1, 0, none⟩ (.int .i64 2)).setCell ⟨g1, 1, none⟩ (.slice A2 4 c2)) g1 24 #[.int .i64 2, .slice A2 4 c2]) := hide ((R1.out.set 0 (.int .i64 2)).set 1 (.slice A2 4 c2))
            replace O2 := hide (own_setBox (own_setBox O2.out R1.out (by decide) 0 (.int .i64 2)) (R1.out.set 0 (.int .i64 2)) (by decide) 1 (.slice A2 4 c2))
            generalize ((wn4.setCell ⟨g1, 0, none⟩ (.int .i64 2)).setCell ⟨g1, 1, none⟩ (.slice A2 4 c2)) = w9 at *
            (try simp only [Act.put, List.getElem_toArray, List.getElem_cons_succ, List.getElem_cons_zero, List.setIfInBounds_toArray, List.set_cons_zero, List.set_cons_succ])
            (refine wpAnyH_take (i := 9) (v := ?_) rfl (by kernel_rfl) (by kernel_rfl) (by kernel_rfl) (fun _ _ _ h => h) (Or.inl ⟨by rfl, ?_⟩) (by assumption) ?_; rotate_left; (focus (intro w hSw; (try dsimp only at hSw); go_simp; first | done | with_reducible rfl)); (try simp only [Act.put, List.getElem_toArray, List.getElem_cons_succ, List.getElem_cons_zero, List.setIfInBounds_toArray, List.set_cons_zero, List.set_cons_succ]))
            refine wpAnyH_done (by kernel_rfl) ?_ _
            go_wp2_with fail
            go_meet
            case rel => exact ⟨rfl, A2, c2, R2.out, O2.out, HQ2.out⟩
    case rest =>
      rename_i K hK
      refine hK _ _ ?_
      clear hK
      obtain ⟨rfl, A2, c2, hr2, ho2, hb2⟩ := hcut
      obtain ⟨w5, hw5⟩ : ∃ w, w = wc := ⟨_, rfl⟩
      subst hw5
      clear R1 O1 HB
      have R1 := hide hr2
      have O1 := hide ho2
      have HB := hide hb2
      clear hr2 ho2 hb2
      have q0 := row20 R1.out
      have q1 := row21 R1.out
      have ql := R1.out.lt
      have qf0 := R1.out.frozen 0
      have qf1 := R1.out.frozen 1
      go_wp2_with fail
      refine (Of_any w5.heap.size A2 c2 2 9223372036854775808 wE2 w5 (DirAt.of_own O1.out (uw rfl)) (Nat.le_refl _) uh _ wk3).mono ?_
      rintro e w6 ⟨rfl, hb⟩
      clear q0 q1 ql qf0 qf1
      replace R1 := hide (R1.out.below hb)
      replace O1 := hide (own_keepB O1.out hb)
      replace HB := hide (HB.out.trans (hb.mono HB.out.size))
      clear hb
      dsimp only
      go_upto_region 5 with (fail)
      have hba := (Below.refl _ w6).alloc (Nat.le_refl _) (.cells (rC ⟨(3, 0), 2, 2, 2, 1⟩) 33)
      have R5 := hide (RowAt.new w6 33 (rC ⟨(3, 0), 2, 2, 2, 1⟩))
      replace R1 := hide (R1.out.below hba)
      replace O1 := hide (own_keepB O1.out hba)
      replace HB := hide (HB.out.trans (hba.mono HB.out.size))
      clear hba
      generalize hg : w6.heap.size = g5 at *
      clear hg
      generalize w6.alloc (.cells (rC ⟨(3, 0), 2, 2, 2, 1⟩) 33) = w7 at *
      have q0 := row20 R1.out
      have q1 := row21 R1.out
      have ql := R1.out.lt
      have qf0 := R1.out.frozen 0
      have qf1 := R1.out.frozen 1
      go_wp2_with fail
      refine (Halve_any A2 c2 2 wE2 w7 (DirAt.of_own O1.out (uw rfl)) _ wk4).mono ?_
      rintro e w8 ⟨rfl, hb⟩
      clear q0 q1 ql qf0 qf1
      replace R1 := hide (R1.out.below hb)
      replace R5 := hide (R5.out.below hb)
      replace O1 := hide (own_keepB O1.out hb)
      replace HB := hide (HB.out.trans (hb.mono HB.out.size))
      clear hb
      dsimp only
      go_upto_region 6 with (fail)
      have hba := (Below.refl _ w8).alloc (Nat.le_refl _) (.cells #[.int .i64 0, .slice none 0 0] 24)
      replace R1 := hide (R1.out.below hba)
      replace R5 := hide (R5.out.below hba)
      replace O1 := hide (own_keepB O1.out hba)
      replace HB := hide (HB.out.trans (hba.mono HB.out.size))
      clear hba
      generalize w8.alloc (.cells #[.int .i64 0, .slice none 0 0] 24) = w9 at *
      have q0 := row20 R1.out
      have q1 := row21 R1.out
      have ql := R1.out.lt
      have qf0 := R1.out.frozen 0
      have qf1 := R1.out.frozen 1
      go_wp2_with fail
      refine (Double_any A2 c2 2 wE2 w9 (DirAt.of_own O1.out (uw rfl)) _ wk5).mono ?_
      rintro e w10 ⟨A3, c3, rfl, ho, hb⟩
      clear q0 q1 ql qf0 qf1
      have O3 : Hid (w10.ownsRow W.heap.size 31 2 (.slice A3 8 c3) 8 (Cs encE wE3)) := hide (ownsRow_base ho HB.out.size)
      replace R1 := hide (R1.out.below hb)
      replace R5 := hide (R5.out.below hb)
      replace O1 := hide (own_keepB O1.out hb)
      replace HB := hide (HB.out.trans (hb.mono HB.out.size))
      clear hb ho
      simp only [List.length_cons, List.length_nil, Nat.zero_add, Nat.reduceAdd]
      go_upto_region 7 with (fail)
      have hba := (Below.refl _ w10).alloc (Nat.le_refl _) (.cells #[.int .i64 3, .slice A3 8 c3] 24)
      have R9 := hide (RowAt.new w10 24 #[.int .i64 3, .slice A3 8 c3])
      replace R1 := hide (R1.out.below hba)
      replace R5 := hide (R5.out.below hba)
      replace O1 := hide (own_keepB O1.out hba)
      replace O3 := hide (own_keepB O3.out hba)
      replace HB := hide (HB.out.trans (hba.mono HB.out.size))
      clear hba
      generalize hg : w10.heap.size = g9 at *
      clear hg
      generalize w10.alloc (.cells #[.int .i64 3, .slice A3 8 c3] 24) = w11 at *
      have q0 := row20 R9.out
      have q1 := row21 R9.out
      have ql := R9.out.lt
      have qf0 := R9.out.frozen 0
      have qf1 := R9.out.frozen 1
      go_wp2_with fail
      refine (Halve_any A3 c3 3 wE3 w11 (DirAt.of_own O3.out (uw rfl)) _ wk6).mono ?_
      rintro e w12 ⟨A4, c4, rfl, ho, hb⟩
      clear q0 q1 ql qf0 qf1
      have O4 : Hid (w12.ownsRow W.heap.size 31 2 (.slice A4 4 c4) 4 (Cs encE wE2)) := hide (ownsRow_base ho HB.out.size)
      replace R1 := hide (R1.out.below hb)
      replace R5 := hide (R5.out.below hb)
      replace O1 := hide (own_keepB O1.out hb)
      replace HB := hide (HB.out.trans (hb.mono HB.out.size))
      clear hb ho O3 R9
      simp only [List.length_cons, List.length_nil, Nat.zero_add, Nat.reduceAdd]
      go_upto_region 8 with (fail)
      have hba := (Below.refl _ w12).alloc (Nat.le_refl _) (.cells #[.int .i64 2, .slice A4 4 c4] 24)
      have R11 := hide (RowAt.new w12 24 #[.int .i64 2, .slice A4 4 c4])
      replace R1 := hide (R1.out.below hba)
      replace R5 := hide (R5.out.below hba)
      replace O1 := hide (own_keepB O1.out hba)
      replace O4 := hide (own_keepB O4.out hba)
      replace HB := hide (HB.out.trans (hba.mono HB.out.size))
      clear hba
      generalize hg : w12.heap.size = g11 at *
      clear hg
      generalize w12.alloc (.cells #[.int .i64 2, .slice A4 4 c4] 24) = w13 at *
      go_cut [14] from 57 (fun s14 wx => s14 = .int .i64 5 ∧ Below w13.heap.size w13 wx)
      case first =>
        have q0 := row20 R1.out
        have q1 := row21 R1.out
        have ql := R1.out.lt
        have qf0 := R1.out.frozen 0
        have qf1 := R1.out.frozen 1
        refine wp_region_held_drew (S := fun wX => Below w13.heap.size w13 wX) (by kernel_rfl) (Below.refl _ _).drew (fun hHeld => ?_)
        (refine wpAnyH_take (i := 0) (v := ?_) rfl (by kernel_rfl) (by kernel_rfl) (by kernel_rfl) (fun _ _ _ h => h) (Or.inl ⟨by rfl, ?_⟩) (by assumption) ?_; rotate_left; (focus (intro w hSw; (try dsimp only at hSw); have kf0 := kept hSw q0; have kf1 := kept hSw q1; go_simp; first | done | with_reducible rfl)); (try simp only [Act.put, List.getElem_toArray, List.getElem_cons_succ, List.getElem_cons_zero, List.setIfInBounds_toArray, List.set_cons_zero, List.set_cons_succ]))
        have HQ := hide ((Below.refl w13.heap.size w13).drew)
        clear hHeld
        generalize w13.drew = wd at *
        refine wpAnyH_ready (rs := [1, 8]) (by kernel_rfl) (by simp) ?_
        refine (AllReadyH.cons rfl (fun K0 hK0 => ?_) (AllReadyH.cons rfl (fun K0 hK0 => ?_) AllReadyH.nil))
        · skip
          go_simp
          refine (slab_any 1 _).mono ?_
          rintro e wa0 ⟨rfl, hb0⟩
          replace HQ := hide (HQ.out.trans (hb0.mono HQ.out.size))
          clear hb0
          refine hK0.out _ _ (HQ.out) (fun _ => ?_)
          clear hK0 K0
          (try simp only [Act.put, List.getElem_toArray, List.getElem_cons_succ, List.getElem_cons_zero, List.setIfInBounds_toArray, List.set_cons_zero, List.set_cons_succ])
          refine wpAnyH_ready (rs := [2, 8]) (by kernel_rfl) (by simp) ?_
          refine (AllReadyH.cons rfl (fun K1 hK1 => ?_) (AllReadyH.cons rfl (fun K1 hK1 => ?_) AllReadyH.nil))
          · skip
            go_simp
            refine (slab_any 3 _).mono ?_
            rintro e wa1 ⟨rfl, hb1⟩
            replace HQ := hide (HQ.out.trans (hb1.mono HQ.out.size))
            clear hb1
            refine hK1.out _ _ (HQ.out) (fun _ => ?_)
            clear hK1 K1
            (try simp only [Act.put, List.getElem_toArray, List.getElem_cons_succ, List.getElem_cons_zero, List.setIfInBounds_toArray, List.set_cons_zero, List.set_cons_succ])
            refine wpAnyH_ready (rs := [3, 8]) (by kernel_rfl) (by simp) ?_
            refine (AllReadyH.cons rfl (fun K2 hK2 => ?_) (AllReadyH.cons rfl (fun K2 hK2 => ?_) AllReadyH.nil))
            · skip
              go_simp
              refine (slab_any 0 _).mono ?_
              rintro e wa2 ⟨rfl, hb2⟩
              replace HQ := hide (HQ.out.trans (hb2.mono HQ.out.size))
              clear hb2
              refine hK2.out _ _ (HQ.out) (fun _ => ?_)
              clear hK2 K2
              (try simp only [Act.put, List.getElem_toArray, List.getElem_cons_succ, List.getElem_cons_zero, List.setIfInBounds_toArray, List.set_cons_zero, List.set_cons_succ])
              refine wpAnyH_ready (rs := [4, 8]) (by kernel_rfl) (by simp) ?_
              refine (AllReadyH.cons rfl (fun K3 hK3 => ?_) (AllReadyH.cons rfl (fun K3 hK3 => ?_) AllReadyH.nil))
              · skip
                go_simp
                refine (Split_any A2 c2 2 wE2 (1, 0) (3, 0) (0, 0) wa2 (DirAt.of_own (own_keepB O1.out HQ.out) (uw rfl)) u0 u0 _ wk7).mono ?_
                rintro e wa3 ⟨rfl, hb3⟩
                replace HQ := hide (HQ.out.trans (hb3.mono HQ.out.size))
                clear hb3
                refine hK3.out _ _ (HQ.out) (fun _ => ?_)
                clear hK3 K3
                (try simp only [Act.put, List.getElem_toArray, List.getElem_cons_succ, List.getElem_cons_zero, List.setIfInBounds_toArray, List.set_cons_zero, List.set_cons_succ])
                (refine wpAnyH_take (i := 5) (v := ?_) rfl (by kernel_rfl) (by kernel_rfl) (by kernel_rfl) (fun _ _ _ h => h) (Or.inl ⟨by rfl, ?_⟩) (by assumption) ?_; rotate_left; (focus (intro w hSw; (try dsimp only at hSw); go_simp; first | done | with_reducible rfl)); (try simp only [Act.put, List.getElem_toArray, List.getElem_cons_succ, List.getElem_cons_zero, List.setIfInBounds_toArray, List.set_cons_zero, List.set_cons_succ]))
                (refine wpAnyH_take (i := 6) (v := ?_) rfl (by kernel_rfl) (by kernel_rfl) (by kernel_rfl) (fun _ _ _ h => h) (Or.inl ⟨by rfl, ?_⟩) (by assumption) ?_; rotate_left; (focus (intro w hSw; (try dsimp only at hSw); go_simp; first | done | with_reducible rfl)); (try simp only [Act.put, List.getElem_toArray, List.getElem_cons_succ, List.getElem_cons_zero, List.setIfInBounds_toArray, List.set_cons_zero, List.set_cons_succ]))
                (refine wpAnyH_take (i := 7) (v := ?_) rfl (by kernel_rfl) (by kernel_rfl) (by kernel_rfl) (fun _ _ _ h => h) (Or.inl ⟨by rfl, ?_⟩) (by assumption) ?_; rotate_left; (focus (intro w hSw; (try dsimp only at hSw); go_simp; first | done | with_reducible rfl)); (try simp only [Act.put, List.getElem_toArray, List.getElem_cons_succ, List.getElem_cons_zero, List.setIfInBounds_toArray, List.set_cons_zero, List.set_cons_succ]))
                refine wpAnyH_ready (rs := [8]) (by kernel_rfl) (by simp) ?_
                refine (AllReadyH.cons rfl (fun K4 hK4 => ?_) AllReadyH.nil)
                skip
                go_simp
                refine hK4.out _ _ (HQ.out.alloc HQ.out.size _) (fun _ => ?_)
                clear hK4 K4
                have RB := hide (RowAt.new wa3 24 #[.int .i64 0, .slice none 0 0])
                have GB := hide HQ.out.size
                replace HQ := hide (HQ.out.alloc HQ.out.size (.cells #[.int .i64 0, .slice none 0 0] 24))
                (try simp only [Act.put, List.getElem_toArray, List.getElem_cons_succ, List.getElem_cons_zero, List.setIfInBounds_toArray, List.set_cons_zero, List.set_cons_succ])
                generalize hgg4 : wa3.heap.size = g13 at *
                clear hgg4
                generalize wa3.alloc (.cells #[.int .i64 0, .slice none 0 0] 24) = wa4 at *
                refine wpAnyH_ready (rs := [9]) (by kernel_rfl) (by simp) ?_
                refine (AllReadyH.cons rfl (fun K5 hK5 => ?_) AllReadyH.nil)
                have z0 := row20 RB.out
                have z1 := row21 RB.out
                have zl := RB.out.lt
                have zf0 := RB.out.frozen 0
                have zf1 := RB.out.frozen 1
                go_simp
                have HQ2 := hide ((HQ.out.setCell (p := ⟨g13, 0, none⟩) GB.out (.int .i64 0)).setCell (p := ⟨g13, 1, none⟩) GB.out (.slice none 0 0))
                refine hK5.out _ _ (HQ2.out) (fun _ => ?_)
                clear hK5 K5
                (try simp only [Act.put, List.getElem_toArray, List.getElem_cons_succ, List.getElem_cons_zero, List.setIfInBounds_toArray, List.set_cons_zero, List.set_cons_succ])
                (refine wpAnyH_take (i := 10) (v := ?_) rfl (by kernel_rfl) (by kernel_rfl) (by kernel_rfl) (fun _ _ _ h => h) (Or.inl ⟨by rfl, ?_⟩) (by assumption) ?_; rotate_left; (focus (intro w hSw; (try dsimp only at hSw); go_simp; first | done | with_reducible rfl)); (try simp only [Act.put, List.getElem_toArray, List.getElem_cons_succ, List.getElem_cons_zero, List.setIfInBounds_toArray, List.set_cons_zero, List.set_cons_succ]))
                refine wpAnyH_done (by kernel_rfl) ?_ _
                go_wp2_with fail
                go_meet
                case rel => exact ⟨rfl, HQ2.out⟩
              · skip
                go_simp
                refine hK3.out _ _ (HQ.out.alloc HQ.out.size _) (fun _ => ?_)
                clear hK3 K3
                have RB := hide (RowAt.new wa2 24 #[.int .i64 0, .slice none 0 0])
                have GB := hide HQ.out.size
                replace HQ := hide (HQ.out.alloc HQ.out.size (.cells #[.int .i64 0, .slice none 0 0] 24))
                (try simp only [Act.put, List.getElem_toArray, List.getElem_cons_succ, List.getElem_cons_zero, List.setIfInBounds_toArray, List.set_cons_zero, List.set_cons_succ])
                generalize hgg3 : wa2.heap.size = g13 at *
                clear hgg3
                generalize wa2.alloc (.cells #[.int .i64 0, .slice none 0 0] 24) = wa3 at *
                refine wpAnyH_ready (rs := [4]) (by kernel_rfl) (by simp) ?_
                refine (AllReadyH.cons rfl (fun K4 hK4 => ?_) AllReadyH.nil)
                skip
                go_simp
                refine (Split_any A2 c2 2 wE2 (1, 0) (3, 0) (0, 0) wa3 (DirAt.of_own (own_keepB O1.out HQ.out) (uw rfl)) u0 u0 _ wk7).mono ?_
                rintro e wa4 ⟨rfl, hb4⟩
                replace RB := hide (RB.out.below hb4)
                replace HQ := hide (HQ.out.trans (hb4.mono HQ.out.size))
                clear hb4
                refine hK4.out _ _ (HQ.out) (fun _ => ?_)
                clear hK4 K4
                (try simp only [Act.put, List.getElem_toArray, List.getElem_cons_succ, List.getElem_cons_zero, List.setIfInBounds_toArray, List.set_cons_zero, List.set_cons_succ])
                (refine wpAnyH_take (i := 5) (v := ?_) rfl (by kernel_rfl) (by kernel_rfl) (by kernel_rfl) (fun _ _ _ h => h) (Or.inl ⟨by rfl, ?_⟩) (by assumption) ?_; rotate_left; (focus (intro w hSw; (try dsimp only at hSw); go_simp; first | done | with_reducible rfl)); (try simp only [Act.put, List.getElem_toArray, List.getElem_cons_succ, List.getElem_cons_zero, List.setIfInBounds_toArray, List.set_cons_zero, List.set_cons_succ]))
                (refine wpAnyH_take (i := 6) (v := ?_) rfl (by kernel_rfl) (by kernel_rfl) (by kernel_rfl) (fun _ _ _ h => h) (Or.inl ⟨by rfl, ?_⟩) (by assumption) ?_; rotate_left; (focus (intro w hSw; (try dsimp only at hSw); go_simp; first | done | with_reducible rfl)); (try simp only [Act.put, List.getElem_toArray, List.getElem_cons_succ, List.getElem_cons_zero, List.setIfInBounds_toArray, List.set_cons_zero, List.set_cons_succ]))
                (refine wpAnyH_take (i := 7) (v := ?_) rfl (by kernel_rfl) (by kernel_rfl) (by kernel_rfl) (fun _ _ _ h => h) (Or.inl ⟨by rfl, ?_⟩) (by assumption) ?_; rotate_left; (focus (intro w hSw; (try dsimp only at hSw); go_simp; first | done | with_reducible rfl)); (try simp only [Act.put, List.getElem_toArray, List.getElem_cons_succ, List.getElem_cons_zero, List.setIfInBounds_toArray, List.set_cons_zero, List.set_cons_succ]))
                refine wpAnyH_ready (rs := [9]) (by kernel_rfl) (by simp) ?_
                refine (AllReadyH.cons rfl (fun K5 hK5 => ?_) AllReadyH.nil)
                have z0 := row20 RB.out
                have z1 := row21 RB.out
                have zl := RB.out.lt
                have zf0 := RB.out.frozen 0
                have zf1 := RB.out.frozen 1
                go_simp
                have HQ2 := hide ((HQ.out.setCell (p := ⟨g13, 0, none⟩) GB.out (.int .i64 0)).setCell (p := ⟨g13, 1, none⟩) GB.out (.slice none 0 0))
                refine hK5.out _ _ (HQ2.out) (fun _ => ?_)
                clear hK5 K5
                (try simp only [Act.put, List.getElem_toArray, List.getElem_cons_succ, List.getElem_cons_zero, List.setIfInBounds_toArray, List.set_cons_zero, List.set_cons_succ])
                (refine wpAnyH_take (i := 10) (v := ?_) rfl (by kernel_rfl) (by kernel_rfl) (by kernel_rfl) (fun _ _ _ h => h) (Or.inl ⟨by rfl, ?_⟩) (by assumption) ?_; rotate_left; (focus (intro w hSw; (try dsimp only at hSw); go_simp; first | done | with_reducible rfl)); (try simp only [Act.put, List.getElem_toArray, List.getElem_cons_succ, List.getElem_cons_zero, List.setIfInBounds_toArray, List.set_cons_zero, List.set_cons_succ]))
                refine wpAnyH_done (by kernel_rfl) ?_ _
                go_wp2_with fail
                go_meet
                case rel => exact ⟨rfl, HQ2.out⟩
            · skip
              go_simp
              refine hK2.out _ _ (HQ.out.alloc HQ.out.size _) (fun _ => ?_)
              clear hK2 K2
              have RB := hide (RowAt.new wa1 24 #[.int .i64 0, .slice none 0 0])
              have GB := hide HQ.out.size
              replace HQ := hide (HQ.out.alloc HQ.out.size (.cells #[.int .i64 0, .slice none 0 0] 24))
              (try simp only [Act.put, List.getElem_toArray, List.getElem_cons_succ, List.getElem_cons_zero, List.setIfInBounds_toArray, List.set_cons_zero, List.set_cons_succ])
              generalize hgg2 : wa1.heap.size = g13 at *
              clear hgg2
              generalize wa1.alloc (.cells #[.int .i64 0, .slice none 0 0] 24) = wa2 at *
              refine wpAnyH_ready (rs := [3]) (by kernel_rfl) (by simp) ?_
              refine (AllReadyH.cons rfl (fun K3 hK3 => ?_) AllReadyH.nil)
              skip
              go_simp
              refine (slab_any 0 _).mono ?_
              rintro e wa3 ⟨rfl, hb3⟩
              replace RB := hide (RB.out.below hb3)
              replace HQ := hide (HQ.out.trans (hb3.mono HQ.out.size))
              clear hb3
              refine hK3.out _ _ (HQ.out) (fun _ => ?_)
              clear hK3 K3
              (try simp only [Act.put, List.getElem_toArray, List.getElem_cons_succ, List.getElem_cons_zero, List.setIfInBounds_toArray, List.set_cons_zero, List.set_cons_succ])
              refine wpAnyH_ready (rs := [4]) (by kernel_rfl) (by simp) ?_
              refine (AllReadyH.cons rfl (fun K4 hK4 => ?_) AllReadyH.nil)
              skip
              go_simp
              refine (Split_any A2 c2 2 wE2 (1, 0) (3, 0) (0, 0) wa3 (DirAt.of_own (own_keepB O1.out HQ.out) (uw rfl)) u0 u0 _ wk7).mono ?_
              rintro e wa4 ⟨rfl, hb4⟩
              replace RB := hide (RB.out.below hb4)
              replace HQ := hide (HQ.out.trans (hb4.mono HQ.out.size))
              clear hb4
              refine hK4.out _ _ (HQ.out) (fun _ => ?_)
              clear hK4 K4
              (try simp only [Act.put, List.getElem_toArray, List.getElem_cons_succ, List.getElem_cons_zero, List.setIfInBounds_toArray, List.set_cons_zero, List.set_cons_succ])
              (refine wpAnyH_take (i := 5) (v := ?_) rfl (by kernel_rfl) (by kernel_rfl) (by kernel_rfl) (fun _ _ _ h => h) (Or.inl ⟨by rfl, ?_⟩) (by assumption) ?_; rotate_left; (focus (intro w hSw; (try dsimp only at hSw); go_simp; first | done | with_reducible rfl)); (try simp only [Act.put, List.getElem_toArray, List.getElem_cons_succ, List.getElem_cons_zero, List.setIfInBounds_toArray, List.set_cons_zero, List.set_cons_succ]))
              (refine wpAnyH_take (i := 6) (v := ?_) rfl (by kernel_rfl) (by kernel_rfl) (by kernel_rfl) (fun _ _ _ h => h) (Or.inl ⟨by rfl, ?_⟩) (by assumption) ?_; rotate_left; (focus (intro w hSw; (try dsimp only at hSw); go_simp; first | done | with_reducible rfl)); (try simp only [Act.put, List.getElem_toArray, List.getElem_cons_succ, List.getElem_cons_zero, List.setIfInBounds_toArray, List.set_cons_zero, List.set_cons_succ]))
              (refine wpAnyH_take (i := 7) (v := ?_) rfl (by kernel_rfl) (by kernel_rfl) (by kernel_rfl) (fun _ _ _ h => h) (Or.inl ⟨by rfl, ?_⟩) (by assumption) ?_; rotate_left; (focus (intro w hSw; (try dsimp only at hSw); go_simp; first | done | with_reducible rfl)); (try simp only [Act.put, List.getElem_toArray, List.getElem_cons_succ, List.getElem_cons_zero, List.setIfInBounds_toArray, List.set_cons_zero, List.set_cons_succ]))
              refine wpAnyH_ready (rs := [9]) (by kernel_rfl) (by simp) ?_
              refine (AllReadyH.cons rfl (fun K5 hK5 => ?_) AllReadyH.nil)
              have z0 := row20 RB.out
              have z1 := row21 RB.out
              have zl := RB.out.lt
              have zf0 := RB.out.frozen 0
              have zf1 := RB.out.frozen 1
              go_simp
              have HQ2 := hide ((HQ.out.setCell (p := ⟨g13, 0, none⟩) GB.out (.int .i64 0)).setCell (p := ⟨g13, 1, none⟩) GB.out (.slice none 0 0))
              refine hK5.out _ _ (HQ2.out) (fun _ => ?_)
              clear hK5 K5
              (try simp only [Act.put, List.getElem_toArray, List.getElem_cons_succ, List.getElem_cons_zero, List.setIfInBounds_toArray, List.set_cons_zero, List.set_cons_succ])
              (refine wpAnyH_take (i := 10) (v := ?_) rfl (by kernel_rfl) (by kernel_rfl) (by kernel_rfl) (fun _ _ _ h => h) (Or.inl ⟨by rfl, ?_⟩) (by assumption) ?_; rotate_left; (focus (intro w hSw; (try dsimp only at hSw); go_simp; first | done | with_reducible rfl)); (try simp only [Act.put, List.getElem_toArray, List.getElem_cons_succ, List.getElem_cons_zero, List.setIfInBounds_toArray, List.set_cons_zero, List.set_cons_succ]))
              refine wpAnyH_done (by kernel_rfl) ?_ _
              go_wp2_with fail
              go_meet
              case rel => exact ⟨rfl, HQ2.out⟩
          · skip
            go_simp
            refine hK1.out _ _ (HQ.out.alloc HQ.out.size _) (fun _ => ?_)
            clear hK1 K1
            have RB := hide (RowAt.new wa0 24 #[.int .i64 0, .slice none 0 0])
            have GB := hide HQ.out.size
            replace HQ := hide (HQ.out.alloc HQ.out.size (.cells #[.int .i64 0, .slice none 0 0] 24))
            (try simp only [Act.put, List.getElem_toArray, List.getElem_cons_succ, List.getElem_cons_zero, List.setIfInBounds_toArray, List.set_cons_zero, List.set_cons_succ])
            generalize hgg1 : wa0.heap.size = g13 at *
            clear hgg1
            generalize wa0.alloc (.cells #[.int .i64 0, .slice none 0 0] 24) = wa1 at *
            refine wpAnyH_ready (rs := [2]) (by kernel_rfl) (by simp) ?_
            refine (AllReadyH.cons rfl (fun K2 hK2 => ?_) AllReadyH.nil)
            skip
            go_simp
            refine (slab_any 3 _).mono ?_
            rintro e wa2 ⟨rfl, hb2⟩
            replace RB := hide (RB.out.below hb2)
            replace HQ := hide (HQ.out.trans (hb2.mono HQ.out.size))
            clear hb2
            refine hK2.out _ _ (HQ.out) (fun _ => ?_)
            clear hK2 K2
            (try simp only [Act.put, List.getElem_toArray, List.getElem_cons_succ, List.getElem_cons_zero, List.setIfInBounds_toArray, List.set_cons_zero, List.set_cons_succ])
            refine wpAnyH_ready (rs := [3]) (by kernel_rfl) (by simp) ?_
            refine (AllReadyH.cons rfl (fun K3 hK3 => ?_) AllReadyH.nil)
            skip
            go_simp
            refine (slab_any 0 _).mono ?_
            rintro e wa3 ⟨rfl, hb3⟩
            replace RB := hide (RB.out.below hb3)
            replace HQ := hide (HQ.out.trans (hb3.mono HQ.out.size))
            clear hb3
            refine hK3.out _ _ (HQ.out) (fun _ => ?_)
            clear hK3 K3
            (try simp only [Act.put, List.getElem_toArray, List.getElem_cons_succ, List.getElem_cons_zero, List.setIfInBounds_toArray, List.set_cons_zero, List.set_cons_succ])
            refine wpAnyH_ready (rs := [4]) (by kernel_rfl) (by simp) ?_
            refine (AllReadyH.cons rfl (fun K4 hK4 => ?_) AllReadyH.nil)
            skip
            go_simp
            refine (Split_any A2 c2 2 wE2 (1, 0) (3, 0) (0, 0) wa3 (DirAt.of_own (own_keepB O1.out HQ.out) (uw rfl)) u0 u0 _ wk7).mono ?_
            rintro e wa4 ⟨rfl, hb4⟩
            replace RB := hide (RB.out.below hb4)
            replace HQ := hide (HQ.out.trans (hb4.mono HQ.out.size))
            clear hb4
            refine hK4.out _ _ (HQ.out) (fun _ => ?_)
            clear hK4 K4
            (try simp only [Act.put, List.getElem_toArray, List.getElem_cons_succ, List.getElem_cons_zero, List.setIfInBounds_toArray, List.set_cons_zero, List.set_cons_succ])
            (refine wpAnyH_take (i := 5) (v := ?_) rfl (by kernel_rfl) (by kernel_rfl) (by kernel_rfl) (fun _ _ _ h => h) (Or.inl ⟨by rfl, ?_⟩) (by assumption) ?_; rotate_left; (focus (intro w hSw; (try dsimp only at hSw); go_simp; first | done | with_reducible rfl)); (try simp only [Act.put, List.getElem_toArray, List.getElem_cons_succ, List.getElem_cons_zero, List.setIfInBounds_toArray, List.set_cons_zero, List.set_cons_succ]))
            (refine wpAnyH_take (i := 6) (v := ?_) rfl (by kernel_rfl) (by kernel_rfl) (by kernel_rfl) (fun _ _ _ h => h) (Or.inl ⟨by rfl, ?_⟩) (by assumption) ?_; rotate_left; (focus (intro w hSw; (try dsimp only at hSw); go_simp; first | done | with_reducible rfl)); (try simp only [Act.put, List.getElem_toArray, List.getElem_cons_succ, List.getElem_cons_zero, List.setIfInBounds_toArray, List.set_cons_zero, List.set_cons_succ]))
            (refine wpAnyH_take (i := 7) (v := ?_) rfl (by kernel_rfl) (by kernel_rfl) (by kernel_rfl) (fun _ _ _ h => h) (Or.inl ⟨by rfl, ?_⟩) (by assumption) ?_; rotate_left; (focus (intro w hSw; (try dsimp only at hSw); go_simp; first | done | with_reducible rfl)); (try simp only [Act.put, List.getElem_toArray, List.getElem_cons_succ, List.getElem_cons_zero, List.setIfInBounds_toArray, List.set_cons_zero, List.set_cons_succ]))
            refine wpAnyH_ready (rs := [9]) (by kernel_rfl) (by simp) ?_
            refine (AllReadyH.cons rfl (fun K5 hK5 => ?_) AllReadyH.nil)
            have z0 := row20 RB.out
            have z1 := row21 RB.out
            have zl := RB.out.lt
            have zf0 := RB.out.frozen 0
            have zf1 := RB.out.frozen 1
            go_simp
            have HQ2 := hide ((HQ.out.setCell (p := ⟨g13, 0, none⟩) GB.out (.int .i64 0)).setCell (p := ⟨g13, 1, none⟩) GB.out (.slice none 0 0))
            refine hK5.out _ _ (HQ2.out) (fun _ => ?_)
            clear hK5 K5
            (try simp only [Act.put, List.getElem_toArray, List.getElem_cons_succ, List.getElem_cons_zero, List.setIfInBounds_toArray, List.set_cons_zero, List.set_cons_succ])
            (refine wpAnyH_take (i := 10) (v := ?_) rfl (by kernel_rfl) (by kernel_rfl) (by kernel_rfl) (fun _ _ _ h => h) (Or.inl ⟨by rfl, ?_⟩) (by assumption) ?_; rotate_left; (focus (intro w hSw; (try dsimp only at hSw); go_simp; first | done | with_reducible rfl)); (try simp only [Act.put, List.getElem_toArray, List.getElem_cons_succ, List.getElem_cons_zero, List.setIfInBounds_toArray, List.set_cons_zero, List.set_cons_succ]))
            refine wpAnyH_done (by kernel_rfl) ?_ _
            go_wp2_with fail
            go_meet
            case rel => exact ⟨rfl, HQ2.out⟩
        · skip
          go_simp
          refine hK0.out _ _ (HQ.out.alloc HQ.out.size _) (fun _ => ?_)
          clear hK0 K0
          have RB := hide (RowAt.new wd 24 #[.int .i64 0, .slice none 0 0])
          have GB := hide HQ.out.size
          replace HQ := hide (HQ.out.alloc HQ.out.size (.cells #[.int .i64 0, .slice none 0 0] 24))
          (try simp only [Act.put, List.getElem_toArray, List.getElem_cons_succ, List.getElem_cons_zero, List.setIfInBounds_toArray, List.set_cons_zero, List.set_cons_succ])
          generalize hgg0 : wd.heap.size = g13 at *
          clear hgg0
          generalize wd.alloc (.cells #[.int .i64 0, .slice none 0 0] 24) = wa0 at *
          refine wpAnyH_ready (rs := [1]) (by kernel_rfl) (by simp) ?_
          refine (AllReadyH.cons rfl (fun K1 hK1 => ?_) AllReadyH.nil)
          skip
          go_simp
          refine (slab_any 1 _).mono ?_
          rintro e wa1 ⟨rfl, hb1⟩
          replace RB := hide (RB.out.below hb1)
          replace HQ := hide (HQ.out.trans (hb1.mono HQ.out.size))
          clear hb1
          refine hK1.out _ _ (HQ.out) (fun _ => ?_)
          clear hK1 K1
          (try simp only [Act.put, List.getElem_toArray, List.getElem_cons_succ, List.getElem_cons_zero, List.setIfInBounds_toArray, List.set_cons_zero, List.set_cons_succ])
          refine wpAnyH_ready (rs := [2]) (by kernel_rfl) (by simp) ?_
          refine (AllReadyH.cons rfl (fun K2 hK2 => ?_) AllReadyH.nil)
          skip
          go_simp
          refine (slab_any 3 _).mono ?_
          rintro e wa2 ⟨rfl, hb2⟩
          replace RB := hide (RB.out.below hb2)
          replace HQ := hide (HQ.out.trans (hb2.mono HQ.out.size))
          clear hb2
          refine hK2.out _ _ (HQ.out) (fun _ => ?_)
          clear hK2 K2
          (try simp only [Act.put, List.getElem_toArray, List.getElem_cons_succ, List.getElem_cons_zero, List.setIfInBounds_toArray, List.set_cons_zero, List.set_cons_succ])
          refine wpAnyH_ready (rs := [3]) (by kernel_rfl) (by simp) ?_
          refine (AllReadyH.cons rfl (fun K3 hK3 => ?_) AllReadyH.nil)
          skip
          go_simp
          refine (slab_any 0 _).mono ?_
          rintro e wa3 ⟨rfl, hb3⟩
          replace RB := hide (RB.out.below hb3)
          replace HQ := hide (HQ.out.trans (hb3.mono HQ.out.size))
          clear hb3
          refine hK3.out _ _ (HQ.out) (fun _ => ?_)
          clear hK3 K3
          (try simp only [Act.put, List.getElem_toArray, List.getElem_cons_succ, List.getElem_cons_zero, List.setIfInBounds_toArray, List.set_cons_zero, List.set_cons_succ])
          refine wpAnyH_ready (rs := [4]) (by kernel_rfl) (by simp) ?_
          refine (AllReadyH.cons rfl (fun K4 hK4 => ?_) AllReadyH.nil)
          skip
          go_simp
          refine (Split_any A2 c2 2 wE2 (1, 0) (3, 0) (0, 0) wa3 (DirAt.of_own (own_keepB O1.out HQ.out) (uw rfl)) u0 u0 _ wk7).mono ?_
          rintro e wa4 ⟨rfl, hb4⟩
          replace RB := hide (RB.out.below hb4)
          replace HQ := hide (HQ.out.trans (hb4.mono HQ.out.size))
          clear hb4
          refine hK4.out _ _ (HQ.out) (fun _ => ?_)
          clear hK4 K4
          (try simp only [Act.put, List.getElem_toArray, List.getElem_cons_succ, List.getElem_cons_zero, List.setIfInBounds_toArray, List.set_cons_zero, List.set_cons_succ])
          (refine wpAnyH_take (i := 5) (v := ?_) rfl (by kernel_rfl) (by kernel_rfl) (by kernel_rfl) (fun _ _ _ h => h) (Or.inl ⟨by rfl, ?_⟩) (by assumption) ?_; rotate_left; (focus (intro w hSw; (try dsimp only at hSw); go_simp; first | done | with_reducible rfl)); (try simp only [Act.put, List.getElem_toArray, List.getElem_cons_succ, List.getElem_cons_zero, List.setIfInBounds_toArray, List.set_cons_zero, List.set_cons_succ]))
          (refine wpAnyH_take (i := 6) (v := ?_) rfl (by kernel_rfl) (by kernel_rfl) (by kernel_rfl) (fun _ _ _ h => h) (Or.inl ⟨by rfl, ?_⟩) (by assumption) ?_; rotate_left; (focus (intro w hSw; (try dsimp only at hSw); go_simp; first | done | with_reducible rfl)); (try simp only [Act.put, List.getElem_toArray, List.getElem_cons_succ, List.getElem_cons_zero, List.setIfInBounds_toArray, List.set_cons_zero, List.set_cons_succ]))
          (refine wpAnyH_take (i := 7) (v := ?_) rfl (by kernel_rfl) (by kernel_rfl) (by kernel_rfl) (fun _ _ _ h => h) (Or.inl ⟨by rfl, ?_⟩) (by assumption) ?_; rotate_left; (focus (intro w hSw; (try dsimp only at hSw); go_simp; first | done | with_reducible rfl)); (try simp only [Act.put, List.getElem_toArray, List.getElem_cons_succ, List.getElem_cons_zero, List.setIfInBounds_toArray, List.set_cons_zero, List.set_cons_succ]))
          refine wpAnyH_ready (rs := [9]) (by kernel_rfl) (by simp) ?_
          refine (AllReadyH.cons rfl (fun K5 hK5 => ?_) AllReadyH.nil)
          have z0 := row20 RB.out
          have z1 := row21 RB.out
          have zl := RB.out.lt
          have zf0 := RB.out.frozen 0
          have zf1 := RB.out.frozen 1
          go_simp
          have HQ2 := hide ((HQ.out.setCell (p := ⟨g13, 0, none⟩) GB.out (.int .i64 0)).setCell (p := ⟨g13, 1, none⟩) GB.out (.slice none 0 0))
          refine hK5.out _ _ (HQ2.out) (fun _ => ?_)
          clear hK5 K5
          (try simp only [Act.put, List.getElem_toArray, List.getElem_cons_succ, List.getElem_cons_zero, List.setIfInBounds_toArray, List.set_cons_zero, List.set_cons_succ])
          (refine wpAnyH_take (i := 10) (v := ?_) rfl (by kernel_rfl) (by kernel_rfl) (by kernel_rfl) (fun _ _ _ h => h) (Or.inl ⟨by rfl, ?_⟩) (by assumption) ?_; rotate_left; (focus (intro w hSw; (try dsimp only at hSw); go_simp; first | done | with_reducible rfl)); (try simp only [Act.put, List.getElem_toArray, List.getElem_cons_succ, List.getElem_cons_zero, List.setIfInBounds_toArray, List.set_cons_zero, List.set_cons_succ]))
          refine wpAnyH_done (by kernel_rfl) ?_ _
          go_wp2_with fail
          go_meet
          case rel => exact ⟨rfl, HQ2.out⟩
      case rest =>
        rename_i K hK
        refine hK _ _ ?_
        clear hK
        obtain ⟨rfl, hb⟩ := hcut
        obtain ⟨w14, hw14⟩ : ∃ w, w = wc := ⟨_, rfl⟩
        subst hw14
        replace R1 := hide (R1.out.below hb)
        replace R5 := hide (R5.out.below hb)
        replace R11 := hide (R11.out.below hb)
        replace O1 := hide (own_keepB O1.out hb)
        replace O4 := hide (own_keepB O4.out hb)
        replace HB := hide (HB.out.trans (hb.mono HB.out.size))
        clear hb
        have q0 := row20 R1.out
        have q1 := row21 R1.out
        have ql := R1.out.lt
        have qf0 := R1.out.frozen 0
        have qf1 := R1.out.frozen 1
        go_wp2_with fail
        refine (Spans_any w14.heap.size A2 c2 2 wE2 w14 (DirAt.of_own O1.out (uw rfl)) (Nat.le_refl _) _ wk8).mono ?_
        rintro e w15 ⟨A5, c5, rfl, ho, hb⟩
        clear q0 q1 ql qf0 qf1
        replace R1 := hide (R1.out.below hb)
        replace R5 := hide (R5.out.below hb)
        replace R11 := hide (R11.out.below hb)
        replace O1 := hide (own_keepB O1.out hb)
        replace O4 := hide (own_keepB O4.out hb)
        replace HB := hide (HB.out.trans (hb.mono HB.out.size))
        clear hb ho
        simp only [List.length_cons, List.length_nil, Nat.zero_add, Nat.reduceAdd]
        go_upto_region 10 with (fail)
        have q0 := row20 R1.out
        have q1 := row21 R1.out
        have ql := R1.out.lt
        have qf0 := R1.out.frozen 0
        have qf1 := R1.out.frozen 1
        have y0 := row20 R11.out
        have y1 := row21 R11.out
        have yl := R11.out.lt
        have yf0 := R11.out.frozen 0
        have yf1 := R11.out.frozen 1
        have x0 := R5.out.cell 0
        have x1 := R5.out.cell 1
        have xl := R5.out.lt
        simp only [List.getElem?_toArray, List.getElem?_cons_succ, List.getElem?_cons_zero] at x0 x1
        have HS : Hid (∀ w w', Below w.heap.size w w' → (Below w15.heap.size w15 w ∧ w.cell? ⟨g1, 0, none⟩ = some (.int .i64 2) ∧ w.cell? ⟨g1, 1, none⟩ = some (.slice A2 4 c2) ∧ w.cell? ⟨g5, 0, none⟩ = some (.int .i64 3) ∧ w.cell? ⟨g5, 1, none⟩ = some (.int .u64 0) ∧ w.cell? ⟨g11, 0, none⟩ = some (.int .i64 2) ∧ w.cell? ⟨g11, 1, none⟩ = some (.slice A4 4 c4)) → (Below w15.heap.size w15 w' ∧ w'.cell? ⟨g1, 0, none⟩ = some (.int .i64 2) ∧ w'.cell? ⟨g1, 1, none⟩ = some (.slice A2 4 c2) ∧ w'.cell? ⟨g5, 0, none⟩ = some (.int .i64 3) ∧ w'.cell? ⟨g5, 1, none⟩ = some (.int .u64 0) ∧ w'.cell? ⟨g11, 0, none⟩ = some (.int .i64 2) ∧ w'.cell? ⟨g11, 1, none⟩ = some (.slice A4 4 c4))) := hide (fun w w' hb h => ⟨h.1.trans (hb.mono h.1.size), kept hb h.2.1, kept hb h.2.2.1, kept hb h.2.2.2.1, kept hb h.2.2.2.2.1, kept hb h.2.2.2.2.2.1, kept hb h.2.2.2.2.2.2⟩)
        have hS0 : Below w15.heap.size w15 w15.drew ∧ w15.drew.cell? ⟨g1, 0, none⟩ = some (.int .i64 2) ∧ w15.drew.cell? ⟨g1, 1, none⟩ = some (.slice A2 4 c2) ∧ w15.drew.cell? ⟨g5, 0, none⟩ = some (.int .i64 3) ∧ w15.drew.cell? ⟨g5, 1, none⟩ = some (.int .u64 0) ∧ w15.drew.cell? ⟨g11, 0, none⟩ = some (.int .i64 2) ∧ w15.drew.cell? ⟨g11, 1, none⟩ = some (.slice A4 4 c4) := ⟨(Below.refl _ _).drew, q0, q1, x0, x1, y0, y1⟩
        have HEQ1 := hide (fun (w : World) (gb : Nat) (hb : Below w15.heap.size w15 w) (hr : RowAt w gb 31 #[.int .i64 1, .int .u64 0, .int .i64 1, .int .u64 0, .int .i64 3, .int .u64 0, .int .i64 4, .int .u64 0]) => (show Calls Try.prog 20 #[.slice A2 4 c2, .slice (some ⟨gb, 0, none⟩) 4 4] w (fun e Wn => e = .returned (.bool true) ∧ Below w.heap.size w Wn) from EqualE w.heap.size w.heap.size A2 (some ⟨gb, 0, none⟩) c2 4 wE2 wE2 w (Rd.of_own (own_keepB O1.out hb)) (rd_whole hr) (Nat.le_refl _) (Nat.le_refl _) (by decide) (by decide) true (by decide)))
        have HEQ2 := hide (fun (w : World) (hb : Below w15.heap.size w15 w) => (show Calls Try.prog 20 #[.slice A4 4 c4, .slice A2 4 c2] w (fun e Wn => e = .returned (.bool true) ∧ Below w.heap.size w Wn) from EqualE w.heap.size w.heap.size A4 A2 c4 c2 wE2 wE2 w (Rd.of_own (own_keepB O4.out hb)) (Rd.of_own (own_keepB O1.out hb)) (Nat.le_refl _) (Nat.le_refl _) (by decide) (by decide) true (by decide)))
        have heq := fun w => eqlE w (3, 0) (3, 0) true (by decide)
        go_region_held3 (fun wX => Below w15.heap.size w15 wX ∧ wX.cell? ⟨g1, 0, none⟩ = some (.int .i64 2) ∧ wX.cell? ⟨g1, 1, none⟩ = some (.slice A2 4 c2) ∧ wX.cell? ⟨g5, 0, none⟩ = some (.int .i64 3) ∧ wX.cell? ⟨g5, 1, none⟩ = some (.int .u64 0) ∧ wX.cell? ⟨g11, 0, none⟩ = some (.int .i64 2) ∧ wX.cell? ⟨g11, 1, none⟩ = some (.slice A4 4 c4))
          (first | exact hS0 | exact HS.out _ _ hb (by assumption) | exact HS.out _ _ ((Below.refl _ _).alloc (Nat.le_refl _) _) (by assumption) | go_keep)
          (first
            | (go_at_call 34; (with_reducible refine (slab_any 1 _).mono ?_); rintro e wq ⟨rfl, hb⟩)
            | (go_at_call 34; (with_reducible refine (slab_any 3 _).mono ?_); rintro e wq ⟨rfl, hb⟩)
            | (go_at_call 34; (with_reducible refine (slab_any 4 _).mono ?_); rintro e wq ⟨rfl, hb⟩)
            | (go_at_call 20; (with_reducible refine (HEQ2.out _ (And.left ‹Below w15.heap.size w15 _ ∧ _›)).mono ?_); rintro e wq ⟨rfl, hb⟩)
            | (go_at_call 20; (with_reducible refine (HEQ1.out _ _ (And.left ‹Below w15.heap.size w15 _ ∧ _›) (RowAt.new _ _ _)).mono ?_); rintro e wq ⟨rfl, hb⟩))
        rename_i hHeld
        have HBF := hide (HB.out.trans ((And.left hHeld).mono HB.out.size))
        clear hHeld hS0 HS HEQ1 HEQ2 heq
        go_wp2_with fail
        go_ret
        exact ⟨rfl, HBF.out⟩
end Go.Proofs.Ytjlbnegdiabglaa
