/-
  The reference's: since when a slab waits; all that waits.
-/
import Derived.Test.YthnpcmigphpolaaDoorLji
import Derived.Test.YthnpcmigphpolaaDoorLjgp
set_option linter.unusedSimpArgs false
set_option linter.unusedVariables false
namespace Go.Proofs.YthnpcmigphpolaaDoor
open Go Go.RowKit
attribute [local go_sem] via_cell via_frozen

theorem hasB_out {l : List Ent} {s : Int} (h : hasB l s = true) : ∃ e ∈ l, e.1 = s := by
  obtain ⟨e, he, hs⟩ := List.any_eq_true.1 h
  exact ⟨e, he, by simpa using hs⟩
theorem at_each {l : Lim} {a : Nat} (ha : a < 3) {e : Ent} (h : e ∈ l.at a) : (a, e) ∈ l.each := by
  unfold Lim.each tag
  match a, ha with
  | 0, _ => simp [h]
  | 1, _ => simp [h]
  | 2, _ => simp [h]
theorem rwhen_yes {l : Lim} (hok : l.ok = true) {s : Int} {a : Nat} (ha : a < 3) (h : hasB (ofL l a) s = true) : a ≤ l.E ∧ whenR l s = ((l.E : Int) - (a : Int), true) := by
  obtain ⟨e, he, hs⟩ := hasB_out h
  unfold ofL at he
  split at he
  · cases he
  · rename_i hE
    refine ⟨by omega, ?_⟩
    obtain ⟨k, hk, hp⟩ := List.getElem_of_mem (at_each ha he)
    have h1 := whenP_at (okP_nodup (ok_out hok).2) hk
    rw [hp] at h1
    dsimp only at h1
    rw [hs] at h1
    unfold whenR
    rw [hok, if_pos rfl, h1]
theorem rwhen_no {l : Lim} (hok : l.ok = true) {s : Int} (h : ∀ a, a < 3 → hasB (ofL l a) s = false) : whenR l s = (0, false) := by
  unfold whenR
  rw [hok, if_pos rfl, whenP_none (fun p hp => ?_)]
  obtain ⟨a, ha, _, hm⟩ := mem_each hp
  have hn : l.at a ≠ [] := fun e => by rw [e] at hm; cases hm
  have hE := ok_at hok ha hn
  have h1 := h a ha
  unfold ofL at h1
  rw [if_neg (by omega)] at h1
  exact hasB_false h1 _ hm
set_option maxHeartbeats 2000000 in
theorem rwhen_any (A : Nat → Option Addr) (n c : Nat → Nat) (l : Lim) (s : Int) (W : World) (h : LimRd W W.heap.size A n l.r) (hok : l.ok = true) (at_ : Int) (is : Bool) (hr : whenR l s = (at_, is)) :
    Calls Tryd.prog 29 #[.agg (limC l.E A n c), .int .i64 s] W fun e W' => e = .returned (.tuple #[.int .u64 at_, .bool is]) ∧ Below W.heap.size W W' := by
  have HBN := hide (show Below W.heap.size W (W.alloc (.cells (limC l.E A n c) 26)) from (Below.refl _ _).alloc (Nat.le_refl _) _)
  have HRN := hide (RowAt.new W 26 (limC l.E A n c))
  have H := hide h
  have HOK := hide hok
  have HR := hide hr
  have HE := hide (show l.E < 18446744073709551616 from by have := (ok_out hok).1; unfold LAST at this; omega)
  clear h hok hr
  go_enter Tryd.func29, Tryd.ntmps29
  go_wp2_with fail
  generalize W.alloc (.cells (limC l.E A n c) 26) = w0 at *
  go_loopw [7] (fun i wr => ∃ k : Nat, k ≤ 3 ∧ i = .int .u64 (k : Int) ∧ (∀ j, j < k → hasB (ofL l j) s = false) ∧ Below w0.heap.size w0 wr) (fun i _ => 3 - (intOf i).toNat)
  case atStart => exact ⟨0, by omega, rfl, fun j hj => absurd hj (Nat.not_lt_zero _), Below.refl _ _⟩
  case round =>
    obtain ⟨k, hk, rfl, hall, hbw⟩ := hrel
    have HA := hide hall
    have HR0 := hide (HRN.out.below hbw)
    have HB0 := hide (HBN.out.trans (hbw.mono HBN.out.size))
    have HBW := hide hbw
    clear hall hbw
    by_cases hlt : k < 3
    · have hki : (k : Int) < 3 := by omega
      have q0 : wr.cell? ⟨W.heap.size, 0, none⟩ = some (.int .u64 (l.E : Int)) := by have := RowAt.cell HR0.out 0; simpa [limC] using this
      have q1 : wr.cell? ⟨W.heap.size, 1, none⟩ = some (.slice (A 0) (n 0) (c 0)) := by have := RowAt.cell HR0.out 1; simpa [limC] using this
      have q2 : wr.cell? ⟨W.heap.size, 2, none⟩ = some (.slice (A 1) (n 1) (c 1)) := by have := RowAt.cell HR0.out 2; simpa [limC] using this
      have q3 : wr.cell? ⟨W.heap.size, 3, none⟩ = some (.slice (A 2) (n 2) (c 2)) := by have := RowAt.cell HR0.out 3; simpa [limC] using this
      have ql := HR0.out.lt
      have HOF := hide (of_any A n c l.E k hlt HE.out wr)
      go_wp2_with fail
      with_reducible refine HOF.out.mono ?_
      rintro e w1 ⟨rfl, hb1⟩
      have HB1 := hide (HB0.out.trans (hb1.mono HB0.out.size))
      have HBW1 := hide (HBW.out.trans (hb1.mono HBW.out.size))
      have hrd := of_rd ((H.out.below HB1.out).more HB1.out.size) k
      obtain ⟨q, hq⟩ : ∃ q, hasB (ofL l k) s = q := ⟨_, rfl⟩
      have hn128 : ofN l.E n k ≤ 12288 := by
        rw [← hrd.2]
        unfold ofL
        split
        · simp
        · have := at_len HOK.out k; omega
      have HH := hide (has_any w1.heap.size (ofA l.E A k) (ofN l.E c k) (ofN l.E n k) s (ofL l k) w1 hrd.1 hrd.2 hn128 (Nat.le_refl _) q hq)
      have HQ := hide hq
      clear q0 q1 q2 q3 ql HOF hb1 hrd hn128 hq
      go_wp2_with fail
      with_reducible refine HH.out.mono ?_
      rintro e w2 ⟨rfl, hb2⟩
      have HB2 := hide (HB1.out.trans (hb2.mono HB1.out.size))
      have HBW2 := hide (HBW1.out.trans (hb2.mono HBW1.out.size))
      have q0 : w2.cell? ⟨W.heap.size, 0, none⟩ = some (.int .u64 (l.E : Int)) := by have := (HRN.out.below HBW2.out).cell 0; simpa [limC] using this
      have ql := (HRN.out.below HBW2.out).lt
      clear hb2 HH
      cases q with
      | true =>
        obtain ⟨hkE, hw⟩ := rwhen_yes HOK.out hlt HQ.out
        have hkE2 : (k : Int) ≤ (l.E : Int) := by omega
        have hEL : (l.E : Int) ≤ 4611686018427387904 := by have := (ok_out HOK.out).1; unfold LAST at this; omega
        have hw1 : IntKind.u64.wrap ((l.E : Int) - (k : Int)) = (l.E : Int) - (k : Int) := IntWalk.u64_in _ (by omega)
        have he : (at_, is) = ((l.E : Int) - (k : Int), true) := by rw [← HR.out, hw]
        injection he with he1 he2
        subst he1; subst he2
        clear hw hkE HR
        go_wp2_with fail
        go_ret2
        exact ⟨rfl, HB2.out⟩
      | false =>
        have HA2 := hide (show ∀ j, j < k + 1 → hasB (ofL l j) s = false from fun j hj => by
          by_cases hjk : j = k
          · subst hjk; exact HQ.out
          · exact HA.out j (by omega))
        go_wp2_with fail
        go_roundw
        case rel => exact ⟨k + 1, by omega, by go_num, HA2.out, HBW2.out⟩
        case measure => simp [intOf]; omega
    · obtain rfl : k = 3 := by omega
      have he : (at_, is) = ((0 : Int), false) := by rw [← HR.out, rwhen_no HOK.out HA.out]
      injection he with he1 he2
      subst he1; subst he2
      clear HR
      go_wp2_with fail
      go_ret2
      exact ⟨rfl, HB0.out⟩
def heldL (l : Lim) : List Ent := ofL l 2 ++ (ofL l 1 ++ ofL l 0)
theorem heldL_ok {l : Lim} (hok : l.ok = true) : heldL l = l.held := by
  have h : ∀ a, a < 3 → ofL l a = l.at a := fun a ha => by
    unfold ofL
    split
    · rename_i hE
      by_cases hn : l.at a = []
      · exact hn.symm
      · have := ok_at hok ha hn; omega
    · rfl
  unfold heldL Lim.held
  rw [h 2 (by omega), h 1 (by omega), h 0 (by omega)]
theorem held_own {w : World} {base base2 n2 n1 n0 : Nat} {l : Lim} {v : Value} (h : w.ownsRow base 34 2 v (0 + n2 + n1 + n0) ((([] ++ Cs encE (ofL l 2)) ++ Cs encE (ofL l 1)) ++ Cs encE (ofL l 0))) (h2 : (ofL l 2).length = n2) (h1 : (ofL l 1).length = n1) (h0 : (ofL l 0).length = n0) (hb : base2 ≤ base) :
    w.ownsRow base2 34 2 v (heldL l).length (Cs encE (heldL l)) := by
  subst h2; subst h1; subst h0
  have e1 : (heldL l).length = 0 + (ofL l 2).length + (ofL l 1).length + (ofL l 0).length := by unfold heldL; simp; omega
  have e2 : Cs encE (heldL l) = (([] ++ Cs encE (ofL l 2)) ++ Cs encE (ofL l 1)) ++ Cs encE (ofL l 0) := by unfold heldL; rw [Cs_append, Cs_append]; simp
  rw [e1, e2]
  exact ownsRow_base h hb
set_option maxHeartbeats 4000000 in
theorem rheld_any (A : Nat → Option Addr) (n c : Nat → Nat) (l : Lim) (W : World) (h : LimRd W W.heap.size A n l.r) (hE : l.E < 18446744073709551616) (hm : ∀ k, k < 3 → n k ≤ 4096) :
    Calls Tryd.prog 28 #[.agg (limC l.E A n c)] W fun e W' => ∃ v, e = .returned v ∧ W'.ownsRow W.heap.size 34 2 v (heldL l).length (Cs encE (heldL l)) ∧ Below W.heap.size W W' := by
  have HBN := hide (show Below W.heap.size W (W.alloc (.cells (limC l.E A n c) 26)) from (Below.refl _ _).alloc (Nat.le_refl _) _)
  have HRN := hide (RowAt.new W 26 (limC l.E A n c))
  have H := hide h
  have HE := hide hE
  have HLN : Hid (∀ a, ofN l.E n a ≤ 4096) := hide (fun a => by
    unfold ofN
    split
    · omega
    · exact hm _ (rowN_lt l.E a))
  clear h hE hm
  go_enter Tryd.func28, Tryd.ntmps28
  go_wp2_with fail
  generalize W.alloc (.cells (limC l.E A n c) 26) = w0 at *
  have q0 : w0.cell? ⟨W.heap.size, 0, none⟩ = some (.int .u64 (l.E : Int)) := by have := RowAt.cell HRN.out 0; simpa [limC] using this
  have q1 : w0.cell? ⟨W.heap.size, 1, none⟩ = some (.slice (A 0) (n 0) (c 0)) := by have := RowAt.cell HRN.out 1; simpa [limC] using this
  have q2 : w0.cell? ⟨W.heap.size, 2, none⟩ = some (.slice (A 1) (n 1) (c 1)) := by have := RowAt.cell HRN.out 2; simpa [limC] using this
  have q3 : w0.cell? ⟨W.heap.size, 3, none⟩ = some (.slice (A 2) (n 2) (c 2)) := by have := RowAt.cell HRN.out 3; simpa [limC] using this
  have ql := HRN.out.lt
  have HO2 := hide (fun w => show Calls Tryd.prog 27 #[.agg (limC l.E A n c), .int .u64 2] w _ from of_any A n c l.E 2 (by omega) HE.out w)
  have HO1 := hide (fun w => show Calls Tryd.prog 27 #[.agg (limC l.E A n c), .int .u64 1] w _ from of_any A n c l.E 1 (by omega) HE.out w)
  have HO0 := hide (fun w => show Calls Tryd.prog 27 #[.agg (limC l.E A n c), .int .u64 0] w _ from of_any A n c l.E 0 (by omega) HE.out w)
  have HRD := hide (fun (w : World) (hb : Below w0.heap.size w0 w) (a : Nat) => of_rd ((H.out.below (HBN.out.trans (hb.mono HBN.out.size))).more (show W.heap.size ≤ w.heap.size from Nat.le_trans HBN.out.size hb.size)) a)
  go_upto_region 1 with (fail)
  refine wp_region_held_drew (S := fun wX => Below w0.heap.size w0 wX) (by kernel_rfl) (Below.refl _ _).drew (fun hHeld => ?_)
  have HQ := hide ((Below.refl w0.heap.size w0).drew)
  (refine wpAnyH_take (i := 1) (v := ?_) rfl (by kernel_rfl) (by kernel_rfl) (by kernel_rfl) (fun _ _ _ h => h) (Or.inl ⟨by rfl, ?_⟩) (by assumption) ?_; rotate_left; (focus (intro w hSw; (try dsimp only at hSw); have kf0 := kept hSw q0; have kf1 := kept hSw q1; have kf2 := kept hSw q2; have kf3 := kept hSw q3; go_simp; first | done | with_reducible rfl)); (try simp only [Act.put, List.getElem_toArray, List.getElem_cons_succ, List.getElem_cons_zero, List.setIfInBounds_toArray, List.set_cons_zero, List.set_cons_succ]))
  (refine wpAnyH_take (i := 4) (v := ?_) rfl (by kernel_rfl) (by kernel_rfl) (by kernel_rfl) (fun _ _ _ h => h) (Or.inl ⟨by rfl, ?_⟩) (by assumption) ?_; rotate_left; (focus (intro w hSw; (try dsimp only at hSw); have kf0 := kept hSw q0; have kf1 := kept hSw q1; have kf2 := kept hSw q2; have kf3 := kept hSw q3; go_simp; first | done | with_reducible rfl)); (try simp only [Act.put, List.getElem_toArray, List.getElem_cons_succ, List.getElem_cons_zero, List.setIfInBounds_toArray, List.set_cons_zero, List.set_cons_succ]))
  (refine wpAnyH_take (i := 7) (v := ?_) rfl (by kernel_rfl) (by kernel_rfl) (by kernel_rfl) (fun _ _ _ h => h) (Or.inl ⟨by rfl, ?_⟩) (by assumption) ?_; rotate_left; (focus (intro w hSw; (try dsimp only at hSw); have kf0 := kept hSw q0; have kf1 := kept hSw q1; have kf2 := kept hSw q2; have kf3 := kept hSw q3; go_simp; first | done | with_reducible rfl)); (try simp only [Act.put, List.getElem_toArray, List.getElem_cons_succ, List.getElem_cons_zero, List.setIfInBounds_toArray, List.set_cons_zero, List.set_cons_succ]))
  generalize w0.drew = wd at *
  refine wpAnyH_ready (rs := [0, 2]) (by kernel_rfl) (by simp) ?_
  refine (AllReadyH.cons rfl (fun K0 hK0 => ?_) (AllReadyH.cons rfl (fun K0 hK0 => ?_) AllReadyH.nil))
  · go_simp
    refine hK0.out _ _ (HQ.out.alloc HQ.out.size _) (fun _ => ?_)
    clear hK0 K0
    (try simp only [Act.put, List.getElem_toArray, List.getElem_cons_succ, List.getElem_cons_zero, List.setIfInBounds_toArray, List.set_cons_zero, List.set_cons_succ])
    have HO := hide (World.ownsRow_lit (base := w0.heap.size) (e := 34) (size := 2) wd #[] 0 HQ.out.size (by simp [maxLen]) rfl)
    replace HQ := hide (HQ.out.alloc HQ.out.size (.cells #[] 34))
    have hsg : wd.heap.size < (wd.alloc (.cells #[] 34)).heap.size := by simp
    clear hsg
    generalize wd.alloc (.cells #[] 34) = wa0 at *
    refine wpAnyH_ready (rs := [2]) (by kernel_rfl) (by simp) ?_
    refine (AllReadyH.cons rfl (fun K1 hK1 => ?_) AllReadyH.nil)
    · go_simp
      refine (HO2.out _).mono ?_
      rintro e wa1 ⟨rfl, hb1⟩
      replace HO := hide (own_keepB HO.out hb1)
      replace HQ := hide (HQ.out.trans (hb1.mono HQ.out.size))
      clear hb1
      refine hK1.out _ _ (HQ.out) (fun _ => ?_)
      clear hK1 K1
      (try simp only [Act.put, List.getElem_toArray, List.getElem_cons_succ, List.getElem_cons_zero, List.setIfInBounds_toArray, List.set_cons_zero, List.set_cons_succ])
      refine wpAnyH_ready (rs := [3]) (by kernel_rfl) (by simp) ?_
      refine (AllReadyH.cons rfl (fun K2 hK2 => ?_) AllReadyH.nil)
      · rw [if_pos (by rfl)]
        refine wp_app elE _ _ rfl rfl HO.out rfl (HRD.out _ HQ.out 2).1 (Cs_one_cell encE_one _) (by have := HLN.out 2; have := HLN.out 1; have := HLN.out 0; omega) HQ.out.size ?_
        intro v2 wa2 hown2 hb2 _ _
        replace HO := hide hown2
        replace HQ := hide (HQ.out.trans hb2)
        clear hown2 hb2
        refine hK2.out _ _ (HQ.out) (fun _ => ?_)
        clear hK2 K2
        (try simp only [Act.put, List.getElem_toArray, List.getElem_cons_succ, List.getElem_cons_zero, List.setIfInBounds_toArray, List.set_cons_zero, List.set_cons_succ])
        refine wpAnyH_ready (rs := [5]) (by kernel_rfl) (by simp) ?_
        refine (AllReadyH.cons rfl (fun K3 hK3 => ?_) AllReadyH.nil)
        · go_simp
          refine (HO1.out _).mono ?_
          rintro e wa3 ⟨rfl, hb3⟩
          replace HO := hide (own_keepB HO.out hb3)
          replace HQ := hide (HQ.out.trans (hb3.mono HQ.out.size))
          clear hb3
          refine hK3.out _ _ (HQ.out) (fun _ => ?_)
          clear hK3 K3
          (try simp only [Act.put, List.getElem_toArray, List.getElem_cons_succ, List.getElem_cons_zero, List.setIfInBounds_toArray, List.set_cons_zero, List.set_cons_succ])
          refine wpAnyH_ready (rs := [6]) (by kernel_rfl) (by simp) ?_
          refine (AllReadyH.cons rfl (fun K4 hK4 => ?_) AllReadyH.nil)
          · rw [if_pos (by rfl)]
            refine wp_app elE _ _ rfl rfl HO.out rfl (HRD.out _ HQ.out 1).1 (Cs_one_cell encE_one _) (by have := HLN.out 2; have := HLN.out 1; have := HLN.out 0; omega) HQ.out.size ?_
            intro v4 wa4 hown4 hb4 _ _
            replace HO := hide hown4
            replace HQ := hide (HQ.out.trans hb4)
            clear hown4 hb4
            refine hK4.out _ _ (HQ.out) (fun _ => ?_)
            clear hK4 K4
            (try simp only [Act.put, List.getElem_toArray, List.getElem_cons_succ, List.getElem_cons_zero, List.setIfInBounds_toArray, List.set_cons_zero, List.set_cons_succ])
            refine wpAnyH_ready (rs := [8]) (by kernel_rfl) (by simp) ?_
            refine (AllReadyH.cons rfl (fun K5 hK5 => ?_) AllReadyH.nil)
            · go_simp
              refine (HO0.out _).mono ?_
              rintro e wa5 ⟨rfl, hb5⟩
              replace HO := hide (own_keepB HO.out hb5)
              replace HQ := hide (HQ.out.trans (hb5.mono HQ.out.size))
              clear hb5
              refine hK5.out _ _ (HQ.out) (fun _ => ?_)
              clear hK5 K5
              (try simp only [Act.put, List.getElem_toArray, List.getElem_cons_succ, List.getElem_cons_zero, List.setIfInBounds_toArray, List.set_cons_zero, List.set_cons_succ])
              refine wpAnyH_ready (rs := [9]) (by kernel_rfl) (by simp) ?_
              refine (AllReadyH.cons rfl (fun K6 hK6 => ?_) AllReadyH.nil)
              · rw [if_pos (by rfl)]
                refine wp_app elE _ _ rfl rfl HO.out rfl (HRD.out _ HQ.out 0).1 (Cs_one_cell encE_one _) (by have := HLN.out 2; have := HLN.out 1; have := HLN.out 0; omega) HQ.out.size ?_
                intro v6 wa6 hown6 hb6 _ _
                replace HO := hide hown6
                replace HQ := hide (HQ.out.trans hb6)
                clear hown6 hb6
                refine hK6.out _ _ (HQ.out) (fun _ => ?_)
                clear hK6 K6
                (try simp only [Act.put, List.getElem_toArray, List.getElem_cons_succ, List.getElem_cons_zero, List.setIfInBounds_toArray, List.set_cons_zero, List.set_cons_succ])
                (refine wpAnyH_take (i := 10) (v := ?_) rfl (by kernel_rfl) (by kernel_rfl) (by kernel_rfl) (fun _ _ _ h => h) (Or.inl ⟨by rfl, ?_⟩) (by assumption) ?_; rotate_left; (focus (intro w hSw; (try dsimp only at hSw); go_simp; first | done | with_reducible rfl)); (try simp only [Act.put, List.getElem_toArray, List.getElem_cons_succ, List.getElem_cons_zero, List.setIfInBounds_toArray, List.set_cons_zero, List.set_cons_succ]))
                refine wpAnyH_done (by kernel_rfl) ?_ _
                have HFIN := hide (HBN.out.trans (HQ.out.mono HBN.out.size))
                go_wp2_with fail
                go_ret
                refine ⟨_, rfl, ?_, HFIN.out⟩
                exact held_own HO.out (HRD.out _ HQ.out 2).2 (HRD.out _ HQ.out 1).2 (HRD.out _ HQ.out 0).2 (Nat.le_trans (Nat.le_succ _) ql)
  · go_simp
    refine (HO2.out _).mono ?_
    rintro e wa0 ⟨rfl, hb0⟩
    replace HQ := hide (HQ.out.trans (hb0.mono HQ.out.size))
    clear hb0
    refine hK0.out _ _ (HQ.out) (fun _ => ?_)
    clear hK0 K0
    (try simp only [Act.put, List.getElem_toArray, List.getElem_cons_succ, List.getElem_cons_zero, List.setIfInBounds_toArray, List.set_cons_zero, List.set_cons_succ])
    refine wpAnyH_ready (rs := [0]) (by kernel_rfl) (by simp) ?_
    refine (AllReadyH.cons rfl (fun K1 hK1 => ?_) AllReadyH.nil)
    · go_simp
      refine hK1.out _ _ (HQ.out.alloc HQ.out.size _) (fun _ => ?_)
      clear hK1 K1
      (try simp only [Act.put, List.getElem_toArray, List.getElem_cons_succ, List.getElem_cons_zero, List.setIfInBounds_toArray, List.set_cons_zero, List.set_cons_succ])
      have HO := hide (World.ownsRow_lit (base := w0.heap.size) (e := 34) (size := 2) wa0 #[] 0 HQ.out.size (by simp [maxLen]) rfl)
      replace HQ := hide (HQ.out.alloc HQ.out.size (.cells #[] 34))
      have hsg : wa0.heap.size < (wa0.alloc (.cells #[] 34)).heap.size := by simp
      clear hsg
      generalize wa0.alloc (.cells #[] 34) = wa1 at *
      refine wpAnyH_ready (rs := [3]) (by kernel_rfl) (by simp) ?_
      refine (AllReadyH.cons rfl (fun K2 hK2 => ?_) AllReadyH.nil)
      · rw [if_pos (by rfl)]
        refine wp_app elE _ _ rfl rfl HO.out rfl (HRD.out _ HQ.out 2).1 (Cs_one_cell encE_one _) (by have := HLN.out 2; have := HLN.out 1; have := HLN.out 0; omega) HQ.out.size ?_
        intro v2 wa2 hown2 hb2 _ _
        replace HO := hide hown2
        replace HQ := hide (HQ.out.trans hb2)
        clear hown2 hb2
        refine hK2.out _ _ (HQ.out) (fun _ => ?_)
        clear hK2 K2
        (try simp only [Act.put, List.getElem_toArray, List.getElem_cons_succ, List.getElem_cons_zero, List.setIfInBounds_toArray, List.set_cons_zero, List.set_cons_succ])
        refine wpAnyH_ready (rs := [5]) (by kernel_rfl) (by simp) ?_
        refine (AllReadyH.cons rfl (fun K3 hK3 => ?_) AllReadyH.nil)
        · go_simp
          refine (HO1.out _).mono ?_
          rintro e wa3 ⟨rfl, hb3⟩
          replace HO := hide (own_keepB HO.out hb3)
          replace HQ := hide (HQ.out.trans (hb3.mono HQ.out.size))
          clear hb3
          refine hK3.out _ _ (HQ.out) (fun _ => ?_)
          clear hK3 K3
          (try simp only [Act.put, List.getElem_toArray, List.getElem_cons_succ, List.getElem_cons_zero, List.setIfInBounds_toArray, List.set_cons_zero, List.set_cons_succ])
          refine wpAnyH_ready (rs := [6]) (by kernel_rfl) (by simp) ?_
          refine (AllReadyH.cons rfl (fun K4 hK4 => ?_) AllReadyH.nil)
          · rw [if_pos (by rfl)]
            refine wp_app elE _ _ rfl rfl HO.out rfl (HRD.out _ HQ.out 1).1 (Cs_one_cell encE_one _) (by have := HLN.out 2; have := HLN.out 1; have := HLN.out 0; omega) HQ.out.size ?_
            intro v4 wa4 hown4 hb4 _ _
            replace HO := hide hown4
            replace HQ := hide (HQ.out.trans hb4)
            clear hown4 hb4
            refine hK4.out _ _ (HQ.out) (fun _ => ?_)
            clear hK4 K4
            (try simp only [Act.put, List.getElem_toArray, List.getElem_cons_succ, List.getElem_cons_zero, List.setIfInBounds_toArray, List.set_cons_zero, List.set_cons_succ])
            refine wpAnyH_ready (rs := [8]) (by kernel_rfl) (by simp) ?_
            refine (AllReadyH.cons rfl (fun K5 hK5 => ?_) AllReadyH.nil)
            · go_simp
              refine (HO0.out _).mono ?_
              rintro e wa5 ⟨rfl, hb5⟩
              replace HO := hide (own_keepB HO.out hb5)
              replace HQ := hide (HQ.out.trans (hb5.mono HQ.out.size))
              clear hb5
              refine hK5.out _ _ (HQ.out) (fun _ => ?_)
              clear hK5 K5
              (try simp only [Act.put, List.getElem_toArray, List.getElem_cons_succ, List.getElem_cons_zero, List.setIfInBounds_toArray, List.set_cons_zero, List.set_cons_succ])
              refine wpAnyH_ready (rs := [9]) (by kernel_rfl) (by simp) ?_
              refine (AllReadyH.cons rfl (fun K6 hK6 => ?_) AllReadyH.nil)
              · rw [if_pos (by rfl)]
                refine wp_app elE _ _ rfl rfl HO.out rfl (HRD.out _ HQ.out 0).1 (Cs_one_cell encE_one _) (by have := HLN.out 2; have := HLN.out 1; have := HLN.out 0; omega) HQ.out.size ?_
                intro v6 wa6 hown6 hb6 _ _
                replace HO := hide hown6
                replace HQ := hide (HQ.out.trans hb6)
                clear hown6 hb6
                refine hK6.out _ _ (HQ.out) (fun _ => ?_)
                clear hK6 K6
                (try simp only [Act.put, List.getElem_toArray, List.getElem_cons_succ, List.getElem_cons_zero, List.setIfInBounds_toArray, List.set_cons_zero, List.set_cons_succ])
                (refine wpAnyH_take (i := 10) (v := ?_) rfl (by kernel_rfl) (by kernel_rfl) (by kernel_rfl) (fun _ _ _ h => h) (Or.inl ⟨by rfl, ?_⟩) (by assumption) ?_; rotate_left; (focus (intro w hSw; (try dsimp only at hSw); go_simp; first | done | with_reducible rfl)); (try simp only [Act.put, List.getElem_toArray, List.getElem_cons_succ, List.getElem_cons_zero, List.setIfInBounds_toArray, List.set_cons_zero, List.set_cons_succ]))
                refine wpAnyH_done (by kernel_rfl) ?_ _
                have HFIN := hide (HBN.out.trans (HQ.out.mono HBN.out.size))
                go_wp2_with fail
                go_ret
                refine ⟨_, rfl, ?_, HFIN.out⟩
                exact held_own HO.out (HRD.out _ HQ.out 2).2 (HRD.out _ HQ.out 1).2 (HRD.out _ HQ.out 0).2 (Nat.le_trans (Nat.le_succ _) ql)
end Go.Proofs.YthnpcmigphpolaaDoor
