/-
  Which limbos may be: the reference's.
-/
import Derived.Test.YthnpcmigphpolaaDoorLjj
set_option linter.unusedSimpArgs false
set_option linter.unusedVariables false
namespace Go.Proofs.YthnpcmigphpolaaDoor
open Go Go.RowKit
attribute [local go_sem] via_cell via_frozen

theorem okP_of {E : Nat} {L : List (Nat × Ent)} {met : List Int} (h : ∀ p ∈ L, p.1 ≤ E ∧ entB p.2 = true ∧ p.2.1 ∉ met) (hn : (L.map (fun p => p.2.1)).Nodup) : okP E L met = true := by
  induction L generalizing met with
  | nil => rfl
  | cons q L ih =>
    rw [List.map_cons, List.nodup_cons] at hn
    obtain ⟨h1, h2, h3⟩ := h q (by simp)
    rw [okP]
    simp only [Bool.and_eq_true, decide_eq_true_eq, Bool.not_eq_true', List.contains_eq_mem, decide_eq_false_iff_not]
    refine ⟨⟨h1, h2, h3⟩, ih (fun p hp => ?_) hn.2⟩
    obtain ⟨h4, h5, h6⟩ := h p (by simp [hp])
    refine ⟨h4, h5, fun hm => ?_⟩
    rcases List.mem_cons.1 hm with he | hm
    · exact hn.1 (he ▸ List.mem_map.2 ⟨p, hp, rfl⟩)
    · exact h6 hm
def chkE (xs : List Ent) : Bool := xs.all entB && decide ((xs.map (fun x => x.1)).Nodup)
theorem chkE_snoc (xs : List Ent) (x : Ent) : chkE (xs ++ [x]) = (chkE xs && (entB x && !hasB xs x.1)) := by
  have h1 : ((xs ++ [x]).map (fun x => x.1)).Nodup ↔ (xs.map (fun x => x.1)).Nodup ∧ hasB xs x.1 = false := by
    rw [List.map_append, List.nodup_append]
    constructor
    · rintro ⟨h1, _, h3⟩
      refine ⟨h1, ?_⟩
      cases hb : hasB xs x.1 with
      | false => rfl
      | true =>
        obtain ⟨e, he, hs⟩ := hasB_out hb
        exact absurd hs (h3 e.1 (List.mem_map.2 ⟨e, he, rfl⟩) x.1 (by simp))
    · rintro ⟨h1, h2⟩
      refine ⟨h1, by simp, fun a ha b hb hab => ?_⟩
      obtain ⟨e, he, rfl⟩ := List.mem_map.1 ha
      have hb' : b = x.1 := by simpa using hb
      exact hasB_false h2 e he (hab.trans hb')
  have h2 : decide (((xs ++ [x]).map (fun x => x.1)).Nodup) = (decide ((xs.map (fun x => x.1)).Nodup) && !hasB xs x.1) := by
    rw [Bool.eq_iff_iff]
    simp only [decide_eq_true_eq, Bool.and_eq_true, Bool.not_eq_true']
    exact h1
  unfold chkE
  rw [List.all_append, h2]
  rw [Bool.eq_iff_iff]
  simp only [Bool.and_eq_true, decide_eq_true_eq, Bool.not_eq_true', List.all_cons, List.all_nil, Bool.and_true]
  constructor
  · rintro ⟨⟨a, b⟩, c, d⟩; exact ⟨⟨a, c⟩, b, d⟩
  · rintro ⟨⟨a, b⟩, c, d⟩; exact ⟨⟨a, c⟩, b, d⟩
theorem chkE_pre {xs ys : List Ent} (h : chkE xs = false) : chkE (xs ++ ys) = false := by
  induction ys generalizing xs with
  | nil => simpa using h
  | cons y ys ih =>
    have : xs ++ y :: ys = (xs ++ [y]) ++ ys := by simp
    rw [this]
    exact ih (by rw [chkE_snoc, h]; rfl)
theorem at_sum (l : Lim) : (l.at 2).length + ((l.at 1).length + (l.at 0).length) = (l.r 0).length + (l.r 1).length + (l.r 2).length := by
  unfold Lim.at
  have h3 : l.E % 3 = 0 ∨ l.E % 3 = 1 ∨ l.E % 3 = 2 := by omega
  rcases h3 with h | h | h
  · rw [show rowN l.E 2 = 1 from by unfold rowN; omega, show rowN l.E 1 = 2 from by unfold rowN; omega, show rowN l.E 0 = 0 from by unfold rowN; omega]; omega
  · rw [show rowN l.E 2 = 2 from by unfold rowN; omega, show rowN l.E 1 = 0 from by unfold rowN; omega, show rowN l.E 0 = 1 from by unfold rowN; omega]; omega
  · rw [show rowN l.E 2 = 0 from by unfold rowN; omega, show rowN l.E 1 = 1 from by unfold rowN; omega, show rowN l.E 0 = 2 from by unfold rowN; omega]; omega
def sumR (l : Lim) : Nat := (l.r 0).length + (l.r 1).length + (l.r 2).length
theorem ok_right (l : Lim) : l.ok = (chkE (heldL l) && (decide (l.E ≤ LAST) && decide ((heldL l).length = sumR l))) := by
  rw [Bool.eq_iff_iff]
  simp only [Bool.and_eq_true, decide_eq_true_eq]
  constructor
  · intro h
    have hh := heldL_ok h
    have ho := (ok_out h).2
    refine ⟨?_, (ok_out h).1, ?_⟩
    · rw [hh]
      unfold chkE
      simp only [Bool.and_eq_true, decide_eq_true_eq, List.all_eq_true]
      have e1 : l.held.map (fun x => x.1) = l.each.map (fun p => p.2.1) := by rw [← each_held, List.map_map]; rfl
      refine ⟨fun e he => ?_, by rw [e1]; exact okP_nodup ho⟩
      rw [← each_held] at he
      obtain ⟨p, hp, rfl⟩ := List.mem_map.1 he
      exact (okP_mem ho p hp).2.1
    · rw [hh]
      unfold Lim.held sumR
      rw [List.length_append, List.length_append, at_sum]
  · rintro ⟨hc, hE, hlen⟩
    have hle : ∀ a, (ofL l a).length ≤ (l.at a).length := fun a => by
      unfold ofL; split
      · simp
      · exact Nat.le_refl _
    have hsum : (ofL l 2).length + ((ofL l 1).length + (ofL l 0).length) = (l.at 2).length + ((l.at 1).length + (l.at 0).length) := by
      rw [at_sum]
      have := hlen
      unfold heldL sumR at this
      rw [List.length_append, List.length_append] at this
      exact this
    have hof : ∀ a, a < 3 → ofL l a = l.at a := fun a ha => by
      have h2 := hle 2
      have h1 := hle 1
      have h0 := hle 0
      have hl : (ofL l a).length = (l.at a).length := by
        match a, ha with
        | 0, _ => omega
        | 1, _ => omega
        | 2, _ => omega
      unfold ofL at hl ⊢
      split at hl
      · rename_i hE2
        rw [if_pos hE2]
        exact (List.eq_nil_of_length_eq_zero (by simpa using hl.symm)).symm
      · rename_i hE2
        rw [if_neg hE2]
    have hh : heldL l = l.held := by unfold heldL Lim.held; rw [hof 2 (by omega), hof 1 (by omega), hof 0 (by omega)]
    rw [hh] at hc
    unfold chkE at hc
    simp only [Bool.and_eq_true, decide_eq_true_eq, List.all_eq_true] at hc
    refine ok_mk hE (okP_of (fun p hp => ?_) ?_)
    · obtain ⟨a, ha, hpa, hm⟩ := mem_each hp
      refine ⟨?_, hc.1 p.2 (by rw [← each_held]; exact List.mem_map.2 ⟨p, hp, rfl⟩), by simp⟩
      have h1 := hof a ha
      unfold ofL at h1
      split at h1
      · rw [← h1] at hm; cases hm
      · omega
    · have e1 : l.held.map (fun x => x.1) = l.each.map (fun p => p.2.1) := by rw [← each_held, List.map_map]; rfl
      rw [← e1]; exact hc.2
set_option maxHeartbeats 4000000 in
theorem right_any (A : Nat → Option Addr) (n c : Nat → Nat) (l : Lim) (W : World) (h : LimRd W W.heap.size A n l.r) (hE : l.E < 18446744073709551616) (hm : ∀ k, k < 3 → n k ≤ 4096) (r : Bool) (hr : l.ok = r) :
    Calls Tryd.prog 14 #[.agg (limC l.E A n c)] W fun e W' => e = .returned (.bool r) ∧ Below W.heap.size W W' := by
  have HBN := hide (show Below W.heap.size W (W.alloc (.cells (limC l.E A n c) 26)) from (Below.refl _ _).alloc (Nat.le_refl _) _)
  have HRN := hide (RowAt.new W 26 (limC l.E A n c))
  have H := hide h
  have HR := hide (show (chkE (heldL l) && (decide (l.E ≤ LAST) && decide ((heldL l).length = sumR l))) = r from by rw [← ok_right]; exact hr)
  have HM := hide hm
  have HSM := hide (show sumR l = n 0 + n 1 + n 2 from by unfold sumR; rw [h.len 0 (by omega), h.len 1 (by omega), h.len 2 (by omega)])
  have hN : (heldL l).length ≤ 12288 := by
    have h4 : ∀ a, (ofL l a).length ≤ 4096 := fun a => by
      rw [(of_rd h a).2]
      unfold ofN
      split
      · omega
      · exact hm _ (rowN_lt l.E a)
    have := h4 0; have := h4 1; have := h4 2
    unfold heldL
    rw [List.length_append, List.length_append]
    omega
  have hEE := hide hE
  clear h hr hm hE
  go_enter Tryd.func14, Tryd.ntmps14
  go_wp2_with fail
  generalize W.alloc (.cells (limC l.E A n c) 26) = w0 at *
  have q0 : w0.cell? ⟨W.heap.size, 0, none⟩ = some (.int .u64 (l.E : Int)) := by have := RowAt.cell HRN.out 0; simpa [limC] using this
  have q1 : w0.cell? ⟨W.heap.size, 1, none⟩ = some (.slice (A 0) (n 0) (c 0)) := by have := RowAt.cell HRN.out 1; simpa [limC] using this
  have q2 : w0.cell? ⟨W.heap.size, 2, none⟩ = some (.slice (A 1) (n 1) (c 1)) := by have := RowAt.cell HRN.out 2; simpa [limC] using this
  have q3 : w0.cell? ⟨W.heap.size, 3, none⟩ = some (.slice (A 2) (n 2) (c 2)) := by have := RowAt.cell HRN.out 3; simpa [limC] using this
  have ql := HRN.out.lt
  have HHD := hide (rheld_any A n c l w0 ((H.out.below HBN.out).more HBN.out.size) hEE.out HM.out)
  go_wp2_with fail
  with_reducible refine HHD.out.mono ?_
  rintro e w1 ⟨v, rfl, hown, hb1⟩
  obtain ⟨Ah, ch, rfl, hch, hchm⟩ := own_form2 hown
  have HRH := hide (Rd.of_own hown)
  have HR1 := hide (HRN.out.below hb1)
  have HB1 := hide (HBN.out.trans (hb1.mono HBN.out.size))
  obtain ⟨X, hX⟩ : ∃ X, heldL l = X := ⟨_, rfl⟩
  rw [hX] at HRH HR hch hN ⊢
  obtain ⟨N, hNe⟩ : ∃ N, X.length = N := ⟨_, rfl⟩
  have HXN := hide hNe
  rw [hNe] at HRH HR hch hN ⊢
  have hchI : (N : Int) ≤ (ch : Int) := by omega
  have hchM : (ch : Int) ≤ 9223372036854775807 := by omega
  clear q0 q1 q2 q3 ql HHD hown hb1 hX hNe HRN
  go_wp2_with fail
  go_loopw [10] (fun i wr => ∃ k : Nat, k ≤ N ∧ i = .int .i64 k ∧ chkE (X.take k) = true ∧ Below w1.heap.size w1 wr) (fun i _ => N - (intOf i).toNat)
  case atStart => exact ⟨0, Nat.zero_le _, rfl, by simp [chkE], Below.refl _ _⟩
  case round =>
    obtain ⟨k, hk, rfl, hck, hbw⟩ := hrel
    have HCK := hide hck
    have HBW := hide (HB1.out.trans (hbw.mono HB1.out.size))
    have HBX := hide hbw
    have HRX := hide ((HRH.out.below hbw).more hbw.size)
    have HRL := hide (HR1.out.below hbw)
    clear hck hbw
    by_cases hlt : k < N
    · have hlx : k < X.length := by rw [HXN.out]; exact hlt
      have hki : (k : Int) < (N : Int) := by omega
      obtain ⟨b, o, rfl, hb, d0, d1⟩ := HRX.out.ent HXN.out hlt
      have HT := hide (getD_take X k hlx)
      have HSP := hide (show X = X.take (k + 1) ++ X.drop (k + 1) from (List.take_append_drop _ _).symm)
      obtain ⟨x, hxx⟩ : ∃ x, X.getD k (0, 0) = x := ⟨_, rfl⟩
      rw [hxx] at d0 d1 HT
      obtain ⟨s, gn⟩ := x
      dsimp only at d0 d1
      clear hxx
      have HBN2 := hide (show Below wr.heap.size wr (wr.alloc (.cells #[.int .i64 s, .int .u64 gn] 34)) from (Below.refl _ _).alloc (Nat.le_refl _) _)
      have HRE := hide (RowAt.new wr 34 #[.int .i64 s, .int .u64 gn])
      go_upto_region 5 with (fail)
      generalize wr.alloc (.cells #[.int .i64 s, .int .u64 gn] 34) = w2 at *
      have HRX2 := hide ((HRX.out.below HBN2.out).more HBN2.out.size)
      have HBW := hide (HBW.out.trans (HBN2.out.mono HBW.out.size))
      have HBX := hide (HBX.out.trans (HBN2.out.mono HBX.out.size))
      clear HRX
      generalize wr.heap.size = g5 at *
      clear d0 d1 hb HBN2 HRL
      have e0 := row20 HRE.out
      have e1 := row21 HRE.out
      have el := HRE.out.lt
      obtain ⟨q, hq⟩ : ∃ q, entB (s, gn) = q := ⟨_, rfl⟩
      have HEN := hide (fun w => refentry_any s gn w q hq)
      have HQ1 := hide hq
      clear hq
      have hk0 : (0 : Int) ≤ (k : Int) := by omega
      have hkc : (k : Int) ≤ (ch : Int) := by omega
      cases q with
      | false =>
        have HF := hide (show false = r from by
          rw [← HR.out, HSP.out, chkE_pre (by rw [HT.out, chkE_snoc, HQ1.out]; simp)]; rfl)
        refine wp_region_held_drew (S := fun wX => Below w2.heap.size w2 wX) (by kernel_rfl) (Below.refl _ _).drew (fun hHeld => ?_)
        have HQ := hide ((Below.refl w2.heap.size w2).drew)
        (refine wpAnyH_take (i := 0) (v := ?_) rfl (by kernel_rfl) (by kernel_rfl) (by kernel_rfl) (fun _ _ _ h => h) (Or.inl ⟨by rfl, ?_⟩) (by assumption) ?_; rotate_left; (focus (intro w hSw; (try dsimp only at hSw); have kf0 := kept hSw e0; have kf1 := kept hSw e1; go_simp; first | done | with_reducible rfl)); (try simp only [Act.put, List.getElem_toArray, List.getElem_cons_succ, List.getElem_cons_zero, List.setIfInBounds_toArray, List.set_cons_zero, List.set_cons_succ]))
        generalize w2.drew = wd at *
        refine wpAnyH_ready (rs := [1]) (by kernel_rfl) (by simp) ?_
        refine (AllReadyH.cons rfl (fun K0 hK0 => ?_) AllReadyH.nil)
        go_simp
        refine (HEN.out _).mono ?_
        rintro e wj ⟨rfl, hbj⟩
        replace HQ := hide (HQ.out.trans (hbj.mono HQ.out.size))
        clear hbj
        refine hK0.out _ _ (HQ.out) (fun _ => ?_)
        clear hK0 K0
        (try simp only [Act.put, List.getElem_toArray, List.getElem_cons_succ, List.getElem_cons_zero, List.setIfInBounds_toArray, List.set_cons_zero, List.set_cons_succ])
        (refine wpAnyH_take (i := 2) (v := ?_) rfl (by kernel_rfl) (by kernel_rfl) (by kernel_rfl) (fun _ _ _ h => h) (Or.inl ⟨by rfl, ?_⟩) (by assumption) ?_; rotate_left; (focus (intro w hSw; (try dsimp only at hSw); go_simp; first | done | with_reducible rfl)); (try simp only [Act.put, List.getElem_toArray, List.getElem_cons_succ, List.getElem_cons_zero, List.setIfInBounds_toArray, List.set_cons_zero, List.set_cons_succ]))
        (refine wpAnyH_take (i := 3) (v := ?_) rfl (by kernel_rfl) (by kernel_rfl) (by kernel_rfl) (fun _ _ _ h => h) (Or.inl ⟨by rfl, ?_⟩) (by assumption) ?_; rotate_left; (focus (intro w hSw; (try dsimp only at hSw); go_simp; first | done | with_reducible rfl)); (try simp only [Act.put, List.getElem_toArray, List.getElem_cons_succ, List.getElem_cons_zero, List.setIfInBounds_toArray, List.set_cons_zero, List.set_cons_succ]))
        (refine wpAnyH_take (i := 4) (v := undef) rfl (by kernel_rfl) (by kernel_rfl) (by kernel_rfl) (fun _ _ _ h => h) (Or.inr ⟨by rfl, rfl⟩) (by assumption) ?_; (try simp only [Act.put, List.getElem_toArray, List.getElem_cons_succ, List.getElem_cons_zero, List.setIfInBounds_toArray, List.set_cons_zero, List.set_cons_succ]))
        (refine wpAnyH_take (i := 5) (v := undef) rfl (by kernel_rfl) (by kernel_rfl) (by kernel_rfl) (fun _ _ _ h => h) (Or.inr ⟨by rfl, rfl⟩) (by assumption) ?_; (try simp only [Act.put, List.getElem_toArray, List.getElem_cons_succ, List.getElem_cons_zero, List.setIfInBounds_toArray, List.set_cons_zero, List.set_cons_succ]))
        (refine wpAnyH_take (i := 6) (v := undef) rfl (by kernel_rfl) (by kernel_rfl) (by kernel_rfl) (fun _ _ _ h => h) (Or.inr ⟨by rfl, rfl⟩) (by assumption) ?_; (try simp only [Act.put, List.getElem_toArray, List.getElem_cons_succ, List.getElem_cons_zero, List.setIfInBounds_toArray, List.set_cons_zero, List.set_cons_succ]))
        (refine wpAnyH_take (i := 7) (v := undef) rfl (by kernel_rfl) (by kernel_rfl) (by kernel_rfl) (fun _ _ _ h => h) (Or.inr ⟨by rfl, rfl⟩) (by assumption) ?_; (try simp only [Act.put, List.getElem_toArray, List.getElem_cons_succ, List.getElem_cons_zero, List.setIfInBounds_toArray, List.set_cons_zero, List.set_cons_succ]))
        (refine wpAnyH_take (i := 8) (v := undef) rfl (by kernel_rfl) (by kernel_rfl) (by kernel_rfl) (fun _ _ _ h => h) (Or.inr ⟨by rfl, rfl⟩) (by assumption) ?_; (try simp only [Act.put, List.getElem_toArray, List.getElem_cons_succ, List.getElem_cons_zero, List.setIfInBounds_toArray, List.set_cons_zero, List.set_cons_succ]))
        (refine wpAnyH_take (i := 9) (v := undef) rfl (by kernel_rfl) (by kernel_rfl) (by kernel_rfl) (fun _ _ _ h => h) (Or.inr ⟨by rfl, rfl⟩) (by assumption) ?_; (try simp only [Act.put, List.getElem_toArray, List.getElem_cons_succ, List.getElem_cons_zero, List.setIfInBounds_toArray, List.set_cons_zero, List.set_cons_succ]))
        (refine wpAnyH_take (i := 10) (v := ?_) rfl (by kernel_rfl) (by kernel_rfl) (by kernel_rfl) (fun _ _ _ h => h) (Or.inl ⟨by rfl, ?_⟩) (by assumption) ?_; rotate_left; (focus (intro w hSw; (try dsimp only at hSw); go_simp; first | done | with_reducible rfl)); (try simp only [Act.put, List.getElem_toArray, List.getElem_cons_succ, List.getElem_cons_zero, List.setIfInBounds_toArray, List.set_cons_zero, List.set_cons_succ]))
        refine wpAnyH_done (by kernel_rfl) ?_ _
        have HFIN := hide (HBW.out.trans (HQ.out.mono HBW.out.size))
        clear e0 e1 el HEN HQ
        go_wp2_with fail
        go_ret
        exact ⟨ret_bool HF.out, HFIN.out⟩
      | true =>
        obtain ⟨q2, hq2⟩ : ∃ q2, hasB (X.take k) s = q2 := ⟨_, rfl⟩
        have HHS := hide (fun (w : World) (hb : Below w2.heap.size w2 w) => has_any w2.heap.size (some ⟨b, o, none⟩) ch k s (X.take k) w ((HRX2.out.first HXN.out hk).below hb) (by rw [List.length_take, HXN.out]; omega) (by omega) hb.size q2 hq2)
        have HQ2 := hide hq2
        clear hq2
        refine wp_region_held_drew (S := fun wX => Below w2.heap.size w2 wX) (by kernel_rfl) (Below.refl _ _).drew (fun hHeld => ?_)
        have HQ := hide ((Below.refl w2.heap.size w2).drew)
        (refine wpAnyH_take (i := 0) (v := ?_) rfl (by kernel_rfl) (by kernel_rfl) (by kernel_rfl) (fun _ _ _ h => h) (Or.inl ⟨by rfl, ?_⟩) (by assumption) ?_; rotate_left; (focus (intro w hSw; (try dsimp only at hSw); have kf0 := kept hSw e0; have kf1 := kept hSw e1; go_simp; first | done | with_reducible rfl)); (try simp only [Act.put, List.getElem_toArray, List.getElem_cons_succ, List.getElem_cons_zero, List.setIfInBounds_toArray, List.set_cons_zero, List.set_cons_succ]))
        generalize w2.drew = wd at *
        refine wpAnyH_ready (rs := [1]) (by kernel_rfl) (by simp) ?_
        refine (AllReadyH.cons rfl (fun K0 hK0 => ?_) AllReadyH.nil)
        go_simp
        refine (HEN.out _).mono ?_
        rintro e wj ⟨rfl, hbj⟩
        replace HQ := hide (HQ.out.trans (hbj.mono HQ.out.size))
        clear hbj
        refine hK0.out _ _ (HQ.out) (fun _ => ?_)
        clear hK0 K0
        (try simp only [Act.put, List.getElem_toArray, List.getElem_cons_succ, List.getElem_cons_zero, List.setIfInBounds_toArray, List.set_cons_zero, List.set_cons_succ])
        (refine wpAnyH_take (i := 2) (v := ?_) rfl (by kernel_rfl) (by kernel_rfl) (by kernel_rfl) (fun _ _ _ h => h) (Or.inl ⟨by rfl, ?_⟩) (by assumption) ?_; rotate_left; (focus (intro w hSw; (try dsimp only at hSw); go_simp; first | done | with_reducible rfl)); (try simp only [Act.put, List.getElem_toArray, List.getElem_cons_succ, List.getElem_cons_zero, List.setIfInBounds_toArray, List.set_cons_zero, List.set_cons_succ]))
        (refine wpAnyH_take (i := 3) (v := ?_) rfl (by kernel_rfl) (by kernel_rfl) (by kernel_rfl) (fun _ _ _ h => h) (Or.inl ⟨by rfl, ?_⟩) (by assumption) ?_; rotate_left; (focus (intro w hSw; (try dsimp only at hSw); go_simp; first | done | with_reducible rfl)); (try simp only [Act.put, List.getElem_toArray, List.getElem_cons_succ, List.getElem_cons_zero, List.setIfInBounds_toArray, List.set_cons_zero, List.set_cons_succ]))
        (refine wpAnyH_take (i := 4) (v := ?_) rfl (by kernel_rfl) (by kernel_rfl) (by kernel_rfl) (fun _ _ _ h => h) (Or.inl ⟨by rfl, ?_⟩) (by assumption) ?_; rotate_left; (focus (intro w hSw; (try dsimp only at hSw); go_simp; first | done | with_reducible rfl)); (try simp only [Act.put, List.getElem_toArray, List.getElem_cons_succ, List.getElem_cons_zero, List.setIfInBounds_toArray, List.set_cons_zero, List.set_cons_succ]))
        (refine wpAnyH_take (i := 5) (v := ?_) rfl (by kernel_rfl) (by kernel_rfl) (by kernel_rfl) (fun _ _ _ h => h) (Or.inl ⟨by rfl, ?_⟩) (by assumption) ?_; rotate_left; (focus (intro w hSw; (try dsimp only at hSw); go_simp; first | done | with_reducible rfl)); (try simp only [Act.put, List.getElem_toArray, List.getElem_cons_succ, List.getElem_cons_zero, List.setIfInBounds_toArray, List.set_cons_zero, List.set_cons_succ]))
        (refine wpAnyH_take (i := 6) (v := ?_) rfl (by kernel_rfl) (by kernel_rfl) (by kernel_rfl) (fun _ _ _ h => h) (Or.inl ⟨by rfl, ?_⟩) (by assumption) ?_; rotate_left; (focus (intro w hSw; (try dsimp only at hSw); go_simp; first | done | with_reducible rfl)); (try simp only [Act.put, List.getElem_toArray, List.getElem_cons_succ, List.getElem_cons_zero, List.setIfInBounds_toArray, List.set_cons_zero, List.set_cons_succ]))
        (refine wpAnyH_take (i := 7) (v := ?_) rfl (by kernel_rfl) (by kernel_rfl) (by kernel_rfl) (fun _ _ _ h => h) (Or.inl ⟨by rfl, ?_⟩) (by assumption) ?_; rotate_left; (focus (intro w hSw; (try dsimp only at hSw); go_simp; first | done | with_reducible rfl)); (try simp only [Act.put, List.getElem_toArray, List.getElem_cons_succ, List.getElem_cons_zero, List.setIfInBounds_toArray, List.set_cons_zero, List.set_cons_succ]))
        (refine wpAnyH_take (i := 8) (v := ?_) rfl (by kernel_rfl) (by kernel_rfl) (by kernel_rfl) (fun _ _ _ h => h) (Or.inl ⟨by rfl, ?_⟩) (by assumption) ?_; rotate_left; (focus (intro w hSw; (try dsimp only at hSw); have kf0 := kept hSw e0; go_simp; first | done | with_reducible rfl)); (try simp only [Act.put, List.getElem_toArray, List.getElem_cons_succ, List.getElem_cons_zero, List.setIfInBounds_toArray, List.set_cons_zero, List.set_cons_succ]))
        refine wpAnyH_ready (rs := [9]) (by kernel_rfl) (by simp) ?_
        refine (AllReadyH.cons rfl (fun K1 hK1 => ?_) AllReadyH.nil)
        go_simp
        refine (HHS.out _ HQ.out).mono ?_
        rintro e wk ⟨rfl, hbj⟩
        replace HQ := hide (HQ.out.trans (hbj.mono HQ.out.size))
        clear hbj
        refine hK1.out _ _ (HQ.out) (fun _ => ?_)
        clear hK1 K1
        (try simp only [Act.put, List.getElem_toArray, List.getElem_cons_succ, List.getElem_cons_zero, List.setIfInBounds_toArray, List.set_cons_zero, List.set_cons_succ])
        (refine wpAnyH_take (i := 10) (v := ?_) rfl (by kernel_rfl) (by kernel_rfl) (by kernel_rfl) (fun _ _ _ h => h) (Or.inl ⟨by rfl, ?_⟩) (by assumption) ?_; rotate_left; (focus (intro w hSw; (try dsimp only at hSw); go_simp; first | done | with_reducible rfl)); (try simp only [Act.put, List.getElem_toArray, List.getElem_cons_succ, List.getElem_cons_zero, List.setIfInBounds_toArray, List.set_cons_zero, List.set_cons_succ]))
        refine wpAnyH_done (by kernel_rfl) ?_ _
        have HBX := hide (HBX.out.trans (HQ.out.mono HBX.out.size))
        have HFIN := hide (HBW.out.trans (HQ.out.mono HBW.out.size))
        clear e0 e1 el HEN HHS HQ
        cases q2 with
        | true =>
          have HF := hide (show false = r from by
            rw [← HR.out, HSP.out, chkE_pre (by rw [HT.out, chkE_snoc, HQ2.out]; simp)]; rfl)
          go_wp2_with fail
          go_ret
          exact ⟨ret_bool HF.out, HFIN.out⟩
        | false =>
          have HC2 := hide (show chkE (X.take (k + 1)) = true from by rw [HT.out, chkE_snoc, HCK.out, HQ1.out, HQ2.out]; rfl)
          go_wp2_with fail
          go_roundw
          case rel => exact ⟨k + 1, by omega, by go_num, HC2.out, HBX.out⟩
          case measure => simp [intOf]; omega
    · obtain rfl : k = N := by omega
      have HCX := hide (show chkE X = true from by
        have := HCK.out
        rwa [List.take_of_length_le (by rw [HXN.out]; exact Nat.le_refl _)] at this)
      have q0 : wr.cell? ⟨W.heap.size, 0, none⟩ = some (.int .u64 (l.E : Int)) := by have := RowAt.cell HRL.out 0; simpa [limC] using this
      have q1 : wr.cell? ⟨W.heap.size, 1, none⟩ = some (.slice (A 0) (n 0) (c 0)) := by have := RowAt.cell HRL.out 1; simpa [limC] using this
      have q2 : wr.cell? ⟨W.heap.size, 2, none⟩ = some (.slice (A 1) (n 1) (c 1)) := by have := RowAt.cell HRL.out 2; simpa [limC] using this
      have q3 : wr.cell? ⟨W.heap.size, 3, none⟩ = some (.slice (A 2) (n 2) (c 2)) := by have := RowAt.cell HRL.out 3; simpa [limC] using this
      have ql := HRL.out.lt
      have h0 := HM.out 0 (by omega)
      have h1 := HM.out 1 (by omega)
      have h2 := HM.out 2 (by omega)
      have hw1 : IntKind.i64.wrap ((n 0 : Int) + (n 1 : Int)) = (n 0 : Int) + (n 1 : Int) := IntWalk.i64_in _ (by omega)
      have hw2 : IntKind.i64.wrap ((n 0 : Int) + (n 1 : Int) + (n 2 : Int)) = (n 0 : Int) + (n 1 : Int) + (n 2 : Int) := IntWalk.i64_in _ (by omega)
      by_cases hEL : l.E ≤ LAST
      · have hd : decide ((l.E : Int) ≤ 4611686018427387904) = true := by unfold LAST at hEL; simp; omega
        have HF := hide (show ((k : Int) == (n 0 : Int) + (n 1 : Int) + (n 2 : Int)) = r from by
          rw [← HR.out, HCX.out, HSM.out]
          simp only [Bool.true_and, hEL, decide_true]
          rw [Bool.eq_iff_iff, beq_iff_eq, decide_eq_true_eq]; omega)
        clear hEL
        go_wp2_with fail
        go_ret
        exact ⟨ret_bool HF.out, HBW.out⟩
      · have hd : decide ((l.E : Int) ≤ 4611686018427387904) = false := by unfold LAST at hEL; simp; omega
        have HF := hide (show false = r from by rw [← HR.out, HCX.out]; simp [hEL])
        clear hEL
        go_wp2_with fail
        go_ret
        exact ⟨ret_bool HF.out, HBW.out⟩
end Go.Proofs.YthnpcmigphpolaaDoor
