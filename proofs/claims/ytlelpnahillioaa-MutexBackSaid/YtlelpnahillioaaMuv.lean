/-
  Asked for, and left, all is as it was, if nobody has it.
-/
import Derived.Test.YtlelpnahillioaaMut
import Derived.Test.YtlelpnahillioaaMus
set_option linter.unusedSimpArgs false
set_option linter.unusedVariables false
namespace Go.Proofs.Ytlelpnahillioaa
open Go Go.RowKit
attribute [local go_sem] via_cell via_frozen

theorem mem_hasGo (g : Int) (l : Ml) : ∀ (k j : Nat), j < l.length → (mAt l j).1 = g + 1 → ((k + j : Nat) : Int) ∈ hasGo g k l := by
  induction l with
  | nil => intro k j hj; simp at hj
  | cons a l ih =>
    intro k j hj hw
    unfold hasGo
    cases j with
    | zero =>
      have : a.1 = g + 1 := by simpa [mAt] using hw
      rw [if_pos this]; simp
    | succ j =>
      have h := ih (k + 1) j (by simpa using hj) (by simpa [mAt] using hw)
      have e : ((k + 1 + j : Nat) : Int) = ((k + (j + 1) : Nat) : Int) := by congr 1; omega
      rw [e] at h
      split
      · exact List.mem_cons_of_mem _ h
      · exact h
theorem set_mAt {l : Ml} {k : Nat} (h : k < l.length) : l.set k (mAt l k) = l := by
  rw [mAt_get h]; exact List.set_getElem_self h
theorem askF_ok {l l2 : Ml} {w g : Int} {b : Bool} (h : askF l w g = .ok (l2, b)) : RightM l ∧ askX l w g = .ok (l2, b) := by
  unfold askF at h
  split at h
  · rename_i hr; exact ⟨rightM_iff.1 hr, h⟩
  · cases h
theorem back_ok {l l2 : Ml} {w g : Int} (h : askF l w g = .ok (l2, true)) : leaveF l2 w g = .ok (l, -1) ∧ w ∈ (if rightM l2 then hasX l2 g else []) := by
  obtain ⟨hr, ha⟩ := askF_ok h
  have hr2 := askX_right hr ha
  unfold askX at ha
  split at ha
  · cases ha
  rename_i h1
  simp only [Bool.not_eq_true', Bool.not_eq_false, Bool.and_eq_true, decide_eq_true_eq] at h1
  obtain ⟨⟨h0, hw⟩, hg⟩ := h1
  have hk : w.toNat < l.length := by omega
  split at ha
  · cases ha
  split at ha
  · rename_i hz
    injection ha with ha
    injection ha with ha _
    subst ha
    have hq := (hr.all _ (mAt_mem hk)).none hz
    have hlen : (l.set w.toNat (g + 1, (mAt l w.toNat).2)).length = l.length := List.length_set
    have hat : mAt (l.set w.toNat (g + 1, (mAt l w.toNat).2)) w.toNat = (g + 1, []) := by rw [mAt_set hk, if_pos rfl, hq]
    refine ⟨?_, ?_⟩
    · unfold leaveF leaveX
      rw [if_pos (rightM_iff.2 hr2), hlen, hat, hg]
      simp only [decide_eq_true h0, decide_eq_true hw, Bool.and_self, Bool.not_true, Bool.false_eq_true, if_false, ne_eq, not_true_eq_false]
      have e : (l.set w.toNat (g + 1, (mAt l w.toNat).2)).set w.toNat (0, []) = l := by
        rw [List.set_set]
        have : ((0 : Int), ([] : List Int)) = mAt l w.toNat := by rw [← hz, ← hq]
        rw [this]
        exact set_mAt hk
      rw [e]
    · rw [if_pos (rightM_iff.2 hr2)]
      unfold hasX
      rw [if_pos hg]
      have := mem_hasGo g (l.set w.toNat (g + 1, (mAt l w.toNat).2)) 0 w.toNat (by rw [hlen]; exact hk) (by rw [hat])
      rwa [Nat.zero_add, Int.toNat_of_nonneg h0] at this
  · injection ha with ha
    injection ha with _ ha
    cases ha
theorem back_wait {l l2 : Ml} {w g : Int} (h : askF l w g = .ok (l2, false)) : leaveF l2 w g = .error 4 ∧ waitsX l2 g = w ∧ 0 ≤ w := by
  obtain ⟨hr, ha⟩ := askF_ok h
  have hr2 := askX_right hr ha
  unfold askX at ha
  split at ha
  · cases ha
  rename_i h1
  simp only [Bool.not_eq_true', Bool.not_eq_false, Bool.and_eq_true, decide_eq_true_eq] at h1
  obtain ⟨⟨h0, hw⟩, hg⟩ := h1
  have hk : w.toNat < l.length := by omega
  split at ha
  · cases ha
  rename_i h2
  have hnw : g ∉ flatQ l := waitsX_neg.1 (by omega)
  split at ha
  · injection ha with ha
    injection ha with _ ha
    cases ha
  · rename_i hz
    injection ha with ha
    injection ha with ha _
    subst ha
    have hlen : (l.set w.toNat ((mAt l w.toNat).1, (mAt l w.toNat).2 ++ [g])).length = l.length := List.length_set
    have hat : mAt (l.set w.toNat ((mAt l w.toNat).1, (mAt l w.toNat).2 ++ [g])) w.toNat = ((mAt l w.toNat).1, (mAt l w.toNat).2 ++ [g]) := by rw [mAt_set hk, if_pos rfl]
    refine ⟨?_, ?_, h0⟩
    · unfold leaveF leaveX
      rw [if_pos (rightM_iff.2 hr2), hlen, hat, hg]
      simp only [decide_eq_true h0, decide_eq_true hw, Bool.and_self, Bool.not_true, Bool.false_eq_true, if_false, ne_eq]
      rw [if_pos (fun e => h2 (.inl e))]
    · rcases waitsX_cases (l.set w.toNat ((mAt l w.toNat).1, (mAt l w.toNat).2 ++ [g])) g with ⟨_, hno⟩ | ⟨j, hj, he, hm, _⟩
      · exfalso
        apply hno
        refine mem_flatQ.2 ⟨_, mAt_mem (k := w.toNat) (by rw [hlen]; exact hk), ?_⟩
        rw [hat]; simp
      · rw [he]
        rw [hlen] at hj
        by_cases hjw : j = w.toNat
        · omega
        · exfalso
          rw [mAt_set hk, if_neg hjw] at hm
          exact hnw (mem_flatQ.2 ⟨_, mAt_mem hj, hm⟩)
theorem OwnK {A : Option Addr} {c n : Nat} {ts : List Mm} {W : World} (h : RM W W.heap.size A n ts) (hn : n ≤ c) (hcm : c ≤ 9223372036854775807) (hcap : CapT ts) :
    Calls Try.prog 9 #[.slice A n c] W fun e W' => OwnRes W.heap.size (ownL (mus ts)) e W' ∧ Below W.heap.size W W' := own_any W.heap.size A c n ts W h (Nat.le_refl _) hn hcm hcap
theorem SameK {b1 b2 : Nat} {A1 A2 : Option Addr} {m1 c1 m2 c2 : Nat} {l1 l2 : Ml} {W : World} (h1 : Own b1 W A1 m1 c1 l1) (h2 : Own b2 W A2 m2 c2 l2) (s1 : SmallL l1) (s2 : SmallL l2) {r : Bool} (hr : decide (l1 = l2) = r) :
    Calls Try.prog 26 #[.slice A1 m1 c1, .slice A2 m2 c2] W fun e W' => e = .returned (.bool r) ∧ Below W.heap.size W W' := by
  obtain ⟨ts, hl1, hr1⟩ := h1.rm
  obtain ⟨us, hl2, hr2⟩ := h2.rm
  exact same_any W.heap.size W.heap.size A1 A2 c1 c2 m1 m2 ts us W hr1 hr2 (Nat.le_refl _) (Nat.le_refl _) (smallM_of hl1 s1) (smallM_of hl2 s2) r (by rw [hl1, hl2]; exact hr)
set_option maxRecDepth 100000 in
set_option maxHeartbeats 8000000 in
theorem Back_walk (A0 : Option Addr) (c0 n0 : Nat) (ts : List Mm) (g1 g2 : Int) (W : World) (h0 : RM W W.heap.size A0 n0 ts) (hn0 : n0 ≤ c0) (hm0 : c0 ≤ 9223372036854775807) (hu0 : ∀ t ∈ ts, t.q.length ≤ t.c ∧ t.c ≤ 9223372036854775807) :
    Calls Try.prog 7 #[.slice A0 n0 c0, .int .i64 g1, .int .i64 g2] W fun e W' => e = .returned (.bool true) ∧ Below W.heap.size W W' := by
  have H := hide h0
  have HCAP := hide (show CapT ts from hu0)
  clear h0 hu0
  go_enter Try.func7, Try.ntmps7
  go_wp2_with fail
  with_reducible refine (wakes_any W).mono ?_
  rintro e w0 ⟨rfl, hb0⟩
  have HB := hide hb0
  have HOW := hide (OwnK ((H.out.below hb0).more hb0.size) hn0 hm0 HCAP.out)
  clear hb0
  go_wp2_with fail
  with_reducible refine HOW.out.mono ?_
  rintro e w1 ⟨⟨A, m, c, rfl, ho⟩, hb⟩
  have HO := hide ho
  have HL := hide (ownL_small (mus ts))
  replace HB := hide (HB.out.trans (hb.mono HB.out.size))
  clear ho hb HOW
  generalize ownL (mus ts) = l at *
  cases hr : askF l g1 g2 with
  | error e9 =>
    have HNZ := hide (show e9 ≠ 0 from by
      unfold askF at hr
      split at hr
      · exact askX_err hr
      · injection hr with hr; omega)
    have HA := hide (AskK g1 g2 HO.out HL.out (l2 := []) (b := false) (E := e9) (by rw [hr]; rfl) (by rw [hr]; rfl) (by rw [hr]; rfl))
    have hnz : (e9 != 0) = true := by simpa using HNZ.out
    clear hr
    go_wp2_with fail
    with_reducible refine HA.out.mono ?_
    rintro e w2 ⟨⟨A2, m2, c2, rfl, ho⟩, hb⟩
    obtain rfl : m2 = 0 := ho.len.symm
    have HB2 := hide (HB.out.trans (hb.mono HB.out.size))
    clear ho hb
    go_wp2_with fail
    go_ret
    exact ⟨rfl, HB2.out⟩
  | ok x9 =>
    obtain ⟨l2, b⟩ := x9
    have HR := hide (askF_ok hr).1
    have HR2 := hide (askX_right (askF_ok hr).1 (askF_ok hr).2)
    have HA := hide (AskK g1 g2 HO.out HL.out (l2 := l2) (b := b) (E := 0) (by rw [hr]; rfl) (by rw [hr]; rfl) (by rw [hr]; rfl))
    cases b
    · obtain ⟨hb1, hb2, hb3⟩ := back_wait hr
      have HLV := hide hb1
      have HWT := hide hb2
      clear hr hb1 hb2
      go_wp2_with fail
      with_reducible refine HA.out.mono ?_
      rintro e w2 ⟨⟨A2, m2, c2, rfl, ho⟩, hb⟩
      have HO2 := hide ho
      have HB2 := hide (HB.out.trans (hb.mono HB.out.size))
      have HWK := hide (WaitsK g2 ho HR2.out.small (z := g1) (b := true) (by rw [if_pos (rightM_iff.2 HR2.out), HWT.out]; omega) (by rw [rightM_iff.2 HR2.out, HWT.out, decide_eq_true hb3]; rfl))
      have hgg : (g1 == g1) = true := by simp
      clear ho hb HA
      go_wp2_with fail
      with_reducible refine HWK.out.mono ?_
      rintro e w3 ⟨rfl, hb⟩
      have HO3 := hide (HO2.out.below hb)
      have HB3 := hide (HB2.out.trans (hb.mono HB2.out.size))
      have HLK := hide (LeaveK g1 g2 HO3.out HR2.out.small (l2 := []) (n := 0) (E := 4) (by rw [HLV.out]; rfl) (by rw [HLV.out]; rfl) (by rw [HLV.out]; rfl))
      clear hb HWK
      go_wp2_with fail
      with_reducible refine HLK.out.mono ?_
      rintro e w4 ⟨⟨A4, m4, c4, rfl, _⟩, hb⟩
      have HO4 := hide (HO3.out.below hb)
      have HB4 := hide (HB3.out.trans (hb.mono HB3.out.size))
      have HCK := hide (CheckK HO4.out HR2.out.small (z := 0) (by rw [rightM_iff.2 HR2.out]; rfl))
      clear hb HLK
      go_wp2_with fail
      with_reducible refine HCK.out.mono ?_
      rintro e w5 ⟨rfl, hb⟩
      have HB5 := hide (HB4.out.trans (hb.mono HB4.out.size))
      clear hb
      go_wp2_with fail
      go_ret
      exact ⟨rfl, HB5.out⟩
    · obtain ⟨hb1, hb2⟩ := back_ok hr
      have HLV := hide hb1
      have HIN := hide hb2
      clear hr hb1 hb2
      go_wp2_with fail
      with_reducible refine HA.out.mono ?_
      rintro e w2 ⟨⟨A2, m2, c2, rfl, ho⟩, hb⟩
      have HO1 := hide (HO.out.below hb)
      have HO2 := hide ho
      have HB2 := hide (HB.out.trans (hb.mono HB.out.size))
      have HLK := hide (LeaveK g1 g2 ho HR2.out.small (l2 := l) (n := -1) (E := 0) (by rw [HLV.out]; rfl) (by rw [HLV.out]; rfl) (by rw [HLV.out]; rfl))
      clear ho hb HA
      go_wp2_with fail
      with_reducible refine HLK.out.mono ?_
      rintro e w3 ⟨⟨A3, m3, c3, rfl, ho3⟩, hb⟩
      have HO4 := hide (HO1.out.below hb)
      have HO5 := hide (HO2.out.below hb)
      have HB3 := hide (HB2.out.trans (hb.mono HB2.out.size))
      have HSK := hide (SameK ho3 HO4.out HR.out.small HR.out.small (r := true) (by simp))
      clear ho3 hb HLK
      go_wp2_with fail
      with_reducible refine HSK.out.mono ?_
      rintro e w4 ⟨rfl, hb⟩
      have HO6 := hide (HO5.out.below hb)
      have HB4 := hide (HB3.out.trans (hb.mono HB3.out.size))
      obtain ⟨xs, hxs⟩ : ∃ x, (if rightM l2 then hasX l2 g2 else []) = x := ⟨_, rfl⟩
      obtain ⟨nx, hnx⟩ : ∃ x, xs.length = x := ⟨_, rfl⟩
      have HHK := hide (HasK g2 HO6.out HR2.out.small (xs := xs) (n := nx) hxs hnx)
      have HIN2 := hide (show g1 ∈ xs from by rw [← hxs]; exact HIN.out)
      have HXL := hide hnx
      have HNL := hide (show nx ≤ 4096 from by
        have h1 : (hasX l2 g2).length ≤ l2.length := by
          unfold hasX
          split
          · exact hasGo_len _ _ _
          · simp
        have h2 := HR2.out.hi
        rw [if_pos (rightM_iff.2 HR2.out)] at hxs
        rw [hxs, hnx] at h1
        omega)
      clear hb HSK hxs hnx
      go_wp2_with fail
      with_reducible refine HHK.out.mono ?_
      rintro e w5 ⟨⟨Ah, ch, rfl, _, hrd, _⟩, hb⟩
      have HB5 := hide (HB4.out.trans (hb.mono HB4.out.size))
      have HCT := hide (contains_any w5.heap.size Ah ch nx xs g1 w5 hrd HXL.out HNL.out (Nat.le_refl _) true (by simpa using HIN2.out))
      clear hb hrd HHK
      go_wp2_with fail
      with_reducible refine HCT.out.mono ?_
      rintro e w6 ⟨rfl, rfl⟩
      go_wp2_with fail
      go_ret
      exact ⟨rfl, HB5.out⟩
end Go.Proofs.Ytlelpnahillioaa
