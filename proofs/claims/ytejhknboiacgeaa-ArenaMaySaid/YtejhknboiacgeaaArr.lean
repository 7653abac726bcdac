/-
  ArenaMay, walked.
-/
import Derived.Test.YtejhknboiacgeaaArx
import Derived.Test.YtejhknboiacgeaaArq
import Derived.Deep.CutRange
import Derived.Deep.CutBlock
set_option linter.unusedSimpArgs false
set_option linter.unusedVariables false
namespace Go.Proofs.Ytejhknboiacgeaa
open Go Go.RowKit
attribute [local go_sem] via_cell via_frozen
attribute [local go_sem] undef

theorem cn_len (S : List (Int × Int)) (t : Int) (r : Bool) (hr : arOk S = r) (L : List (Int × Int)) (hL : (if r = true then ents S t else []) = L) : cn S t = (L.length : Int) := by
  unfold cn
  rw [hr]
  cases r
  · simp at hL; subst hL; rfl
  · simp at hL; subst hL; simp
theorem ents_out {S : List (Int × Int)} (h : arOk S = true) (t : Int) (ht : t < 0 ∨ 2 < t) : ents S t = [] := by
  rw [List.eq_nil_iff_forall_not_mem]
  intro e he
  obtain ⟨_, _, h3⟩ := ents_mem he
  unfold arOk at h
  rw [Bool.and_eq_true, List.all_eq_true] at h
  have := h.2 _ (List.mem_of_getElem? h3)
  unfold slabOk at this
  simp at this
  omega
theorem ents_lenle (S : List (Int × Int)) (t : Int) (r : Bool) (L : List (Int × Int)) (hL : (if r = true then ents S t else []) = L) : L.length ≤ S.length := by
  cases r
  · simp at hL; subst hL; simp
  · simp at hL; subst hL; exact ents_length S t
theorem cn_small (S : List (Int × Int)) (t : Int) (m : Nat) (hm : S.length = m) : 0 ≤ cn S t ∧ cn S t ≤ m := by
  unfold cn
  have := ents_length S t
  split <;> omega
theorem eq_three (a b c : Int) (ha : 0 ≤ a ∧ a ≤ 130) (hb : 0 ≤ b ∧ b ≤ 130) (hc : 0 ≤ c ∧ c ≤ 130) (w : World) :
    Sem.run Try.prog (Op.equalIn 10000 56 (.agg #[.int .i64 a, .int .i64 b, .int .i64 c]) (.agg #[.int .i64 a, .int .i64 b, .int .i64 c])) w = .ok true w := by
  have e3 : Try.prog.cellsOf 56 = 3 := by kernel_rfl
  have e1 : Try.prog.cellsOf 3 = 1 := by kernel_rfl
  have hwf : ∀ x : Int, 0 ≤ x ∧ x ≤ 130 → (Lit.int .i64 x).wf = true := fun x hx => by
    simp [Lit.wf, IntKind.min, IntKind.max, IntKind.signed, IntKind.bits]; omega
  obtain ⟨l, hl⟩ : ∃ l, Try.prog.keyLits 3 56 [.int .i64 a, .int .i64 b, .int .i64 c] = some l := by
    refine kl_array Try.underlying56 2 _ (by rw [e3]; rfl) fun i hi => ?_
    rw [e1]
    obtain rfl | rfl | rfl : i = 0 ∨ i = 1 ∨ i = 2 := by omega
    · exact kl_int Try.underlying3 1 a (hwf a ha)
    · exact kl_int Try.underlying3 1 b (hwf b hb)
    · exact kl_int Try.underlying3 1 c (hwf c hc)
  have hf : (Value.agg #[.int .i64 a, .int .i64 b, .int .i64 c]).formed Try.prog 56 = true := by
    simp only [Value.formed, Try.underlying56, e3]; rfl
  obtain ⟨r, hr, hiff⟩ := run_equalIn_deep 9997 3 56 (by kernel_rfl) w 3 3 (.agg #[.int .i64 a, .int .i64 b, .int .i64 c]) (.agg #[.int .i64 a, .int .i64 b, .int .i64 c]) l l hf hf hl hl
  have : r = true := hiff.2 rfl
  subst this
  exact hr
theorem setB_of {w : World} {sz n g : Nat} {A : Option Addr} {xs : List Value} (h : Rd w w.heap.size sz A n xs) (base : Nat) (hf : ∀ p, A = some p → base ≤ p.block) (hg : g < base) (o : Nat) (u : Value) : Rd (w.setCell ⟨g, o, none⟩ u) (w.setCell ⟨g, o, none⟩ u).heap.size sz A n xs :=
  h.setS (fun p hp => by have := hf p hp; omega) o u

set_option maxRecDepth 100000 in
set_option maxHeartbeats 4000000 in
theorem May_walk (A1 : Option Addr) (c1 n1 : Nat) (A2 : Option Addr) (c2 n2 : Nat) (A3 : Option Addr) (c3 n3 : Nat) (xs ys zs : List (Int × Int)) (W : World) (h1 : Rd W W.heap.size 2 A1 n1 (Cs encE xs)) (h2 : Rd W W.heap.size 2 A2 n2 (Cs encE ys)) (h3 : Rd W W.heap.size 2 A3 n3 (Cs encE zs))
    (hx1 : xs.length = n1) (hx2 : ys.length = n2) (hx3 : zs.length = n3) (hi3 : ∀ e ∈ zs, I64 e.1) (hn1 : n1 ≤ c1) (hn2 : n2 ≤ c2) (hn3 : n3 ≤ c3) (hm1 : c1 ≤ 9223372036854775807) (hm2 : c2 ≤ 9223372036854775807) (hm3 : c3 ≤ 9223372036854775807) :
    Calls Try.prog 6 #[.agg #[.slice A1 n1 c1], .agg #[.slice A2 n2 c2], .slice A3 n3 c3] W fun e W' => e = .returned (.bool true) ∧ Below W.heap.size W W' := by
  obtain ⟨m1, hmm1⟩ : ∃ m, min n1 130 = m := ⟨_, rfl⟩
  obtain ⟨S, hS1⟩ : ∃ S, xs.take m1 = S := ⟨_, rfl⟩
  have hm1130 : m1 ≤ 130 := by omega
  have hSl1 : S.length = m1 := by rw [← hS1, List.length_take]; omega
  have HL1 := hide hSl1
  have HOWN1 : Hid (∀ w, Below W.heap.size W w → Calls Try.prog 8 #[.agg #[.slice A1 n1 c1]] w fun e W' => ∃ A' c', e = .returned (.agg #[.slice A' m1 c']) ∧ m1 ≤ c' ∧ c' ≤ 9223372036854775807 ∧ Rd W' W'.heap.size 2 A' m1 (Cs encE S) ∧ (∀ p, A' = some p → w.heap.size ≤ p.block) ∧ Below w.heap.size w W') := hide (fun w hb => by
    have h := own_any A1 c1 n1 xs w ((h1.below hb).more hb.size) hx1 hn1 hm1 m1 hmm1
    rw [hS1] at h
    exact h)
  obtain ⟨m2, hmm2⟩ : ∃ m, min n2 130 = m := ⟨_, rfl⟩
  obtain ⟨T, hS2⟩ : ∃ S, ys.take m2 = S := ⟨_, rfl⟩
  have hm2130 : m2 ≤ 130 := by omega
  have hSl2 : T.length = m2 := by rw [← hS2, List.length_take]; omega
  have HL2 := hide hSl2
  have HOWN2 : Hid (∀ w, Below W.heap.size W w → Calls Try.prog 8 #[.agg #[.slice A2 n2 c2]] w fun e W' => ∃ A' c', e = .returned (.agg #[.slice A' m2 c']) ∧ m2 ≤ c' ∧ c' ≤ 9223372036854775807 ∧ Rd W' W'.heap.size 2 A' m2 (Cs encE T) ∧ (∀ p, A' = some p → w.heap.size ≤ p.block) ∧ Below w.heap.size w W') := hide (fun w hb => by
    have h := own_any A2 c2 n2 ys w ((h2.below hb).more hb.size) hx2 hn2 hm2 m2 hmm2
    rw [hS2] at h
    exact h)
  subst hx3
  have H3 := hide h3
  have HI3 := hide hi3
  have HW := hide (fun w => wakes_any w)
  obtain ⟨w0, hw0⟩ : ∃ w, (W.alloc (.cells #[.slice A1 n1 c1] 24)).alloc (.cells #[.slice A2 n2 c2] 24) = w := ⟨_, rfl⟩
  have HB := hide (show Below W.heap.size W w0 by rw [← hw0]; exact ((Below.refl W.heap.size W).alloc (Nat.le_refl _) _).alloc (by simp) _)
  have R1 := hide (show RowAt w0 W.heap.size 24 #[.slice A1 n1 c1] by rw [← hw0]; exact (RowAt.new W 24 #[.slice A1 n1 c1]).below ((Below.refl _ _).alloc (Nat.le_refl _) _))
  have R2 := hide (show RowAt w0 (W.heap.size + 1) 24 #[.slice A2 n2 c2] by
    rw [← hw0]
    have h := RowAt.new (W.alloc (.cells #[.slice A1 n1 c1] 24)) 24 #[.slice A2 n2 c2]
    rw [World.size_alloc] at h
    exact h)
  clear hmm1 hmm2 hS1 hS2 hSl1 hSl2 h1 h2 h3 hx1 hx2 hi3
  go_enter Try.func6, Try.ntmps6
  go_wp2_with fail
  (try rw [hw0])
  clear hw0
  refine (HW.out _).mono ?_
  rintro e w1 ⟨rfl, hb⟩
  replace R1 := hide (R1.out.below hb)
  replace R2 := hide (R2.out.below hb)
  replace HB := hide (HB.out.trans (hb.mono HB.out.size))
  clear hb HW
  have qR1 := row1 R1.out
  have lR1 := R1.out.lt
  have qR2 := row1 R2.out
  have lR2 := R2.out.lt
  have HO1 := hide (fun w (hb : Below w1.heap.size w1 w) => HOWN1.out w (HB.out.trans (hb.mono HB.out.size)))
  have HO2 := hide (fun w (hb : Below w1.heap.size w1 w) => HOWN2.out w (HB.out.trans (hb.mono HB.out.size)))
  go_upto_region 3 with fail
  go_cut [7, 8] from 28 to 31 (fun s7 s8 wx => ∃ (g7 : Nat) (A7 : Option Addr) (k7 : Nat) (g8 : Nat) (A8 : Option Addr) (k8 : Nat), s7 = .pointer (some ⟨g7, 0, none⟩) ∧ s8 = .pointer (some ⟨g8, 0, none⟩) ∧ RowAt wx g7 24 #[.slice A7 m1 k7] ∧ RowAt wx g8 24 #[.slice A8 m2 k8] ∧ Rd wx wx.heap.size 2 A7 m1 (Cs encE S) ∧ Rd wx wx.heap.size 2 A8 m2 (Cs encE T) ∧ m1 ≤ k7 ∧ m2 ≤ k8 ∧ Below w1.heap.size w1 wx)
  case first =>
    refine wp_region_held_drew (S := fun wX => Below w1.heap.size w1 wX) (by kernel_rfl) (Below.refl _ _).drew (fun hHeld => ?_)
    refine wpAnyH_take (i := 0) (v := .agg #[.slice A1 n1 c1]) rfl (by kernel_rfl) (by kernel_rfl) (by kernel_rfl) (fun _ _ _ h => h) (Or.inl ⟨by rfl, fun w hw => ?_⟩) (by assumption) ?_
    · have e0 := kept hw qR1
      go_simp
      first | done | with_reducible rfl
    simp only [Act.put, List.getElem_toArray, List.getElem_cons_succ, List.getElem_cons_zero, List.setIfInBounds_toArray, List.set_cons_zero, List.set_cons_succ]
    refine wpAnyH_take (i := 2) (v := .agg #[.slice A2 n2 c2]) rfl (by kernel_rfl) (by kernel_rfl) (by kernel_rfl) (fun _ _ _ h => h) (Or.inl ⟨by rfl, fun w hw => ?_⟩) (by assumption) ?_
    · have e0 := kept hw qR2
      go_simp
      first | done | with_reducible rfl
    simp only [Act.put, List.getElem_toArray, List.getElem_cons_succ, List.getElem_cons_zero, List.setIfInBounds_toArray, List.set_cons_zero, List.set_cons_succ]
    have HQ := hide ((Below.refl w1.heap.size w1).drew)
    generalize w1.drew = wd at *
    refine wpAnyH_ready (rs := [1, 4, 5]) (by kernel_rfl) (by simp) ?_
    refine (AllReadyH.cons rfl (fun K0 hK0 => ?_) (AllReadyH.cons rfl (fun K0 hK0 => ?_) (AllReadyH.cons rfl (fun K0 hK0 => ?_) AllReadyH.nil)))
    · go_simp
      refine (HO1.out _ (HQ.out)).mono ?_
      rintro e wa0 ⟨A7, k7, rfl, hk7, hkm7, ho7, hf7, hb0⟩
      have O1 := hide ho7
      replace HQ := hide (HQ.out.trans (hb0.mono HQ.out.size))
      refine hK0.out _ _ HQ.out (fun _ => ?_)
      clear hK0 K0 ho7 hf7 hb0
      (try simp only [Act.put, List.getElem_toArray, List.getElem_cons_succ, List.getElem_cons_zero, List.setIfInBounds_toArray, List.set_cons_zero, List.set_cons_succ])
      refine wpAnyH_ready (rs := [3, 4, 5]) (by kernel_rfl) (by simp) ?_
      refine (AllReadyH.cons rfl (fun K1 hK1 => ?_) (AllReadyH.cons rfl (fun K1 hK1 => ?_) (AllReadyH.cons rfl (fun K1 hK1 => ?_) AllReadyH.nil)))
      · go_simp
        refine (HO2.out _ (HQ.out)).mono ?_
        rintro e wa1 ⟨A8, k8, rfl, hk8, hkm8, ho8, hf8, hb1⟩
        replace O1 := hide ((O1.out.below hb1).more hb1.size)
        have O2 := hide ho8
        replace HQ := hide (HQ.out.trans (hb1.mono HQ.out.size))
        refine hK1.out _ _ HQ.out (fun _ => ?_)
        clear hK1 K1 ho8 hf8 hb1
        (try simp only [Act.put, List.getElem_toArray, List.getElem_cons_succ, List.getElem_cons_zero, List.setIfInBounds_toArray, List.set_cons_zero, List.set_cons_succ])
        refine wpAnyH_ready (rs := [4, 5]) (by kernel_rfl) (by simp) ?_
        refine (AllReadyH.cons rfl (fun K2 hK2 => ?_) (AllReadyH.cons rfl (fun K2 hK2 => ?_) AllReadyH.nil))
        · go_simp
          refine hK2.out _ _ (HQ.out.alloc HQ.out.size _) (fun _ => ?_)
          clear hK2 K2
          have hb2 : Below wa1.heap.size wa1 (wa1.alloc (.cells #[.slice none 0 0] 24)) := (Below.refl _ _).alloc (Nat.le_refl _) _
          replace O1 := hide ((O1.out.below hb2).more hb2.size)
          replace O2 := hide ((O2.out.below hb2).more hb2.size)
          have R7 := hide (RowAt.new wa1 24 #[.slice none 0 0])
          have G7 := hide HQ.out.size
          replace HQ := hide (HQ.out.alloc HQ.out.size (.cells #[.slice none 0 0] 24))
          clear hb2
          (try simp only [Act.put, List.getElem_toArray, List.getElem_cons_succ, List.getElem_cons_zero, List.setIfInBounds_toArray, List.set_cons_zero, List.set_cons_succ])
          generalize wa1.alloc (.cells #[.slice none 0 0] 24) = wa2 at *
          refine wpAnyH_ready (rs := [5]) (by kernel_rfl) (by simp) ?_
          refine (AllReadyH.cons rfl (fun K3 hK3 => ?_) AllReadyH.nil)
          · go_simp
            refine hK3.out _ _ (HQ.out.alloc HQ.out.size _) (fun _ => ?_)
            clear hK3 K3
            have hb3 : Below wa2.heap.size wa2 (wa2.alloc (.cells #[.slice none 0 0] 24)) := (Below.refl _ _).alloc (Nat.le_refl _) _
            have NE := hide (show wa1.heap.size ≠ wa2.heap.size from Nat.ne_of_lt R7.out.lt)
            replace O1 := hide ((O1.out.below hb3).more hb3.size)
            replace O2 := hide ((O2.out.below hb3).more hb3.size)
            replace R7 := hide (R7.out.below hb3)
            have R8 := hide (RowAt.new wa2 24 #[.slice none 0 0])
            have G8 := hide HQ.out.size
            replace HQ := hide (HQ.out.alloc HQ.out.size (.cells #[.slice none 0 0] 24))
            clear hb3
            (try simp only [Act.put, List.getElem_toArray, List.getElem_cons_succ, List.getElem_cons_zero, List.setIfInBounds_toArray, List.set_cons_zero, List.set_cons_succ])
            generalize wa2.alloc (.cells #[.slice none 0 0] 24) = wa3 at *
            refine wpAnyH_ready (rs := [6]) (by kernel_rfl) (by simp) ?_
            refine AllReadyH.cons rfl (fun K hK => ?_) AllReadyH.nil
            have l7 := R7.out.lt
            have z7 := row1 R7.out
            have f7 := R7.out.frozen 0
            go_simp
            refine hK.out _ _ (HQ.out.setCell (p := ⟨wa1.heap.size, 0, none⟩) G7.out _) (fun _ => ?_)
            clear hK K
            replace O1 := hide (O1.out.setRow R7.out (.slice A7 m1 k7))
            replace O2 := hide (O2.out.setRow R7.out (.slice A7 m1 k7))
            replace R8 := hide (R8.out.setNe (o := 0) (v := (.slice A7 m1 k7)) (g2 := wa1.heap.size) (Ne.symm NE.out))
            replace R7 := hide (R7.out.set 0 (.slice A7 m1 k7))
            replace HQ := hide (HQ.out.setCell (p := ⟨wa1.heap.size, 0, none⟩) G7.out (.slice A7 m1 k7))
            clear l7 z7 f7
            generalize wa3.setCell ⟨wa1.heap.size, 0, none⟩ (.slice A7 m1 k7) = wt7 at *
            (try simp only [Act.put, List.getElem_toArray, List.getElem_cons_succ, List.getElem_cons_zero, List.setIfInBounds_toArray, List.set_cons_zero, List.set_cons_succ])
            refine wpAnyH_ready (rs := [7]) (by kernel_rfl) (by simp) ?_
            refine AllReadyH.cons rfl (fun K hK => ?_) AllReadyH.nil
            have l8 := R8.out.lt
            have z8 := row1 R8.out
            have f8 := R8.out.frozen 0
            go_simp
            refine hK.out _ _ (HQ.out.setCell (p := ⟨wa2.heap.size, 0, none⟩) G8.out _) (fun _ => ?_)
            clear hK K
            replace O1 := hide (O1.out.setRow R8.out (.slice A8 m2 k8))
            replace O2 := hide (O2.out.setRow R8.out (.slice A8 m2 k8))
            replace R7 := hide (R7.out.setNe (o := 0) (v := (.slice A8 m2 k8)) (g2 := wa2.heap.size) NE.out)
            replace R8 := hide (R8.out.set 0 (.slice A8 m2 k8))
            replace HQ := hide (HQ.out.setCell (p := ⟨wa2.heap.size, 0, none⟩) G8.out (.slice A8 m2 k8))
            clear l8 z8 f8
            (try simp only [Act.put, List.getElem_toArray, List.getElem_cons_succ, List.getElem_cons_zero, List.setIfInBounds_toArray, List.set_cons_zero, List.set_cons_succ])
            refine wpAnyH_done (by kernel_rfl) ?_ _
            go_wp2_with fail
            go_meet
            case rel => exact ⟨_, A7, k7, _, A8, k8, rfl, rfl, R7.out, R8.out, O1.out, O2.out, hk7, hk8, HQ.out⟩
        · go_simp
          refine hK2.out _ _ (HQ.out.alloc HQ.out.size _) (fun _ => ?_)
          clear hK2 K2
          have hb2 : Below wa1.heap.size wa1 (wa1.alloc (.cells #[.slice none 0 0] 24)) := (Below.refl _ _).alloc (Nat.le_refl _) _
          replace O1 := hide ((O1.out.below hb2).more hb2.size)
          replace O2 := hide ((O2.out.below hb2).more hb2.size)
          have R8 := hide (RowAt.new wa1 24 #[.slice none 0 0])
          have G8 := hide HQ.out.size
          replace HQ := hide (HQ.out.alloc HQ.out.size (.cells #[.slice none 0 0] 24))
          clear hb2
          (try simp only [Act.put, List.getElem_toArray, List.getElem_cons_succ, List.getElem_cons_zero, List.setIfInBounds_toArray, List.set_cons_zero, List.set_cons_succ])
          generalize wa1.alloc (.cells #[.slice none 0 0] 24) = wa2 at *
          refine wpAnyH_ready (rs := [4]) (by kernel_rfl) (by simp) ?_
          refine (AllReadyH.cons rfl (fun K3 hK3 => ?_) AllReadyH.nil)
          · go_simp
            refine hK3.out _ _ (HQ.out.alloc HQ.out.size _) (fun _ => ?_)
            clear hK3 K3
            have hb3 : Below wa2.heap.size wa2 (wa2.alloc (.cells #[.slice none 0 0] 24)) := (Below.refl _ _).alloc (Nat.le_refl _) _
            have NE := hide (show wa2.heap.size ≠ wa1.heap.size from Nat.ne_of_gt R8.out.lt)
            replace O1 := hide ((O1.out.below hb3).more hb3.size)
            replace O2 := hide ((O2.out.below hb3).more hb3.size)
            replace R8 := hide (R8.out.below hb3)
            have R7 := hide (RowAt.new wa2 24 #[.slice none 0 0])
            have G7 := hide HQ.out.size
            replace HQ := hide (HQ.out.alloc HQ.out.size (.cells #[.slice none 0 0] 24))
            clear hb3
            (try simp only [Act.put, List.getElem_toArray, List.getElem_cons_succ, List.getElem_cons_zero, List.setIfInBounds_toArray, List.set_cons_zero, List.set_cons_succ])
            generalize wa2.alloc (.cells #[.slice none 0 0] 24) = wa3 at *
            refine wpAnyH_ready (rs := [6]) (by kernel_rfl) (by simp) ?_
            refine AllReadyH.cons rfl (fun K hK => ?_) AllReadyH.nil
            have l7 := R7.out.lt
            have z7 := row1 R7.out
            have f7 := R7.out.frozen 0
            go_simp
            refine hK.out _ _ (HQ.out.setCell (p := ⟨wa2.heap.size, 0, none⟩) G7.out _) (fun _ => ?_)
            clear hK K
            replace O1 := hide (O1.out.setRow R7.out (.slice A7 m1 k7))
            replace O2 := hide (O2.out.setRow R7.out (.slice A7 m1 k7))
            replace R8 := hide (R8.out.setNe (o := 0) (v := (.slice A7 m1 k7)) (g2 := wa2.heap.size) (Ne.symm NE.out))
            replace R7 := hide (R7.out.set 0 (.slice A7 m1 k7))
            replace HQ := hide (HQ.out.setCell (p := ⟨wa2.heap.size, 0, none⟩) G7.out (.slice A7 m1 k7))
            clear l7 z7 f7
            generalize wa3.setCell ⟨wa2.heap.size, 0, none⟩ (.slice A7 m1 k7) = wt7 at *
            (try simp only [Act.put, List.getElem_toArray, List.getElem_cons_succ, List.getElem_cons_zero, List.setIfInBounds_toArray, List.set_cons_zero, List.set_cons_succ])
            refine wpAnyH_ready (rs := [7]) (by kernel_rfl) (by simp) ?_
            refine AllReadyH.cons rfl (fun K hK => ?_) AllReadyH.nil
            have l8 := R8.out.lt
            have z8 := row1 R8.out
            have f8 := R8.out.frozen 0
            go_simp
            refine hK.out _ _ (HQ.out.setCell (p := ⟨wa1.heap.size, 0, none⟩) G8.out _) (fun _ => ?_)
            clear hK K
            replace O1 := hide (O1.out.setRow R8.out (.slice A8 m2 k8))
            replace O2 := hide (O2.out.setRow R8.out (.slice A8 m2 k8))
            replace R7 := hide (R7.out.setNe (o := 0) (v := (.slice A8 m2 k8)) (g2 := wa1.heap.size) NE.out)
            replace R8 := hide (R8.out.set 0 (.slice A8 m2 k8))
            replace HQ := hide (HQ.out.setCell (p := ⟨wa1.heap.size, 0, none⟩) G8.out (.slice A8 m2 k8))
            clear l8 z8 f8
            (try simp only [Act.put, List.getElem_toArray, List.getElem_cons_succ, List.getElem_cons_zero, List.setIfInBounds_toArray, List.set_cons_zero, List.set_cons_succ])
            refine wpAnyH_done (by kernel_rfl) ?_ _
            go_wp2_with fail
            go_meet
            case rel => exact ⟨_, A7, k7, _, A8, k8, rfl, rfl, R7.out, R8.out, O1.out, O2.out, hk7, hk8, HQ.out⟩
      · go_simp
        refine hK1.out _ _ (HQ.out.alloc HQ.out.size _) (fun _ => ?_)
        clear hK1 K1
        have hb1 : Below wa0.heap.size wa0 (wa0.alloc (.cells #[.slice none 0 0] 24)) := (Below.refl _ _).alloc (Nat.le_refl _) _
        replace O1 := hide ((O1.out.below hb1).more hb1.size)
        have R7 := hide (RowAt.new wa0 24 #[.slice none 0 0])
        have G7 := hide HQ.out.size
        replace HQ := hide (HQ.out.alloc HQ.out.size (.cells #[.slice none 0 0] 24))
        clear hb1
        (try simp only [Act.put, List.getElem_toArray, List.getElem_cons_succ, List.getElem_cons_zero, List.setIfInBounds_toArray, List.set_cons_zero, List.set_cons_succ])
        generalize wa0.alloc (.cells #[.slice none 0 0] 24) = wa1 at *
        refine wpAnyH_ready (rs := [3, 5]) (by kernel_rfl) (by simp) ?_
        refine (AllReadyH.cons rfl (fun K2 hK2 => ?_) (AllReadyH.cons rfl (fun K2 hK2 => ?_) AllReadyH.nil))
        · go_simp
          refine (HO2.out _ (HQ.out)).mono ?_
          rintro e wa2 ⟨A8, k8, rfl, hk8, hkm8, ho8, hf8, hb2⟩
          replace O1 := hide ((O1.out.below hb2).more hb2.size)
          replace R7 := hide (R7.out.below hb2)
          have O2 := hide ho8
          replace HQ := hide (HQ.out.trans (hb2.mono HQ.out.size))
          refine hK2.out _ _ HQ.out (fun _ => ?_)
          clear hK2 K2 ho8 hf8 hb2
          (try simp only [Act.put, List.getElem_toArray, List.getElem_cons_succ, List.getElem_cons_zero, List.setIfInBounds_toArray, List.set_cons_zero, List.set_cons_succ])
          refine wpAnyH_ready (rs := [5]) (by kernel_rfl) (by simp) ?_
          refine (AllReadyH.cons rfl (fun K3 hK3 => ?_) AllReadyH.nil)
          · go_simp
            refine hK3.out _ _ (HQ.out.alloc HQ.out.size _) (fun _ => ?_)
            clear hK3 K3
            have hb3 : Below wa2.heap.size wa2 (wa2.alloc (.cells #[.slice none 0 0] 24)) := (Below.refl _ _).alloc (Nat.le_refl _) _
            have NE := hide (show wa0.heap.size ≠ wa2.heap.size from Nat.ne_of_lt R7.out.lt)
            replace O1 := hide ((O1.out.below hb3).more hb3.size)
            replace O2 := hide ((O2.out.below hb3).more hb3.size)
            replace R7 := hide (R7.out.below hb3)
            have R8 := hide (RowAt.new wa2 24 #[.slice none 0 0])
            have G8 := hide HQ.out.size
            replace HQ := hide (HQ.out.alloc HQ.out.size (.cells #[.slice none 0 0] 24))
            clear hb3
            (try simp only [Act.put, List.getElem_toArray, List.getElem_cons_succ, List.getElem_cons_zero, List.setIfInBounds_toArray, List.set_cons_zero, List.set_cons_succ])
            generalize wa2.alloc (.cells #[.slice none 0 0] 24) = wa3 at *
            refine wpAnyH_ready (rs := [6]) (by kernel_rfl) (by simp) ?_
            refine AllReadyH.cons rfl (fun K hK => ?_) AllReadyH.nil
            have l7 := R7.out.lt
            have z7 := row1 R7.out
            have f7 := R7.out.frozen 0
            go_simp
            refine hK.out _ _ (HQ.out.setCell (p := ⟨wa0.heap.size, 0, none⟩) G7.out _) (fun _ => ?_)
            clear hK K
            replace O1 := hide (O1.out.setRow R7.out (.slice A7 m1 k7))
            replace O2 := hide (O2.out.setRow R7.out (.slice A7 m1 k7))
            replace R8 := hide (R8.out.setNe (o := 0) (v := (.slice A7 m1 k7)) (g2 := wa0.heap.size) (Ne.symm NE.out))
            replace R7 := hide (R7.out.set 0 (.slice A7 m1 k7))
            replace HQ := hide (HQ.out.setCell (p := ⟨wa0.heap.size, 0, none⟩) G7.out (.slice A7 m1 k7))
            clear l7 z7 f7
            generalize wa3.setCell ⟨wa0.heap.size, 0, none⟩ (.slice A7 m1 k7) = wt7 at *
            (try simp only [Act.put, List.getElem_toArray, List.getElem_cons_succ, List.getElem_cons_zero, List.setIfInBounds_toArray, List.set_cons_zero, List.set_cons_succ])
            refine wpAnyH_ready (rs := [7]) (by kernel_rfl) (by simp) ?_
            refine AllReadyH.cons rfl (fun K hK => ?_) AllReadyH.nil
            have l8 := R8.out.lt
            have z8 := row1 R8.out
            have f8 := R8.out.frozen 0
            go_simp
            refine hK.out _ _ (HQ.out.setCell (p := ⟨wa2.heap.size, 0, none⟩) G8.out _) (fun _ => ?_)
            clear hK K
            replace O1 := hide (O1.out.setRow R8.out (.slice A8 m2 k8))
            replace O2 := hide (O2.out.setRow R8.out (.slice A8 m2 k8))
            replace R7 := hide (R7.out.setNe (o := 0) (v := (.slice A8 m2 k8)) (g2 := wa2.heap.size) NE.out)
            replace R8 := hide (R8.out.set 0 (.slice A8 m2 k8))
            replace HQ := hide (HQ.out.setCell (p := ⟨wa2.heap.size, 0, none⟩) G8.out (.slice A8 m2 k8))
            clear l8 z8 f8
            (try simp only [Act.put, List.getElem_toArray, List.getElem_cons_succ, List.getElem_cons_zero, List.setIfInBounds_toArray, List.set_cons_zero, List.set_cons_succ])
            refine wpAnyH_done (by kernel_rfl) ?_ _
            go_wp2_with fail
            go_meet
            case rel => exact ⟨_, A7, k7, _, A8, k8, rfl, rfl, R7.out, R8.out, O1.out, O2.out, hk7, hk8, HQ.out⟩
        · go_simp
          refine hK2.out _ _ (HQ.out.alloc HQ.out.size _) (fun _ => ?_)
          clear hK2 K2
          have hb2 : Below wa1.heap.size wa1 (wa1.alloc (.cells #[.slice none 0 0] 24)) := (Below.refl _ _).alloc (Nat.le_refl _) _
          have NE := hide (show wa0.heap.size ≠ wa1.heap.size from Nat.ne_of_lt R7.out.lt)
          replace O1 := hide ((O1.out.below hb2).more hb2.size)
          replace R7 := hide (R7.out.below hb2)
          have R8 := hide (RowAt.new wa1 24 #[.slice none 0 0])
          have G8 := hide HQ.out.size
          replace HQ := hide (HQ.out.alloc HQ.out.size (.cells #[.slice none 0 0] 24))
          clear hb2
          (try simp only [Act.put, List.getElem_toArray, List.getElem_cons_succ, List.getElem_cons_zero, List.setIfInBounds_toArray, List.set_cons_zero, List.set_cons_succ])
          generalize wa1.alloc (.cells #[.slice none 0 0] 24) = wa2 at *
          refine wpAnyH_ready (rs := [3]) (by kernel_rfl) (by simp) ?_
          refine (AllReadyH.cons rfl (fun K3 hK3 => ?_) AllReadyH.nil)
          · go_simp
            refine (HO2.out _ (HQ.out)).mono ?_
            rintro e wa3 ⟨A8, k8, rfl, hk8, hkm8, ho8, hf8, hb3⟩
            replace O1 := hide ((O1.out.below hb3).more hb3.size)
            replace R7 := hide (R7.out.below hb3)
            replace R8 := hide (R8.out.below hb3)
            have O2 := hide ho8
            replace HQ := hide (HQ.out.trans (hb3.mono HQ.out.size))
            refine hK3.out _ _ HQ.out (fun _ => ?_)
            clear hK3 K3 ho8 hf8 hb3
            (try simp only [Act.put, List.getElem_toArray, List.getElem_cons_succ, List.getElem_cons_zero, List.setIfInBounds_toArray, List.set_cons_zero, List.set_cons_succ])
            refine wpAnyH_ready (rs := [6]) (by kernel_rfl) (by simp) ?_
            refine AllReadyH.cons rfl (fun K hK => ?_) AllReadyH.nil
            have l7 := R7.out.lt
            have z7 := row1 R7.out
            have f7 := R7.out.frozen 0
            go_simp
            refine hK.out _ _ (HQ.out.setCell (p := ⟨wa0.heap.size, 0, none⟩) G7.out _) (fun _ => ?_)
            clear hK K
            replace O1 := hide (O1.out.setRow R7.out (.slice A7 m1 k7))
            replace O2 := hide (O2.out.setRow R7.out (.slice A7 m1 k7))
            replace R8 := hide (R8.out.setNe (o := 0) (v := (.slice A7 m1 k7)) (g2 := wa0.heap.size) (Ne.symm NE.out))
            replace R7 := hide (R7.out.set 0 (.slice A7 m1 k7))
            replace HQ := hide (HQ.out.setCell (p := ⟨wa0.heap.size, 0, none⟩) G7.out (.slice A7 m1 k7))
            clear l7 z7 f7
            generalize wa3.setCell ⟨wa0.heap.size, 0, none⟩ (.slice A7 m1 k7) = wt7 at *
            (try simp only [Act.put, List.getElem_toArray, List.getElem_cons_succ, List.getElem_cons_zero, List.setIfInBounds_toArray, List.set_cons_zero, List.set_cons_succ])
            refine wpAnyH_ready (rs := [7]) (by kernel_rfl) (by simp) ?_
            refine AllReadyH.cons rfl (fun K hK => ?_) AllReadyH.nil
            have l8 := R8.out.lt
            have z8 := row1 R8.out
            have f8 := R8.out.frozen 0
            go_simp
            refine hK.out _ _ (HQ.out.setCell (p := ⟨wa1.heap.size, 0, none⟩) G8.out _) (fun _ => ?_)
            clear hK K
            replace O1 := hide (O1.out.setRow R8.out (.slice A8 m2 k8))
            replace O2 := hide (O2.out.setRow R8.out (.slice A8 m2 k8))
            replace R7 := hide (R7.out.setNe (o := 0) (v := (.slice A8 m2 k8)) (g2 := wa1.heap.size) NE.out)
            replace R8 := hide (R8.out.set 0 (.slice A8 m2 k8))
            replace HQ := hide (HQ.out.setCell (p := ⟨wa1.heap.size, 0, none⟩) G8.out (.slice A8 m2 k8))
            clear l8 z8 f8
            (try simp only [Act.put, List.getElem_toArray, List.getElem_cons_succ, List.getElem_cons_zero, List.setIfInBounds_toArray, List.set_cons_zero, List.set_cons_succ])
            refine wpAnyH_done (by kernel_rfl) ?_ _
            go_wp2_with fail
            go_meet
            case rel => exact ⟨_, A7, k7, _, A8, k8, rfl, rfl, R7.out, R8.out, O1.out, O2.out, hk7, hk8, HQ.out⟩
      · go_simp
        refine hK1.out _ _ (HQ.out.alloc HQ.out.size _) (fun _ => ?_)
        clear hK1 K1
        have hb1 : Below wa0.heap.size wa0 (wa0.alloc (.cells #[.slice none 0 0] 24)) := (Below.refl _ _).alloc (Nat.le_refl _) _
        replace O1 := hide ((O1.out.below hb1).more hb1.size)
        have R8 := hide (RowAt.new wa0 24 #[.slice none 0 0])
        have G8 := hide HQ.out.size
        replace HQ := hide (HQ.out.alloc HQ.out.size (.cells #[.slice none 0 0] 24))
        clear hb1
        (try simp only [Act.put, List.getElem_toArray, List.getElem_cons_succ, List.getElem_cons_zero, List.setIfInBounds_toArray, List.set_cons_zero, List.set_cons_succ])
        generalize wa0.alloc (.cells #[.slice none 0 0] 24) = wa1 at *
        refine wpAnyH_ready (rs := [3, 4]) (by kernel_rfl) (by simp) ?_
        refine (AllReadyH.cons rfl (fun K2 hK2 => ?_) (AllReadyH.cons rfl (fun K2 hK2 => ?_) AllReadyH.nil))
        · go_simp
          refine (HO2.out _ (HQ.out)).mono ?_
          rintro e wa2 ⟨A8, k8, rfl, hk8, hkm8, ho8, hf8, hb2⟩
          replace O1 := hide ((O1.out.below hb2).more hb2.size)
          replace R8 := hide (R8.out.below hb2)
          have O2 := hide ho8
          replace HQ := hide (HQ.out.trans (hb2.mono HQ.out.size))
          refine hK2.out _ _ HQ.out (fun _ => ?_)
          clear hK2 K2 ho8 hf8 hb2
          (try simp only [Act.put, List.getElem_toArray, List.getElem_cons_succ, List.getElem_cons_zero, List.setIfInBounds_toArray, List.set_cons_zero, List.set_cons_succ])
          refine wpAnyH_ready (rs := [4]) (by kernel_rfl) (by simp) ?_
          refine (AllReadyH.cons rfl (fun K3 hK3 => ?_) AllReadyH.nil)
          · go_simp
            refine hK3.out _ _ (HQ.out.alloc HQ.out.size _) (fun _ => ?_)
            clear hK3 K3
            have hb3 : Below wa2.heap.size wa2 (wa2.alloc (.cells #[.slice none 0 0] 24)) := (Below.refl _ _).alloc (Nat.le_refl _) _
            have NE := hide (show wa2.heap.size ≠ wa0.heap.size from Nat.ne_of_gt R8.out.lt)
            replace O1 := hide ((O1.out.below hb3).more hb3.size)
            replace O2 := hide ((O2.out.below hb3).more hb3.size)
            replace R8 := hide (R8.out.below hb3)
            have R7 := hide (RowAt.new wa2 24 #[.slice none 0 0])
            have G7 := hide HQ.out.size
            replace HQ := hide (HQ.out.alloc HQ.out.size (.cells #[.slice none 0 0] 24))
            clear hb3
            (try simp only [Act.put, List.getElem_toArray, List.getElem_cons_succ, List.getElem_cons_zero, List.setIfInBounds_toArray, List.set_cons_zero, List.set_cons_succ])
            generalize wa2.alloc (.cells #[.slice none 0 0] 24) = wa3 at *
            refine wpAnyH_ready (rs := [6]) (by kernel_rfl) (by simp) ?_
            refine AllReadyH.cons rfl (fun K hK => ?_) AllReadyH.nil
            have l7 := R7.out.lt
            have z7 := row1 R7.out
            have f7 := R7.out.frozen 0
            go_simp
            refine hK.out _ _ (HQ.out.setCell (p := ⟨wa2.heap.size, 0, none⟩) G7.out _) (fun _ => ?_)
            clear hK K
            replace O1 := hide (O1.out.setRow R7.out (.slice A7 m1 k7))
            replace O2 := hide (O2.out.setRow R7.out (.slice A7 m1 k7))
            replace R8 := hide (R8.out.setNe (o := 0) (v := (.slice A7 m1 k7)) (g2 := wa2.heap.size) (Ne.symm NE.out))
            replace R7 := hide (R7.out.set 0 (.slice A7 m1 k7))
            replace HQ := hide (HQ.out.setCell (p := ⟨wa2.heap.size, 0, none⟩) G7.out (.slice A7 m1 k7))
            clear l7 z7 f7
            generalize wa3.setCell ⟨wa2.heap.size, 0, none⟩ (.slice A7 m1 k7) = wt7 at *
            (try simp only [Act.put, List.getElem_toArray, List.getElem_cons_succ, List.getElem_cons_zero, List.setIfInBounds_toArray, List.set_cons_zero, List.set_cons_succ])
            refine wpAnyH_ready (rs := [7]) (by kernel_rfl) (by simp) ?_
            refine AllReadyH.cons rfl (fun K hK => ?_) AllReadyH.nil
            have l8 := R8.out.lt
            have z8 := row1 R8.out
            have f8 := R8.out.frozen 0
            go_simp
            refine hK.out _ _ (HQ.out.setCell (p := ⟨wa0.heap.size, 0, none⟩) G8.out _) (fun _ => ?_)
            clear hK K
            replace O1 := hide (O1.out.setRow R8.out (.slice A8 m2 k8))
            replace O2 := hide (O2.out.setRow R8.out (.slice A8 m2 k8))
            replace R7 := hide (R7.out.setNe (o := 0) (v := (.slice A8 m2 k8)) (g2 := wa0.heap.size) NE.out)
            replace R8 := hide (R8.out.set 0 (.slice A8 m2 k8))
            replace HQ := hide (HQ.out.setCell (p := ⟨wa0.heap.size, 0, none⟩) G8.out (.slice A8 m2 k8))
            clear l8 z8 f8
            (try simp only [Act.put, List.getElem_toArray, List.getElem_cons_succ, List.getElem_cons_zero, List.setIfInBounds_toArray, List.set_cons_zero, List.set_cons_succ])
            refine wpAnyH_done (by kernel_rfl) ?_ _
            go_wp2_with fail
            go_meet
            case rel => exact ⟨_, A7, k7, _, A8, k8, rfl, rfl, R7.out, R8.out, O1.out, O2.out, hk7, hk8, HQ.out⟩
        · go_simp
          refine hK2.out _ _ (HQ.out.alloc HQ.out.size _) (fun _ => ?_)
          clear hK2 K2
          have hb2 : Below wa1.heap.size wa1 (wa1.alloc (.cells #[.slice none 0 0] 24)) := (Below.refl _ _).alloc (Nat.le_refl _) _
          have NE := hide (show wa1.heap.size ≠ wa0.heap.size from Nat.ne_of_gt R8.out.lt)
          replace O1 := hide ((O1.out.below hb2).more hb2.size)
          replace R8 := hide (R8.out.below hb2)
          have R7 := hide (RowAt.new wa1 24 #[.slice none 0 0])
          have G7 := hide HQ.out.size
          replace HQ := hide (HQ.out.alloc HQ.out.size (.cells #[.slice none 0 0] 24))
          clear hb2
          (try simp only [Act.put, List.getElem_toArray, List.getElem_cons_succ, List.getElem_cons_zero, List.setIfInBounds_toArray, List.set_cons_zero, List.set_cons_succ])
          generalize wa1.alloc (.cells #[.slice none 0 0] 24) = wa2 at *
          refine wpAnyH_ready (rs := [3]) (by kernel_rfl) (by simp) ?_
          refine (AllReadyH.cons rfl (fun K3 hK3 => ?_) AllReadyH.nil)
          · go_simp
            refine (HO2.out _ (HQ.out)).mono ?_
            rintro e wa3 ⟨A8, k8, rfl, hk8, hkm8, ho8, hf8, hb3⟩
            replace O1 := hide ((O1.out.below hb3).more hb3.size)
            replace R7 := hide (R7.out.below hb3)
            replace R8 := hide (R8.out.below hb3)
            have O2 := hide ho8
            replace HQ := hide (HQ.out.trans (hb3.mono HQ.out.size))
            refine hK3.out _ _ HQ.out (fun _ => ?_)
            clear hK3 K3 ho8 hf8 hb3
            (try simp only [Act.put, List.getElem_toArray, List.getElem_cons_succ, List.getElem_cons_zero, List.setIfInBounds_toArray, List.set_cons_zero, List.set_cons_succ])
            refine wpAnyH_ready (rs := [6]) (by kernel_rfl) (by simp) ?_
            refine AllReadyH.cons rfl (fun K hK => ?_) AllReadyH.nil
            have l7 := R7.out.lt
            have z7 := row1 R7.out
            have f7 := R7.out.frozen 0
            go_simp
            refine hK.out _ _ (HQ.out.setCell (p := ⟨wa1.heap.size, 0, none⟩) G7.out _) (fun _ => ?_)
            clear hK K
            replace O1 := hide (O1.out.setRow R7.out (.slice A7 m1 k7))
            replace O2 := hide (O2.out.setRow R7.out (.slice A7 m1 k7))
            replace R8 := hide (R8.out.setNe (o := 0) (v := (.slice A7 m1 k7)) (g2 := wa1.heap.size) (Ne.symm NE.out))
            replace R7 := hide (R7.out.set 0 (.slice A7 m1 k7))
            replace HQ := hide (HQ.out.setCell (p := ⟨wa1.heap.size, 0, none⟩) G7.out (.slice A7 m1 k7))
            clear l7 z7 f7
            generalize wa3.setCell ⟨wa1.heap.size, 0, none⟩ (.slice A7 m1 k7) = wt7 at *
            (try simp only [Act.put, List.getElem_toArray, List.getElem_cons_succ, List.getElem_cons_zero, List.setIfInBounds_toArray, List.set_cons_zero, List.set_cons_succ])
            refine wpAnyH_ready (rs := [7]) (by kernel_rfl) (by simp) ?_
            refine AllReadyH.cons rfl (fun K hK => ?_) AllReadyH.nil
            have l8 := R8.out.lt
            have z8 := row1 R8.out
            have f8 := R8.out.frozen 0
            go_simp
            refine hK.out _ _ (HQ.out.setCell (p := ⟨wa0.heap.size, 0, none⟩) G8.out _) (fun _ => ?_)
            clear hK K
            replace O1 := hide (O1.out.setRow R8.out (.slice A8 m2 k8))
            replace O2 := hide (O2.out.setRow R8.out (.slice A8 m2 k8))
            replace R7 := hide (R7.out.setNe (o := 0) (v := (.slice A8 m2 k8)) (g2 := wa0.heap.size) NE.out)
            replace R8 := hide (R8.out.set 0 (.slice A8 m2 k8))
            replace HQ := hide (HQ.out.setCell (p := ⟨wa0.heap.size, 0, none⟩) G8.out (.slice A8 m2 k8))
            clear l8 z8 f8
            (try simp only [Act.put, List.getElem_toArray, List.getElem_cons_succ, List.getElem_cons_zero, List.setIfInBounds_toArray, List.set_cons_zero, List.set_cons_succ])
            refine wpAnyH_done (by kernel_rfl) ?_ _
            go_wp2_with fail
            go_meet
            case rel => exact ⟨_, A7, k7, _, A8, k8, rfl, rfl, R7.out, R8.out, O1.out, O2.out, hk7, hk8, HQ.out⟩
    · go_simp
      refine hK0.out _ _ (HQ.out.alloc HQ.out.size _) (fun _ => ?_)
      clear hK0 K0
      have hb0 : Below wd.heap.size wd (wd.alloc (.cells #[.slice none 0 0] 24)) := (Below.refl _ _).alloc (Nat.le_refl _) _
      have R7 := hide (RowAt.new wd 24 #[.slice none 0 0])
      have G7 := hide HQ.out.size
      replace HQ := hide (HQ.out.alloc HQ.out.size (.cells #[.slice none 0 0] 24))
      clear hb0
      (try simp only [Act.put, List.getElem_toArray, List.getElem_cons_succ, List.getElem_cons_zero, List.setIfInBounds_toArray, List.set_cons_zero, List.set_cons_succ])
      generalize wd.alloc (.cells #[.slice none 0 0] 24) = wa0 at *
      refine wpAnyH_ready (rs := [1, 5]) (by kernel_rfl) (by simp) ?_
      refine (AllReadyH.cons rfl (fun K1 hK1 => ?_) (AllReadyH.cons rfl (fun K1 hK1 => ?_) AllReadyH.nil))
      · go_simp
        refine (HO1.out _ (HQ.out)).mono ?_
        rintro e wa1 ⟨A7, k7, rfl, hk7, hkm7, ho7, hf7, hb1⟩
        replace R7 := hide (R7.out.below hb1)
        have O1 := hide ho7
        replace HQ := hide (HQ.out.trans (hb1.mono HQ.out.size))
        refine hK1.out _ _ HQ.out (fun _ => ?_)
        clear hK1 K1 ho7 hf7 hb1
        (try simp only [Act.put, List.getElem_toArray, List.getElem_cons_succ, List.getElem_cons_zero, List.setIfInBounds_toArray, List.set_cons_zero, List.set_cons_succ])
        refine wpAnyH_ready (rs := [3, 5]) (by kernel_rfl) (by simp) ?_
        refine (AllReadyH.cons rfl (fun K2 hK2 => ?_) (AllReadyH.cons rfl (fun K2 hK2 => ?_) AllReadyH.nil))
        · go_simp
          refine (HO2.out _ (HQ.out)).mono ?_
          rintro e wa2 ⟨A8, k8, rfl, hk8, hkm8, ho8, hf8, hb2⟩
          replace O1 := hide ((O1.out.below hb2).more hb2.size)
          replace R7 := hide (R7.out.below hb2)
          have O2 := hide ho8
          replace HQ := hide (HQ.out.trans (hb2.mono HQ.out.size))
          refine hK2.out _ _ HQ.out (fun _ => ?_)
          clear hK2 K2 ho8 hf8 hb2
          (try simp only [Act.put, List.getElem_toArray, List.getElem_cons_succ, List.getElem_cons_zero, List.setIfInBounds_toArray, List.set_cons_zero, List.set_cons_succ])
          refine wpAnyH_ready (rs := [5]) (by kernel_rfl) (by simp) ?_
          refine (AllReadyH.cons rfl (fun K3 hK3 => ?_) AllReadyH.nil)
          · go_simp
            refine hK3.out _ _ (HQ.out.alloc HQ.out.size _) (fun _ => ?_)
            clear hK3 K3
            have hb3 : Below wa2.heap.size wa2 (wa2.alloc (.cells #[.slice none 0 0] 24)) := (Below.refl _ _).alloc (Nat.le_refl _) _
            have NE := hide (show wd.heap.size ≠ wa2.heap.size from Nat.ne_of_lt R7.out.lt)
            replace O1 := hide ((O1.out.below hb3).more hb3.size)
            replace O2 := hide ((O2.out.below hb3).more hb3.size)
            replace R7 := hide (R7.out.below hb3)
            have R8 := hide (RowAt.new wa2 24 #[.slice none 0 0])
            have G8 := hide HQ.out.size
            replace HQ := hide (HQ.out.alloc HQ.out.size (.cells #[.slice none 0 0] 24))
            clear hb3
            (try simp only [Act.put, List.getElem_toArray, List.getElem_cons_succ, List.getElem_cons_zero, List.setIfInBounds_toArray, List.set_cons_zero, List.set_cons_succ])
            generalize wa2.alloc (.cells #[.slice none 0 0] 24) = wa3 at *
            refine wpAnyH_ready (rs := [6]) (by kernel_rfl) (by simp) ?_
            refine AllReadyH.cons rfl (fun K hK => ?_) AllReadyH.nil
            have l7 := R7.out.lt
            have z7 := row1 R7.out
            have f7 := R7.out.frozen 0
            go_simp
            refine hK.out _ _ (HQ.out.setCell (p := ⟨wd.heap.size, 0, none⟩) G7.out _) (fun _ => ?_)
            clear hK K
            replace O1 := hide (O1.out.setRow R7.out (.slice A7 m1 k7))
            replace O2 := hide (O2.out.setRow R7.out (.slice A7 m1 k7))
            replace R8 := hide (R8.out.setNe (o := 0) (v := (.slice A7 m1 k7)) (g2 := wd.heap.size) (Ne.symm NE.out))
            replace R7 := hide (R7.out.set 0 (.slice A7 m1 k7))
            replace HQ := hide (HQ.out.setCell (p := ⟨wd.heap.size, 0, none⟩) G7.out (.slice A7 m1 k7))
            clear l7 z7 f7
            generalize wa3.setCell ⟨wd.heap.size, 0, none⟩ (.slice A7 m1 k7) = wt7 at *
            (try simp only [Act.put, List.getElem_toArray, List.getElem_cons_succ, List.getElem_cons_zero, List.setIfInBounds_toArray, List.set_cons_zero, List.set_cons_succ])
            refine wpAnyH_ready (rs := [7]) (by kernel_rfl) (by simp) ?_
            refine AllReadyH.cons rfl (fun K hK => ?_) AllReadyH.nil
            have l8 := R8.out.lt
            have z8 := row1 R8.out
            have f8 := R8.out.frozen 0
            go_simp
            refine hK.out _ _ (HQ.out.setCell (p := ⟨wa2.heap.size, 0, none⟩) G8.out _) (fun _ => ?_)
            clear hK K
            replace O1 := hide (O1.out.setRow R8.out (.slice A8 m2 k8))
            replace O2 := hide (O2.out.setRow R8.out (.slice A8 m2 k8))
            replace R7 := hide (R7.out.setNe (o := 0) (v := (.slice A8 m2 k8)) (g2 := wa2.heap.size) NE.out)
            replace R8 := hide (R8.out.set 0 (.slice A8 m2 k8))
            replace HQ := hide (HQ.out.setCell (p := ⟨wa2.heap.size, 0, none⟩) G8.out (.slice A8 m2 k8))
            clear l8 z8 f8
            (try simp only [Act.put, List.getElem_toArray, List.getElem_cons_succ, List.getElem_cons_zero, List.setIfInBounds_toArray, List.set_cons_zero, List.set_cons_succ])
            refine wpAnyH_done (by kernel_rfl) ?_ _
            go_wp2_with fail
            go_meet
            case rel => exact ⟨_, A7, k7, _, A8, k8, rfl, rfl, R7.out, R8.out, O1.out, O2.out, hk7, hk8, HQ.out⟩
        · go_simp
          refine hK2.out _ _ (HQ.out.alloc HQ.out.size _) (fun _ => ?_)
          clear hK2 K2
          have hb2 : Below wa1.heap.size wa1 (wa1.alloc (.cells #[.slice none 0 0] 24)) := (Below.refl _ _).alloc (Nat.le_refl _) _
          have NE := hide (show wd.heap.size ≠ wa1.heap.size from Nat.ne_of_lt R7.out.lt)
          replace O1 := hide ((O1.out.below hb2).more hb2.size)
          replace R7 := hide (R7.out.below hb2)
          have R8 := hide (RowAt.new wa1 24 #[.slice none 0 0])
          have G8 := hide HQ.out.size
          replace HQ := hide (HQ.out.alloc HQ.out.size (.cells #[.slice none 0 0] 24))
          clear hb2
          (try simp only [Act.put, List.getElem_toArray, List.getElem_cons_succ, List.getElem_cons_zero, List.setIfInBounds_toArray, List.set_cons_zero, List.set_cons_succ])
          generalize wa1.alloc (.cells #[.slice none 0 0] 24) = wa2 at *
          refine wpAnyH_ready (rs := [3]) (by kernel_rfl) (by simp) ?_
          refine (AllReadyH.cons rfl (fun K3 hK3 => ?_) AllReadyH.nil)
          · go_simp
            refine (HO2.out _ (HQ.out)).mono ?_
            rintro e wa3 ⟨A8, k8, rfl, hk8, hkm8, ho8, hf8, hb3⟩
            replace O1 := hide ((O1.out.below hb3).more hb3.size)
            replace R7 := hide (R7.out.below hb3)
            replace R8 := hide (R8.out.below hb3)
            have O2 := hide ho8
            replace HQ := hide (HQ.out.trans (hb3.mono HQ.out.size))
            refine hK3.out _ _ HQ.out (fun _ => ?_)
            clear hK3 K3 ho8 hf8 hb3
            (try simp only [Act.put, List.getElem_toArray, List.getElem_cons_succ, List.getElem_cons_zero, List.setIfInBounds_toArray, List.set_cons_zero, List.set_cons_succ])
            refine wpAnyH_ready (rs := [6]) (by kernel_rfl) (by simp) ?_
            refine AllReadyH.cons rfl (fun K hK => ?_) AllReadyH.nil
            have l7 := R7.out.lt
            have z7 := row1 R7.out
            have f7 := R7.out.frozen 0
            go_simp
            refine hK.out _ _ (HQ.out.setCell (p := ⟨wd.heap.size, 0, none⟩) G7.out _) (fun _ => ?_)
            clear hK K
            replace O1 := hide (O1.out.setRow R7.out (.slice A7 m1 k7))
            replace O2 := hide (O2.out.setRow R7.out (.slice A7 m1 k7))
            replace R8 := hide (R8.out.setNe (o := 0) (v := (.slice A7 m1 k7)) (g2 := wd.heap.size) (Ne.symm NE.out))
            replace R7 := hide (R7.out.set 0 (.slice A7 m1 k7))
            replace HQ := hide (HQ.out.setCell (p := ⟨wd.heap.size, 0, none⟩) G7.out (.slice A7 m1 k7))
            clear l7 z7 f7
            generalize wa3.setCell ⟨wd.heap.size, 0, none⟩ (.slice A7 m1 k7) = wt7 at *
            (try simp only [Act.put, List.getElem_toArray, List.getElem_cons_succ, List.getElem_cons_zero, List.setIfInBounds_toArray, List.set_cons_zero, List.set_cons_succ])
            refine wpAnyH_ready (rs := [7]) (by kernel_rfl) (by simp) ?_
            refine AllReadyH.cons rfl (fun K hK => ?_) AllReadyH.nil
            have l8 := R8.out.lt
            have z8 := row1 R8.out
            have f8 := R8.out.frozen 0
            go_simp
            refine hK.out _ _ (HQ.out.setCell (p := ⟨wa1.heap.size, 0, none⟩) G8.out _) (fun _ => ?_)
            clear hK K
            replace O1 := hide (O1.out.setRow R8.out (.slice A8 m2 k8))
            replace O2 := hide (O2.out.setRow R8.out (.slice A8 m2 k8))
            replace R7 := hide (R7.out.setNe (o := 0) (v := (.slice A8 m2 k8)) (g2 := wa1.heap.size) NE.out)
            replace R8 := hide (R8.out.set 0 (.slice A8 m2 k8))
            replace HQ := hide (HQ.out.setCell (p := ⟨wa1.heap.size, 0, none⟩) G8.out (.slice A8 m2 k8))
            clear l8 z8 f8
            (try simp only [Act.put, List.getElem_toArray, List.getElem_cons_succ, List.getElem_cons_zero, List.setIfInBounds_toArray, List.set_cons_zero, List.set_cons_succ])
            refine wpAnyH_done (by kernel_rfl) ?_ _
            go_wp2_with fail
            go_meet
            case rel => exact ⟨_, A7, k7, _, A8, k8, rfl, rfl, R7.out, R8.out, O1.out, O2.out, hk7, hk8, HQ.out⟩
      · go_simp
        refine hK1.out _ _ (HQ.out.alloc HQ.out.size _) (fun _ => ?_)
        clear hK1 K1
        have hb1 : Below wa0.heap.size wa0 (wa0.alloc (.cells #[.slice none 0 0] 24)) := (Below.refl _ _).alloc (Nat.le_refl _) _
        have NE := hide (show wd.heap.size ≠ wa0.heap.size from Nat.ne_of_lt R7.out.lt)
        replace R7 := hide (R7.out.below hb1)
        have R8 := hide (RowAt.new wa0 24 #[.slice none 0 0])
        have G8 := hide HQ.out.size
        replace HQ := hide (HQ.out.alloc HQ.out.size (.cells #[.slice none 0 0] 24))
        clear hb1
        (try simp only [Act.put, List.getElem_toArray, List.getElem_cons_succ, List.getElem_cons_zero, List.setIfInBounds_toArray, List.set_cons_zero, List.set_cons_succ])
        generalize wa0.alloc (.cells #[.slice none 0 0] 24) = wa1 at *
        refine wpAnyH_ready (rs := [1]) (by kernel_rfl) (by simp) ?_
        refine (AllReadyH.cons rfl (fun K2 hK2 => ?_) AllReadyH.nil)
        · go_simp
          refine (HO1.out _ (HQ.out)).mono ?_
          rintro e wa2 ⟨A7, k7, rfl, hk7, hkm7, ho7, hf7, hb2⟩
          replace R7 := hide (R7.out.below hb2)
          replace R8 := hide (R8.out.below hb2)
          have O1 := hide ho7
          replace HQ := hide (HQ.out.trans (hb2.mono HQ.out.size))
          refine hK2.out _ _ HQ.out (fun _ => ?_)
          clear hK2 K2 ho7 hf7 hb2
          (try simp only [Act.put, List.getElem_toArray, List.getElem_cons_succ, List.getElem_cons_zero, List.setIfInBounds_toArray, List.set_cons_zero, List.set_cons_succ])
          refine wpAnyH_ready (rs := [3]) (by kernel_rfl) (by simp) ?_
          refine (AllReadyH.cons rfl (fun K3 hK3 => ?_) AllReadyH.nil)
          · go_simp
            refine (HO2.out _ (HQ.out)).mono ?_
            rintro e wa3 ⟨A8, k8, rfl, hk8, hkm8, ho8, hf8, hb3⟩
            replace O1 := hide ((O1.out.below hb3).more hb3.size)
            replace R7 := hide (R7.out.below hb3)
            replace R8 := hide (R8.out.below hb3)
            have O2 := hide ho8
            replace HQ := hide (HQ.out.trans (hb3.mono HQ.out.size))
            refine hK3.out _ _ HQ.out (fun _ => ?_)
            clear hK3 K3 ho8 hf8 hb3
            (try simp only [Act.put, List.getElem_toArray, List.getElem_cons_succ, List.getElem_cons_zero, List.setIfInBounds_toArray, List.set_cons_zero, List.set_cons_succ])
            refine wpAnyH_ready (rs := [6]) (by kernel_rfl) (by simp) ?_
            refine AllReadyH.cons rfl (fun K hK => ?_) AllReadyH.nil
            have l7 := R7.out.lt
            have z7 := row1 R7.out
            have f7 := R7.out.frozen 0
            go_simp
            refine hK.out _ _ (HQ.out.setCell (p := ⟨wd.heap.size, 0, none⟩) G7.out _) (fun _ => ?_)
            clear hK K
            replace O1 := hide (O1.out.setRow R7.out (.slice A7 m1 k7))
            replace O2 := hide (O2.out.setRow R7.out (.slice A7 m1 k7))
            replace R8 := hide (R8.out.setNe (o := 0) (v := (.slice A7 m1 k7)) (g2 := wd.heap.size) (Ne.symm NE.out))
            replace R7 := hide (R7.out.set 0 (.slice A7 m1 k7))
            replace HQ := hide (HQ.out.setCell (p := ⟨wd.heap.size, 0, none⟩) G7.out (.slice A7 m1 k7))
            clear l7 z7 f7
            generalize wa3.setCell ⟨wd.heap.size, 0, none⟩ (.slice A7 m1 k7) = wt7 at *
            (try simp only [Act.put, List.getElem_toArray, List.getElem_cons_succ, List.getElem_cons_zero, List.setIfInBounds_toArray, List.set_cons_zero, List.set_cons_succ])
            refine wpAnyH_ready (rs := [7]) (by kernel_rfl) (by simp) ?_
            refine AllReadyH.cons rfl (fun K hK => ?_) AllReadyH.nil
            have l8 := R8.out.lt
            have z8 := row1 R8.out
            have f8 := R8.out.frozen 0
            go_simp
            refine hK.out _ _ (HQ.out.setCell (p := ⟨wa0.heap.size, 0, none⟩) G8.out _) (fun _ => ?_)
            clear hK K
            replace O1 := hide (O1.out.setRow R8.out (.slice A8 m2 k8))
            replace O2 := hide (O2.out.setRow R8.out (.slice A8 m2 k8))
            replace R7 := hide (R7.out.setNe (o := 0) (v := (.slice A8 m2 k8)) (g2 := wa0.heap.size) NE.out)
            replace R8 := hide (R8.out.set 0 (.slice A8 m2 k8))
            replace HQ := hide (HQ.out.setCell (p := ⟨wa0.heap.size, 0, none⟩) G8.out (.slice A8 m2 k8))
            clear l8 z8 f8
            (try simp only [Act.put, List.getElem_toArray, List.getElem_cons_succ, List.getElem_cons_zero, List.setIfInBounds_toArray, List.set_cons_zero, List.set_cons_succ])
            refine wpAnyH_done (by kernel_rfl) ?_ _
            go_wp2_with fail
            go_meet
            case rel => exact ⟨_, A7, k7, _, A8, k8, rfl, rfl, R7.out, R8.out, O1.out, O2.out, hk7, hk8, HQ.out⟩
    · go_simp
      refine hK0.out _ _ (HQ.out.alloc HQ.out.size _) (fun _ => ?_)
      clear hK0 K0
      have hb0 : Below wd.heap.size wd (wd.alloc (.cells #[.slice none 0 0] 24)) := (Below.refl _ _).alloc (Nat.le_refl _) _
      have R8 := hide (RowAt.new wd 24 #[.slice none 0 0])
      have G8 := hide HQ.out.size
      replace HQ := hide (HQ.out.alloc HQ.out.size (.cells #[.slice none 0 0] 24))
      clear hb0
      (try simp only [Act.put, List.getElem_toArray, List.getElem_cons_succ, List.getElem_cons_zero, List.setIfInBounds_toArray, List.set_cons_zero, List.set_cons_succ])
      generalize wd.alloc (.cells #[.slice none 0 0] 24) = wa0 at *
      refine wpAnyH_ready (rs := [1, 4]) (by kernel_rfl) (by simp) ?_
      refine (AllReadyH.cons rfl (fun K1 hK1 => ?_) (AllReadyH.cons rfl (fun K1 hK1 => ?_) AllReadyH.nil))
      · go_simp
        refine (HO1.out _ (HQ.out)).mono ?_
        rintro e wa1 ⟨A7, k7, rfl, hk7, hkm7, ho7, hf7, hb1⟩
        replace R8 := hide (R8.out.below hb1)
        have O1 := hide ho7
        replace HQ := hide (HQ.out.trans (hb1.mono HQ.out.size))
        refine hK1.out _ _ HQ.out (fun _ => ?_)
        clear hK1 K1 ho7 hf7 hb1
        (try simp only [Act.put, List.getElem_toArray, List.getElem_cons_succ, List.getElem_cons_zero, List.setIfInBounds_toArray, List.set_cons_zero, List.set_cons_succ])
        refine wpAnyH_ready (rs := [3, 4]) (by kernel_rfl) (by simp) ?_
        refine (AllReadyH.cons rfl (fun K2 hK2 => ?_) (AllReadyH.cons rfl (fun K2 hK2 => ?_) AllReadyH.nil))
        · go_simp
          refine (HO2.out _ (HQ.out)).mono ?_
          rintro e wa2 ⟨A8, k8, rfl, hk8, hkm8, ho8, hf8, hb2⟩
          replace O1 := hide ((O1.out.below hb2).more hb2.size)
          replace R8 := hide (R8.out.below hb2)
          have O2 := hide ho8
          replace HQ := hide (HQ.out.trans (hb2.mono HQ.out.size))
          refine hK2.out _ _ HQ.out (fun _ => ?_)
          clear hK2 K2 ho8 hf8 hb2
          (try simp only [Act.put, List.getElem_toArray, List.getElem_cons_succ, List.getElem_cons_zero, List.setIfInBounds_toArray, List.set_cons_zero, List.set_cons_succ])
          refine wpAnyH_ready (rs := [4]) (by kernel_rfl) (by simp) ?_
          refine (AllReadyH.cons rfl (fun K3 hK3 => ?_) AllReadyH.nil)
          · go_simp
            refine hK3.out _ _ (HQ.out.alloc HQ.out.size _) (fun _ => ?_)
            clear hK3 K3
            have hb3 : Below wa2.heap.size wa2 (wa2.alloc (.cells #[.slice none 0 0] 24)) := (Below.refl _ _).alloc (Nat.le_refl _) _
            have NE := hide (show wa2.heap.size ≠ wd.heap.size from Nat.ne_of_gt R8.out.lt)
            replace O1 := hide ((O1.out.below hb3).more hb3.size)
            replace O2 := hide ((O2.out.below hb3).more hb3.size)
            replace R8 := hide (R8.out.below hb3)
            have R7 := hide (RowAt.new wa2 24 #[.slice none 0 0])
            have G7 := hide HQ.out.size
            replace HQ := hide (HQ.out.alloc HQ.out.size (.cells #[.slice none 0 0] 24))
            clear hb3
            (try simp only [Act.put, List.getElem_toArray, List.getElem_cons_succ, List.getElem_cons_zero, List.setIfInBounds_toArray, List.set_cons_zero, List.set_cons_succ])
            generalize wa2.alloc (.cells #[.slice none 0 0] 24) = wa3 at *
            refine wpAnyH_ready (rs := [6]) (by kernel_rfl) (by simp) ?_
            refine AllReadyH.cons rfl (fun K hK => ?_) AllReadyH.nil
            have l7 := R7.out.lt
            have z7 := row1 R7.out
            have f7 := R7.out.frozen 0
            go_simp
            refine hK.out _ _ (HQ.out.setCell (p := ⟨wa2.heap.size, 0, none⟩) G7.out _) (fun _ => ?_)
            clear hK K
            replace O1 := hide (O1.out.setRow R7.out (.slice A7 m1 k7))
            replace O2 := hide (O2.out.setRow R7.out (.slice A7 m1 k7))
            replace R8 := hide (R8.out.setNe (o := 0) (v := (.slice A7 m1 k7)) (g2 := wa2.heap.size) (Ne.symm NE.out))
            replace R7 := hide (R7.out.set 0 (.slice A7 m1 k7))
            replace HQ := hide (HQ.out.setCell (p := ⟨wa2.heap.size, 0, none⟩) G7.out (.slice A7 m1 k7))
            clear l7 z7 f7
            generalize wa3.setCell ⟨wa2.heap.size, 0, none⟩ (.slice A7 m1 k7) = wt7 at *
            (try simp only [Act.put, List.getElem_toArray, List.getElem_cons_succ, List.getElem_cons_zero, List.setIfInBounds_toArray, List.set_cons_zero, List.set_cons_succ])
            refine wpAnyH_ready (rs := [7]) (by kernel_rfl) (by simp) ?_
            refine AllReadyH.cons rfl (fun K hK => ?_) AllReadyH.nil
            have l8 := R8.out.lt
            have z8 := row1 R8.out
            have f8 := R8.out.frozen 0
            go_simp
            refine hK.out _ _ (HQ.out.setCell (p := ⟨wd.heap.size, 0, none⟩) G8.out _) (fun _ => ?_)
            clear hK K
            replace O1 := hide (O1.out.setRow R8.out (.slice A8 m2 k8))
            replace O2 := hide (O2.out.setRow R8.out (.slice A8 m2 k8))
            replace R7 := hide (R7.out.setNe (o := 0) (v := (.slice A8 m2 k8)) (g2 := wd.heap.size) NE.out)
            replace R8 := hide (R8.out.set 0 (.slice A8 m2 k8))
            replace HQ := hide (HQ.out.setCell (p := ⟨wd.heap.size, 0, none⟩) G8.out (.slice A8 m2 k8))
            clear l8 z8 f8
            (try simp only [Act.put, List.getElem_toArray, List.getElem_cons_succ, List.getElem_cons_zero, List.setIfInBounds_toArray, List.set_cons_zero, List.set_cons_succ])
            refine wpAnyH_done (by kernel_rfl) ?_ _
            go_wp2_with fail
            go_meet
            case rel => exact ⟨_, A7, k7, _, A8, k8, rfl, rfl, R7.out, R8.out, O1.out, O2.out, hk7, hk8, HQ.out⟩
        · go_simp
          refine hK2.out _ _ (HQ.out.alloc HQ.out.size _) (fun _ => ?_)
          clear hK2 K2
          have hb2 : Below wa1.heap.size wa1 (wa1.alloc (.cells #[.slice none 0 0] 24)) := (Below.refl _ _).alloc (Nat.le_refl _) _
          have NE := hide (show wa1.heap.size ≠ wd.heap.size from Nat.ne_of_gt R8.out.lt)
          replace O1 := hide ((O1.out.below hb2).more hb2.size)
          replace R8 := hide (R8.out.below hb2)
          have R7 := hide (RowAt.new wa1 24 #[.slice none 0 0])
          have G7 := hide HQ.out.size
          replace HQ := hide (HQ.out.alloc HQ.out.size (.cells #[.slice none 0 0] 24))
          clear hb2
          (try simp only [Act.put, List.getElem_toArray, List.getElem_cons_succ, List.getElem_cons_zero, List.setIfInBounds_toArray, List.set_cons_zero, List.set_cons_succ])
          generalize wa1.alloc (.cells #[.slice none 0 0] 24) = wa2 at *
          refine wpAnyH_ready (rs := [3]) (by kernel_rfl) (by simp) ?_
          refine (AllReadyH.cons rfl (fun K3 hK3 => ?_) AllReadyH.nil)
          · go_simp
            refine (HO2.out _ (HQ.out)).mono ?_
            rintro e wa3 ⟨A8, k8, rfl, hk8, hkm8, ho8, hf8, hb3⟩
            replace O1 := hide ((O1.out.below hb3).more hb3.size)
            replace R7 := hide (R7.out.below hb3)
            replace R8 := hide (R8.out.below hb3)
            have O2 := hide ho8
            replace HQ := hide (HQ.out.trans (hb3.mono HQ.out.size))
            refine hK3.out _ _ HQ.out (fun _ => ?_)
            clear hK3 K3 ho8 hf8 hb3
            (try simp only [Act.put, List.getElem_toArray, List.getElem_cons_succ, List.getElem_cons_zero, List.setIfInBounds_toArray, List.set_cons_zero, List.set_cons_succ])
            refine wpAnyH_ready (rs := [6]) (by kernel_rfl) (by simp) ?_
            refine AllReadyH.cons rfl (fun K hK => ?_) AllReadyH.nil
            have l7 := R7.out.lt
            have z7 := row1 R7.out
            have f7 := R7.out.frozen 0
            go_simp
            refine hK.out _ _ (HQ.out.setCell (p := ⟨wa1.heap.size, 0, none⟩) G7.out _) (fun _ => ?_)
            clear hK K
            replace O1 := hide (O1.out.setRow R7.out (.slice A7 m1 k7))
            replace O2 := hide (O2.out.setRow R7.out (.slice A7 m1 k7))
            replace R8 := hide (R8.out.setNe (o := 0) (v := (.slice A7 m1 k7)) (g2 := wa1.heap.size) (Ne.symm NE.out))
            replace R7 := hide (R7.out.set 0 (.slice A7 m1 k7))
            replace HQ := hide (HQ.out.setCell (p := ⟨wa1.heap.size, 0, none⟩) G7.out (.slice A7 m1 k7))
            clear l7 z7 f7
            generalize wa3.setCell ⟨wa1.heap.size, 0, none⟩ (.slice A7 m1 k7) = wt7 at *
            (try simp only [Act.put, List.getElem_toArray, List.getElem_cons_succ, List.getElem_cons_zero, List.setIfInBounds_toArray, List.set_cons_zero, List.set_cons_succ])
            refine wpAnyH_ready (rs := [7]) (by kernel_rfl) (by simp) ?_
            refine AllReadyH.cons rfl (fun K hK => ?_) AllReadyH.nil
            have l8 := R8.out.lt
            have z8 := row1 R8.out
            have f8 := R8.out.frozen 0
            go_simp
            refine hK.out _ _ (HQ.out.setCell (p := ⟨wd.heap.size, 0, none⟩) G8.out _) (fun _ => ?_)
            clear hK K
            replace O1 := hide (O1.out.setRow R8.out (.slice A8 m2 k8))
            replace O2 := hide (O2.out.setRow R8.out (.slice A8 m2 k8))
            replace R7 := hide (R7.out.setNe (o := 0) (v := (.slice A8 m2 k8)) (g2 := wd.heap.size) NE.out)
            replace R8 := hide (R8.out.set 0 (.slice A8 m2 k8))
            replace HQ := hide (HQ.out.setCell (p := ⟨wd.heap.size, 0, none⟩) G8.out (.slice A8 m2 k8))
            clear l8 z8 f8
            (try simp only [Act.put, List.getElem_toArray, List.getElem_cons_succ, List.getElem_cons_zero, List.setIfInBounds_toArray, List.set_cons_zero, List.set_cons_succ])
            refine wpAnyH_done (by kernel_rfl) ?_ _
            go_wp2_with fail
            go_meet
            case rel => exact ⟨_, A7, k7, _, A8, k8, rfl, rfl, R7.out, R8.out, O1.out, O2.out, hk7, hk8, HQ.out⟩
      · go_simp
        refine hK1.out _ _ (HQ.out.alloc HQ.out.size _) (fun _ => ?_)
        clear hK1 K1
        have hb1 : Below wa0.heap.size wa0 (wa0.alloc (.cells #[.slice none 0 0] 24)) := (Below.refl _ _).alloc (Nat.le_refl _) _
        have NE := hide (show wa0.heap.size ≠ wd.heap.size from Nat.ne_of_gt R8.out.lt)
        replace R8 := hide (R8.out.below hb1)
        have R7 := hide (RowAt.new wa0 24 #[.slice none 0 0])
        have G7 := hide HQ.out.size
        replace HQ := hide (HQ.out.alloc HQ.out.size (.cells #[.slice none 0 0] 24))
        clear hb1
        (try simp only [Act.put, List.getElem_toArray, List.getElem_cons_succ, List.getElem_cons_zero, List.setIfInBounds_toArray, List.set_cons_zero, List.set_cons_succ])
        generalize wa0.alloc (.cells #[.slice none 0 0] 24) = wa1 at *
        refine wpAnyH_ready (rs := [1]) (by kernel_rfl) (by simp) ?_
        refine (AllReadyH.cons rfl (fun K2 hK2 => ?_) AllReadyH.nil)
        · go_simp
          refine (HO1.out _ (HQ.out)).mono ?_
          rintro e wa2 ⟨A7, k7, rfl, hk7, hkm7, ho7, hf7, hb2⟩
          replace R7 := hide (R7.out.below hb2)
          replace R8 := hide (R8.out.below hb2)
          have O1 := hide ho7
          replace HQ := hide (HQ.out.trans (hb2.mono HQ.out.size))
          refine hK2.out _ _ HQ.out (fun _ => ?_)
          clear hK2 K2 ho7 hf7 hb2
          (try simp only [Act.put, List.getElem_toArray, List.getElem_cons_succ, List.getElem_cons_zero, List.setIfInBounds_toArray, List.set_cons_zero, List.set_cons_succ])
          refine wpAnyH_ready (rs := [3]) (by kernel_rfl) (by simp) ?_
          refine (AllReadyH.cons rfl (fun K3 hK3 => ?_) AllReadyH.nil)
          · go_simp
            refine (HO2.out _ (HQ.out)).mono ?_
            rintro e wa3 ⟨A8, k8, rfl, hk8, hkm8, ho8, hf8, hb3⟩
            replace O1 := hide ((O1.out.below hb3).more hb3.size)
            replace R7 := hide (R7.out.below hb3)
            replace R8 := hide (R8.out.below hb3)
            have O2 := hide ho8
            replace HQ := hide (HQ.out.trans (hb3.mono HQ.out.size))
            refine hK3.out _ _ HQ.out (fun _ => ?_)
            clear hK3 K3 ho8 hf8 hb3
            (try simp only [Act.put, List.getElem_toArray, List.getElem_cons_succ, List.getElem_cons_zero, List.setIfInBounds_toArray, List.set_cons_zero, List.set_cons_succ])
            refine wpAnyH_ready (rs := [6]) (by kernel_rfl) (by simp) ?_
            refine AllReadyH.cons rfl (fun K hK => ?_) AllReadyH.nil
            have l7 := R7.out.lt
            have z7 := row1 R7.out
            have f7 := R7.out.frozen 0
            go_simp
            refine hK.out _ _ (HQ.out.setCell (p := ⟨wa0.heap.size, 0, none⟩) G7.out _) (fun _ => ?_)
            clear hK K
            replace O1 := hide (O1.out.setRow R7.out (.slice A7 m1 k7))
            replace O2 := hide (O2.out.setRow R7.out (.slice A7 m1 k7))
            replace R8 := hide (R8.out.setNe (o := 0) (v := (.slice A7 m1 k7)) (g2 := wa0.heap.size) (Ne.symm NE.out))
            replace R7 := hide (R7.out.set 0 (.slice A7 m1 k7))
            replace HQ := hide (HQ.out.setCell (p := ⟨wa0.heap.size, 0, none⟩) G7.out (.slice A7 m1 k7))
            clear l7 z7 f7
            generalize wa3.setCell ⟨wa0.heap.size, 0, none⟩ (.slice A7 m1 k7) = wt7 at *
            (try simp only [Act.put, List.getElem_toArray, List.getElem_cons_succ, List.getElem_cons_zero, List.setIfInBounds_toArray, List.set_cons_zero, List.set_cons_succ])
            refine wpAnyH_ready (rs := [7]) (by kernel_rfl) (by simp) ?_
            refine AllReadyH.cons rfl (fun K hK => ?_) AllReadyH.nil
            have l8 := R8.out.lt
            have z8 := row1 R8.out
            have f8 := R8.out.frozen 0
            go_simp
            refine hK.out _ _ (HQ.out.setCell (p := ⟨wd.heap.size, 0, none⟩) G8.out _) (fun _ => ?_)
            clear hK K
            replace O1 := hide (O1.out.setRow R8.out (.slice A8 m2 k8))
            replace O2 := hide (O2.out.setRow R8.out (.slice A8 m2 k8))
            replace R7 := hide (R7.out.setNe (o := 0) (v := (.slice A8 m2 k8)) (g2 := wd.heap.size) NE.out)
            replace R8 := hide (R8.out.set 0 (.slice A8 m2 k8))
            replace HQ := hide (HQ.out.setCell (p := ⟨wd.heap.size, 0, none⟩) G8.out (.slice A8 m2 k8))
            clear l8 z8 f8
            (try simp only [Act.put, List.getElem_toArray, List.getElem_cons_succ, List.getElem_cons_zero, List.setIfInBounds_toArray, List.set_cons_zero, List.set_cons_succ])
            refine wpAnyH_done (by kernel_rfl) ?_ _
            go_wp2_with fail
            go_meet
            case rel => exact ⟨_, A7, k7, _, A8, k8, rfl, rfl, R7.out, R8.out, O1.out, O2.out, hk7, hk8, HQ.out⟩
  case rest =>
    rename_i K hK
    refine hK _ _ ?_
    clear hK K
    obtain ⟨w2, hw2⟩ : ∃ w, w = wc := ⟨_, rfl⟩
    subst hw2
    obtain ⟨g7, A7, k7, g8, A8, k8, rfl, rfl, hr7, hr8, ho7, ho8, hk7, hk8, hb⟩ := hcut
    clear qR1 lR1 qR2 lR2
    replace R1 := hide (R1.out.below hb)
    replace R2 := hide (R2.out.below hb)
    replace HB := hide (HB.out.trans (hb.mono HB.out.size))
    have R7 := hide hr7
    have R8 := hide hr8
    have O7 := hide ho7
    have O8 := hide ho8
    clear hr7 hr8 ho7 ho8 hb HO1 HO2
    obtain ⟨r, hr⟩ : ∃ r, arOk S = r := ⟨_, rfl⟩
    have HR := hide hr
    clear hr
    obtain ⟨ck, hck⟩ : ∃ k : Int, (if r = true then 0 else 210) = k := ⟨_, rfl⟩
    have HKK := hide hck
    clear hck
    have HRR := hide (fun w (h : Rd w w.heap.size 2 A7 m1 (Cs encE S)) => rright_any w.heap.size A7 k7 m1 S w h HL1.out (Nat.le_refl _) r HR.out (by omega))
    have HCK := hide (fun w (h : Rd w w.heap.size 2 A7 m1 (Cs encE S)) => check_any w.heap.size A7 k7 m1 S w h HL1.out (Nat.le_refl _) ck (by unfold chk; rw [HR.out]; exact HKK.out) (by omega))
    have qR1 := row1 R1.out
    have lR1 := R1.out.lt
    have qR2 := row1 R2.out
    have lR2 := R2.out.lt
    have qR7 := row1 R7.out
    have lR7 := R7.out.lt
    have qR8 := row1 R8.out
    have lR8 := R8.out.lt
    go_wp2_with fail
    clear qR1 lR1 qR2 lR2 qR7 lR7 qR8 lR8
    with_reducible refine (HRR.out _ O7.out).mono ?_
    rintro e w3 ⟨rfl, hb⟩
    replace O7 := hide ((O7.out.below hb).more hb.size)
    replace O8 := hide ((O8.out.below hb).more hb.size)
    replace R1 := hide (R1.out.below hb)
    replace R2 := hide (R2.out.below hb)
    replace R7 := hide (R7.out.below hb)
    replace R8 := hide (R8.out.below hb)
    replace HB := hide (HB.out.trans (hb.mono HB.out.size))
    clear hb HRR
    have qR1 := row1 R1.out
    have lR1 := R1.out.lt
    have qR2 := row1 R2.out
    have lR2 := R2.out.lt
    have qR7 := row1 R7.out
    have lR7 := R7.out.lt
    have qR8 := row1 R8.out
    have lR8 := R8.out.lt
    go_wp2_with fail
    clear qR1 lR1 qR2 lR2 qR7 lR7 qR8 lR8
    with_reducible refine (HCK.out _ O7.out).mono ?_
    rintro e w4 ⟨rfl, hb⟩
    replace O7 := hide ((O7.out.below hb).more hb.size)
    replace O8 := hide ((O8.out.below hb).more hb.size)
    replace R1 := hide (R1.out.below hb)
    replace R2 := hide (R2.out.below hb)
    replace R7 := hide (R7.out.below hb)
    replace R8 := hide (R8.out.below hb)
    replace HB := hide (HB.out.trans (hb.mono HB.out.size))
    clear hb HCK
    obtain ⟨bb, hbb⟩ : ∃ b, decide (S = T) = b := ⟨_, rfl⟩
    have Q21 : Hid (∀ w, Below w4.heap.size w4 w → Calls Try.prog 21 #[.agg #[.slice A7 m1 k7], .agg #[.slice A8 m2 k8]] w fun e W' => e = .returned (.bool bb) ∧ Below w.heap.size w W') := hide (fun w hw => same_any A7 A8 k7 k8 m1 m2 S T w ((O7.out.below hw).more hw.size) ((O8.out.below hw).more hw.size) HL1.out HL2.out (by omega) (by omega) bb hbb)
    have Q18 : Hid (∀ w, Below w4.heap.size w4 w → Calls Try.prog 18 #[.agg #[.slice A7 m1 k7], .agg #[.slice A8 m2 k8]] w fun e W' => e = .returned (.bool bb) ∧ Below w.heap.size w W') := hide (fun w hw => rsame_any A7 A8 k7 k8 m1 m2 S T w ((O7.out.below hw).more hw.size) ((O8.out.below hw).more hw.size) HL1.out HL2.out (by omega) (by omega) bb hbb)
    have Q21x : Hid (∀ w A' c', Below w4.heap.size w4 w → Rd w w.heap.size 2 A' m1 (Cs encE S) → Calls Try.prog 21 #[.agg #[.slice A7 m1 k7], .agg #[.slice A' m1 c']] w fun e W' => e = .returned (.bool true) ∧ Below w.heap.size w W') := hide (fun w A' c' hw hr => same_any A7 A' k7 c' m1 m1 S S w ((O7.out.below hw).more hw.size) hr HL1.out HL1.out (by omega) (by omega) true (by simp))
    have QX : Hid (∀ w, Below w4.heap.size w4 w → Calls Try.prog 8 #[.agg #[.slice A1 n1 c1]] w fun e W' => ∃ A' c', e = .returned (.agg #[.slice A' m1 c']) ∧ Rd W' W'.heap.size 2 A' m1 (Cs encE S) ∧ Below w.heap.size w W') := hide (fun w hw => (HOWN1.out w (HB.out.trans (hw.mono HB.out.size))).mono fun e W' ⟨A', c', e1, _, _, e3, _, e5⟩ => ⟨A', c', e1, e3, e5⟩)
    have HS : Hid (∀ w w', (Below w4.heap.size w4 w ∧ w.cell? ⟨g7, 0, none⟩ = some (.slice A7 m1 k7) ∧ w.cell? ⟨g8, 0, none⟩ = some (.slice A8 m2 k8) ∧ w.cell? ⟨W.heap.size, 0, none⟩ = some (.slice A1 n1 c1)) → Below w.heap.size w w' → (Below w4.heap.size w4 w' ∧ w'.cell? ⟨g7, 0, none⟩ = some (.slice A7 m1 k7) ∧ w'.cell? ⟨g8, 0, none⟩ = some (.slice A8 m2 k8) ∧ w'.cell? ⟨W.heap.size, 0, none⟩ = some (.slice A1 n1 c1))) := hide (fun w w' h hb => ⟨h.1.trans (hb.mono h.1.size), kept hb h.2.1, kept hb h.2.2.1, kept hb h.2.2.2⟩)
    clear hbb
    have qR1 := row1 R1.out
    have lR1 := R1.out.lt
    have qR2 := row1 R2.out
    have lR2 := R2.out.lt
    have qR7 := row1 R7.out
    have lR7 := R7.out.lt
    have qR8 := row1 R8.out
    have lR8 := R8.out.lt
    go_upto_region 6 with fail
    go_cut [63] from 36 to 63 (fun s63 wx => s63 = .bool false ∧ Below w4.heap.size w4 wx)
    case first =>
      have hbd0 : Below w4.heap.size w4 w4.drew := (Below.refl _ _).drew
      cases r
      · have hk := HKK.out
        simp at hk
        subst hk
        refine wp_region_held_drew (S := fun wX => Below w4.heap.size w4 wX ∧ wX.cell? ⟨g7, 0, none⟩ = some (.slice A7 m1 k7) ∧ wX.cell? ⟨g8, 0, none⟩ = some (.slice A8 m2 k8) ∧ wX.cell? ⟨W.heap.size, 0, none⟩ = some (.slice A1 n1 c1)) (by kernel_rfl) (⟨hbd0, qR7, qR8, qR1⟩) (fun hHeld => ?_)
        (refine wpAnyH_take (i := 0) (v := ?_) rfl (by kernel_rfl) (by kernel_rfl) (by kernel_rfl) (fun _ _ _ h => h) (Or.inl ⟨by rfl, ?_⟩) (by assumption) ?_; rotate_left; (focus (intro w hSw; (try dsimp only at hSw); go_simp; first | done | with_reducible rfl)); (try simp only [Act.put, List.getElem_toArray, List.getElem_cons_succ, List.getElem_cons_zero, List.setIfInBounds_toArray, List.set_cons_zero, List.set_cons_succ]))
        (refine wpAnyH_take (i := 1) (v := ?_) rfl (by kernel_rfl) (by kernel_rfl) (by kernel_rfl) (fun _ _ _ h => h) (Or.inl ⟨by rfl, ?_⟩) (by assumption) ?_; rotate_left; (focus (intro w hSw; (try dsimp only at hSw); go_simp; first | done | with_reducible rfl)); (try simp only [Act.put, List.getElem_toArray, List.getElem_cons_succ, List.getElem_cons_zero, List.setIfInBounds_toArray, List.set_cons_zero, List.set_cons_succ]))
        (refine wpAnyH_take (i := 2) (v := ?_) rfl (by kernel_rfl) (by kernel_rfl) (by kernel_rfl) (fun _ _ _ h => h) (Or.inl ⟨by rfl, ?_⟩) (by assumption) ?_; rotate_left; (focus (intro w hSw; (try dsimp only at hSw); go_simp; first | done | with_reducible rfl)); (try simp only [Act.put, List.getElem_toArray, List.getElem_cons_succ, List.getElem_cons_zero, List.setIfInBounds_toArray, List.set_cons_zero, List.set_cons_succ]))
        (refine wpAnyH_take (i := 3) (v := ?_) rfl (by kernel_rfl) (by kernel_rfl) (by kernel_rfl) (fun _ _ _ h => h) (Or.inl ⟨by rfl, ?_⟩) (by assumption) ?_; rotate_left; (focus (intro w hSw; (try dsimp only at hSw); go_simp; first | done | with_reducible rfl)); (try simp only [Act.put, List.getElem_toArray, List.getElem_cons_succ, List.getElem_cons_zero, List.setIfInBounds_toArray, List.set_cons_zero, List.set_cons_succ]))
        (refine wpAnyH_take (i := 4) (v := ?_) rfl (by kernel_rfl) (by kernel_rfl) (by kernel_rfl) (fun _ _ _ h => h) (Or.inl ⟨by rfl, ?_⟩) (by assumption) ?_; rotate_left; (focus (intro w hSw; (try dsimp only at hSw); go_simp; first | done | with_reducible rfl)); (try simp only [Act.put, List.getElem_toArray, List.getElem_cons_succ, List.getElem_cons_zero, List.setIfInBounds_toArray, List.set_cons_zero, List.set_cons_succ]))
        (refine wpAnyH_take (i := 5) (v := ?_) rfl (by kernel_rfl) (by kernel_rfl) (by kernel_rfl) (fun _ _ _ h => h) (Or.inl ⟨by rfl, ?_⟩) (by assumption) ?_; rotate_left; (focus (intro w hSw; (try dsimp only at hSw); go_simp; first | done | with_reducible rfl)); (try simp only [Act.put, List.getElem_toArray, List.getElem_cons_succ, List.getElem_cons_zero, List.setIfInBounds_toArray, List.set_cons_zero, List.set_cons_succ]))
        (refine wpAnyH_take (i := 6) (v := ?_) rfl (by kernel_rfl) (by kernel_rfl) (by kernel_rfl) (fun _ _ _ h => h) (Or.inl ⟨by rfl, ?_⟩) (by assumption) ?_; rotate_left; (focus (intro w hSw; (try dsimp only at hSw); go_simp; first | done | with_reducible rfl)); (try simp only [Act.put, List.getElem_toArray, List.getElem_cons_succ, List.getElem_cons_zero, List.setIfInBounds_toArray, List.set_cons_zero, List.set_cons_succ]))
        (refine wpAnyH_take (i := 7) (v := ?_) rfl (by kernel_rfl) (by kernel_rfl) (by kernel_rfl) (fun _ _ _ h => h) (Or.inl ⟨by rfl, ?_⟩) (by assumption) ?_; rotate_left; (focus (intro w hSw; (try dsimp only at hSw); go_simp; first | done | with_reducible rfl)); (try simp only [Act.put, List.getElem_toArray, List.getElem_cons_succ, List.getElem_cons_zero, List.setIfInBounds_toArray, List.set_cons_zero, List.set_cons_succ]))
        (refine wpAnyH_take (i := 8) (v := ?_) rfl (by kernel_rfl) (by kernel_rfl) (by kernel_rfl) (fun _ _ _ h => h) (Or.inl ⟨by rfl, ?_⟩) (by assumption) ?_; rotate_left; (focus (intro w hSw; (try dsimp only at hSw); go_simp; first | done | with_reducible rfl)); (try simp only [Act.put, List.getElem_toArray, List.getElem_cons_succ, List.getElem_cons_zero, List.setIfInBounds_toArray, List.set_cons_zero, List.set_cons_succ]))
        (refine wpAnyH_take (i := 9) (v := ?_) rfl (by kernel_rfl) (by kernel_rfl) (by kernel_rfl) (fun _ _ _ h => h) (Or.inl ⟨by rfl, ?_⟩) (by assumption) ?_; rotate_left; (focus (intro w hSw; (try dsimp only at hSw); go_simp; first | done | with_reducible rfl)); (try simp only [Act.put, List.getElem_toArray, List.getElem_cons_succ, List.getElem_cons_zero, List.setIfInBounds_toArray, List.set_cons_zero, List.set_cons_succ]))
        (refine wpAnyH_take (i := 10) (v := ?_) rfl (by kernel_rfl) (by kernel_rfl) (by kernel_rfl) (fun _ _ _ h => h) (Or.inl ⟨by rfl, ?_⟩) (by assumption) ?_; rotate_left; (focus (intro w hSw; (try dsimp only at hSw); go_simp; first | done | with_reducible rfl)); (try simp only [Act.put, List.getElem_toArray, List.getElem_cons_succ, List.getElem_cons_zero, List.setIfInBounds_toArray, List.set_cons_zero, List.set_cons_succ]))
        (refine wpAnyH_take (i := 11) (v := ?_) rfl (by kernel_rfl) (by kernel_rfl) (by kernel_rfl) (fun _ _ _ h => h) (Or.inl ⟨by rfl, ?_⟩) (by assumption) ?_; rotate_left; (focus (intro w hSw; (try dsimp only at hSw); go_simp; first | done | with_reducible rfl)); (try simp only [Act.put, List.getElem_toArray, List.getElem_cons_succ, List.getElem_cons_zero, List.setIfInBounds_toArray, List.set_cons_zero, List.set_cons_succ]))
        (refine wpAnyH_take (i := 12) (v := ?_) rfl (by kernel_rfl) (by kernel_rfl) (by kernel_rfl) (fun _ _ _ h => h) (Or.inl ⟨by rfl, ?_⟩) (by assumption) ?_; rotate_left; (focus (intro w hSw; (try dsimp only at hSw); go_simp; first | done | with_reducible rfl)); (try simp only [Act.put, List.getElem_toArray, List.getElem_cons_succ, List.getElem_cons_zero, List.setIfInBounds_toArray, List.set_cons_zero, List.set_cons_succ]))
        (refine wpAnyH_take (i := 13) (v := ?_) rfl (by kernel_rfl) (by kernel_rfl) (by kernel_rfl) (fun _ _ _ h => h) (Or.inl ⟨by rfl, ?_⟩) (by assumption) ?_; rotate_left; (focus (intro w hSw; (try dsimp only at hSw); go_simp; first | done | with_reducible rfl)); (try simp only [Act.put, List.getElem_toArray, List.getElem_cons_succ, List.getElem_cons_zero, List.setIfInBounds_toArray, List.set_cons_zero, List.set_cons_succ]))
        (refine wpAnyH_take (i := 14) (v := ?_) rfl (by kernel_rfl) (by kernel_rfl) (by kernel_rfl) (fun _ _ _ h => h) (Or.inl ⟨by rfl, ?_⟩) (by assumption) ?_; rotate_left; (focus (intro w hSw; (try dsimp only at hSw); go_simp; first | done | with_reducible rfl)); (try simp only [Act.put, List.getElem_toArray, List.getElem_cons_succ, List.getElem_cons_zero, List.setIfInBounds_toArray, List.set_cons_zero, List.set_cons_succ]))
        (refine wpAnyH_take (i := 16) (v := ?_) rfl (by kernel_rfl) (by kernel_rfl) (by kernel_rfl) (fun _ _ _ h => h) (Or.inl ⟨by rfl, ?_⟩) (by assumption) ?_; rotate_left; (focus (intro w hSw; (try dsimp only at hSw); go_simp; first | done | with_reducible rfl)); (try simp only [Act.put, List.getElem_toArray, List.getElem_cons_succ, List.getElem_cons_zero, List.setIfInBounds_toArray, List.set_cons_zero, List.set_cons_succ]))
        (refine wpAnyH_take (i := 17) (v := ?_) rfl (by kernel_rfl) (by kernel_rfl) (by kernel_rfl) (fun _ _ _ h => h) (Or.inl ⟨by rfl, ?_⟩) (by assumption) ?_; rotate_left; (focus (intro w hSw; (try dsimp only at hSw); go_simp; first | done | with_reducible rfl)); (try simp only [Act.put, List.getElem_toArray, List.getElem_cons_succ, List.getElem_cons_zero, List.setIfInBounds_toArray, List.set_cons_zero, List.set_cons_succ]))
        refine wpAnyH_ready (rs := [15]) (by kernel_rfl) (by simp) ?_
        refine AllReadyH.cons rfl (fun K hK => ?_) AllReadyH.nil
        go_simp
        (with_reducible refine (Q21.out _ (And.left hHeld)).mono ?_; rintro e w5 ⟨rfl, hb⟩)
        refine hK.out _ _ (HS.out _ _ hHeld hb) (fun hHeld => ?_)
        clear hK K
        (try simp only [Act.put, List.getElem_toArray, List.getElem_cons_succ, List.getElem_cons_zero, List.setIfInBounds_toArray, List.set_cons_zero, List.set_cons_succ])
        refine wpAnyH_ready (rs := [18]) (by kernel_rfl) (by simp) ?_
        refine AllReadyH.cons rfl (fun K hK => ?_) AllReadyH.nil
        go_simp
        (with_reducible refine (Q18.out _ (And.left hHeld)).mono ?_; rintro e w6 ⟨rfl, hb⟩)
        refine hK.out _ _ (HS.out _ _ hHeld hb) (fun hHeld => ?_)
        clear hK K
        (try simp only [Act.put, List.getElem_toArray, List.getElem_cons_succ, List.getElem_cons_zero, List.setIfInBounds_toArray, List.set_cons_zero, List.set_cons_succ])
        (refine wpAnyH_take (i := 19) (v := ?_) rfl (by kernel_rfl) (by kernel_rfl) (by kernel_rfl) (fun _ _ _ h => h) (Or.inl ⟨by rfl, ?_⟩) (by assumption) ?_; rotate_left; (focus (intro w hSw; (try dsimp only at hSw); go_simp; first | done | with_reducible rfl)); (try simp only [Act.put, List.getElem_toArray, List.getElem_cons_succ, List.getElem_cons_zero, List.setIfInBounds_toArray, List.set_cons_zero, List.set_cons_succ]))
        (refine wpAnyH_take (i := 20) (v := ?_) rfl (by kernel_rfl) (by kernel_rfl) (by kernel_rfl) (fun _ _ _ h => h) (Or.inl ⟨by rfl, ?_⟩) (by assumption) ?_; rotate_left; (focus (intro w hSw; (try dsimp only at hSw); go_simp; first | done | with_reducible rfl)); (try simp only [Act.put, List.getElem_toArray, List.getElem_cons_succ, List.getElem_cons_zero, List.setIfInBounds_toArray, List.set_cons_zero, List.set_cons_succ]))
        (refine wpAnyH_take (i := 21) (v := ?_) rfl (by kernel_rfl) (by kernel_rfl) (by kernel_rfl) (fun _ _ _ h => h) (Or.inl ⟨by rfl, ?_⟩) (by assumption) ?_; rotate_left; (focus (intro w hSw; (try dsimp only at hSw); go_simp; first | done | with_reducible rfl)); (try simp only [Act.put, List.getElem_toArray, List.getElem_cons_succ, List.getElem_cons_zero, List.setIfInBounds_toArray, List.set_cons_zero, List.set_cons_succ]))
        (refine wpAnyH_take (i := 22) (v := ?_) rfl (by kernel_rfl) (by kernel_rfl) (by kernel_rfl) (fun _ _ _ h => h) (Or.inl ⟨by rfl, ?_⟩) (by assumption) ?_; rotate_left; (focus (intro w hSw; (try dsimp only at hSw); go_simp; first | done | with_reducible rfl)); (try simp only [Act.put, List.getElem_toArray, List.getElem_cons_succ, List.getElem_cons_zero, List.setIfInBounds_toArray, List.set_cons_zero, List.set_cons_succ]))
        (refine wpAnyH_take (i := 23) (v := ?_) rfl (by kernel_rfl) (by kernel_rfl) (by kernel_rfl) (fun _ _ _ h => h) (Or.inl ⟨by rfl, ?_⟩) (by assumption) ?_; rotate_left; (focus (intro w hSw; (try dsimp only at hSw); go_simp; first | done | with_reducible rfl)); (try simp only [Act.put, List.getElem_toArray, List.getElem_cons_succ, List.getElem_cons_zero, List.setIfInBounds_toArray, List.set_cons_zero, List.set_cons_succ]))
        refine wpAnyH_ready (rs := [24]) (by kernel_rfl) (by simp) ?_
        refine AllReadyH.cons rfl (fun K hK => ?_) AllReadyH.nil
        go_simp
        (with_reducible refine (QX.out _ (And.left hHeld)).mono ?_; rintro e w7 ⟨Ay, cy, rfl, hrdy, hb⟩)
        refine hK.out _ _ (HS.out _ _ hHeld hb) (fun hHeld => ?_)
        clear hK K
        (try simp only [Act.put, List.getElem_toArray, List.getElem_cons_succ, List.getElem_cons_zero, List.setIfInBounds_toArray, List.set_cons_zero, List.set_cons_succ])
        refine wpAnyH_ready (rs := [25]) (by kernel_rfl) (by simp) ?_
        refine AllReadyH.cons rfl (fun K hK => ?_) AllReadyH.nil
        go_simp
        (with_reducible refine (Q21x.out _ _ _ (And.left hHeld) hrdy).mono ?_; rintro e w8 ⟨rfl, hb⟩)
        refine hK.out _ _ (HS.out _ _ hHeld hb) (fun hHeld => ?_)
        clear hK K
        (try simp only [Act.put, List.getElem_toArray, List.getElem_cons_succ, List.getElem_cons_zero, List.setIfInBounds_toArray, List.set_cons_zero, List.set_cons_succ])
        (refine wpAnyH_take (i := 26) (v := ?_) rfl (by kernel_rfl) (by kernel_rfl) (by kernel_rfl) (fun _ _ _ h => h) (Or.inl ⟨by rfl, ?_⟩) (by assumption) ?_; rotate_left; (focus (intro w hSw; (try dsimp only at hSw); go_simp; first | done | with_reducible rfl)); (try simp only [Act.put, List.getElem_toArray, List.getElem_cons_succ, List.getElem_cons_zero, List.setIfInBounds_toArray, List.set_cons_zero, List.set_cons_succ]))
        (refine wpAnyH_take (i := 27) (v := ?_) rfl (by kernel_rfl) (by kernel_rfl) (by kernel_rfl) (fun _ _ _ h => h) (Or.inl ⟨by rfl, ?_⟩) (by assumption) ?_; rotate_left; (focus (intro w hSw; (try dsimp only at hSw); go_simp; first | done | with_reducible rfl)); (try simp only [Act.put, List.getElem_toArray, List.getElem_cons_succ, List.getElem_cons_zero, List.setIfInBounds_toArray, List.set_cons_zero, List.set_cons_succ]))
        refine wpAnyH_done (by kernel_rfl) ?_ _
        have hbd := And.left ‹Below w4.heap.size w4 _ ∧ _›
        go_wp2_with fail
        go_meet
        case rel => exact ⟨rfl, hbd⟩
      · have hk := HKK.out
        simp at hk
        subst hk
        refine wp_region_held_drew (S := fun wX => Below w4.heap.size w4 wX ∧ wX.cell? ⟨g7, 0, none⟩ = some (.slice A7 m1 k7) ∧ wX.cell? ⟨g8, 0, none⟩ = some (.slice A8 m2 k8) ∧ wX.cell? ⟨W.heap.size, 0, none⟩ = some (.slice A1 n1 c1)) (by kernel_rfl) (⟨hbd0, qR7, qR8, qR1⟩) (fun hHeld => ?_)
        (refine wpAnyH_take (i := 0) (v := ?_) rfl (by kernel_rfl) (by kernel_rfl) (by kernel_rfl) (fun _ _ _ h => h) (Or.inl ⟨by rfl, ?_⟩) (by assumption) ?_; rotate_left; (focus (intro w hSw; (try dsimp only at hSw); go_simp; first | done | with_reducible rfl)); (try simp only [Act.put, List.getElem_toArray, List.getElem_cons_succ, List.getElem_cons_zero, List.setIfInBounds_toArray, List.set_cons_zero, List.set_cons_succ]))
        (refine wpAnyH_take (i := 1) (v := ?_) rfl (by kernel_rfl) (by kernel_rfl) (by kernel_rfl) (fun _ _ _ h => h) (Or.inl ⟨by rfl, ?_⟩) (by assumption) ?_; rotate_left; (focus (intro w hSw; (try dsimp only at hSw); go_simp; first | done | with_reducible rfl)); (try simp only [Act.put, List.getElem_toArray, List.getElem_cons_succ, List.getElem_cons_zero, List.setIfInBounds_toArray, List.set_cons_zero, List.set_cons_succ]))
        (refine wpAnyH_take (i := 2) (v := ?_) rfl (by kernel_rfl) (by kernel_rfl) (by kernel_rfl) (fun _ _ _ h => h) (Or.inl ⟨by rfl, ?_⟩) (by assumption) ?_; rotate_left; (focus (intro w hSw; (try dsimp only at hSw); go_simp; first | done | with_reducible rfl)); (try simp only [Act.put, List.getElem_toArray, List.getElem_cons_succ, List.getElem_cons_zero, List.setIfInBounds_toArray, List.set_cons_zero, List.set_cons_succ]))
        (refine wpAnyH_take (i := 3) (v := ?_) rfl (by kernel_rfl) (by kernel_rfl) (by kernel_rfl) (fun _ _ _ h => h) (Or.inl ⟨by rfl, ?_⟩) (by assumption) ?_; rotate_left; (focus (intro w hSw; (try dsimp only at hSw); go_simp; first | done | with_reducible rfl)); (try simp only [Act.put, List.getElem_toArray, List.getElem_cons_succ, List.getElem_cons_zero, List.setIfInBounds_toArray, List.set_cons_zero, List.set_cons_succ]))
        (refine wpAnyH_take (i := 4) (v := ?_) rfl (by kernel_rfl) (by kernel_rfl) (by kernel_rfl) (fun _ _ _ h => h) (Or.inl ⟨by rfl, ?_⟩) (by assumption) ?_; rotate_left; (focus (intro w hSw; (try dsimp only at hSw); go_simp; first | done | with_reducible rfl)); (try simp only [Act.put, List.getElem_toArray, List.getElem_cons_succ, List.getElem_cons_zero, List.setIfInBounds_toArray, List.set_cons_zero, List.set_cons_succ]))
        (refine wpAnyH_take (i := 5) (v := ?_) rfl (by kernel_rfl) (by kernel_rfl) (by kernel_rfl) (fun _ _ _ h => h) (Or.inl ⟨by rfl, ?_⟩) (by assumption) ?_; rotate_left; (focus (intro w hSw; (try dsimp only at hSw); go_simp; first | done | with_reducible rfl)); (try simp only [Act.put, List.getElem_toArray, List.getElem_cons_succ, List.getElem_cons_zero, List.setIfInBounds_toArray, List.set_cons_zero, List.set_cons_succ]))
        (refine wpAnyH_take (i := 6) (v := ?_) rfl (by kernel_rfl) (by kernel_rfl) (by kernel_rfl) (fun _ _ _ h => h) (Or.inl ⟨by rfl, ?_⟩) (by assumption) ?_; rotate_left; (focus (intro w hSw; (try dsimp only at hSw); go_simp; first | done | with_reducible rfl)); (try simp only [Act.put, List.getElem_toArray, List.getElem_cons_succ, List.getElem_cons_zero, List.setIfInBounds_toArray, List.set_cons_zero, List.set_cons_succ]))
        (refine wpAnyH_take (i := 7) (v := ?_) rfl (by kernel_rfl) (by kernel_rfl) (by kernel_rfl) (fun _ _ _ h => h) (Or.inl ⟨by rfl, ?_⟩) (by assumption) ?_; rotate_left; (focus (intro w hSw; (try dsimp only at hSw); go_simp; first | done | with_reducible rfl)); (try simp only [Act.put, List.getElem_toArray, List.getElem_cons_succ, List.getElem_cons_zero, List.setIfInBounds_toArray, List.set_cons_zero, List.set_cons_succ]))
        (refine wpAnyH_take (i := 8) (v := undef) rfl (by kernel_rfl) (by kernel_rfl) (by kernel_rfl) (fun _ _ _ h => h) (Or.inr ⟨by rfl, rfl⟩) (by assumption) ?_; (try simp only [Act.put, List.getElem_toArray, List.getElem_cons_succ, List.getElem_cons_zero, List.setIfInBounds_toArray, List.set_cons_zero, List.set_cons_succ]))
        (refine wpAnyH_take (i := 9) (v := undef) rfl (by kernel_rfl) (by kernel_rfl) (by kernel_rfl) (fun _ _ _ h => h) (Or.inr ⟨by rfl, rfl⟩) (by assumption) ?_; (try simp only [Act.put, List.getElem_toArray, List.getElem_cons_succ, List.getElem_cons_zero, List.setIfInBounds_toArray, List.set_cons_zero, List.set_cons_succ]))
        (refine wpAnyH_take (i := 10) (v := ?_) rfl (by kernel_rfl) (by kernel_rfl) (by kernel_rfl) (fun _ _ _ h => h) (Or.inl ⟨by rfl, ?_⟩) (by assumption) ?_; rotate_left; (focus (intro w hSw; (try dsimp only at hSw); go_simp; first | done | with_reducible rfl)); (try simp only [Act.put, List.getElem_toArray, List.getElem_cons_succ, List.getElem_cons_zero, List.setIfInBounds_toArray, List.set_cons_zero, List.set_cons_succ]))
        (refine wpAnyH_take (i := 11) (v := ?_) rfl (by kernel_rfl) (by kernel_rfl) (by kernel_rfl) (fun _ _ _ h => h) (Or.inl ⟨by rfl, ?_⟩) (by assumption) ?_; rotate_left; (focus (intro w hSw; (try dsimp only at hSw); go_simp; first | done | with_reducible rfl)); (try simp only [Act.put, List.getElem_toArray, List.getElem_cons_succ, List.getElem_cons_zero, List.setIfInBounds_toArray, List.set_cons_zero, List.set_cons_succ]))
        (refine wpAnyH_take (i := 12) (v := ?_) rfl (by kernel_rfl) (by kernel_rfl) (by kernel_rfl) (fun _ _ _ h => h) (Or.inl ⟨by rfl, ?_⟩) (by assumption) ?_; rotate_left; (focus (intro w hSw; (try dsimp only at hSw); go_simp; first | done | with_reducible rfl)); (try simp only [Act.put, List.getElem_toArray, List.getElem_cons_succ, List.getElem_cons_zero, List.setIfInBounds_toArray, List.set_cons_zero, List.set_cons_succ]))
        (refine wpAnyH_take (i := 13) (v := ?_) rfl (by kernel_rfl) (by kernel_rfl) (by kernel_rfl) (fun _ _ _ h => h) (Or.inl ⟨by rfl, ?_⟩) (by assumption) ?_; rotate_left; (focus (intro w hSw; (try dsimp only at hSw); go_simp; first | done | with_reducible rfl)); (try simp only [Act.put, List.getElem_toArray, List.getElem_cons_succ, List.getElem_cons_zero, List.setIfInBounds_toArray, List.set_cons_zero, List.set_cons_succ]))
        (refine wpAnyH_take (i := 14) (v := ?_) rfl (by kernel_rfl) (by kernel_rfl) (by kernel_rfl) (fun _ _ _ h => h) (Or.inl ⟨by rfl, ?_⟩) (by assumption) ?_; rotate_left; (focus (intro w hSw; (try dsimp only at hSw); go_simp; first | done | with_reducible rfl)); (try simp only [Act.put, List.getElem_toArray, List.getElem_cons_succ, List.getElem_cons_zero, List.setIfInBounds_toArray, List.set_cons_zero, List.set_cons_succ]))
        (refine wpAnyH_take (i := 16) (v := ?_) rfl (by kernel_rfl) (by kernel_rfl) (by kernel_rfl) (fun _ _ _ h => h) (Or.inl ⟨by rfl, ?_⟩) (by assumption) ?_; rotate_left; (focus (intro w hSw; (try dsimp only at hSw); go_simp; first | done | with_reducible rfl)); (try simp only [Act.put, List.getElem_toArray, List.getElem_cons_succ, List.getElem_cons_zero, List.setIfInBounds_toArray, List.set_cons_zero, List.set_cons_succ]))
        (refine wpAnyH_take (i := 17) (v := ?_) rfl (by kernel_rfl) (by kernel_rfl) (by kernel_rfl) (fun _ _ _ h => h) (Or.inl ⟨by rfl, ?_⟩) (by assumption) ?_; rotate_left; (focus (intro w hSw; (try dsimp only at hSw); go_simp; first | done | with_reducible rfl)); (try simp only [Act.put, List.getElem_toArray, List.getElem_cons_succ, List.getElem_cons_zero, List.setIfInBounds_toArray, List.set_cons_zero, List.set_cons_succ]))
        refine wpAnyH_ready (rs := [15]) (by kernel_rfl) (by simp) ?_
        refine AllReadyH.cons rfl (fun K hK => ?_) AllReadyH.nil
        go_simp
        (with_reducible refine (Q21.out _ (And.left hHeld)).mono ?_; rintro e w5 ⟨rfl, hb⟩)
        refine hK.out _ _ (HS.out _ _ hHeld hb) (fun hHeld => ?_)
        clear hK K
        (try simp only [Act.put, List.getElem_toArray, List.getElem_cons_succ, List.getElem_cons_zero, List.setIfInBounds_toArray, List.set_cons_zero, List.set_cons_succ])
        refine wpAnyH_ready (rs := [18]) (by kernel_rfl) (by simp) ?_
        refine AllReadyH.cons rfl (fun K hK => ?_) AllReadyH.nil
        go_simp
        (with_reducible refine (Q18.out _ (And.left hHeld)).mono ?_; rintro e w6 ⟨rfl, hb⟩)
        refine hK.out _ _ (HS.out _ _ hHeld hb) (fun hHeld => ?_)
        clear hK K
        (try simp only [Act.put, List.getElem_toArray, List.getElem_cons_succ, List.getElem_cons_zero, List.setIfInBounds_toArray, List.set_cons_zero, List.set_cons_succ])
        (refine wpAnyH_take (i := 19) (v := ?_) rfl (by kernel_rfl) (by kernel_rfl) (by kernel_rfl) (fun _ _ _ h => h) (Or.inl ⟨by rfl, ?_⟩) (by assumption) ?_; rotate_left; (focus (intro w hSw; (try dsimp only at hSw); go_simp; first | done | with_reducible rfl)); (try simp only [Act.put, List.getElem_toArray, List.getElem_cons_succ, List.getElem_cons_zero, List.setIfInBounds_toArray, List.set_cons_zero, List.set_cons_succ]))
        (refine wpAnyH_take (i := 20) (v := ?_) rfl (by kernel_rfl) (by kernel_rfl) (by kernel_rfl) (fun _ _ _ h => h) (Or.inl ⟨by rfl, ?_⟩) (by assumption) ?_; rotate_left; (focus (intro w hSw; (try dsimp only at hSw); go_simp; first | done | with_reducible rfl)); (try simp only [Act.put, List.getElem_toArray, List.getElem_cons_succ, List.getElem_cons_zero, List.setIfInBounds_toArray, List.set_cons_zero, List.set_cons_succ]))
        (refine wpAnyH_take (i := 21) (v := ?_) rfl (by kernel_rfl) (by kernel_rfl) (by kernel_rfl) (fun _ _ _ h => h) (Or.inl ⟨by rfl, ?_⟩) (by assumption) ?_; rotate_left; (focus (intro w hSw; (try dsimp only at hSw); go_simp; first | done | with_reducible rfl)); (try simp only [Act.put, List.getElem_toArray, List.getElem_cons_succ, List.getElem_cons_zero, List.setIfInBounds_toArray, List.set_cons_zero, List.set_cons_succ]))
        (refine wpAnyH_take (i := 22) (v := ?_) rfl (by kernel_rfl) (by kernel_rfl) (by kernel_rfl) (fun _ _ _ h => h) (Or.inl ⟨by rfl, ?_⟩) (by assumption) ?_; rotate_left; (focus (intro w hSw; (try dsimp only at hSw); go_simp; first | done | with_reducible rfl)); (try simp only [Act.put, List.getElem_toArray, List.getElem_cons_succ, List.getElem_cons_zero, List.setIfInBounds_toArray, List.set_cons_zero, List.set_cons_succ]))
        (refine wpAnyH_take (i := 23) (v := ?_) rfl (by kernel_rfl) (by kernel_rfl) (by kernel_rfl) (fun _ _ _ h => h) (Or.inl ⟨by rfl, ?_⟩) (by assumption) ?_; rotate_left; (focus (intro w hSw; (try dsimp only at hSw); go_simp; first | done | with_reducible rfl)); (try simp only [Act.put, List.getElem_toArray, List.getElem_cons_succ, List.getElem_cons_zero, List.setIfInBounds_toArray, List.set_cons_zero, List.set_cons_succ]))
        refine wpAnyH_ready (rs := [24]) (by kernel_rfl) (by simp) ?_
        refine AllReadyH.cons rfl (fun K hK => ?_) AllReadyH.nil
        go_simp
        (with_reducible refine (QX.out _ (And.left hHeld)).mono ?_; rintro e w7 ⟨Ay, cy, rfl, hrdy, hb⟩)
        refine hK.out _ _ (HS.out _ _ hHeld hb) (fun hHeld => ?_)
        clear hK K
        (try simp only [Act.put, List.getElem_toArray, List.getElem_cons_succ, List.getElem_cons_zero, List.setIfInBounds_toArray, List.set_cons_zero, List.set_cons_succ])
        refine wpAnyH_ready (rs := [25]) (by kernel_rfl) (by simp) ?_
        refine AllReadyH.cons rfl (fun K hK => ?_) AllReadyH.nil
        go_simp
        (with_reducible refine (Q21x.out _ _ _ (And.left hHeld) hrdy).mono ?_; rintro e w8 ⟨rfl, hb⟩)
        refine hK.out _ _ (HS.out _ _ hHeld hb) (fun hHeld => ?_)
        clear hK K
        (try simp only [Act.put, List.getElem_toArray, List.getElem_cons_succ, List.getElem_cons_zero, List.setIfInBounds_toArray, List.set_cons_zero, List.set_cons_succ])
        (refine wpAnyH_take (i := 26) (v := ?_) rfl (by kernel_rfl) (by kernel_rfl) (by kernel_rfl) (fun _ _ _ h => h) (Or.inl ⟨by rfl, ?_⟩) (by assumption) ?_; rotate_left; (focus (intro w hSw; (try dsimp only at hSw); go_simp; first | done | with_reducible rfl)); (try simp only [Act.put, List.getElem_toArray, List.getElem_cons_succ, List.getElem_cons_zero, List.setIfInBounds_toArray, List.set_cons_zero, List.set_cons_succ]))
        (refine wpAnyH_take (i := 27) (v := ?_) rfl (by kernel_rfl) (by kernel_rfl) (by kernel_rfl) (fun _ _ _ h => h) (Or.inl ⟨by rfl, ?_⟩) (by assumption) ?_; rotate_left; (focus (intro w hSw; (try dsimp only at hSw); go_simp; first | done | with_reducible rfl)); (try simp only [Act.put, List.getElem_toArray, List.getElem_cons_succ, List.getElem_cons_zero, List.setIfInBounds_toArray, List.set_cons_zero, List.set_cons_succ]))
        refine wpAnyH_done (by kernel_rfl) ?_ _
        have hbd := And.left ‹Below w4.heap.size w4 _ ∧ _›
        go_wp2_with fail
        go_meet
        case rel => exact ⟨rfl, hbd⟩
    case rest =>
      rename_i K hK
      refine hK _ _ ?_
      clear hK K
      obtain ⟨w5, hw5⟩ : ∃ w, w = wc := ⟨_, rfl⟩
      subst hw5
      obtain ⟨rfl, hb⟩ := hcut
      clear qR1 lR1 qR2 lR2 qR7 lR7 qR8 lR8
      replace O7 := hide ((O7.out.below hb).more hb.size)
      replace O8 := hide ((O8.out.below hb).more hb.size)
      replace R1 := hide (R1.out.below hb)
      replace R2 := hide (R2.out.below hb)
      replace R7 := hide (R7.out.below hb)
      replace R8 := hide (R8.out.below hb)
      replace HB := hide (HB.out.trans (hb.mono HB.out.size))
      clear hb Q21 Q18 Q21x QX HS
      have HQE := hide (fun w (t : Int) (L : List (Int × Int)) (hL : (if r = true then ents S t else []) = L) (hb : Below w5.heap.size w5 w) => entries_any A7 k7 m1 t S w ((O7.out.below hb).more hb.size) HL1.out (by omega) L (by rw [HR.out]; exact hL) L.length rfl)
      obtain ⟨g11, hg11⟩ : ∃ g, w5.heap.size = g := ⟨_, rfl⟩
      have H11 := hide hg11
      have hbx : Below w5.heap.size w5 (w5.alloc (.cells #[.int .i64 0, .int .i64 0, .int .i64 0] 56)) := (Below.refl _ _).alloc (Nat.le_refl _) _
      have R11 : Hid (RowAt (w5.alloc (.cells #[.int .i64 0, .int .i64 0, .int .i64 0] 56)) g11 56 #[.int .i64 0, .int .i64 0, .int .i64 0]) := hide (by have h := RowAt.new w5 56 #[.int .i64 0, .int .i64 0, .int .i64 0]; rw [hg11] at h; exact h)
      have HBX := hide hbx
      clear hbx
      have qR1 := row1 R1.out
      have lR1 := R1.out.lt
      have qR2 := row1 R2.out
      have lR2 := R2.out.lt
      have qR7 := row1 R7.out
      have lR7 := R7.out.lt
      have qR8 := row1 R8.out
      have lR8 := R8.out.lt
      go_wp2_with fail
      (try rw [hg11])
      clear hg11
      clear qR1 lR1 qR2 lR2 qR7 lR7 qR8 lR8
      go_loopw [64] (fun i wr => ∃ (j : Nat) (a b c : Int), j ≤ 3 ∧ i = .int .i64 j ∧ (0 < j → a = cn S 0) ∧ (1 < j → b = cn S 1) ∧ (2 < j → c = cn S 2) ∧ RowAt wr g11 56 #[.int .i64 a, .int .i64 b, .int .i64 c] ∧ Below w5.heap.size w5 wr) (fun i _ => 3 - (intOf i).toNat)
      case atStart => exact ⟨0, 0, 0, 0, by omega, rfl, by omega, by omega, by omega, R11.out, HBX.out⟩
      case round =>
        obtain ⟨j, a, b, c, hj, rfl, ha, hb1, hc1, hr11, hbr⟩ := hrel
        have HBr := hide hbr
        replace R11 := hide hr11
        have HA := hide ha
        have HB1 := hide hb1
        have HC1 := hide hc1
        clear hr11 hbr HBX ha hb1 hc1
        obtain rfl | rfl | rfl | rfl : j = 0 ∨ j = 1 ∨ j = 2 ∨ j = 3 := by omega
        · obtain ⟨L, hL⟩ : ∃ L, (if r = true then ents S 0 else []) = L := ⟨_, rfl⟩
          have HCN := hide (cn_len S 0 r HR.out L hL)
          have hll := ents_lenle S 0 r L hL
          rw [HL1.out] at hll
          obtain ⟨q, hq⟩ : ∃ q, L.length = q := ⟨_, rfl⟩
          rw [hq] at hll
          have HE := hide (fun w hb => HQE.out w 0 L hL hb)
          rw [hq] at HE HCN
          have HLQ := hide hq
          have HLL := hide hL
          clear hq hL
          have q7 := row1 (R7.out.below HBr.out)
          have l7 := (R7.out.below HBr.out).lt
          have l11 := R11.out.lt
          have z0 := R11.out.cell 0
          have z1 := R11.out.cell 1
          have z2 := R11.out.cell 2
          simp only [List.getElem?_toArray, List.getElem?_cons_succ, List.getElem?_cons_zero] at z0 z1 z2
          go_upto_if 67 with (fail)
          go_cut [13] from 68 to 70 (fun s13 wx => ∃ (A13 : Option Addr) (c13 : Nat), s13 = .slice A13 q c13 ∧ Rd wx wx.heap.size 2 A13 q (Cs encE L) ∧ (∀ p, A13 = some p → wr.heap.size ≤ p.block) ∧ Below wr.heap.size wr wx)
          case first =>
            cases r
            · have hl := HLL.out
              simp at hl
              have hq := HLQ.out
              subst hl
              simp at hq
              subst hq
              go_wp2_with fail
              go_meet
              case rel => exact ⟨none, 0, rfl, Rd.none_, (fun p hp => by cases hp), Below.refl _ _⟩
            · have hl := HLL.out
              simp at hl
              have HQ := hide (rents_any A7 k7 m1 0 S wr ((O7.out.below HBr.out).more HBr.out.size) HL1.out (by omega))
              rw [hl, HLQ.out] at HQ
              clear hl
              go_wp2_with fail
              with_reducible refine HQ.out.mono ?_
              rintro e wa ⟨A13, c13, rfl, hc13, hcm13, hrd, hfr, hb⟩
              go_wp2_with fail
              go_meet
              case rel => exact ⟨A13, c13, rfl, hrd, hfr, hb⟩
          case rest =>
            rename_i K hK
            refine hK _ _ ?_
            clear hK K
            obtain ⟨w6, hw6⟩ : ∃ w, w = wc := ⟨_, rfl⟩
            subst hw6
            obtain ⟨A13, c13, rfl, hrd, hfr, hb⟩ := hcut
            clear q7 l7 z0 z1 z2 l11
            have hlt : g11 < wr.heap.size := R11.out.lt
            replace R11 := hide (R11.out.below hb)
            replace HBr := hide (HBr.out.trans (hb.mono HBr.out.size))
            have H13 := hide (setB_of hrd wr.heap.size hfr hlt 0 (.int .i64 (q : Int)))
            have R11n := hide (R11.out.set 0 (.int .i64 (q : Int)))
            have HBn := hide (HBr.out.setCell (p := ⟨g11, 0, none⟩) (Nat.le_of_eq H11.out) (.int .i64 (q : Int)))
            clear hb hrd hfr hlt
            have q7 := row1 (R7.out.below HBr.out)
            have l7 := (R7.out.below HBr.out).lt
            have l11 := R11.out.lt
            have z0 := R11.out.cell 0
            have z1 := R11.out.cell 1
            have z2 := R11.out.cell 2
            simp only [List.getElem?_toArray, List.getElem?_cons_succ, List.getElem?_cons_zero] at z0 z1 z2
            have f0 := R11.out.frozen 0
            go_upto_region 16 with fail
            clear q7 l7 z0 z1 z2 l11 f0
            clear R11 HBr
            obtain ⟨w7, hw7⟩ : ∃ w, w6.setCell ⟨g11, 0, none⟩ (.int .i64 (q : Int)) = w := ⟨_, rfl⟩
            rw [hw7] at H13 R11n HBn
            rw [hw7]
            clear hw7
            have R11 : Hid (RowAt w7 g11 56 #[.int .i64 (q : Int), .int .i64 b, .int .i64 c]) := hide (by have h := R11n.out; simpa using h)
            have HBr := HBn
            clear R11n HBn
            have q7 := row1 (R7.out.below HBr.out)
            have l7 := (R7.out.below HBr.out).lt
            have l11 := R11.out.lt
            have z0 := R11.out.cell 0
            have z1 := R11.out.cell 1
            have z2 := R11.out.cell 2
            simp only [List.getElem?_toArray, List.getElem?_cons_succ, List.getElem?_cons_zero] at z0 z1 z2
            go_wp2_with fail
            clear q7 l7 z0 z1 z2 l11
            with_reducible refine (HE.out _ HBr.out).mono ?_
            rintro e w8 ⟨A14, c14, rfl, hc14, hcm14, hrd, hb⟩
            replace R11 := hide (R11.out.below hb)
            replace HBr := hide (HBr.out.trans (hb.mono HBr.out.size))
            replace H13 := hide ((H13.out.below hb).more hb.size)
            have H14 := hide hrd
            clear hb hrd HE
            go_wp2_with fail
            with_reducible refine (EqualEK A14 A13 c14 c13 L L w8 H14.out H13.out HLQ.out HLQ.out (by omega) (by omega) true (by simp)).mono ?_
            rintro e w9 ⟨rfl, hb⟩
            replace R11 := hide (R11.out.below hb)
            replace HBr := hide (HBr.out.trans (hb.mono HBr.out.size))
            clear hb H13 H14
            go_wp2_with fail
            go_roundw
            case rel => exact ⟨1, (q : Int), b, c, by omega, by go_num, (fun _ => HCN.out.symm), by omega, by omega, R11.out, HBr.out⟩
            case measure => simp [intOf]
        · obtain ⟨L, hL⟩ : ∃ L, (if r = true then ents S 1 else []) = L := ⟨_, rfl⟩
          have HCN := hide (cn_len S 1 r HR.out L hL)
          have hll := ents_lenle S 1 r L hL
          rw [HL1.out] at hll
          obtain ⟨q, hq⟩ : ∃ q, L.length = q := ⟨_, rfl⟩
          rw [hq] at hll
          have HE := hide (fun w hb => HQE.out w 1 L hL hb)
          rw [hq] at HE HCN
          have HLQ := hide hq
          have HLL := hide hL
          clear hq hL
          have q7 := row1 (R7.out.below HBr.out)
          have l7 := (R7.out.below HBr.out).lt
          have l11 := R11.out.lt
          have z0 := R11.out.cell 0
          have z1 := R11.out.cell 1
          have z2 := R11.out.cell 2
          simp only [List.getElem?_toArray, List.getElem?_cons_succ, List.getElem?_cons_zero] at z0 z1 z2
          go_upto_if 67 with (fail)
          go_cut [13] from 68 to 70 (fun s13 wx => ∃ (A13 : Option Addr) (c13 : Nat), s13 = .slice A13 q c13 ∧ Rd wx wx.heap.size 2 A13 q (Cs encE L) ∧ (∀ p, A13 = some p → wr.heap.size ≤ p.block) ∧ Below wr.heap.size wr wx)
          case first =>
            cases r
            · have hl := HLL.out
              simp at hl
              have hq := HLQ.out
              subst hl
              simp at hq
              subst hq
              go_wp2_with fail
              go_meet
              case rel => exact ⟨none, 0, rfl, Rd.none_, (fun p hp => by cases hp), Below.refl _ _⟩
            · have hl := HLL.out
              simp at hl
              have HQ := hide (rents_any A7 k7 m1 1 S wr ((O7.out.below HBr.out).more HBr.out.size) HL1.out (by omega))
              rw [hl, HLQ.out] at HQ
              clear hl
              go_wp2_with fail
              with_reducible refine HQ.out.mono ?_
              rintro e wa ⟨A13, c13, rfl, hc13, hcm13, hrd, hfr, hb⟩
              go_wp2_with fail
              go_meet
              case rel => exact ⟨A13, c13, rfl, hrd, hfr, hb⟩
          case rest =>
            rename_i K hK
            refine hK _ _ ?_
            clear hK K
            obtain ⟨w6, hw6⟩ : ∃ w, w = wc := ⟨_, rfl⟩
            subst hw6
            obtain ⟨A13, c13, rfl, hrd, hfr, hb⟩ := hcut
            clear q7 l7 z0 z1 z2 l11
            have hlt : g11 < wr.heap.size := R11.out.lt
            replace R11 := hide (R11.out.below hb)
            replace HBr := hide (HBr.out.trans (hb.mono HBr.out.size))
            have H13 := hide (setB_of hrd wr.heap.size hfr hlt 1 (.int .i64 (q : Int)))
            have R11n := hide (R11.out.set 1 (.int .i64 (q : Int)))
            have HBn := hide (HBr.out.setCell (p := ⟨g11, 1, none⟩) (Nat.le_of_eq H11.out) (.int .i64 (q : Int)))
            clear hb hrd hfr hlt
            have q7 := row1 (R7.out.below HBr.out)
            have l7 := (R7.out.below HBr.out).lt
            have l11 := R11.out.lt
            have z0 := R11.out.cell 0
            have z1 := R11.out.cell 1
            have z2 := R11.out.cell 2
            simp only [List.getElem?_toArray, List.getElem?_cons_succ, List.getElem?_cons_zero] at z0 z1 z2
            have f1 := R11.out.frozen 1
            go_upto_region 16 with fail
            clear q7 l7 z0 z1 z2 l11 f1
            clear R11 HBr
            obtain ⟨w7, hw7⟩ : ∃ w, w6.setCell ⟨g11, 1, none⟩ (.int .i64 (q : Int)) = w := ⟨_, rfl⟩
            rw [hw7] at H13 R11n HBn
            rw [hw7]
            clear hw7
            have R11 : Hid (RowAt w7 g11 56 #[.int .i64 a, .int .i64 (q : Int), .int .i64 c]) := hide (by have h := R11n.out; simpa using h)
            have HBr := HBn
            clear R11n HBn
            have q7 := row1 (R7.out.below HBr.out)
            have l7 := (R7.out.below HBr.out).lt
            have l11 := R11.out.lt
            have z0 := R11.out.cell 0
            have z1 := R11.out.cell 1
            have z2 := R11.out.cell 2
            simp only [List.getElem?_toArray, List.getElem?_cons_succ, List.getElem?_cons_zero] at z0 z1 z2
            go_wp2_with fail
            clear q7 l7 z0 z1 z2 l11
            with_reducible refine (HE.out _ HBr.out).mono ?_
            rintro e w8 ⟨A14, c14, rfl, hc14, hcm14, hrd, hb⟩
            replace R11 := hide (R11.out.below hb)
            replace HBr := hide (HBr.out.trans (hb.mono HBr.out.size))
            replace H13 := hide ((H13.out.below hb).more hb.size)
            have H14 := hide hrd
            clear hb hrd HE
            go_wp2_with fail
            with_reducible refine (EqualEK A14 A13 c14 c13 L L w8 H14.out H13.out HLQ.out HLQ.out (by omega) (by omega) true (by simp)).mono ?_
            rintro e w9 ⟨rfl, hb⟩
            replace R11 := hide (R11.out.below hb)
            replace HBr := hide (HBr.out.trans (hb.mono HBr.out.size))
            clear hb H13 H14
            go_wp2_with fail
            go_roundw
            case rel => exact ⟨2, a, (q : Int), c, by omega, by go_num, (fun _ => HA.out (by omega)), (fun _ => HCN.out.symm), by omega, R11.out, HBr.out⟩
            case measure => simp [intOf]
        · obtain ⟨L, hL⟩ : ∃ L, (if r = true then ents S 2 else []) = L := ⟨_, rfl⟩
          have HCN := hide (cn_len S 2 r HR.out L hL)
          have hll := ents_lenle S 2 r L hL
          rw [HL1.out] at hll
          obtain ⟨q, hq⟩ : ∃ q, L.length = q := ⟨_, rfl⟩
          rw [hq] at hll
          have HE := hide (fun w hb => HQE.out w 2 L hL hb)
          rw [hq] at HE HCN
          have HLQ := hide hq
          have HLL := hide hL
          clear hq hL
          have q7 := row1 (R7.out.below HBr.out)
          have l7 := (R7.out.below HBr.out).lt
          have l11 := R11.out.lt
          have z0 := R11.out.cell 0
          have z1 := R11.out.cell 1
          have z2 := R11.out.cell 2
          simp only [List.getElem?_toArray, List.getElem?_cons_succ, List.getElem?_cons_zero] at z0 z1 z2
          go_upto_if 67 with (fail)
          go_cut [13] from 68 to 70 (fun s13 wx => ∃ (A13 : Option Addr) (c13 : Nat), s13 = .slice A13 q c13 ∧ Rd wx wx.heap.size 2 A13 q (Cs encE L) ∧ (∀ p, A13 = some p → wr.heap.size ≤ p.block) ∧ Below wr.heap.size wr wx)
          case first =>
            cases r
            · have hl := HLL.out
              simp at hl
              have hq := HLQ.out
              subst hl
              simp at hq
              subst hq
              go_wp2_with fail
              go_meet
              case rel => exact ⟨none, 0, rfl, Rd.none_, (fun p hp => by cases hp), Below.refl _ _⟩
            · have hl := HLL.out
              simp at hl
              have HQ := hide (rents_any A7 k7 m1 2 S wr ((O7.out.below HBr.out).more HBr.out.size) HL1.out (by omega))
              rw [hl, HLQ.out] at HQ
              clear hl
              go_wp2_with fail
              with_reducible refine HQ.out.mono ?_
              rintro e wa ⟨A13, c13, rfl, hc13, hcm13, hrd, hfr, hb⟩
              go_wp2_with fail
              go_meet
              case rel => exact ⟨A13, c13, rfl, hrd, hfr, hb⟩
          case rest =>
            rename_i K hK
            refine hK _ _ ?_
            clear hK K
            obtain ⟨w6, hw6⟩ : ∃ w, w = wc := ⟨_, rfl⟩
            subst hw6
            obtain ⟨A13, c13, rfl, hrd, hfr, hb⟩ := hcut
            clear q7 l7 z0 z1 z2 l11
            have hlt : g11 < wr.heap.size := R11.out.lt
            replace R11 := hide (R11.out.below hb)
            replace HBr := hide (HBr.out.trans (hb.mono HBr.out.size))
            have H13 := hide (setB_of hrd wr.heap.size hfr hlt 2 (.int .i64 (q : Int)))
            have R11n := hide (R11.out.set 2 (.int .i64 (q : Int)))
            have HBn := hide (HBr.out.setCell (p := ⟨g11, 2, none⟩) (Nat.le_of_eq H11.out) (.int .i64 (q : Int)))
            clear hb hrd hfr hlt
            have q7 := row1 (R7.out.below HBr.out)
            have l7 := (R7.out.below HBr.out).lt
            have l11 := R11.out.lt
            have z0 := R11.out.cell 0
            have z1 := R11.out.cell 1
            have z2 := R11.out.cell 2
            simp only [List.getElem?_toArray, List.getElem?_cons_succ, List.getElem?_cons_zero] at z0 z1 z2
            have f2 := R11.out.frozen 2
            go_upto_region 16 with fail
            clear q7 l7 z0 z1 z2 l11 f2
            clear R11 HBr
            obtain ⟨w7, hw7⟩ : ∃ w, w6.setCell ⟨g11, 2, none⟩ (.int .i64 (q : Int)) = w := ⟨_, rfl⟩
            rw [hw7] at H13 R11n HBn
            rw [hw7]
            clear hw7
            have R11 : Hid (RowAt w7 g11 56 #[.int .i64 a, .int .i64 b, .int .i64 (q : Int)]) := hide (by have h := R11n.out; simpa using h)
            have HBr := HBn
            clear R11n HBn
            have q7 := row1 (R7.out.below HBr.out)
            have l7 := (R7.out.below HBr.out).lt
            have l11 := R11.out.lt
            have z0 := R11.out.cell 0
            have z1 := R11.out.cell 1
            have z2 := R11.out.cell 2
            simp only [List.getElem?_toArray, List.getElem?_cons_succ, List.getElem?_cons_zero] at z0 z1 z2
            go_wp2_with fail
            clear q7 l7 z0 z1 z2 l11
            with_reducible refine (HE.out _ HBr.out).mono ?_
            rintro e w8 ⟨A14, c14, rfl, hc14, hcm14, hrd, hb⟩
            replace R11 := hide (R11.out.below hb)
            replace HBr := hide (HBr.out.trans (hb.mono HBr.out.size))
            replace H13 := hide ((H13.out.below hb).more hb.size)
            have H14 := hide hrd
            clear hb hrd HE
            go_wp2_with fail
            with_reducible refine (EqualEK A14 A13 c14 c13 L L w8 H14.out H13.out HLQ.out HLQ.out (by omega) (by omega) true (by simp)).mono ?_
            rintro e w9 ⟨rfl, hb⟩
            replace R11 := hide (R11.out.below hb)
            replace HBr := hide (HBr.out.trans (hb.mono HBr.out.size))
            clear hb H13 H14
            go_wp2_with fail
            go_roundw
            case rel => exact ⟨3, a, b, (q : Int), by omega, by go_num, (fun _ => HA.out (by omega)), (fun _ => HB1.out (by omega)), (fun _ => HCN.out.symm), R11.out, HBr.out⟩
            case measure => simp [intOf]
        · have e0 := HA.out (by omega)
          have e1 := HB1.out (by omega)
          have e2 := HC1.out (by omega)
          have HCT := hide (counts_any A7 k7 m1 S wr ((O7.out.below HBr.out).more HBr.out.size) HL1.out (by omega) a b c e0.symm e1.symm e2.symm)
          have HEQ3 := hide (eq_three a b c (by rw [e0]; have := cn_small S 0 m1 HL1.out; omega) (by rw [e1]; have := cn_small S 1 m1 HL1.out; omega) (by rw [e2]; have := cn_small S 2 m1 HL1.out; omega))
          clear HA HB1 HC1 e0 e1 e2
          have q7 := row1 (R7.out.below HBr.out)
          have l7 := (R7.out.below HBr.out).lt
          have l11 := R11.out.lt
          have z0 := R11.out.cell 0
          have z1 := R11.out.cell 1
          have z2 := R11.out.cell 2
          simp only [List.getElem?_toArray, List.getElem?_cons_succ, List.getElem?_cons_zero] at z0 z1 z2
          go_wp2_with fail
          clear q7 l7 z0 z1 z2 l11
          with_reducible refine HCT.out.mono ?_
          rintro e w6 ⟨rfl, hb⟩
          replace R11 := hide (R11.out.below hb)
          replace HBr := hide (HBr.out.trans (hb.mono HBr.out.size))
          clear hb HCT
          have HEM : Hid (∀ w, Below w6.heap.size w6 w → Calls Try.prog 23 #[.agg #[.slice A7 m1 k7], .int .i64 (-1)] w fun e W' => ∃ A' c', e = .returned (.slice A' 0 c') ∧ Below w.heap.size w W') := hide (fun w hb => (HQE.out w (-1) [] (by have h := HR.out; cases r with | false => rfl | true => simpa using ents_out h (-1) (by omega)) (HBr.out.trans (hb.mono HBr.out.size))).mono fun e W' ⟨A', c', e1, _, _, _, e5⟩ => ⟨A', c', e1, e5⟩)
          have HE3 : Hid (∀ w, Below w6.heap.size w6 w → Calls Try.prog 23 #[.agg #[.slice A7 m1 k7], .int .i64 3] w fun e W' => ∃ A' c', e = .returned (.slice A' 0 c') ∧ Below w.heap.size w W') := hide (fun w hb => (HQE.out w 3 [] (by have h := HR.out; cases r with | false => rfl | true => simpa using ents_out h 3 (by omega)) (HBr.out.trans (hb.mono HBr.out.size))).mono fun e W' ⟨A', c', e1, _, _, _, e5⟩ => ⟨A', c', e1, e5⟩)
          have HS : Hid (∀ w w', (Below w6.heap.size w6 w ∧ w.cell? ⟨g7, 0, none⟩ = some (.slice A7 m1 k7) ∧ w.cell? ⟨g11, 0, none⟩ = some (.int .i64 a) ∧ w.cell? ⟨g11, 1, none⟩ = some (.int .i64 b) ∧ w.cell? ⟨g11, 2, none⟩ = some (.int .i64 c)) → Below w.heap.size w w' → (Below w6.heap.size w6 w' ∧ w'.cell? ⟨g7, 0, none⟩ = some (.slice A7 m1 k7) ∧ w'.cell? ⟨g11, 0, none⟩ = some (.int .i64 a) ∧ w'.cell? ⟨g11, 1, none⟩ = some (.int .i64 b) ∧ w'.cell? ⟨g11, 2, none⟩ = some (.int .i64 c))) := hide (fun w w' h hb => ⟨h.1.trans (hb.mono h.1.size), kept hb h.2.1, kept hb h.2.2.1, kept hb h.2.2.2.1, kept hb h.2.2.2.2⟩)
          have q7 := row1 (R7.out.below HBr.out)
          have l7 := (R7.out.below HBr.out).lt
          have l11 := R11.out.lt
          have z0 := R11.out.cell 0
          have z1 := R11.out.cell 1
          have z2 := R11.out.cell 2
          simp only [List.getElem?_toArray, List.getElem?_cons_succ, List.getElem?_cons_zero] at z0 z1 z2
          go_wp2_with fail
          have hEQ3 := HEQ3.out
          have hbd0 : Below w6.heap.size w6 w6.drew := (Below.refl _ _).drew
          skip
          go_region_held3 (fun wX => Below w6.heap.size w6 wX ∧ wX.cell? ⟨g7, 0, none⟩ = some (.slice A7 m1 k7) ∧ wX.cell? ⟨g11, 0, none⟩ = some (.int .i64 a) ∧ wX.cell? ⟨g11, 1, none⟩ = some (.int .i64 b) ∧ wX.cell? ⟨g11, 2, none⟩ = some (.int .i64 c))
              (first | exact HS.out _ _ ‹_› hb | exact ⟨hbd0, q7, z0, z1, z2⟩ | go_keep)
              (first
                | (go_at_call 23; with_reducible refine (HEM.out _ (And.left ‹Below w6.heap.size w6 _ ∧ _›)).mono ?_; rintro e wq ⟨Ay, cy, rfl, hb⟩)
                | (go_at_call 23; with_reducible refine (HE3.out _ (And.left ‹Below w6.heap.size w6 _ ∧ _›)).mono ?_; rintro e wq ⟨Az, cz, rfl, hb⟩))
          obtain ⟨w7, hw7⟩ : ∃ w, w = wq := ⟨_, rfl⟩
          subst hw7
          have hb := And.left ‹Below w6.heap.size w6 _ ∧ _›
          clear q7 l7 z0 z1 z2 l11
          replace HBr := hide (HBr.out.trans (hb.mono HBr.out.size))
          replace R7 := hide (R7.out.below HBr.out)
          replace O7 := hide ((O7.out.below HBr.out).more HBr.out.size)
          replace R1 := hide (R1.out.below HBr.out)
          replace HB := hide (HB.out.trans (HBr.out.mono HB.out.size))
          replace H3 := hide (H3.out.below HB.out)
          clear hEQ3 HEQ3 hb HS HEM HE3 HQE HBr R11 H11 R8 O8 R2 HOWN2
          have q7 := row1 R7.out
          have l7 := R7.out.lt
          go_wp2_with fail
          clear q7 l7
          go_loopw [106] (fun i wr => ∃ (j : Nat), j ≤ zs.length ∧ j ≤ 8 ∧ i = .int .i64 j ∧ Below w7.heap.size w7 wr) (fun i _ => 8 - (intOf i).toNat)
          case atStart => exact ⟨0, by omega, by omega, rfl, Below.refl _ _⟩
          case round =>
            obtain ⟨j, hj, hj8, rfl, hbr⟩ := hrel
            have HBr := hide hbr
            clear hbr
            by_cases hlt : j < zs.length
            · obtain ⟨b1, o1, rfl, hbl, hc1⟩ := (H3.out.below (HBr.out.mono HB.out.size)).elem encE_len hlt
              have hd10 := hc1 0 _ (by omega) rfl
              have hd11 := hc1 1 _ (by omega) rfl
              simp only [Nat.add_zero] at hd10
              have hbl1 : b1 < wr.heap.size := by have := HB.out.size; have := HBr.out.size; omega
              have HIX := hide (HI3.out _ (List.getElem_mem hlt))
              have hltI : (j : Int) < (zs.length : Int) := by omega
              clear hc1
              generalize zs[j] = x at *
              obtain ⟨s, g⟩ := x
              dsimp only at hd10 hd11 HIX
              by_cases h8 : j = 8
              · have h8I : ((j : Int) == 8) = true := by simp; omega
                clear h8
                obtain ⟨w8, hw8⟩ : ∃ w, wr.alloc (.cells #[.int .i64 s, .int .u64 g] 31) = w := ⟨_, rfl⟩
                have hbx : Below wr.heap.size wr w8 := by rw [← hw8]; exact (Below.refl _ _).alloc (Nat.le_refl _) _
                replace HBr := hide (HBr.out.trans (hbx.mono HBr.out.size))
                clear hbx
                have q7 := row1 (R7.out.below HBr.out)
                have l7 := (R7.out.below HBr.out).lt
                have q1 := row1 (R1.out.below HBr.out)
                have l1 := (R1.out.below HBr.out).lt
                have HBW := hide (HB.out.trans (HBr.out.mono HB.out.size))
                have QX : Hid (∀ w, Below w8.heap.size w8 w → Calls Try.prog 8 #[.agg #[.slice A1 n1 c1]] w fun e W' => ∃ A' c', e = .returned (.agg #[.slice A' m1 c']) ∧ Rd W' W'.heap.size 2 A' m1 (Cs encE S) ∧ Below w.heap.size w W') := hide (fun w hw => (HOWN1.out w (HBW.out.trans (hw.mono HBW.out.size))).mono fun e W' ⟨A', c', e1, _, _, e3, _, e5⟩ => ⟨A', c', e1, e3, e5⟩)
                have Q18x : Hid (∀ w A' c', Below w8.heap.size w8 w → Rd w w.heap.size 2 A' m1 (Cs encE S) → Calls Try.prog 18 #[.agg #[.slice A7 m1 k7], .agg #[.slice A' m1 c']] w fun e W' => e = .returned (.bool true) ∧ Below w.heap.size w W') := hide (fun w A' c' hw hr => rsame_any A7 A' k7 c' m1 m1 S S w ((O7.out.below (HBr.out.trans (hw.mono HBr.out.size))).more (Nat.le_trans HBr.out.size hw.size)) hr HL1.out HL1.out (by omega) (by omega) true (by simp))
                have HS : Hid (∀ w w', (Below w8.heap.size w8 w ∧ w.cell? ⟨g7, 0, none⟩ = some (.slice A7 m1 k7) ∧ w.cell? ⟨W.heap.size, 0, none⟩ = some (.slice A1 n1 c1)) → Below w.heap.size w w' → (Below w8.heap.size w8 w' ∧ w'.cell? ⟨g7, 0, none⟩ = some (.slice A7 m1 k7) ∧ w'.cell? ⟨W.heap.size, 0, none⟩ = some (.slice A1 n1 c1))) := hide (fun w w' h hb => ⟨h.1.trans (hb.mono h.1.size), kept hb h.2.1, kept hb h.2.2⟩)
                go_wp2_with fail
                clear hw8
                have hbd0 : Below w8.heap.size w8 w8.drew := (Below.refl _ _).drew
                go_region_held3 (fun wX => Below w8.heap.size w8 wX ∧ wX.cell? ⟨g7, 0, none⟩ = some (.slice A7 m1 k7) ∧ wX.cell? ⟨W.heap.size, 0, none⟩ = some (.slice A1 n1 c1))
                  (first | exact HS.out _ _ ‹_› hb | exact ⟨hbd0, q7, q1⟩ | go_keep)
                  (first
                    | (go_at_call 8; with_reducible refine (QX.out _ (And.left ‹Below w8.heap.size w8 _ ∧ _›)).mono ?_; rintro e wq ⟨Ay, cy, rfl, hrdy, hb⟩)
                    | (go_at_call 18; with_reducible refine (Q18x.out _ _ _ (And.left ‹Below w8.heap.size w8 _ ∧ _›) hrdy).mono ?_; rintro e wq ⟨rfl, hb⟩))
                have hbd := And.left ‹Below w8.heap.size w8 _ ∧ _›
                go_wp2_with fail
                go_ret
                exact ⟨rfl, HBW.out.trans (hbd.mono HBW.out.size)⟩
              · have h8I : ¬ (j : Int) = 8 := by omega
                obtain ⟨w8, hw8⟩ : ∃ w, wr.alloc (.cells #[.int .i64 s, .int .u64 g] 31) = w := ⟨_, rfl⟩
                have hbx : Below wr.heap.size wr w8 := by rw [← hw8]; exact (Below.refl _ _).alloc (Nat.le_refl _) _
                have RE : Hid (RowAt w8 wr.heap.size 31 #[.int .i64 s, .int .u64 g]) := hide (by have h := RowAt.new wr 31 #[.int .i64 s, .int .u64 g]; rw [hw8] at h; exact h)
                replace HBr := hide (HBr.out.trans (hbx.mono HBr.out.size))
                clear hbx
                obtain ⟨q, hq⟩ : ∃ q, (r && meantB S (s, g)) = q := ⟨_, rfl⟩
                obtain ⟨v, hv⟩ : ∃ v, (if q = true then tagOf S (s, g) else 0) = v := ⟨_, rfl⟩
                have HQ := hide hq
                have HV := hide hv
                have HT := hide (tag_any A7 k7 m1 s g S w8 ((O7.out.below HBr.out).more HBr.out.size) HL1.out (by omega) q (by rw [HR.out]; exact HQ.out) v hv)
                clear hq hv
                have q7 := row1 (R7.out.below HBr.out)
                have l7 := (R7.out.below HBr.out).lt
                have z0 := row20 RE.out
                have z1 := row21 RE.out
                have lE := RE.out.lt
                go_wp2_with fail
                clear hw8
                clear q7 l7 z0 z1 lE
                with_reducible refine HT.out.mono ?_
                rintro e w9 ⟨rfl, hb⟩
                replace HBr := hide (HBr.out.trans (hb.mono HBr.out.size))
                replace RE := hide (RE.out.below hb)
                clear hb
                clear HT hd10 hd11 hbl1
                have HMN := hide (fun w (hb : Below w9.heap.size w9 w) (o : Bool) (ho : meantB S (s, g) = o) => rmeant_any w.heap.size A7 k7 m1 s g S w ((O7.out.below (HBr.out.trans (hb.mono HBr.out.size))).more (Nat.le_trans HBr.out.size hb.size)) HL1.out (Nat.le_refl _) (by omega) o ho)
                have q7 := row1 (R7.out.below HBr.out)
                have l7 := (R7.out.below HBr.out).lt
                have z0 := row20 RE.out
                have z1 := row21 RE.out
                have lE := RE.out.lt
                go_upto_region 27 with fail
                go_cut [21, 22] from 119 to 124 (fun s21 s22 wx => s21 = .int .i64 0 ∧ s22 = .bool q ∧ Below w9.heap.size w9 wx)
                case first =>
                  cases r
                  · have hq := HQ.out
                    simp at hq
                    subst hq
                    go_wp2_with fail
                    go_meet
                    case rel => exact ⟨rfl, rfl, Below.refl _ _⟩
                  · have hm := HQ.out
                    rw [Bool.true_and] at hm
                    have HMT := hide (HMN.out _ (Below.refl _ _) q hm)
                    clear hm
                    go_wp2_with fail
                    with_reducible refine HMT.out.mono ?_
                    rintro e w10 ⟨rfl, hb⟩
                    go_wp2_with fail
                    go_meet
                    case rel => exact ⟨rfl, rfl, hb⟩
                case rest =>
                  rename_i K hK
                  refine hK _ _ ?_
                  clear hK K
                  obtain ⟨w10, hw10⟩ : ∃ w, w = wc := ⟨_, rfl⟩
                  subst hw10
                  obtain ⟨rfl, rfl, hb⟩ := hcut
                  clear q7 l7 z0 z1 lE
                  replace HBr := hide (HBr.out.trans (hb.mono HBr.out.size))
                  replace RE := hide (RE.out.below hb)
                  clear hb
                  clear HMN
                  have q7 := row1 (R7.out.below HBr.out)
                  have l7 := (R7.out.below HBr.out).lt
                  have z0 := row20 RE.out
                  have z1 := row21 RE.out
                  have lE := RE.out.lt
                  go_upto_if 125 with (fail)
                  go_cut [21] from 126 to 132 (fun s21 wx => s21 = .int .i64 v ∧ w10 = wx)
                  case first =>
                    cases q
                    · have hv := HV.out
                      simp at hv
                      subst hv
                      go_wp2_with fail
                      go_meet
                      case rel => exact ⟨rfl, rfl⟩
                    · have hv := HV.out
                      simp at hv
                      have hm := HQ.out
                      rw [Bool.and_eq_true] at hm
                      obtain ⟨k, hk, hkl, _⟩ := meantB_out hm.2
                      dsimp only at hk
                      subst hk
                      have hh : Rd w10 w10.heap.size 2 A7 S.length (Cs encE S) := by rw [HL1.out]; exact (O7.out.below HBr.out).more HBr.out.size
                      obtain ⟨b1, o1, rfl, hbl, hc1⟩ := hh.elem encE_len hkl
                      have hd10 := hc1 0 _ (by omega) rfl
                      simp only [Nat.add_zero] at hd10
                      have hvx : S[k].1 = v := by
                        rw [← hv]; simp [tagOf, List.getElem?_eq_getElem hkl]
                      rw [hvx] at hd10
                      have hkm : (k : Int) < (m1 : Int) := by have := HL1.out; omega
                      clear hc1 hh hv hvx hm
                      go_wp2_with fail
                      go_meet
                      case rel => exact ⟨rfl, rfl⟩
                  case rest =>
                    rename_i K hK
                    refine hK _ _ ?_
                    clear hK K
                    obtain ⟨rfl, rfl⟩ := hcut
                    clear q7 l7 z0 z1 lE
                    clear HQ HV
                    by_cases hmay : 2 ≤ s ∧ s ≤ 128
                    · obtain ⟨n, rfl⟩ : ∃ n : Nat, s = n := ⟨s.toNat, by omega⟩
                      have hn2 : 2 ≤ n := by omega
                      have hn128 : n ≤ 128 := by omega
                      have HN := hide (fun w => new_yes n w hn2 hn128)
                      have HM := hide (fun w => rmany_any (n : Int) w true (by simp; omega))
                      have q7 := row1 (R7.out.below HBr.out)
                      have l7 := (R7.out.below HBr.out).lt
                      have z0 := row20 RE.out
                      have z1 := row21 RE.out
                      have lE := RE.out.lt
                      go_wp2_with fail
                      clear q7 l7 z0 z1 lE
                      with_reducible refine (HN.out _).mono ?_
                      rintro e w11 ⟨A23, c23, rfl, hc23, hcm23, hrd, hb⟩
                      have O23 := hide hrd
                      clear hrd
                      replace HBr := hide (HBr.out.trans (hb.mono HBr.out.size))
                      replace RE := hide (RE.out.below hb)
                      clear hb
                      have q7 := row1 (R7.out.below HBr.out)
                      have l7 := (R7.out.below HBr.out).lt
                      have z0 := row20 RE.out
                      have z1 := row21 RE.out
                      have lE := RE.out.lt
                      go_upto_region 33 with fail
                      clear q7 l7 z0 z1 lE
                      obtain ⟨g23, hg23⟩ : ∃ g, w11.heap.size = g := ⟨_, rfl⟩
                      have hbx : Below w11.heap.size w11 (w11.alloc (.cells #[.slice A23 n c23] 24)) := (Below.refl _ _).alloc (Nat.le_refl _) _
                      have R23 : Hid (RowAt (w11.alloc (.cells #[.slice A23 n c23] 24)) g23 24 #[.slice A23 n c23]) := hide (by have h := RowAt.new w11 24 #[.slice A23 n c23]; rw [hg23] at h; exact h)
                      (try rw [hg23])
                      clear hg23
                      replace O23 := hide ((O23.out.below hbx).more hbx.size)
                      replace HBr := hide (HBr.out.trans (hbx.mono HBr.out.size))
                      replace RE := hide (RE.out.below hbx)
                      clear hbx
                      generalize w11.alloc (.cells #[.slice A23 n c23] 24) = w12 at *
                      have q7 := row1 (R7.out.below HBr.out)
                      have l7 := (R7.out.below HBr.out).lt
                      have z0 := row20 RE.out
                      have z1 := row21 RE.out
                      have lE := RE.out.lt
                      have q23 := row1 R23.out
                      have l23 := R23.out.lt
                      go_wp2_with fail
                      with_reducible refine (HM.out _).mono ?_
                      rintro e w13 ⟨rfl, rfl⟩
                      have QN : Hid (∀ w, Below w12.heap.size w12 w → Calls Try.prog 29 #[.int .i64 (n : Int)] w fun e W' => ∃ A' c', e = .returned (.agg #[.slice A' n c']) ∧ Rd W' W'.heap.size 2 A' n (Cs encE (List.replicate n (0, 0))) ∧ Below w.heap.size w W') := hide (fun w hw => (rnew_any n w (by omega)).mono fun e W' ⟨A', c', e1, _, _, e3, e5⟩ => ⟨A', c', e1, e3, e5⟩)
                      have QS : Hid (∀ w A' c', Below w12.heap.size w12 w → Rd w w.heap.size 2 A' n (Cs encE (List.replicate n (0, 0))) → Calls Try.prog 18 #[.agg #[.slice A23 n c23], .agg #[.slice A' n c']] w fun e W' => e = .returned (.bool true) ∧ Below w.heap.size w W') := hide (fun w A' c' hw hr => rsame_any A23 A' c23 c' n n _ _ w ((O23.out.below hw).more hw.size) hr (by simp) (by simp) (by omega) (by omega) true (by simp))
                      have HS : Hid (∀ w w', (Below w12.heap.size w12 w ∧ w.cell? ⟨g23, 0, none⟩ = some (.slice A23 n c23) ∧ w.cell? ⟨wr.heap.size, 0, none⟩ = some (.int .i64 (n : Int))) → Below w.heap.size w w' → (Below w12.heap.size w12 w' ∧ w'.cell? ⟨g23, 0, none⟩ = some (.slice A23 n c23) ∧ w'.cell? ⟨wr.heap.size, 0, none⟩ = some (.int .i64 (n : Int)))) := hide (fun w w' h hb => ⟨h.1.trans (hb.mono h.1.size), kept hb h.2.1, kept hb h.2.2⟩)
                      go_upto_region 34 with fail
                      go_cut [178] from 150 to 178 (fun s178 wx => s178 = .bool false ∧ Below w12.heap.size w12 wx)
                      case first =>
                        have hbd0 : Below w12.heap.size w12 w12.drew := (Below.refl _ _).drew
                        refine wp_region_held_drew (S := fun wX => Below w12.heap.size w12 wX ∧ wX.cell? ⟨g23, 0, none⟩ = some (.slice A23 n c23) ∧ wX.cell? ⟨wr.heap.size, 0, none⟩ = some (.int .i64 (n : Int))) (by kernel_rfl) (⟨hbd0, q23, z0⟩) (fun hHeld => ?_)
                        (refine wpAnyH_take (i := 0) (v := ?_) rfl (by kernel_rfl) (by kernel_rfl) (by kernel_rfl) (fun _ _ _ h => h) (Or.inl ⟨by rfl, ?_⟩) (by assumption) ?_; rotate_left; (focus (intro w hSw; (try dsimp only at hSw); go_simp; first | done | with_reducible rfl)); (try simp only [Act.put, List.getElem_toArray, List.getElem_cons_succ, List.getElem_cons_zero, List.setIfInBounds_toArray, List.set_cons_zero, List.set_cons_succ]))
                        (refine wpAnyH_take (i := 1) (v := ?_) rfl (by kernel_rfl) (by kernel_rfl) (by kernel_rfl) (fun _ _ _ h => h) (Or.inl ⟨by rfl, ?_⟩) (by assumption) ?_; rotate_left; (focus (intro w hSw; (try dsimp only at hSw); go_simp; first | done | with_reducible rfl)); (try simp only [Act.put, List.getElem_toArray, List.getElem_cons_succ, List.getElem_cons_zero, List.setIfInBounds_toArray, List.set_cons_zero, List.set_cons_succ]))
                        (refine wpAnyH_take (i := 2) (v := ?_) rfl (by kernel_rfl) (by kernel_rfl) (by kernel_rfl) (fun _ _ _ h => h) (Or.inl ⟨by rfl, ?_⟩) (by assumption) ?_; rotate_left; (focus (intro w hSw; (try dsimp only at hSw); go_simp; first | done | with_reducible rfl)); (try simp only [Act.put, List.getElem_toArray, List.getElem_cons_succ, List.getElem_cons_zero, List.setIfInBounds_toArray, List.set_cons_zero, List.set_cons_succ]))
                        (refine wpAnyH_take (i := 3) (v := ?_) rfl (by kernel_rfl) (by kernel_rfl) (by kernel_rfl) (fun _ _ _ h => h) (Or.inl ⟨by rfl, ?_⟩) (by assumption) ?_; rotate_left; (focus (intro w hSw; (try dsimp only at hSw); go_simp; first | done | with_reducible rfl)); (try simp only [Act.put, List.getElem_toArray, List.getElem_cons_succ, List.getElem_cons_zero, List.setIfInBounds_toArray, List.set_cons_zero, List.set_cons_succ]))
                        (refine wpAnyH_take (i := 4) (v := ?_) rfl (by kernel_rfl) (by kernel_rfl) (by kernel_rfl) (fun _ _ _ h => h) (Or.inl ⟨by rfl, ?_⟩) (by assumption) ?_; rotate_left; (focus (intro w hSw; (try dsimp only at hSw); go_simp; first | done | with_reducible rfl)); (try simp only [Act.put, List.getElem_toArray, List.getElem_cons_succ, List.getElem_cons_zero, List.setIfInBounds_toArray, List.set_cons_zero, List.set_cons_succ]))
                        (refine wpAnyH_take (i := 5) (v := ?_) rfl (by kernel_rfl) (by kernel_rfl) (by kernel_rfl) (fun _ _ _ h => h) (Or.inl ⟨by rfl, ?_⟩) (by assumption) ?_; rotate_left; (focus (intro w hSw; (try dsimp only at hSw); go_simp; first | done | with_reducible rfl)); (try simp only [Act.put, List.getElem_toArray, List.getElem_cons_succ, List.getElem_cons_zero, List.setIfInBounds_toArray, List.set_cons_zero, List.set_cons_succ]))
                        (refine wpAnyH_take (i := 6) (v := ?_) rfl (by kernel_rfl) (by kernel_rfl) (by kernel_rfl) (fun _ _ _ h => h) (Or.inl ⟨by rfl, ?_⟩) (by assumption) ?_; rotate_left; (focus (intro w hSw; (try dsimp only at hSw); go_simp; first | done | with_reducible rfl)); (try simp only [Act.put, List.getElem_toArray, List.getElem_cons_succ, List.getElem_cons_zero, List.setIfInBounds_toArray, List.set_cons_zero, List.set_cons_succ]))
                        (refine wpAnyH_take (i := 7) (v := ?_) rfl (by kernel_rfl) (by kernel_rfl) (by kernel_rfl) (fun _ _ _ h => h) (Or.inl ⟨by rfl, ?_⟩) (by assumption) ?_; rotate_left; (focus (intro w hSw; (try dsimp only at hSw); go_simp; first | done | with_reducible rfl)); (try simp only [Act.put, List.getElem_toArray, List.getElem_cons_succ, List.getElem_cons_zero, List.setIfInBounds_toArray, List.set_cons_zero, List.set_cons_succ]))
                        (refine wpAnyH_take (i := 8) (v := undef) rfl (by kernel_rfl) (by kernel_rfl) (by kernel_rfl) (fun _ _ _ h => h) (Or.inr ⟨by rfl, rfl⟩) (by assumption) ?_; (try simp only [Act.put, List.getElem_toArray, List.getElem_cons_succ, List.getElem_cons_zero, List.setIfInBounds_toArray, List.set_cons_zero, List.set_cons_succ]))
                        (refine wpAnyH_take (i := 9) (v := undef) rfl (by kernel_rfl) (by kernel_rfl) (by kernel_rfl) (fun _ _ _ h => h) (Or.inr ⟨by rfl, rfl⟩) (by assumption) ?_; (try simp only [Act.put, List.getElem_toArray, List.getElem_cons_succ, List.getElem_cons_zero, List.setIfInBounds_toArray, List.set_cons_zero, List.set_cons_succ]))
                        (refine wpAnyH_take (i := 10) (v := undef) rfl (by kernel_rfl) (by kernel_rfl) (by kernel_rfl) (fun _ _ _ h => h) (Or.inr ⟨by rfl, rfl⟩) (by assumption) ?_; (try simp only [Act.put, List.getElem_toArray, List.getElem_cons_succ, List.getElem_cons_zero, List.setIfInBounds_toArray, List.set_cons_zero, List.set_cons_succ]))
                        (refine wpAnyH_take (i := 11) (v := undef) rfl (by kernel_rfl) (by kernel_rfl) (by kernel_rfl) (fun _ _ _ h => h) (Or.inr ⟨by rfl, rfl⟩) (by assumption) ?_; (try simp only [Act.put, List.getElem_toArray, List.getElem_cons_succ, List.getElem_cons_zero, List.setIfInBounds_toArray, List.set_cons_zero, List.set_cons_succ]))
                        (refine wpAnyH_take (i := 12) (v := undef) rfl (by kernel_rfl) (by kernel_rfl) (by kernel_rfl) (fun _ _ _ h => h) (Or.inr ⟨by rfl, rfl⟩) (by assumption) ?_; (try simp only [Act.put, List.getElem_toArray, List.getElem_cons_succ, List.getElem_cons_zero, List.setIfInBounds_toArray, List.set_cons_zero, List.set_cons_succ]))
                        (refine wpAnyH_take (i := 13) (v := undef) rfl (by kernel_rfl) (by kernel_rfl) (by kernel_rfl) (fun _ _ _ h => h) (Or.inr ⟨by rfl, rfl⟩) (by assumption) ?_; (try simp only [Act.put, List.getElem_toArray, List.getElem_cons_succ, List.getElem_cons_zero, List.setIfInBounds_toArray, List.set_cons_zero, List.set_cons_succ]))
                        (refine wpAnyH_take (i := 14) (v := undef) rfl (by kernel_rfl) (by kernel_rfl) (by kernel_rfl) (fun _ _ _ h => h) (Or.inr ⟨by rfl, rfl⟩) (by assumption) ?_; (try simp only [Act.put, List.getElem_toArray, List.getElem_cons_succ, List.getElem_cons_zero, List.setIfInBounds_toArray, List.set_cons_zero, List.set_cons_succ]))
                        (refine wpAnyH_take (i := 15) (v := undef) rfl (by kernel_rfl) (by kernel_rfl) (by kernel_rfl) (fun _ _ _ h => h) (Or.inr ⟨by rfl, rfl⟩) (by assumption) ?_; (try simp only [Act.put, List.getElem_toArray, List.getElem_cons_succ, List.getElem_cons_zero, List.setIfInBounds_toArray, List.set_cons_zero, List.set_cons_succ]))
                        (refine wpAnyH_take (i := 16) (v := ?_) rfl (by kernel_rfl) (by kernel_rfl) (by kernel_rfl) (fun _ _ _ h => h) (Or.inl ⟨by rfl, ?_⟩) (by assumption) ?_; rotate_left; (focus (intro w hSw; (try dsimp only at hSw); go_simp; first | done | with_reducible rfl)); (try simp only [Act.put, List.getElem_toArray, List.getElem_cons_succ, List.getElem_cons_zero, List.setIfInBounds_toArray, List.set_cons_zero, List.set_cons_succ]))
                        (refine wpAnyH_take (i := 17) (v := ?_) rfl (by kernel_rfl) (by kernel_rfl) (by kernel_rfl) (fun _ _ _ h => h) (Or.inl ⟨by rfl, ?_⟩) (by assumption) ?_; rotate_left; (focus (intro w hSw; (try dsimp only at hSw); go_simp; first | done | with_reducible rfl)); (try simp only [Act.put, List.getElem_toArray, List.getElem_cons_succ, List.getElem_cons_zero, List.setIfInBounds_toArray, List.set_cons_zero, List.set_cons_succ]))
                        (refine wpAnyH_take (i := 18) (v := ?_) rfl (by kernel_rfl) (by kernel_rfl) (by kernel_rfl) (fun _ _ _ h => h) (Or.inl ⟨by rfl, ?_⟩) (by assumption) ?_; rotate_left; (focus (intro w hSw; (try dsimp only at hSw); go_simp; first | done | with_reducible rfl)); (try simp only [Act.put, List.getElem_toArray, List.getElem_cons_succ, List.getElem_cons_zero, List.setIfInBounds_toArray, List.set_cons_zero, List.set_cons_succ]))
                        (refine wpAnyH_take (i := 19) (v := ?_) rfl (by kernel_rfl) (by kernel_rfl) (by kernel_rfl) (fun _ _ _ h => h) (Or.inl ⟨by rfl, ?_⟩) (by assumption) ?_; rotate_left; (focus (intro w hSw; (try dsimp only at hSw); go_simp; first | done | with_reducible rfl)); (try simp only [Act.put, List.getElem_toArray, List.getElem_cons_succ, List.getElem_cons_zero, List.setIfInBounds_toArray, List.set_cons_zero, List.set_cons_succ]))
                        (refine wpAnyH_take (i := 20) (v := ?_) rfl (by kernel_rfl) (by kernel_rfl) (by kernel_rfl) (fun _ _ _ h => h) (Or.inl ⟨by rfl, ?_⟩) (by assumption) ?_; rotate_left; (focus (intro w hSw; (try dsimp only at hSw); go_simp; first | done | with_reducible rfl)); (try simp only [Act.put, List.getElem_toArray, List.getElem_cons_succ, List.getElem_cons_zero, List.setIfInBounds_toArray, List.set_cons_zero, List.set_cons_succ]))
                        (refine wpAnyH_take (i := 21) (v := ?_) rfl (by kernel_rfl) (by kernel_rfl) (by kernel_rfl) (fun _ _ _ h => h) (Or.inl ⟨by rfl, ?_⟩) (by assumption) ?_; rotate_left; (focus (intro w hSw; (try dsimp only at hSw); go_simp; first | done | with_reducible rfl)); (try simp only [Act.put, List.getElem_toArray, List.getElem_cons_succ, List.getElem_cons_zero, List.setIfInBounds_toArray, List.set_cons_zero, List.set_cons_succ]))
                        (refine wpAnyH_take (i := 22) (v := ?_) rfl (by kernel_rfl) (by kernel_rfl) (by kernel_rfl) (fun _ _ _ h => h) (Or.inl ⟨by rfl, ?_⟩) (by assumption) ?_; rotate_left; (focus (intro w hSw; (try dsimp only at hSw); go_simp; first | done | with_reducible rfl)); (try simp only [Act.put, List.getElem_toArray, List.getElem_cons_succ, List.getElem_cons_zero, List.setIfInBounds_toArray, List.set_cons_zero, List.set_cons_succ]))
                        (refine wpAnyH_take (i := 23) (v := ?_) rfl (by kernel_rfl) (by kernel_rfl) (by kernel_rfl) (fun _ _ _ h => h) (Or.inl ⟨by rfl, ?_⟩) (by assumption) ?_; rotate_left; (focus (intro w hSw; (try dsimp only at hSw); go_simp; first | done | with_reducible rfl)); (try simp only [Act.put, List.getElem_toArray, List.getElem_cons_succ, List.getElem_cons_zero, List.setIfInBounds_toArray, List.set_cons_zero, List.set_cons_succ]))
                        refine wpAnyH_ready (rs := [24]) (by kernel_rfl) (by simp) ?_
                        refine AllReadyH.cons rfl (fun K hK => ?_) AllReadyH.nil
                        go_simp
                        (with_reducible refine (QN.out _ (And.left hHeld)).mono ?_; rintro e wq ⟨Ay, cy, rfl, hrdy, hb⟩)
                        refine hK.out _ _ (HS.out _ _ hHeld hb) (fun hHeld => ?_)
                        clear hK K
                        (try simp only [Act.put, List.getElem_toArray, List.getElem_cons_succ, List.getElem_cons_zero, List.setIfInBounds_toArray, List.set_cons_zero, List.set_cons_succ])
                        refine wpAnyH_ready (rs := [25]) (by kernel_rfl) (by simp) ?_
                        refine AllReadyH.cons rfl (fun K hK => ?_) AllReadyH.nil
                        go_simp
                        (with_reducible refine (QS.out _ _ _ (And.left hHeld) hrdy).mono ?_; rintro e wp ⟨rfl, hb⟩)
                        refine hK.out _ _ (HS.out _ _ hHeld hb) (fun hHeld => ?_)
                        clear hK K
                        (try simp only [Act.put, List.getElem_toArray, List.getElem_cons_succ, List.getElem_cons_zero, List.setIfInBounds_toArray, List.set_cons_zero, List.set_cons_succ])
                        (refine wpAnyH_take (i := 26) (v := ?_) rfl (by kernel_rfl) (by kernel_rfl) (by kernel_rfl) (fun _ _ _ h => h) (Or.inl ⟨by rfl, ?_⟩) (by assumption) ?_; rotate_left; (focus (intro w hSw; (try dsimp only at hSw); go_simp; first | done | with_reducible rfl)); (try simp only [Act.put, List.getElem_toArray, List.getElem_cons_succ, List.getElem_cons_zero, List.setIfInBounds_toArray, List.set_cons_zero, List.set_cons_succ]))
                        (refine wpAnyH_take (i := 27) (v := ?_) rfl (by kernel_rfl) (by kernel_rfl) (by kernel_rfl) (fun _ _ _ h => h) (Or.inl ⟨by rfl, ?_⟩) (by assumption) ?_; rotate_left; (focus (intro w hSw; (try dsimp only at hSw); go_simp; first | done | with_reducible rfl)); (try simp only [Act.put, List.getElem_toArray, List.getElem_cons_succ, List.getElem_cons_zero, List.setIfInBounds_toArray, List.set_cons_zero, List.set_cons_succ]))
                        (refine wpAnyH_take (i := 28) (v := ?_) rfl (by kernel_rfl) (by kernel_rfl) (by kernel_rfl) (fun _ _ _ h => h) (Or.inl ⟨by rfl, ?_⟩) (by assumption) ?_; rotate_left; (focus (intro w hSw; (try dsimp only at hSw); go_simp; first | done | with_reducible rfl)); (try simp only [Act.put, List.getElem_toArray, List.getElem_cons_succ, List.getElem_cons_zero, List.setIfInBounds_toArray, List.set_cons_zero, List.set_cons_succ]))
                        refine wpAnyH_done (by kernel_rfl) ?_ _
                        all_goals
                          have hbd := And.left ‹Below w12.heap.size w12 _ ∧ _›
                          go_wp2_with fail
                          go_meet
                          case rel => exact ⟨rfl, hbd⟩
                      case rest =>
                        rename_i K hK
                        refine hK _ _ ?_
                        clear hK K
                        obtain ⟨w14, hw14⟩ : ∃ w, w = wc := ⟨_, rfl⟩
                        subst hw14
                        obtain ⟨rfl, hb⟩ := hcut
                        clear q23 l23 HS
                        clear q7 l7 z0 z1 lE
                        replace HBr := hide (HBr.out.trans (hb.mono HBr.out.size))
                        replace RE := hide (RE.out.below hb)
                        clear hb
                        go_wp2_with fail
                        go_roundw
                        case rel => exact ⟨j + 1, by omega, by omega, by go_num, HBr.out⟩
                        case measure => simp [intOf]; omega
                    · skip
                      have HN := hide (fun w => new_no s w hmay)
                      have HM := hide (fun w => rmany_any s w false (by simpa using hmay))
                      have q7 := row1 (R7.out.below HBr.out)
                      have l7 := (R7.out.below HBr.out).lt
                      have z0 := row20 RE.out
                      have z1 := row21 RE.out
                      have lE := RE.out.lt
                      go_wp2_with fail
                      clear q7 l7 z0 z1 lE
                      with_reducible refine (HN.out _).mono ?_
                      rintro e w11 ⟨rfl, hb⟩
                      replace HBr := hide (HBr.out.trans (hb.mono HBr.out.size))
                      replace RE := hide (RE.out.below hb)
                      clear hb
                      have q7 := row1 (R7.out.below HBr.out)
                      have l7 := (R7.out.below HBr.out).lt
                      have z0 := row20 RE.out
                      have z1 := row21 RE.out
                      have lE := RE.out.lt
                      go_upto_region 33 with fail
                      clear q7 l7 z0 z1 lE
                      obtain ⟨g23, hg23⟩ : ∃ g, w11.heap.size = g := ⟨_, rfl⟩
                      have hbx : Below w11.heap.size w11 (w11.alloc (.cells #[.slice none 0 0] 24)) := (Below.refl _ _).alloc (Nat.le_refl _) _
                      have R23 : Hid (RowAt (w11.alloc (.cells #[.slice none 0 0] 24)) g23 24 #[.slice none 0 0]) := hide (by have h := RowAt.new w11 24 #[.slice none 0 0]; rw [hg23] at h; exact h)
                      (try rw [hg23])
                      clear hg23
                      replace HBr := hide (HBr.out.trans (hbx.mono HBr.out.size))
                      replace RE := hide (RE.out.below hbx)
                      clear hbx
                      generalize w11.alloc (.cells #[.slice none 0 0] 24) = w12 at *
                      have q7 := row1 (R7.out.below HBr.out)
                      have l7 := (R7.out.below HBr.out).lt
                      have z0 := row20 RE.out
                      have z1 := row21 RE.out
                      have lE := RE.out.lt
                      have q23 := row1 R23.out
                      have l23 := R23.out.lt
                      go_wp2_with fail
                      with_reducible refine (HM.out _).mono ?_
                      rintro e w13 ⟨rfl, rfl⟩
                      have HS : Hid (∀ w w', (Below w12.heap.size w12 w ∧ w.cell? ⟨g23, 0, none⟩ = some (.slice none 0 0) ∧ w.cell? ⟨wr.heap.size, 0, none⟩ = some (.int .i64 s)) → Below w.heap.size w w' → (Below w12.heap.size w12 w' ∧ w'.cell? ⟨g23, 0, none⟩ = some (.slice none 0 0) ∧ w'.cell? ⟨wr.heap.size, 0, none⟩ = some (.int .i64 s))) := hide (fun w w' h hb => ⟨h.1.trans (hb.mono h.1.size), kept hb h.2.1, kept hb h.2.2⟩)
                      go_upto_region 34 with fail
                      go_cut [178] from 150 to 178 (fun s178 wx => s178 = .bool false ∧ Below w12.heap.size w12 wx)
                      case first =>
                        have hbd0 : Below w12.heap.size w12 w12.drew := (Below.refl _ _).drew
                        refine wp_region_held_drew (S := fun wX => Below w12.heap.size w12 wX ∧ wX.cell? ⟨g23, 0, none⟩ = some (.slice none 0 0) ∧ wX.cell? ⟨wr.heap.size, 0, none⟩ = some (.int .i64 s)) (by kernel_rfl) (⟨hbd0, q23, z0⟩) (fun hHeld => ?_)
                        (refine wpAnyH_take (i := 0) (v := ?_) rfl (by kernel_rfl) (by kernel_rfl) (by kernel_rfl) (fun _ _ _ h => h) (Or.inl ⟨by rfl, ?_⟩) (by assumption) ?_; rotate_left; (focus (intro w hSw; (try dsimp only at hSw); go_simp; first | done | with_reducible rfl)); (try simp only [Act.put, List.getElem_toArray, List.getElem_cons_succ, List.getElem_cons_zero, List.setIfInBounds_toArray, List.set_cons_zero, List.set_cons_succ]))
                        (refine wpAnyH_take (i := 1) (v := ?_) rfl (by kernel_rfl) (by kernel_rfl) (by kernel_rfl) (fun _ _ _ h => h) (Or.inl ⟨by rfl, ?_⟩) (by assumption) ?_; rotate_left; (focus (intro w hSw; (try dsimp only at hSw); go_simp; first | done | with_reducible rfl)); (try simp only [Act.put, List.getElem_toArray, List.getElem_cons_succ, List.getElem_cons_zero, List.setIfInBounds_toArray, List.set_cons_zero, List.set_cons_succ]))
                        (refine wpAnyH_take (i := 2) (v := ?_) rfl (by kernel_rfl) (by kernel_rfl) (by kernel_rfl) (fun _ _ _ h => h) (Or.inl ⟨by rfl, ?_⟩) (by assumption) ?_; rotate_left; (focus (intro w hSw; (try dsimp only at hSw); go_simp; first | done | with_reducible rfl)); (try simp only [Act.put, List.getElem_toArray, List.getElem_cons_succ, List.getElem_cons_zero, List.setIfInBounds_toArray, List.set_cons_zero, List.set_cons_succ]))
                        (refine wpAnyH_take (i := 3) (v := ?_) rfl (by kernel_rfl) (by kernel_rfl) (by kernel_rfl) (fun _ _ _ h => h) (Or.inl ⟨by rfl, ?_⟩) (by assumption) ?_; rotate_left; (focus (intro w hSw; (try dsimp only at hSw); go_simp; first | done | with_reducible rfl)); (try simp only [Act.put, List.getElem_toArray, List.getElem_cons_succ, List.getElem_cons_zero, List.setIfInBounds_toArray, List.set_cons_zero, List.set_cons_succ]))
                        (refine wpAnyH_take (i := 4) (v := ?_) rfl (by kernel_rfl) (by kernel_rfl) (by kernel_rfl) (fun _ _ _ h => h) (Or.inl ⟨by rfl, ?_⟩) (by assumption) ?_; rotate_left; (focus (intro w hSw; (try dsimp only at hSw); go_simp; first | done | with_reducible rfl)); (try simp only [Act.put, List.getElem_toArray, List.getElem_cons_succ, List.getElem_cons_zero, List.setIfInBounds_toArray, List.set_cons_zero, List.set_cons_succ]))
                        (refine wpAnyH_take (i := 5) (v := ?_) rfl (by kernel_rfl) (by kernel_rfl) (by kernel_rfl) (fun _ _ _ h => h) (Or.inl ⟨by rfl, ?_⟩) (by assumption) ?_; rotate_left; (focus (intro w hSw; (try dsimp only at hSw); go_simp; first | done | with_reducible rfl)); (try simp only [Act.put, List.getElem_toArray, List.getElem_cons_succ, List.getElem_cons_zero, List.setIfInBounds_toArray, List.set_cons_zero, List.set_cons_succ]))
                        (refine wpAnyH_take (i := 6) (v := ?_) rfl (by kernel_rfl) (by kernel_rfl) (by kernel_rfl) (fun _ _ _ h => h) (Or.inl ⟨by rfl, ?_⟩) (by assumption) ?_; rotate_left; (focus (intro w hSw; (try dsimp only at hSw); go_simp; first | done | with_reducible rfl)); (try simp only [Act.put, List.getElem_toArray, List.getElem_cons_succ, List.getElem_cons_zero, List.setIfInBounds_toArray, List.set_cons_zero, List.set_cons_succ]))
                        (refine wpAnyH_take (i := 7) (v := ?_) rfl (by kernel_rfl) (by kernel_rfl) (by kernel_rfl) (fun _ _ _ h => h) (Or.inl ⟨by rfl, ?_⟩) (by assumption) ?_; rotate_left; (focus (intro w hSw; (try dsimp only at hSw); go_simp; first | done | with_reducible rfl)); (try simp only [Act.put, List.getElem_toArray, List.getElem_cons_succ, List.getElem_cons_zero, List.setIfInBounds_toArray, List.set_cons_zero, List.set_cons_succ]))
                        (refine wpAnyH_take (i := 8) (v := ?_) rfl (by kernel_rfl) (by kernel_rfl) (by kernel_rfl) (fun _ _ _ h => h) (Or.inl ⟨by rfl, ?_⟩) (by assumption) ?_; rotate_left; (focus (intro w hSw; (try dsimp only at hSw); go_simp; first | done | with_reducible rfl)); (try simp only [Act.put, List.getElem_toArray, List.getElem_cons_succ, List.getElem_cons_zero, List.setIfInBounds_toArray, List.set_cons_zero, List.set_cons_succ]))
                        (refine wpAnyH_take (i := 9) (v := ?_) rfl (by kernel_rfl) (by kernel_rfl) (by kernel_rfl) (fun _ _ _ h => h) (Or.inl ⟨by rfl, ?_⟩) (by assumption) ?_; rotate_left; (focus (intro w hSw; (try dsimp only at hSw); go_simp; first | done | with_reducible rfl)); (try simp only [Act.put, List.getElem_toArray, List.getElem_cons_succ, List.getElem_cons_zero, List.setIfInBounds_toArray, List.set_cons_zero, List.set_cons_succ]))
                        (refine wpAnyH_take (i := 10) (v := ?_) rfl (by kernel_rfl) (by kernel_rfl) (by kernel_rfl) (fun _ _ _ h => h) (Or.inl ⟨by rfl, ?_⟩) (by assumption) ?_; rotate_left; (focus (intro w hSw; (try dsimp only at hSw); go_simp; first | done | with_reducible rfl)); (try simp only [Act.put, List.getElem_toArray, List.getElem_cons_succ, List.getElem_cons_zero, List.setIfInBounds_toArray, List.set_cons_zero, List.set_cons_succ]))
                        (refine wpAnyH_take (i := 11) (v := ?_) rfl (by kernel_rfl) (by kernel_rfl) (by kernel_rfl) (fun _ _ _ h => h) (Or.inl ⟨by rfl, ?_⟩) (by assumption) ?_; rotate_left; (focus (intro w hSw; (try dsimp only at hSw); go_simp; first | done | with_reducible rfl)); (try simp only [Act.put, List.getElem_toArray, List.getElem_cons_succ, List.getElem_cons_zero, List.setIfInBounds_toArray, List.set_cons_zero, List.set_cons_succ]))
                        (refine wpAnyH_take (i := 12) (v := ?_) rfl (by kernel_rfl) (by kernel_rfl) (by kernel_rfl) (fun _ _ _ h => h) (Or.inl ⟨by rfl, ?_⟩) (by assumption) ?_; rotate_left; (focus (intro w hSw; (try dsimp only at hSw); go_simp; first | done | with_reducible rfl)); (try simp only [Act.put, List.getElem_toArray, List.getElem_cons_succ, List.getElem_cons_zero, List.setIfInBounds_toArray, List.set_cons_zero, List.set_cons_succ]))
                        (refine wpAnyH_take (i := 13) (v := ?_) rfl (by kernel_rfl) (by kernel_rfl) (by kernel_rfl) (fun _ _ _ h => h) (Or.inl ⟨by rfl, ?_⟩) (by assumption) ?_; rotate_left; (focus (intro w hSw; (try dsimp only at hSw); go_simp; first | done | with_reducible rfl)); (try simp only [Act.put, List.getElem_toArray, List.getElem_cons_succ, List.getElem_cons_zero, List.setIfInBounds_toArray, List.set_cons_zero, List.set_cons_succ]))
                        (refine wpAnyH_take (i := 14) (v := ?_) rfl (by kernel_rfl) (by kernel_rfl) (by kernel_rfl) (fun _ _ _ h => h) (Or.inl ⟨by rfl, ?_⟩) (by assumption) ?_; rotate_left; (focus (intro w hSw; (try dsimp only at hSw); go_simp; first | done | with_reducible rfl)); (try simp only [Act.put, List.getElem_toArray, List.getElem_cons_succ, List.getElem_cons_zero, List.setIfInBounds_toArray, List.set_cons_zero, List.set_cons_succ]))
                        (refine wpAnyH_take (i := 15) (v := ?_) rfl (by kernel_rfl) (by kernel_rfl) (by kernel_rfl) (fun _ _ _ h => h) (Or.inl ⟨by rfl, ?_⟩) (by assumption) ?_; rotate_left; (focus (intro w hSw; (try dsimp only at hSw); go_simp; first | done | with_reducible rfl)); (try simp only [Act.put, List.getElem_toArray, List.getElem_cons_succ, List.getElem_cons_zero, List.setIfInBounds_toArray, List.set_cons_zero, List.set_cons_succ]))
                        (refine wpAnyH_take (i := 16) (v := ?_) rfl (by kernel_rfl) (by kernel_rfl) (by kernel_rfl) (fun _ _ _ h => h) (Or.inl ⟨by rfl, ?_⟩) (by assumption) ?_; rotate_left; (focus (intro w hSw; (try dsimp only at hSw); go_simp; first | done | with_reducible rfl)); (try simp only [Act.put, List.getElem_toArray, List.getElem_cons_succ, List.getElem_cons_zero, List.setIfInBounds_toArray, List.set_cons_zero, List.set_cons_succ]))
                        (refine wpAnyH_take (i := 17) (v := ?_) rfl (by kernel_rfl) (by kernel_rfl) (by kernel_rfl) (fun _ _ _ h => h) (Or.inl ⟨by rfl, ?_⟩) (by assumption) ?_; rotate_left; (focus (intro w hSw; (try dsimp only at hSw); go_simp; first | done | with_reducible rfl)); (try simp only [Act.put, List.getElem_toArray, List.getElem_cons_succ, List.getElem_cons_zero, List.setIfInBounds_toArray, List.set_cons_zero, List.set_cons_succ]))
                        (refine wpAnyH_take (i := 18) (v := ?_) rfl (by kernel_rfl) (by kernel_rfl) (by kernel_rfl) (fun _ _ _ h => h) (Or.inl ⟨by rfl, ?_⟩) (by assumption) ?_; rotate_left; (focus (intro w hSw; (try dsimp only at hSw); go_simp; first | done | with_reducible rfl)); (try simp only [Act.put, List.getElem_toArray, List.getElem_cons_succ, List.getElem_cons_zero, List.setIfInBounds_toArray, List.set_cons_zero, List.set_cons_succ]))
                        (refine wpAnyH_take (i := 19) (v := ?_) rfl (by kernel_rfl) (by kernel_rfl) (by kernel_rfl) (fun _ _ _ h => h) (Or.inl ⟨by rfl, ?_⟩) (by assumption) ?_; rotate_left; (focus (intro w hSw; (try dsimp only at hSw); go_simp; first | done | with_reducible rfl)); (try simp only [Act.put, List.getElem_toArray, List.getElem_cons_succ, List.getElem_cons_zero, List.setIfInBounds_toArray, List.set_cons_zero, List.set_cons_succ]))
                        (refine wpAnyH_take (i := 20) (v := ?_) rfl (by kernel_rfl) (by kernel_rfl) (by kernel_rfl) (fun _ _ _ h => h) (Or.inl ⟨by rfl, ?_⟩) (by assumption) ?_; rotate_left; (focus (intro w hSw; (try dsimp only at hSw); go_simp; first | done | with_reducible rfl)); (try simp only [Act.put, List.getElem_toArray, List.getElem_cons_succ, List.getElem_cons_zero, List.setIfInBounds_toArray, List.set_cons_zero, List.set_cons_succ]))
                        (refine wpAnyH_take (i := 21) (v := undef) rfl (by kernel_rfl) (by kernel_rfl) (by kernel_rfl) (fun _ _ _ h => h) (Or.inr ⟨by rfl, rfl⟩) (by assumption) ?_; (try simp only [Act.put, List.getElem_toArray, List.getElem_cons_succ, List.getElem_cons_zero, List.setIfInBounds_toArray, List.set_cons_zero, List.set_cons_succ]))
                        (refine wpAnyH_take (i := 22) (v := undef) rfl (by kernel_rfl) (by kernel_rfl) (by kernel_rfl) (fun _ _ _ h => h) (Or.inr ⟨by rfl, rfl⟩) (by assumption) ?_; (try simp only [Act.put, List.getElem_toArray, List.getElem_cons_succ, List.getElem_cons_zero, List.setIfInBounds_toArray, List.set_cons_zero, List.set_cons_succ]))
                        (refine wpAnyH_take (i := 23) (v := undef) rfl (by kernel_rfl) (by kernel_rfl) (by kernel_rfl) (fun _ _ _ h => h) (Or.inr ⟨by rfl, rfl⟩) (by assumption) ?_; (try simp only [Act.put, List.getElem_toArray, List.getElem_cons_succ, List.getElem_cons_zero, List.setIfInBounds_toArray, List.set_cons_zero, List.set_cons_succ]))
                        (refine wpAnyH_take (i := 24) (v := undef) rfl (by kernel_rfl) (by kernel_rfl) (by kernel_rfl) (fun _ _ _ h => h) (Or.inr ⟨by rfl, rfl⟩) (by assumption) ?_; (try simp only [Act.put, List.getElem_toArray, List.getElem_cons_succ, List.getElem_cons_zero, List.setIfInBounds_toArray, List.set_cons_zero, List.set_cons_succ]))
                        (refine wpAnyH_take (i := 25) (v := undef) rfl (by kernel_rfl) (by kernel_rfl) (by kernel_rfl) (fun _ _ _ h => h) (Or.inr ⟨by rfl, rfl⟩) (by assumption) ?_; (try simp only [Act.put, List.getElem_toArray, List.getElem_cons_succ, List.getElem_cons_zero, List.setIfInBounds_toArray, List.set_cons_zero, List.set_cons_succ]))
                        (refine wpAnyH_take (i := 26) (v := undef) rfl (by kernel_rfl) (by kernel_rfl) (by kernel_rfl) (fun _ _ _ h => h) (Or.inr ⟨by rfl, rfl⟩) (by assumption) ?_; (try simp only [Act.put, List.getElem_toArray, List.getElem_cons_succ, List.getElem_cons_zero, List.setIfInBounds_toArray, List.set_cons_zero, List.set_cons_succ]))
                        (refine wpAnyH_take (i := 27) (v := ?_) rfl (by kernel_rfl) (by kernel_rfl) (by kernel_rfl) (fun _ _ _ h => h) (Or.inl ⟨by rfl, ?_⟩) (by assumption) ?_; rotate_left; (focus (intro w hSw; (try dsimp only at hSw); go_simp; first | done | with_reducible rfl)); (try simp only [Act.put, List.getElem_toArray, List.getElem_cons_succ, List.getElem_cons_zero, List.setIfInBounds_toArray, List.set_cons_zero, List.set_cons_succ]))
                        (refine wpAnyH_take (i := 28) (v := ?_) rfl (by kernel_rfl) (by kernel_rfl) (by kernel_rfl) (fun _ _ _ h => h) (Or.inl ⟨by rfl, ?_⟩) (by assumption) ?_; rotate_left; (focus (intro w hSw; (try dsimp only at hSw); go_simp; first | done | with_reducible rfl)); (try simp only [Act.put, List.getElem_toArray, List.getElem_cons_succ, List.getElem_cons_zero, List.setIfInBounds_toArray, List.set_cons_zero, List.set_cons_succ]))
                        refine wpAnyH_done (by kernel_rfl) ?_ _
                        all_goals
                          have hbd := And.left ‹Below w12.heap.size w12 _ ∧ _›
                          go_wp2_with fail
                          go_meet
                          case rel => exact ⟨rfl, hbd⟩
                      case rest =>
                        rename_i K hK
                        refine hK _ _ ?_
                        clear hK K
                        obtain ⟨w14, hw14⟩ : ∃ w, w = wc := ⟨_, rfl⟩
                        subst hw14
                        obtain ⟨rfl, hb⟩ := hcut
                        clear q23 l23 HS
                        clear q7 l7 z0 z1 lE
                        replace HBr := hide (HBr.out.trans (hb.mono HBr.out.size))
                        replace RE := hide (RE.out.below hb)
                        clear hb
                        go_wp2_with fail
                        go_roundw
                        case rel => exact ⟨j + 1, by omega, by omega, by go_num, HBr.out⟩
                        case measure => simp [intOf]; omega
            · skip
              have q7 := row1 (R7.out.below HBr.out)
              have l7 := (R7.out.below HBr.out).lt
              have q1 := row1 (R1.out.below HBr.out)
              have l1 := (R1.out.below HBr.out).lt
              have HBW := hide (HB.out.trans (HBr.out.mono HB.out.size))
              have QX : Hid (∀ w, Below wr.heap.size wr w → Calls Try.prog 8 #[.agg #[.slice A1 n1 c1]] w fun e W' => ∃ A' c', e = .returned (.agg #[.slice A' m1 c']) ∧ Rd W' W'.heap.size 2 A' m1 (Cs encE S) ∧ Below w.heap.size w W') := hide (fun w hw => (HOWN1.out w (HBW.out.trans (hw.mono HBW.out.size))).mono fun e W' ⟨A', c', e1, _, _, e3, _, e5⟩ => ⟨A', c', e1, e3, e5⟩)
              have Q18x : Hid (∀ w A' c', Below wr.heap.size wr w → Rd w w.heap.size 2 A' m1 (Cs encE S) → Calls Try.prog 18 #[.agg #[.slice A7 m1 k7], .agg #[.slice A' m1 c']] w fun e W' => e = .returned (.bool true) ∧ Below w.heap.size w W') := hide (fun w A' c' hw hr => rsame_any A7 A' k7 c' m1 m1 S S w ((O7.out.below (HBr.out.trans (hw.mono HBr.out.size))).more (Nat.le_trans HBr.out.size hw.size)) hr HL1.out HL1.out (by omega) (by omega) true (by simp))
              have HS : Hid (∀ w w', (Below wr.heap.size wr w ∧ w.cell? ⟨g7, 0, none⟩ = some (.slice A7 m1 k7) ∧ w.cell? ⟨W.heap.size, 0, none⟩ = some (.slice A1 n1 c1)) → Below w.heap.size w w' → (Below wr.heap.size wr w' ∧ w'.cell? ⟨g7, 0, none⟩ = some (.slice A7 m1 k7) ∧ w'.cell? ⟨W.heap.size, 0, none⟩ = some (.slice A1 n1 c1))) := hide (fun w w' h hb => ⟨h.1.trans (hb.mono h.1.size), kept hb h.2.1, kept hb h.2.2⟩)
              go_wp2_with fail
              skip
              have hbd0 : Below wr.heap.size wr wr.drew := (Below.refl _ _).drew
              go_region_held3 (fun wX => Below wr.heap.size wr wX ∧ wX.cell? ⟨g7, 0, none⟩ = some (.slice A7 m1 k7) ∧ wX.cell? ⟨W.heap.size, 0, none⟩ = some (.slice A1 n1 c1))
                (first | exact HS.out _ _ ‹_› hb | exact ⟨hbd0, q7, q1⟩ | go_keep)
                (first
                  | (go_at_call 8; with_reducible refine (QX.out _ (And.left ‹Below wr.heap.size wr _ ∧ _›)).mono ?_; rintro e wq ⟨Ay, cy, rfl, hrdy, hb⟩)
                  | (go_at_call 18; with_reducible refine (Q18x.out _ _ _ (And.left ‹Below wr.heap.size wr _ ∧ _›) hrdy).mono ?_; rintro e wq ⟨rfl, hb⟩))
              have hbd := And.left ‹Below wr.heap.size wr _ ∧ _›
              go_wp2_with fail
              go_ret
              exact ⟨rfl, HBW.out.trans (hbd.mono HBW.out.size)⟩
end Go.Proofs.Ytejhknboiacgeaa
