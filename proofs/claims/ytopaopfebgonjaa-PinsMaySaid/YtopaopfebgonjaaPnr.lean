/-
  PinsMay, walked.
-/
import Derived.Test.YtopaopfebgonjaaPnn
import Derived.IntWalk
import Derived.Deep.CutRange
import Derived.Deep.CutBlock
set_option linter.unusedSimpArgs false
set_option linter.unusedVariables false
namespace Go.Proofs.Ytopaopfebgonjaa
open Go Go.RowKit
attribute [local go_sem] via_cell via_frozen
attribute [local go_sem] undef

theorem Rd.setOffS2 {w : World} {n g : Nat} {A : Option Addr} {xs : List Value} (h : Rd w w.heap.size 1 A n xs) (ho : 0 < n → ∀ p, A = some p → p.block ≠ g) (o : Nat) (u : Value) : Rd (w.setCell ⟨g, o, none⟩ u) (w.setCell ⟨g, o, none⟩ u).heap.size 1 A n xs := by
  rcases Nat.eq_zero_or_pos n with h0 | h0
  · exact ⟨h.1, fun hn => absurd hn (by omega)⟩
  · exact h.setOffS (ho h0) o u

set_option maxRecDepth 100000 in
set_option maxHeartbeats 8000000 in
theorem May_walk (A1 : Option Addr) (c1 n1 : Nat) (e1 : Int) (A2 : Option Addr) (c2 n2 : Nat) (e2 : Int) (A3 : Option Addr) (c3 n3 : Nat) (xs ys zs : List Int) (W : World) (h1 : Rd W W.heap.size 1 A1 n1 (Cs encW xs)) (h2 : Rd W W.heap.size 1 A2 n2 (Cs encW ys)) (h3 : Rd W W.heap.size 1 A3 n3 (Cs encW zs))
    (hx1 : xs.length = n1) (hx2 : ys.length = n2) (hx3 : zs.length = n3) (hu1 : ∀ s ∈ xs, U64 s) (hu2 : ∀ s ∈ ys, U64 s) (hu3 : ∀ s ∈ zs, U64 s) (hn1 : n1 ≤ c1) (hn2 : n2 ≤ c2) (hn3 : n3 ≤ c3) (hm1 : c1 ≤ 9223372036854775807) (hm2 : c2 ≤ 9223372036854775807) (hm3 : c3 ≤ 9223372036854775807) (he1 : U64 e1) (he2 : U64 e2) :
    Calls Try.prog 5 #[.agg #[.int .u64 e1, .slice A1 n1 c1], .agg #[.int .u64 e2, .slice A2 n2 c2], .slice A3 n3 c3] W fun e W' => e = .returned (.bool true) ∧ Below W.heap.size W W' := by
  obtain ⟨m1, hmm1⟩ : ∃ m, min n1 10 = m := ⟨_, rfl⟩
  obtain ⟨S, hS1⟩ : ∃ S, xs.take m1 = S := ⟨_, rfl⟩
  have hm110 : m1 ≤ 10 := by omega
  have hSl1 : S.length = m1 := by rw [← hS1, List.length_take]; omega
  have HL1 := hide hSl1
  have HU1 := hide (show ∀ s ∈ S, U64 s from fun s hs => hu1 s (by rw [← hS1] at hs; exact List.mem_of_mem_take hs))
  have HOWN1 : Hid (∀ w, Below W.heap.size W w → Calls Try.prog 9 #[.agg #[.int .u64 e1, .slice A1 n1 c1]] w (LownRes w e1 m1 S)) := hide (fun w hb => by
    have h := lown_any A1 c1 n1 e1 xs w ((h1.below hb).more hb.size) hx1 hn1 hm1 m1 hmm1
    rw [hS1] at h
    exact h)
  obtain ⟨m2, hmm2⟩ : ∃ m, min n2 10 = m := ⟨_, rfl⟩
  obtain ⟨T, hS2⟩ : ∃ S, ys.take m2 = S := ⟨_, rfl⟩
  have hm210 : m2 ≤ 10 := by omega
  have hSl2 : T.length = m2 := by rw [← hS2, List.length_take]; omega
  have HL2 := hide hSl2
  have HU2 := hide (show ∀ s ∈ T, U64 s from fun s hs => hu2 s (by rw [← hS2] at hs; exact List.mem_of_mem_take hs))
  have HOWN2 : Hid (∀ w, Below W.heap.size W w → Calls Try.prog 9 #[.agg #[.int .u64 e2, .slice A2 n2 c2]] w (LownRes w e2 m2 T)) := hide (fun w hb => by
    have h := lown_any A2 c2 n2 e2 ys w ((h2.below hb).more hb.size) hx2 hn2 hm2 m2 hmm2
    rw [hS2] at h
    exact h)
  have H3 := hide h3
  have HX3 := hide hx3
  have HU3 := hide hu3
  have HW := hide (fun w => wakes_any w)
  have HB := hide (Below.refl W.heap.size W)
  have e1p : 0 ≤ e1 := he1.1
  have HE1 := hide he1
  clear hmm1 hmm2 hS1 hS2 hSl1 hSl2 h1 h2 h3 hx1 hx2 hx3 hu1 hu2 hu3 he1 he2
  go_enter Try.func5, Try.ntmps5
  go_wp2_with fail
  obtain ⟨g1, hg1⟩ : ∃ g, W.heap.size = g := ⟨_, rfl⟩
  have hWg1 : W.heap.size ≤ g1 := by rw [← hg1]; exact HB.out.size
  have hbx : Below W.heap.size W (W.alloc (.cells #[.int .u64 e1, .slice A1 n1 c1] 25)) := (Below.refl _ _).alloc (Nat.le_refl _) _
  have hrx := RowAt.new W 25 #[.int .u64 e1, .slice A1 n1 c1]
  rw [hg1] at hrx
  replace HB := hide (HB.out.trans (hbx.mono HB.out.size))
  have hs1 : (W.alloc (.cells #[.int .u64 e1, .slice A1 n1 c1] 25)).heap.size = g1 + 1 := by rw [World.size_alloc, hg1]
  have R1 := hide hrx
  clear hbx hrx
  generalize W.alloc (.cells #[.int .u64 e1, .slice A1 n1 c1] 25) = w2 at *
  have hbx : Below w2.heap.size w2 (w2.alloc (.cells #[.int .u64 e2, .slice A2 n2 c2] 25)) := (Below.refl _ _).alloc (Nat.le_refl _) _
  have hrx := RowAt.new w2 25 #[.int .u64 e2, .slice A2 n2 c2]
  rw [hs1] at hrx
  replace R1 := hide (R1.out.below hbx)
  replace HB := hide (HB.out.trans (hbx.mono HB.out.size))
  have hs3 : (w2.alloc (.cells #[.int .u64 e2, .slice A2 n2 c2] 25)).heap.size = g1 + 1 + 1 := by rw [World.size_alloc, hs1]
  have R2 := hide hrx
  clear hbx hrx
  generalize w2.alloc (.cells #[.int .u64 e2, .slice A2 n2 c2] 25) = w4 at *
  (try rw [hg1])
  clear hg1 hs1 hs3
  with_reducible refine (HW.out _).mono ?_
  rintro e w5 ⟨rfl, hb⟩
  replace R1 := hide (R1.out.below hb)
  replace R2 := hide (R2.out.below hb)
  replace HB := hide (HB.out.trans (hb.mono HB.out.size))
  clear hb HW
  have qR1_0 := row20 R1.out
  have qR1_1 := row21 R1.out
  have lR1 := R1.out.lt
  have qR2_0 := row20 R2.out
  have qR2_1 := row21 R2.out
  have lR2 := R2.out.lt
  have HO1 := hide (fun w (hb : Below w5.heap.size w5 w) => HOWN1.out w (HB.out.trans (hb.mono HB.out.size)))
  have HO2 := hide (fun w (hb : Below w5.heap.size w5 w) => HOWN2.out w (HB.out.trans (hb.mono HB.out.size)))
  go_upto_region 3 with fail
  go_cut [7, 8] from 24 to 27 (fun s7 s8 wx => ∃ (g7 : Nat) (A7 : Option Addr) (k7 : Nat) (g8 : Nat) (A8 : Option Addr) (k8 : Nat), s7 = .pointer (some ⟨g7, 0, none⟩) ∧ s8 = .pointer (some ⟨g8, 0, none⟩) ∧ RowAt wx g7 25 #[.int .u64 e1, .slice A7 m1 k7] ∧ RowAt wx g8 25 #[.int .u64 e2, .slice A8 m2 k8] ∧ Rd wx wx.heap.size 1 A7 m1 (Cs encW S) ∧ Rd wx wx.heap.size 1 A8 m2 (Cs encW T) ∧ m1 ≤ k7 ∧ m2 ≤ k8 ∧ Below w5.heap.size w5 wx)
  case first =>
    refine wp_region_held_drew (S := fun wX => Below w5.heap.size w5 wX) (by kernel_rfl) (Below.refl _ _).drew (fun hHeld => ?_)
    refine wpAnyH_take (i := 0) (v := .agg #[.int .u64 e1, .slice A1 n1 c1]) rfl (by kernel_rfl) (by kernel_rfl) (by kernel_rfl) (fun _ _ _ h => h) (Or.inl ⟨by rfl, fun w hw => ?_⟩) (by assumption) ?_
    · have e0 := kept hw qR1_0; have e1 := kept hw qR1_1
      go_simp
      first | done | with_reducible rfl
    simp only [Act.put, List.getElem_toArray, List.getElem_cons_succ, List.getElem_cons_zero, List.setIfInBounds_toArray, List.set_cons_zero, List.set_cons_succ]
    refine wpAnyH_take (i := 2) (v := .agg #[.int .u64 e2, .slice A2 n2 c2]) rfl (by kernel_rfl) (by kernel_rfl) (by kernel_rfl) (fun _ _ _ h => h) (Or.inl ⟨by rfl, fun w hw => ?_⟩) (by assumption) ?_
    · have e0 := kept hw qR2_0; have e1 := kept hw qR2_1
      go_simp
      first | done | with_reducible rfl
    simp only [Act.put, List.getElem_toArray, List.getElem_cons_succ, List.getElem_cons_zero, List.setIfInBounds_toArray, List.set_cons_zero, List.set_cons_succ]
    have HQ := hide ((Below.refl w5.heap.size w5).drew)
    generalize w5.drew = wd at *
    refine wpAnyH_ready (rs := [1, 4, 5]) (by kernel_rfl) (by simp) ?_
    refine (AllReadyH.cons rfl (fun K0 hK0 => ?_) (AllReadyH.cons rfl (fun K0 hK0 => ?_) (AllReadyH.cons rfl (fun K0 hK0 => ?_) AllReadyH.nil)))
    · go_simp
      refine (HO1.out _ (HQ.out)).mono ?_
      rintro e wa0 ⟨A7, k7, rfl, hk7, hkm7, ho7, hf7, hb0⟩
      have O1 := hide ho7
      replace HQ := hide (HQ.out.trans (hb0.mono HQ.out.size))
      refine hK0.out _ _ HQ.out (fun _ => ?_)
      clear hK0 K0 ho7 hf7 hb0
      (try simp only [Act.put, List.getElem_toArray, List.getElem_cons_succ, List.getElem_cons_zero, List.setIfInBounds_toArray, List.set_cons_zero, List.set_cons_succ])
      refine wpAnyH_ready (rs := [3, 4, 5]) (by kernel_rfl) (by simp) ?_
      refine (AllReadyH.cons rfl (fun K1 hK1 => ?_) (AllReadyH.cons rfl (fun K1 hK1 => ?_) (AllReadyH.cons rfl (fun K1 hK1 => ?_) AllReadyH.nil)))
      · go_simp
        refine (HO2.out _ (HQ.out)).mono ?_
        rintro e wa1 ⟨A8, k8, rfl, hk8, hkm8, ho8, hf8, hb1⟩
        replace O1 := hide ((O1.out.below hb1).more hb1.size)
        have O2 := hide ho8
        replace HQ := hide (HQ.out.trans (hb1.mono HQ.out.size))
        refine hK1.out _ _ HQ.out (fun _ => ?_)
        clear hK1 K1 ho8 hf8 hb1
        (try simp only [Act.put, List.getElem_toArray, List.getElem_cons_succ, List.getElem_cons_zero, List.setIfInBounds_toArray, List.set_cons_zero, List.set_cons_succ])
        refine wpAnyH_ready (rs := [4, 5]) (by kernel_rfl) (by simp) ?_
        refine (AllReadyH.cons rfl (fun K2 hK2 => ?_) (AllReadyH.cons rfl (fun K2 hK2 => ?_) AllReadyH.nil))
        · go_simp
          refine hK2.out _ _ (HQ.out.alloc HQ.out.size _) (fun _ => ?_)
          clear hK2 K2
          have hb2 : Below wa1.heap.size wa1 (wa1.alloc (.cells #[.int .u64 0, .slice none 0 0] 25)) := (Below.refl _ _).alloc (Nat.le_refl _) _
          have N17 := hide (fun (hn : 0 < m1) (p : Addr) (hp : A7 = some p) => (show p.block ≠ wa1.heap.size by obtain ⟨b, off, e1, hb, _⟩ := O1.out.2 hn; rw [hp] at e1; injection e1 with e1; rw [e1]; exact Nat.ne_of_lt hb))
          have N27 := hide (fun (hn : 0 < m2) (p : Addr) (hp : A8 = some p) => (show p.block ≠ wa1.heap.size by obtain ⟨b, off, e1, hb, _⟩ := O2.out.2 hn; rw [hp] at e1; injection e1 with e1; rw [e1]; exact Nat.ne_of_lt hb))
          replace O1 := hide ((O1.out.below hb2).more hb2.size)
          replace O2 := hide ((O2.out.below hb2).more hb2.size)
          have R7 := hide (RowAt.new wa1 25 #[.int .u64 0, .slice none 0 0])
          have G7 := hide HQ.out.size
          replace HQ := hide (HQ.out.alloc HQ.out.size (.cells #[.int .u64 0, .slice none 0 0] 25))
          clear hb2
          (try simp only [Act.put, List.getElem_toArray, List.getElem_cons_succ, List.getElem_cons_zero, List.setIfInBounds_toArray, List.set_cons_zero, List.set_cons_succ])
          generalize wa1.alloc (.cells #[.int .u64 0, .slice none 0 0] 25) = wa2 at *
          refine wpAnyH_ready (rs := [5]) (by kernel_rfl) (by simp) ?_
          refine (AllReadyH.cons rfl (fun K3 hK3 => ?_) AllReadyH.nil)
          · go_simp
            refine hK3.out _ _ (HQ.out.alloc HQ.out.size _) (fun _ => ?_)
            clear hK3 K3
            have hb3 : Below wa2.heap.size wa2 (wa2.alloc (.cells #[.int .u64 0, .slice none 0 0] 25)) := (Below.refl _ _).alloc (Nat.le_refl _) _
            have NE := hide (show wa1.heap.size ≠ wa2.heap.size from Nat.ne_of_lt R7.out.lt)
            have N18 := hide (fun (hn : 0 < m1) (p : Addr) (hp : A7 = some p) => (show p.block ≠ wa2.heap.size by obtain ⟨b, off, e1, hb, _⟩ := O1.out.2 hn; rw [hp] at e1; injection e1 with e1; rw [e1]; exact Nat.ne_of_lt hb))
            have N28 := hide (fun (hn : 0 < m2) (p : Addr) (hp : A8 = some p) => (show p.block ≠ wa2.heap.size by obtain ⟨b, off, e1, hb, _⟩ := O2.out.2 hn; rw [hp] at e1; injection e1 with e1; rw [e1]; exact Nat.ne_of_lt hb))
            replace O1 := hide ((O1.out.below hb3).more hb3.size)
            replace O2 := hide ((O2.out.below hb3).more hb3.size)
            replace R7 := hide (R7.out.below hb3)
            have R8 := hide (RowAt.new wa2 25 #[.int .u64 0, .slice none 0 0])
            have G8 := hide HQ.out.size
            replace HQ := hide (HQ.out.alloc HQ.out.size (.cells #[.int .u64 0, .slice none 0 0] 25))
            clear hb3
            (try simp only [Act.put, List.getElem_toArray, List.getElem_cons_succ, List.getElem_cons_zero, List.setIfInBounds_toArray, List.set_cons_zero, List.set_cons_succ])
            generalize wa2.alloc (.cells #[.int .u64 0, .slice none 0 0] 25) = wa3 at *
            refine wpAnyH_ready (rs := [6]) (by kernel_rfl) (by simp) ?_
            refine AllReadyH.cons rfl (fun K hK => ?_) AllReadyH.nil
            have l7 := R7.out.lt
            have z7 := row20 R7.out
            have y7 := row21 R7.out
            have f7 := R7.out.frozen 0
            have h7 := R7.out.frozen 1
            go_simp
            refine hK.out _ _ ((HQ.out.setCell (p := ⟨wa1.heap.size, 0, none⟩) G7.out _).setCell (p := ⟨wa1.heap.size, 1, none⟩) G7.out _) (fun _ => ?_)
            clear hK K
            replace O1 := hide (((O1.out.setOffS2 (g := wa1.heap.size) N17.out 0 (.int .u64 e1)).setOffS2 (g := wa1.heap.size) N17.out 1 (.slice A7 m1 k7)))
            replace O2 := hide (((O2.out.setOffS2 (g := wa1.heap.size) N27.out 0 (.int .u64 e1)).setOffS2 (g := wa1.heap.size) N27.out 1 (.slice A7 m1 k7)))
            replace R8 := hide (((R8.out.setNe (o := 0) (v := (.int .u64 e1)) (g2 := wa1.heap.size) (Ne.symm NE.out)).setNe (o := 1) (v := (.slice A7 m1 k7)) (g2 := wa1.heap.size) (Ne.symm NE.out)))
            replace R7 : Hid (RowAt ((wa3.setCell ⟨wa1.heap.size, 0, none⟩ (.int .u64 e1)).setCell ⟨wa1.heap.size, 1, none⟩ (.slice A7 m1 k7)) (wa1.heap.size) 25 #[.int .u64 e1, .slice A7 m1 k7]) := hide (by have h := (R7.out.set 0 (.int .u64 e1)).set 1 (.slice A7 m1 k7); simpa using h)
            replace HQ := hide ((HQ.out.setCell (p := ⟨wa1.heap.size, 0, none⟩) G7.out (.int .u64 e1)).setCell (p := ⟨wa1.heap.size, 1, none⟩) G7.out (.slice A7 m1 k7))
            clear l7 z7 y7 f7 h7
            generalize ((wa3.setCell ⟨wa1.heap.size, 0, none⟩ (.int .u64 e1)).setCell ⟨wa1.heap.size, 1, none⟩ (.slice A7 m1 k7)) = wt7 at *
            (try simp only [Act.put, List.getElem_toArray, List.getElem_cons_succ, List.getElem_cons_zero, List.setIfInBounds_toArray, List.set_cons_zero, List.set_cons_succ])
            refine wpAnyH_ready (rs := [7]) (by kernel_rfl) (by simp) ?_
            refine AllReadyH.cons rfl (fun K hK => ?_) AllReadyH.nil
            have l8 := R8.out.lt
            have z8 := row20 R8.out
            have y8 := row21 R8.out
            have f8 := R8.out.frozen 0
            have h8 := R8.out.frozen 1
            go_simp
            refine hK.out _ _ ((HQ.out.setCell (p := ⟨wa2.heap.size, 0, none⟩) G8.out _).setCell (p := ⟨wa2.heap.size, 1, none⟩) G8.out _) (fun _ => ?_)
            clear hK K
            replace O1 := hide (((O1.out.setOffS2 (g := wa2.heap.size) N18.out 0 (.int .u64 e2)).setOffS2 (g := wa2.heap.size) N18.out 1 (.slice A8 m2 k8)))
            replace O2 := hide (((O2.out.setOffS2 (g := wa2.heap.size) N28.out 0 (.int .u64 e2)).setOffS2 (g := wa2.heap.size) N28.out 1 (.slice A8 m2 k8)))
            replace R7 := hide (((R7.out.setNe (o := 0) (v := (.int .u64 e2)) (g2 := wa2.heap.size) NE.out).setNe (o := 1) (v := (.slice A8 m2 k8)) (g2 := wa2.heap.size) NE.out))
            replace R8 : Hid (RowAt ((wt7.setCell ⟨wa2.heap.size, 0, none⟩ (.int .u64 e2)).setCell ⟨wa2.heap.size, 1, none⟩ (.slice A8 m2 k8)) (wa2.heap.size) 25 #[.int .u64 e2, .slice A8 m2 k8]) := hide (by have h := (R8.out.set 0 (.int .u64 e2)).set 1 (.slice A8 m2 k8); simpa using h)
            replace HQ := hide ((HQ.out.setCell (p := ⟨wa2.heap.size, 0, none⟩) G8.out (.int .u64 e2)).setCell (p := ⟨wa2.heap.size, 1, none⟩) G8.out (.slice A8 m2 k8))
            clear l8 z8 y8 f8 h8
            (try simp only [Act.put, List.getElem_toArray, List.getElem_cons_succ, List.getElem_cons_zero, List.setIfInBounds_toArray, List.set_cons_zero, List.set_cons_succ])
            refine wpAnyH_done (by kernel_rfl) ?_ _
            go_wp2_with fail
            go_meet
            case rel => exact ⟨_, A7, k7, _, A8, k8, rfl, rfl, R7.out, R8.out, O1.out, O2.out, hk7, hk8, HQ.out⟩
        · go_simp
          refine hK2.out _ _ (HQ.out.alloc HQ.out.size _) (fun _ => ?_)
          clear hK2 K2
          have hb2 : Below wa1.heap.size wa1 (wa1.alloc (.cells #[.int .u64 0, .slice none 0 0] 25)) := (Below.refl _ _).alloc (Nat.le_refl _) _
          have N18 := hide (fun (hn : 0 < m1) (p : Addr) (hp : A7 = some p) => (show p.block ≠ wa1.heap.size by obtain ⟨b, off, e1, hb, _⟩ := O1.out.2 hn; rw [hp] at e1; injection e1 with e1; rw [e1]; exact Nat.ne_of_lt hb))
          have N28 := hide (fun (hn : 0 < m2) (p : Addr) (hp : A8 = some p) => (show p.block ≠ wa1.heap.size by obtain ⟨b, off, e1, hb, _⟩ := O2.out.2 hn; rw [hp] at e1; injection e1 with e1; rw [e1]; exact Nat.ne_of_lt hb))
          replace O1 := hide ((O1.out.below hb2).more hb2.size)
          replace O2 := hide ((O2.out.below hb2).more hb2.size)
          have R8 := hide (RowAt.new wa1 25 #[.int .u64 0, .slice none 0 0])
          have G8 := hide HQ.out.size
          replace HQ := hide (HQ.out.alloc HQ.out.size (.cells #[.int .u64 0, .slice none 0 0] 25))
          clear hb2
          (try simp only [Act.put, List.getElem_toArray, List.getElem_cons_succ, List.getElem_cons_zero, List.setIfInBounds_toArray, List.set_cons_zero, List.set_cons_succ])
          generalize wa1.alloc (.cells #[.int .u64 0, .slice none 0 0] 25) = wa2 at *
          refine wpAnyH_ready (rs := [4]) (by kernel_rfl) (by simp) ?_
          refine (AllReadyH.cons rfl (fun K3 hK3 => ?_) AllReadyH.nil)
          · go_simp
            refine hK3.out _ _ (HQ.out.alloc HQ.out.size _) (fun _ => ?_)
            clear hK3 K3
            have hb3 : Below wa2.heap.size wa2 (wa2.alloc (.cells #[.int .u64 0, .slice none 0 0] 25)) := (Below.refl _ _).alloc (Nat.le_refl _) _
            have NE := hide (show wa2.heap.size ≠ wa1.heap.size from Nat.ne_of_gt R8.out.lt)
            have N17 := hide (fun (hn : 0 < m1) (p : Addr) (hp : A7 = some p) => (show p.block ≠ wa2.heap.size by obtain ⟨b, off, e1, hb, _⟩ := O1.out.2 hn; rw [hp] at e1; injection e1 with e1; rw [e1]; exact Nat.ne_of_lt hb))
            have N27 := hide (fun (hn : 0 < m2) (p : Addr) (hp : A8 = some p) => (show p.block ≠ wa2.heap.size by obtain ⟨b, off, e1, hb, _⟩ := O2.out.2 hn; rw [hp] at e1; injection e1 with e1; rw [e1]; exact Nat.ne_of_lt hb))
            replace O1 := hide ((O1.out.below hb3).more hb3.size)
            replace O2 := hide ((O2.out.below hb3).more hb3.size)
            replace R8 := hide (R8.out.below hb3)
            have R7 := hide (RowAt.new wa2 25 #[.int .u64 0, .slice none 0 0])
            have G7 := hide HQ.out.size
            replace HQ := hide (HQ.out.alloc HQ.out.size (.cells #[.int .u64 0, .slice none 0 0] 25))
            clear hb3
            (try simp only [Act.put, List.getElem_toArray, List.getElem_cons_succ, List.getElem_cons_zero, List.setIfInBounds_toArray, List.set_cons_zero, List.set_cons_succ])
            generalize wa2.alloc (.cells #[.int .u64 0, .slice none 0 0] 25) = wa3 at *
            refine wpAnyH_ready (rs := [6]) (by kernel_rfl) (by simp) ?_
            refine AllReadyH.cons rfl (fun K hK => ?_) AllReadyH.nil
            have l7 := R7.out.lt
            have z7 := row20 R7.out
            have y7 := row21 R7.out
            have f7 := R7.out.frozen 0
            have h7 := R7.out.frozen 1
            go_simp
            refine hK.out _ _ ((HQ.out.setCell (p := ⟨wa2.heap.size, 0, none⟩) G7.out _).setCell (p := ⟨wa2.heap.size, 1, none⟩) G7.out _) (fun _ => ?_)
            clear hK K
            replace O1 := hide (((O1.out.setOffS2 (g := wa2.heap.size) N17.out 0 (.int .u64 e1)).setOffS2 (g := wa2.heap.size) N17.out 1 (.slice A7 m1 k7)))
            replace O2 := hide (((O2.out.setOffS2 (g := wa2.heap.size) N27.out 0 (.int .u64 e1)).setOffS2 (g := wa2.heap.size) N27.out 1 (.slice A7 m1 k7)))
            replace R8 := hide (((R8.out.setNe (o := 0) (v := (.int .u64 e1)) (g2 := wa2.heap.size) (Ne.symm NE.out)).setNe (o := 1) (v := (.slice A7 m1 k7)) (g2 := wa2.heap.size) (Ne.symm NE.out)))
            replace R7 : Hid (RowAt ((wa3.setCell ⟨wa2.heap.size, 0, none⟩ (.int .u64 e1)).setCell ⟨wa2.heap.size, 1, none⟩ (.slice A7 m1 k7)) (wa2.heap.size) 25 #[.int .u64 e1, .slice A7 m1 k7]) := hide (by have h := (R7.out.set 0 (.int .u64 e1)).set 1 (.slice A7 m1 k7); simpa using h)
            replace HQ := hide ((HQ.out.setCell (p := ⟨wa2.heap.size, 0, none⟩) G7.out (.int .u64 e1)).setCell (p := ⟨wa2.heap.size, 1, none⟩) G7.out (.slice A7 m1 k7))
            clear l7 z7 y7 f7 h7
            generalize ((wa3.setCell ⟨wa2.heap.size, 0, none⟩ (.int .u64 e1)).setCell ⟨wa2.heap.size, 1, none⟩ (.slice A7 m1 k7)) = wt7 at *
            (try simp only [Act.put, List.getElem_toArray, List.getElem_cons_succ, List.getElem_cons_zero, List.setIfInBounds_toArray, List.set_cons_zero, List.set_cons_succ])
            refine wpAnyH_ready (rs := [7]) (by kernel_rfl) (by simp) ?_
            refine AllReadyH.cons rfl (fun K hK => ?_) AllReadyH.nil
            have l8 := R8.out.lt
            have z8 := row20 R8.out
            have y8 := row21 R8.out
            have f8 := R8.out.frozen 0
            have h8 := R8.out.frozen 1
            go_simp
            refine hK.out _ _ ((HQ.out.setCell (p := ⟨wa1.heap.size, 0, none⟩) G8.out _).setCell (p := ⟨wa1.heap.size, 1, none⟩) G8.out _) (fun _ => ?_)
            clear hK K
            replace O1 := hide (((O1.out.setOffS2 (g := wa1.heap.size) N18.out 0 (.int .u64 e2)).setOffS2 (g := wa1.heap.size) N18.out 1 (.slice A8 m2 k8)))
            replace O2 := hide (((O2.out.setOffS2 (g := wa1.heap.size) N28.out 0 (.int .u64 e2)).setOffS2 (g := wa1.heap.size) N28.out 1 (.slice A8 m2 k8)))
            replace R7 := hide (((R7.out.setNe (o := 0) (v := (.int .u64 e2)) (g2 := wa1.heap.size) NE.out).setNe (o := 1) (v := (.slice A8 m2 k8)) (g2 := wa1.heap.size) NE.out))
            replace R8 : Hid (RowAt ((wt7.setCell ⟨wa1.heap.size, 0, none⟩ (.int .u64 e2)).setCell ⟨wa1.heap.size, 1, none⟩ (.slice A8 m2 k8)) (wa1.heap.size) 25 #[.int .u64 e2, .slice A8 m2 k8]) := hide (by have h := (R8.out.set 0 (.int .u64 e2)).set 1 (.slice A8 m2 k8); simpa using h)
            replace HQ := hide ((HQ.out.setCell (p := ⟨wa1.heap.size, 0, none⟩) G8.out (.int .u64 e2)).setCell (p := ⟨wa1.heap.size, 1, none⟩) G8.out (.slice A8 m2 k8))
            clear l8 z8 y8 f8 h8
            (try simp only [Act.put, List.getElem_toArray, List.getElem_cons_succ, List.getElem_cons_zero, List.setIfInBounds_toArray, List.set_cons_zero, List.set_cons_succ])
            refine wpAnyH_done (by kernel_rfl) ?_ _
            go_wp2_with fail
            go_meet
            case rel => exact ⟨_, A7, k7, _, A8, k8, rfl, rfl, R7.out, R8.out, O1.out, O2.out, hk7, hk8, HQ.out⟩
      · go_simp
        refine hK1.out _ _ (HQ.out.alloc HQ.out.size _) (fun _ => ?_)
        clear hK1 K1
        have hb1 : Below wa0.heap.size wa0 (wa0.alloc (.cells #[.int .u64 0, .slice none 0 0] 25)) := (Below.refl _ _).alloc (Nat.le_refl _) _
        have N17 := hide (fun (hn : 0 < m1) (p : Addr) (hp : A7 = some p) => (show p.block ≠ wa0.heap.size by obtain ⟨b, off, e1, hb, _⟩ := O1.out.2 hn; rw [hp] at e1; injection e1 with e1; rw [e1]; exact Nat.ne_of_lt hb))
        replace O1 := hide ((O1.out.below hb1).more hb1.size)
        have R7 := hide (RowAt.new wa0 25 #[.int .u64 0, .slice none 0 0])
        have G7 := hide HQ.out.size
        replace HQ := hide (HQ.out.alloc HQ.out.size (.cells #[.int .u64 0, .slice none 0 0] 25))
        clear hb1
        (try simp only [Act.put, List.getElem_toArray, List.getElem_cons_succ, List.getElem_cons_zero, List.setIfInBounds_toArray, List.set_cons_zero, List.set_cons_succ])
        generalize wa0.alloc (.cells #[.int .u64 0, .slice none 0 0] 25) = wa1 at *
        refine wpAnyH_ready (rs := [3, 5]) (by kernel_rfl) (by simp) ?_
        refine (AllReadyH.cons rfl (fun K2 hK2 => ?_) (AllReadyH.cons rfl (fun K2 hK2 => ?_) AllReadyH.nil))
        · go_simp
          refine (HO2.out _ (HQ.out)).mono ?_
          rintro e wa2 ⟨A8, k8, rfl, hk8, hkm8, ho8, hf8, hb2⟩
          have N27 := hide (fun (_ : 0 < m2) (p : Addr) (hp : A8 = some p) => (show p.block ≠ wa0.heap.size by have h1 := hf8 p hp; have h2 := R7.out.lt; omega))
          replace O1 := hide ((O1.out.below hb2).more hb2.size)
          replace R7 := hide (R7.out.below hb2)
          have O2 := hide ho8
          replace HQ := hide (HQ.out.trans (hb2.mono HQ.out.size))
          refine hK2.out _ _ HQ.out (fun _ => ?_)
          clear hK2 K2 ho8 hf8 hb2
          (try simp only [Act.put, List.getElem_toArray, List.getElem_cons_succ, List.getElem_cons_zero, List.setIfInBounds_toArray, List.set_cons_zero, List.set_cons_succ])
          refine wpAnyH_ready (rs := [5]) (by kernel_rfl) (by simp) ?_
          refine (AllReadyH.cons rfl (fun K3 hK3 => ?_) AllReadyH.nil)
          · go_simp
            refine hK3.out _ _ (HQ.out.alloc HQ.out.size _) (fun _ => ?_)
            clear hK3 K3
            have hb3 : Below wa2.heap.size wa2 (wa2.alloc (.cells #[.int .u64 0, .slice none 0 0] 25)) := (Below.refl _ _).alloc (Nat.le_refl _) _
            have NE := hide (show wa0.heap.size ≠ wa2.heap.size from Nat.ne_of_lt R7.out.lt)
            have N18 := hide (fun (hn : 0 < m1) (p : Addr) (hp : A7 = some p) => (show p.block ≠ wa2.heap.size by obtain ⟨b, off, e1, hb, _⟩ := O1.out.2 hn; rw [hp] at e1; injection e1 with e1; rw [e1]; exact Nat.ne_of_lt hb))
            have N28 := hide (fun (hn : 0 < m2) (p : Addr) (hp : A8 = some p) => (show p.block ≠ wa2.heap.size by obtain ⟨b, off, e1, hb, _⟩ := O2.out.2 hn; rw [hp] at e1; injection e1 with e1; rw [e1]; exact Nat.ne_of_lt hb))
            replace O1 := hide ((O1.out.below hb3).more hb3.size)
            replace O2 := hide ((O2.out.below hb3).more hb3.size)
            replace R7 := hide (R7.out.below hb3)
            have R8 := hide (RowAt.new wa2 25 #[.int .u64 0, .slice none 0 0])
            have G8 := hide HQ.out.size
            replace HQ := hide (HQ.out.alloc HQ.out.size (.cells #[.int .u64 0, .slice none 0 0] 25))
            clear hb3
            (try simp only [Act.put, List.getElem_toArray, List.getElem_cons_succ, List.getElem_cons_zero, List.setIfInBounds_toArray, List.set_cons_zero, List.set_cons_succ])
            generalize wa2.alloc (.cells #[.int .u64 0, .slice none 0 0] 25) = wa3 at *
            refine wpAnyH_ready (rs := [6]) (by kernel_rfl) (by simp) ?_
            refine AllReadyH.cons rfl (fun K hK => ?_) AllReadyH.nil
            have l7 := R7.out.lt
            have z7 := row20 R7.out
            have y7 := row21 R7.out
            have f7 := R7.out.frozen 0
            have h7 := R7.out.frozen 1
            go_simp
            refine hK.out _ _ ((HQ.out.setCell (p := ⟨wa0.heap.size, 0, none⟩) G7.out _).setCell (p := ⟨wa0.heap.size, 1, none⟩) G7.out _) (fun _ => ?_)
            clear hK K
            replace O1 := hide (((O1.out.setOffS2 (g := wa0.heap.size) N17.out 0 (.int .u64 e1)).setOffS2 (g := wa0.heap.size) N17.out 1 (.slice A7 m1 k7)))
            replace O2 := hide (((O2.out.setOffS2 (g := wa0.heap.size) N27.out 0 (.int .u64 e1)).setOffS2 (g := wa0.heap.size) N27.out 1 (.slice A7 m1 k7)))
            replace R8 := hide (((R8.out.setNe (o := 0) (v := (.int .u64 e1)) (g2 := wa0.heap.size) (Ne.symm NE.out)).setNe (o := 1) (v := (.slice A7 m1 k7)) (g2 := wa0.heap.size) (Ne.symm NE.out)))
            replace R7 : Hid (RowAt ((wa3.setCell ⟨wa0.heap.size, 0, none⟩ (.int .u64 e1)).setCell ⟨wa0.heap.size, 1, none⟩ (.slice A7 m1 k7)) (wa0.heap.size) 25 #[.int .u64 e1, .slice A7 m1 k7]) := hide (by have h := (R7.out.set 0 (.int .u64 e1)).set 1 (.slice A7 m1 k7); simpa using h)
            replace HQ := hide ((HQ.out.setCell (p := ⟨wa0.heap.size, 0, none⟩) G7.out (.int .u64 e1)).setCell (p := ⟨wa0.heap.size, 1, none⟩) G7.out (.slice A7 m1 k7))
            clear l7 z7 y7 f7 h7
            generalize ((wa3.setCell ⟨wa0.heap.size, 0, none⟩ (.int .u64 e1)).setCell ⟨wa0.heap.size, 1, none⟩ (.slice A7 m1 k7)) = wt7 at *
            (try simp only [Act.put, List.getElem_toArray, List.getElem_cons_succ, List.getElem_cons_zero, List.setIfInBounds_toArray, List.set_cons_zero, List.set_cons_succ])
            refine wpAnyH_ready (rs := [7]) (by kernel_rfl) (by simp) ?_
            refine AllReadyH.cons rfl (fun K hK => ?_) AllReadyH.nil
            have l8 := R8.out.lt
            have z8 := row20 R8.out
            have y8 := row21 R8.out
            have f8 := R8.out.frozen 0
            have h8 := R8.out.frozen 1
            go_simp
            refine hK.out _ _ ((HQ.out.setCell (p := ⟨wa2.heap.size, 0, none⟩) G8.out _).setCell (p := ⟨wa2.heap.size, 1, none⟩) G8.out _) (fun _ => ?_)
            clear hK K
            replace O1 := hide (((O1.out.setOffS2 (g := wa2.heap.size) N18.out 0 (.int .u64 e2)).setOffS2 (g := wa2.heap.size) N18.out 1 (.slice A8 m2 k8)))
            replace O2 := hide (((O2.out.setOffS2 (g := wa2.heap.size) N28.out 0 (.int .u64 e2)).setOffS2 (g := wa2.heap.size) N28.out 1 (.slice A8 m2 k8)))
            replace R7 := hide (((R7.out.setNe (o := 0) (v := (.int .u64 e2)) (g2 := wa2.heap.size) NE.out).setNe (o := 1) (v := (.slice A8 m2 k8)) (g2 := wa2.heap.size) NE.out))
            replace R8 : Hid (RowAt ((wt7.setCell ⟨wa2.heap.size, 0, none⟩ (.int .u64 e2)).setCell ⟨wa2.heap.size, 1, none⟩ (.slice A8 m2 k8)) (wa2.heap.size) 25 #[.int .u64 e2, .slice A8 m2 k8]) := hide (by have h := (R8.out.set 0 (.int .u64 e2)).set 1 (.slice A8 m2 k8); simpa using h)
            replace HQ := hide ((HQ.out.setCell (p := ⟨wa2.heap.size, 0, none⟩) G8.out (.int .u64 e2)).setCell (p := ⟨wa2.heap.size, 1, none⟩) G8.out (.slice A8 m2 k8))
            clear l8 z8 y8 f8 h8
            (try simp only [Act.put, List.getElem_toArray, List.getElem_cons_succ, List.getElem_cons_zero, List.setIfInBounds_toArray, List.set_cons_zero, List.set_cons_succ])
            refine wpAnyH_done (by kernel_rfl) ?_ _
            go_wp2_with fail
            go_meet
            case rel => exact ⟨_, A7, k7, _, A8, k8, rfl, rfl, R7.out, R8.out, O1.out, O2.out, hk7, hk8, HQ.out⟩
        · go_simp
          refine hK2.out _ _ (HQ.out.alloc HQ.out.size _) (fun _ => ?_)
          clear hK2 K2
          have hb2 : Below wa1.heap.size wa1 (wa1.alloc (.cells #[.int .u64 0, .slice none 0 0] 25)) := (Below.refl _ _).alloc (Nat.le_refl _) _
          have NE := hide (show wa0.heap.size ≠ wa1.heap.size from Nat.ne_of_lt R7.out.lt)
          have N18 := hide (fun (hn : 0 < m1) (p : Addr) (hp : A7 = some p) => (show p.block ≠ wa1.heap.size by obtain ⟨b, off, e1, hb, _⟩ := O1.out.2 hn; rw [hp] at e1; injection e1 with e1; rw [e1]; exact Nat.ne_of_lt hb))
          replace O1 := hide ((O1.out.below hb2).more hb2.size)
          replace R7 := hide (R7.out.below hb2)
          have R8 := hide (RowAt.new wa1 25 #[.int .u64 0, .slice none 0 0])
          have G8 := hide HQ.out.size
          replace HQ := hide (HQ.out.alloc HQ.out.size (.cells #[.int .u64 0, .slice none 0 0] 25))
          clear hb2
          (try simp only [Act.put, List.getElem_toArray, List.getElem_cons_succ, List.getElem_cons_zero, List.setIfInBounds_toArray, List.set_cons_zero, List.set_cons_succ])
          generalize wa1.alloc (.cells #[.int .u64 0, .slice none 0 0] 25) = wa2 at *
          refine wpAnyH_ready (rs := [3]) (by kernel_rfl) (by simp) ?_
          refine (AllReadyH.cons rfl (fun K3 hK3 => ?_) AllReadyH.nil)
          · go_simp
            refine (HO2.out _ (HQ.out)).mono ?_
            rintro e wa3 ⟨A8, k8, rfl, hk8, hkm8, ho8, hf8, hb3⟩
            have N27 := hide (fun (_ : 0 < m2) (p : Addr) (hp : A8 = some p) => (show p.block ≠ wa0.heap.size by have h1 := hf8 p hp; have h2 := R7.out.lt; omega))
            have N28 := hide (fun (_ : 0 < m2) (p : Addr) (hp : A8 = some p) => (show p.block ≠ wa1.heap.size by have h1 := hf8 p hp; have h2 := R8.out.lt; omega))
            replace O1 := hide ((O1.out.below hb3).more hb3.size)
            replace R7 := hide (R7.out.below hb3)
            replace R8 := hide (R8.out.below hb3)
            have O2 := hide ho8
            replace HQ := hide (HQ.out.trans (hb3.mono HQ.out.size))
            refine hK3.out _ _ HQ.out (fun _ => ?_)
            clear hK3 K3 ho8 hf8 hb3
            (try simp only [Act.put, List.getElem_toArray, List.getElem_cons_succ, List.getElem_cons_zero, List.setIfInBounds_toArray, List.set_cons_zero, List.set_cons_succ])
            refine wpAnyH_ready (rs := [6]) (by kernel_rfl) (by simp) ?_
            refine AllReadyH.cons rfl (fun K hK => ?_) AllReadyH.nil
            have l7 := R7.out.lt
            have z7 := row20 R7.out
            have y7 := row21 R7.out
            have f7 := R7.out.frozen 0
            have h7 := R7.out.frozen 1
            go_simp
            refine hK.out _ _ ((HQ.out.setCell (p := ⟨wa0.heap.size, 0, none⟩) G7.out _).setCell (p := ⟨wa0.heap.size, 1, none⟩) G7.out _) (fun _ => ?_)
            clear hK K
            replace O1 := hide (((O1.out.setOffS2 (g := wa0.heap.size) N17.out 0 (.int .u64 e1)).setOffS2 (g := wa0.heap.size) N17.out 1 (.slice A7 m1 k7)))
            replace O2 := hide (((O2.out.setOffS2 (g := wa0.heap.size) N27.out 0 (.int .u64 e1)).setOffS2 (g := wa0.heap.size) N27.out 1 (.slice A7 m1 k7)))
            replace R8 := hide (((R8.out.setNe (o := 0) (v := (.int .u64 e1)) (g2 := wa0.heap.size) (Ne.symm NE.out)).setNe (o := 1) (v := (.slice A7 m1 k7)) (g2 := wa0.heap.size) (Ne.symm NE.out)))
            replace R7 : Hid (RowAt ((wa3.setCell ⟨wa0.heap.size, 0, none⟩ (.int .u64 e1)).setCell ⟨wa0.heap.size, 1, none⟩ (.slice A7 m1 k7)) (wa0.heap.size) 25 #[.int .u64 e1, .slice A7 m1 k7]) := hide (by have h := (R7.out.set 0 (.int .u64 e1)).set 1 (.slice A7 m1 k7); simpa using h)
            replace HQ := hide ((HQ.out.setCell (p := ⟨wa0.heap.size, 0, none⟩) G7.out (.int .u64 e1)).setCell (p := ⟨wa0.heap.size, 1, none⟩) G7.out (.slice A7 m1 k7))
            clear l7 z7 y7 f7 h7
            generalize ((wa3.setCell ⟨wa0.heap.size, 0, none⟩ (.int .u64 e1)).setCell ⟨wa0.heap.size, 1, none⟩ (.slice A7 m1 k7)) = wt7 at *
            (try simp only [Act.put, List.getElem_toArray, List.getElem_cons_succ, List.getElem_cons_zero, List.setIfInBounds_toArray, List.set_cons_zero, List.set_cons_succ])
            refine wpAnyH_ready (rs := [7]) (by kernel_rfl) (by simp) ?_
            refine AllReadyH.cons rfl (fun K hK => ?_) AllReadyH.nil
            have l8 := R8.out.lt
            have z8 := row20 R8.out
            have y8 := row21 R8.out
            have f8 := R8.out.frozen 0
            have h8 := R8.out.frozen 1
            go_simp
            refine hK.out _ _ ((HQ.out.setCell (p := ⟨wa1.heap.size, 0, none⟩) G8.out _).setCell (p := ⟨wa1.heap.size, 1, none⟩) G8.out _) (fun _ => ?_)
            clear hK K
            replace O1 := hide (((O1.out.setOffS2 (g := wa1.heap.size) N18.out 0 (.int .u64 e2)).setOffS2 (g := wa1.heap.size) N18.out 1 (.slice A8 m2 k8)))
            replace O2 := hide (((O2.out.setOffS2 (g := wa1.heap.size) N28.out 0 (.int .u64 e2)).setOffS2 (g := wa1.heap.size) N28.out 1 (.slice A8 m2 k8)))
            replace R7 := hide (((R7.out.setNe (o := 0) (v := (.int .u64 e2)) (g2 := wa1.heap.size) NE.out).setNe (o := 1) (v := (.slice A8 m2 k8)) (g2 := wa1.heap.size) NE.out))
            replace R8 : Hid (RowAt ((wt7.setCell ⟨wa1.heap.size, 0, none⟩ (.int .u64 e2)).setCell ⟨wa1.heap.size, 1, none⟩ (.slice A8 m2 k8)) (wa1.heap.size) 25 #[.int .u64 e2, .slice A8 m2 k8]) := hide (by have h := (R8.out.set 0 (.int .u64 e2)).set 1 (.slice A8 m2 k8); simpa using h)
            replace HQ := hide ((HQ.out.setCell (p := ⟨wa1.heap.size, 0, none⟩) G8.out (.int .u64 e2)).setCell (p := ⟨wa1.heap.size, 1, none⟩) G8.out (.slice A8 m2 k8))
            clear l8 z8 y8 f8 h8
            (try simp only [Act.put, List.getElem_toArray, List.getElem_cons_succ, List.getElem_cons_zero, List.setIfInBounds_toArray, List.set_cons_zero, List.set_cons_succ])
            refine wpAnyH_done (by kernel_rfl) ?_ _
            go_wp2_with fail
            go_meet
            case rel => exact ⟨_, A7, k7, _, A8, k8, rfl, rfl, R7.out, R8.out, O1.out, O2.out, hk7, hk8, HQ.out⟩
      · go_simp
        refine hK1.out _ _ (HQ.out.alloc HQ.out.size _) (fun _ => ?_)
        clear hK1 K1
        have hb1 : Below wa0.heap.size wa0 (wa0.alloc (.cells #[.int .u64 0, .slice none 0 0] 25)) := (Below.refl _ _).alloc (Nat.le_refl _) _
        have N18 := hide (fun (hn : 0 < m1) (p : Addr) (hp : A7 = some p) => (show p.block ≠ wa0.heap.size by obtain ⟨b, off, e1, hb, _⟩ := O1.out.2 hn; rw [hp] at e1; injection e1 with e1; rw [e1]; exact Nat.ne_of_lt hb))
        replace O1 := hide ((O1.out.below hb1).more hb1.size)
        have R8 := hide (RowAt.new wa0 25 #[.int .u64 0, .slice none 0 0])
        have G8 := hide HQ.out.size
        replace HQ := hide (HQ.out.alloc HQ.out.size (.cells #[.int .u64 0, .slice none 0 0] 25))
        clear hb1
        (try simp only [Act.put, List.getElem_toArray, List.getElem_cons_succ, List.getElem_cons_zero, List.setIfInBounds_toArray, List.set_cons_zero, List.set_cons_succ])
        generalize wa0.alloc (.cells #[.int .u64 0, .slice none 0 0] 25) = wa1 at *
        refine wpAnyH_ready (rs := [3, 4]) (by kernel_rfl) (by simp) ?_
        refine (AllReadyH.cons rfl (fun K2 hK2 => ?_) (AllReadyH.cons rfl (fun K2 hK2 => ?_) AllReadyH.nil))
        · go_simp
          refine (HO2.out _ (HQ.out)).mono ?_
          rintro e wa2 ⟨A8, k8, rfl, hk8, hkm8, ho8, hf8, hb2⟩
          have N28 := hide (fun (_ : 0 < m2) (p : Addr) (hp : A8 = some p) => (show p.block ≠ wa0.heap.size by have h1 := hf8 p hp; have h2 := R8.out.lt; omega))
          replace O1 := hide ((O1.out.below hb2).more hb2.size)
          replace R8 := hide (R8.out.below hb2)
          have O2 := hide ho8
          replace HQ := hide (HQ.out.trans (hb2.mono HQ.out.size))
          refine hK2.out _ _ HQ.out (fun _ => ?_)
          clear hK2 K2 ho8 hf8 hb2
          (try simp only [Act.put, List.getElem_toArray, List.getElem_cons_succ, List.getElem_cons_zero, List.setIfInBounds_toArray, List.set_cons_zero, List.set_cons_succ])
          refine wpAnyH_ready (rs := [4]) (by kernel_rfl) (by simp) ?_
          refine (AllReadyH.cons rfl (fun K3 hK3 => ?_) AllReadyH.nil)
          · go_simp
            refine hK3.out _ _ (HQ.out.alloc HQ.out.size _) (fun _ => ?_)
            clear hK3 K3
            have hb3 : Below wa2.heap.size wa2 (wa2.alloc (.cells #[.int .u64 0, .slice none 0 0] 25)) := (Below.refl _ _).alloc (Nat.le_refl _) _
            have NE := hide (show wa2.heap.size ≠ wa0.heap.size from Nat.ne_of_gt R8.out.lt)
            have N17 := hide (fun (hn : 0 < m1) (p : Addr) (hp : A7 = some p) => (show p.block ≠ wa2.heap.size by obtain ⟨b, off, e1, hb, _⟩ := O1.out.2 hn; rw [hp] at e1; injection e1 with e1; rw [e1]; exact Nat.ne_of_lt hb))
            have N27 := hide (fun (hn : 0 < m2) (p : Addr) (hp : A8 = some p) => (show p.block ≠ wa2.heap.size by obtain ⟨b, off, e1, hb, _⟩ := O2.out.2 hn; rw [hp] at e1; injection e1 with e1; rw [e1]; exact Nat.ne_of_lt hb))
            replace O1 := hide ((O1.out.below hb3).more hb3.size)
            replace O2 := hide ((O2.out.below hb3).more hb3.size)
            replace R8 := hide (R8.out.below hb3)
            have R7 := hide (RowAt.new wa2 25 #[.int .u64 0, .slice none 0 0])
            have G7 := hide HQ.out.size
            replace HQ := hide (HQ.out.alloc HQ.out.size (.cells #[.int .u64 0, .slice none 0 0] 25))
            clear hb3
            (try simp only [Act.put, List.getElem_toArray, List.getElem_cons_succ, List.getElem_cons_zero, List.setIfInBounds_toArray, List.set_cons_zero, List.set_cons_succ])
            generalize wa2.alloc (.cells #[.int .u64 0, .slice none 0 0] 25) = wa3 at *
            refine wpAnyH_ready (rs := [6]) (by kernel_rfl) (by simp) ?_
            refine AllReadyH.cons rfl (fun K hK => ?_) AllReadyH.nil
            have l7 := R7.out.lt
            have z7 := row20 R7.out
            have y7 := row21 R7.out
            have f7 := R7.out.frozen 0
            have h7 := R7.out.frozen 1
            go_simp
            refine hK.out _ _ ((HQ.out.setCell (p := ⟨wa2.heap.size, 0, none⟩) G7.out _).setCell (p := ⟨wa2.heap.size, 1, none⟩) G7.out _) (fun _ => ?_)
            clear hK K
            replace O1 := hide (((O1.out.setOffS2 (g := wa2.heap.size) N17.out 0 (.int .u64 e1)).setOffS2 (g := wa2.heap.size) N17.out 1 (.slice A7 m1 k7)))
            replace O2 := hide (((O2.out.setOffS2 (g := wa2.heap.size) N27.out 0 (.int .u64 e1)).setOffS2 (g := wa2.heap.size) N27.out 1 (.slice A7 m1 k7)))
            replace R8 := hide (((R8.out.setNe (o := 0) (v := (.int .u64 e1)) (g2 := wa2.heap.size) (Ne.symm NE.out)).setNe (o := 1) (v := (.slice A7 m1 k7)) (g2 := wa2.heap.size) (Ne.symm NE.out)))
            replace R7 : Hid (RowAt ((wa3.setCell ⟨wa2.heap.size, 0, none⟩ (.int .u64 e1)).setCell ⟨wa2.heap.size, 1, none⟩ (.slice A7 m1 k7)) (wa2.heap.size) 25 #[.int .u64 e1, .slice A7 m1 k7]) := hide (by have h := (R7.out.set 0 (.int .u64 e1)).set 1 (.slice A7 m1 k7); simpa using h)
            replace HQ := hide ((HQ.out.setCell (p := ⟨wa2.heap.size, 0, none⟩) G7.out (.int .u64 e1)).setCell (p := ⟨wa2.heap.size, 1, none⟩) G7.out (.slice A7 m1 k7))
            clear l7 z7 y7 f7 h7
            generalize ((wa3.setCell ⟨wa2.heap.size, 0, none⟩ (.int .u64 e1)).setCell ⟨wa2.heap.size, 1, none⟩ (.slice A7 m1 k7)) = wt7 at *
            (try simp only [Act.put, List.getElem_toArray, List.getElem_cons_succ, List.getElem_cons_zero, List.setIfInBounds_toArray, List.set_cons_zero, List.set_cons_succ])
            refine wpAnyH_ready (rs := [7]) (by kernel_rfl) (by simp) ?_
            refine AllReadyH.cons rfl (fun K hK => ?_) AllReadyH.nil
            have l8 := R8.out.lt
            have z8 := row20 R8.out
            have y8 := row21 R8.out
            have f8 := R8.out.frozen 0
            have h8 := R8.out.frozen 1
            go_simp
            refine hK.out _ _ ((HQ.out.setCell (p := ⟨wa0.heap.size, 0, none⟩) G8.out _).setCell (p := ⟨wa0.heap.size, 1, none⟩) G8.out _) (fun _ => ?_)
            clear hK K
            replace O1 := hide (((O1.out.setOffS2 (g := wa0.heap.size) N18.out 0 (.int .u64 e2)).setOffS2 (g := wa0.heap.size) N18.out 1 (.slice A8 m2 k8)))
            replace O2 := hide (((O2.out.setOffS2 (g := wa0.heap.size) N28.out 0 (.int .u64 e2)).setOffS2 (g := wa0.heap.size) N28.out 1 (.slice A8 m2 k8)))
            replace R7 := hide (((R7.out.setNe (o := 0) (v := (.int .u64 e2)) (g2 := wa0.heap.size) NE.out).setNe (o := 1) (v := (.slice A8 m2 k8)) (g2 := wa0.heap.size) NE.out))
            replace R8 : Hid (RowAt ((wt7.setCell ⟨wa0.heap.size, 0, none⟩ (.int .u64 e2)).setCell ⟨wa0.heap.size, 1, none⟩ (.slice A8 m2 k8)) (wa0.heap.size) 25 #[.int .u64 e2, .slice A8 m2 k8]) := hide (by have h := (R8.out.set 0 (.int .u64 e2)).set 1 (.slice A8 m2 k8); simpa using h)
            replace HQ := hide ((HQ.out.setCell (p := ⟨wa0.heap.size, 0, none⟩) G8.out (.int .u64 e2)).setCell (p := ⟨wa0.heap.size, 1, none⟩) G8.out (.slice A8 m2 k8))
            clear l8 z8 y8 f8 h8
            (try simp only [Act.put, List.getElem_toArray, List.getElem_cons_succ, List.getElem_cons_zero, List.setIfInBounds_toArray, List.set_cons_zero, List.set_cons_succ])
            refine wpAnyH_done (by kernel_rfl) ?_ _
            go_wp2_with fail
            go_meet
            case rel => exact ⟨_, A7, k7, _, A8, k8, rfl, rfl, R7.out, R8.out, O1.out, O2.out, hk7, hk8, HQ.out⟩
        · go_simp
          refine hK2.out _ _ (HQ.out.alloc HQ.out.size _) (fun _ => ?_)
          clear hK2 K2
          have hb2 : Below wa1.heap.size wa1 (wa1.alloc (.cells #[.int .u64 0, .slice none 0 0] 25)) := (Below.refl _ _).alloc (Nat.le_refl _) _
          have NE := hide (show wa1.heap.size ≠ wa0.heap.size from Nat.ne_of_gt R8.out.lt)
          have N17 := hide (fun (hn : 0 < m1) (p : Addr) (hp : A7 = some p) => (show p.block ≠ wa1.heap.size by obtain ⟨b, off, e1, hb, _⟩ := O1.out.2 hn; rw [hp] at e1; injection e1 with e1; rw [e1]; exact Nat.ne_of_lt hb))
          replace O1 := hide ((O1.out.below hb2).more hb2.size)
          replace R8 := hide (R8.out.below hb2)
          have R7 := hide (RowAt.new wa1 25 #[.int .u64 0, .slice none 0 0])
          have G7 := hide HQ.out.size
          replace HQ := hide (HQ.out.alloc HQ.out.size (.cells #[.int .u64 0, .slice none 0 0] 25))
          clear hb2
          (try simp only [Act.put, List.getElem_toArray, List.getElem_cons_succ, List.getElem_cons_zero, List.setIfInBounds_toArray, List.set_cons_zero, List.set_cons_succ])
          generalize wa1.alloc (.cells #[.int .u64 0, .slice none 0 0] 25) = wa2 at *
          refine wpAnyH_ready (rs := [3]) (by kernel_rfl) (by simp) ?_
          refine (AllReadyH.cons rfl (fun K3 hK3 => ?_) AllReadyH.nil)
          · go_simp
            refine (HO2.out _ (HQ.out)).mono ?_
            rintro e wa3 ⟨A8, k8, rfl, hk8, hkm8, ho8, hf8, hb3⟩
            have N27 := hide (fun (_ : 0 < m2) (p : Addr) (hp : A8 = some p) => (show p.block ≠ wa1.heap.size by have h1 := hf8 p hp; have h2 := R7.out.lt; omega))
            have N28 := hide (fun (_ : 0 < m2) (p : Addr) (hp : A8 = some p) => (show p.block ≠ wa0.heap.size by have h1 := hf8 p hp; have h2 := R8.out.lt; omega))
            replace O1 := hide ((O1.out.below hb3).more hb3.size)
            replace R7 := hide (R7.out.below hb3)
            replace R8 := hide (R8.out.below hb3)
            have O2 := hide ho8
            replace HQ := hide (HQ.out.trans (hb3.mono HQ.out.size))
            refine hK3.out _ _ HQ.out (fun _ => ?_)
            clear hK3 K3 ho8 hf8 hb3
            (try simp only [Act.put, List.getElem_toArray, List.getElem_cons_succ, List.getElem_cons_zero, List.setIfInBounds_toArray, List.set_cons_zero, List.set_cons_succ])
            refine wpAnyH_ready (rs := [6]) (by kernel_rfl) (by simp) ?_
            refine AllReadyH.cons rfl (fun K hK => ?_) AllReadyH.nil
            have l7 := R7.out.lt
            have z7 := row20 R7.out
            have y7 := row21 R7.out
            have f7 := R7.out.frozen 0
            have h7 := R7.out.frozen 1
            go_simp
            refine hK.out _ _ ((HQ.out.setCell (p := ⟨wa1.heap.size, 0, none⟩) G7.out _).setCell (p := ⟨wa1.heap.size, 1, none⟩) G7.out _) (fun _ => ?_)
            clear hK K
            replace O1 := hide (((O1.out.setOffS2 (g := wa1.heap.size) N17.out 0 (.int .u64 e1)).setOffS2 (g := wa1.heap.size) N17.out 1 (.slice A7 m1 k7)))
            replace O2 := hide (((O2.out.setOffS2 (g := wa1.heap.size) N27.out 0 (.int .u64 e1)).setOffS2 (g := wa1.heap.size) N27.out 1 (.slice A7 m1 k7)))
            replace R8 := hide (((R8.out.setNe (o := 0) (v := (.int .u64 e1)) (g2 := wa1.heap.size) (Ne.symm NE.out)).setNe (o := 1) (v := (.slice A7 m1 k7)) (g2 := wa1.heap.size) (Ne.symm NE.out)))
            replace R7 : Hid (RowAt ((wa3.setCell ⟨wa1.heap.size, 0, none⟩ (.int .u64 e1)).setCell ⟨wa1.heap.size, 1, none⟩ (.slice A7 m1 k7)) (wa1.heap.size) 25 #[.int .u64 e1, .slice A7 m1 k7]) := hide (by have h := (R7.out.set 0 (.int .u64 e1)).set 1 (.slice A7 m1 k7); simpa using h)
            replace HQ := hide ((HQ.out.setCell (p := ⟨wa1.heap.size, 0, none⟩) G7.out (.int .u64 e1)).setCell (p := ⟨wa1.heap.size, 1, none⟩) G7.out (.slice A7 m1 k7))
            clear l7 z7 y7 f7 h7
            generalize ((wa3.setCell ⟨wa1.heap.size, 0, none⟩ (.int .u64 e1)).setCell ⟨wa1.heap.size, 1, none⟩ (.slice A7 m1 k7)) = wt7 at *
            (try simp only [Act.put, List.getElem_toArray, List.getElem_cons_succ, List.getElem_cons_zero, List.setIfInBounds_toArray, List.set_cons_zero, List.set_cons_succ])
            refine wpAnyH_ready (rs := [7]) (by kernel_rfl) (by simp) ?_
            refine AllReadyH.cons rfl (fun K hK => ?_) AllReadyH.nil
            have l8 := R8.out.lt
            have z8 := row20 R8.out
            have y8 := row21 R8.out
            have f8 := R8.out.frozen 0
            have h8 := R8.out.frozen 1
            go_simp
            refine hK.out _ _ ((HQ.out.setCell (p := ⟨wa0.heap.size, 0, none⟩) G8.out _).setCell (p := ⟨wa0.heap.size, 1, none⟩) G8.out _) (fun _ => ?_)
            clear hK K
            replace O1 := hide (((O1.out.setOffS2 (g := wa0.heap.size) N18.out 0 (.int .u64 e2)).setOffS2 (g := wa0.heap.size) N18.out 1 (.slice A8 m2 k8)))
            replace O2 := hide (((O2.out.setOffS2 (g := wa0.heap.size) N28.out 0 (.int .u64 e2)).setOffS2 (g := wa0.heap.size) N28.out 1 (.slice A8 m2 k8)))
            replace R7 := hide (((R7.out.setNe (o := 0) (v := (.int .u64 e2)) (g2 := wa0.heap.size) NE.out).setNe (o := 1) (v := (.slice A8 m2 k8)) (g2 := wa0.heap.size) NE.out))
            replace R8 : Hid (RowAt ((wt7.setCell ⟨wa0.heap.size, 0, none⟩ (.int .u64 e2)).setCell ⟨wa0.heap.size, 1, none⟩ (.slice A8 m2 k8)) (wa0.heap.size) 25 #[.int .u64 e2, .slice A8 m2 k8]) := hide (by have h := (R8.out.set 0 (.int .u64 e2)).set 1 (.slice A8 m2 k8); simpa using h)
            replace HQ := hide ((HQ.out.setCell (p := ⟨wa0.heap.size, 0, none⟩) G8.out (.int .u64 e2)).setCell (p := ⟨wa0.heap.size, 1, none⟩) G8.out (.slice A8 m2 k8))
            clear l8 z8 y8 f8 h8
            (try simp only [Act.put, List.getElem_toArray, List.getElem_cons_succ, List.getElem_cons_zero, List.setIfInBounds_toArray, List.set_cons_zero, List.set_cons_succ])
            refine wpAnyH_done (by kernel_rfl) ?_ _
            go_wp2_with fail
            go_meet
            case rel => exact ⟨_, A7, k7, _, A8, k8, rfl, rfl, R7.out, R8.out, O1.out, O2.out, hk7, hk8, HQ.out⟩
    · go_simp
      refine hK0.out _ _ (HQ.out.alloc HQ.out.size _) (fun _ => ?_)
      clear hK0 K0
      have hb0 : Below wd.heap.size wd (wd.alloc (.cells #[.int .u64 0, .slice none 0 0] 25)) := (Below.refl _ _).alloc (Nat.le_refl _) _
      have R7 := hide (RowAt.new wd 25 #[.int .u64 0, .slice none 0 0])
      have G7 := hide HQ.out.size
      replace HQ := hide (HQ.out.alloc HQ.out.size (.cells #[.int .u64 0, .slice none 0 0] 25))
      clear hb0
      (try simp only [Act.put, List.getElem_toArray, List.getElem_cons_succ, List.getElem_cons_zero, List.setIfInBounds_toArray, List.set_cons_zero, List.set_cons_succ])
      generalize wd.alloc (.cells #[.int .u64 0, .slice none 0 0] 25) = wa0 at *
      refine wpAnyH_ready (rs := [1, 5]) (by kernel_rfl) (by simp) ?_
      refine (AllReadyH.cons rfl (fun K1 hK1 => ?_) (AllReadyH.cons rfl (fun K1 hK1 => ?_) AllReadyH.nil))
      · go_simp
        refine (HO1.out _ (HQ.out)).mono ?_
        rintro e wa1 ⟨A7, k7, rfl, hk7, hkm7, ho7, hf7, hb1⟩
        have N17 := hide (fun (_ : 0 < m1) (p : Addr) (hp : A7 = some p) => (show p.block ≠ wd.heap.size by have h1 := hf7 p hp; have h2 := R7.out.lt; omega))
        replace R7 := hide (R7.out.below hb1)
        have O1 := hide ho7
        replace HQ := hide (HQ.out.trans (hb1.mono HQ.out.size))
        refine hK1.out _ _ HQ.out (fun _ => ?_)
        clear hK1 K1 ho7 hf7 hb1
        (try simp only [Act.put, List.getElem_toArray, List.getElem_cons_succ, List.getElem_cons_zero, List.setIfInBounds_toArray, List.set_cons_zero, List.set_cons_succ])
        refine wpAnyH_ready (rs := [3, 5]) (by kernel_rfl) (by simp) ?_
        refine (AllReadyH.cons rfl (fun K2 hK2 => ?_) (AllReadyH.cons rfl (fun K2 hK2 => ?_) AllReadyH.nil))
        · go_simp
          refine (HO2.out _ (HQ.out)).mono ?_
          rintro e wa2 ⟨A8, k8, rfl, hk8, hkm8, ho8, hf8, hb2⟩
          have N27 := hide (fun (_ : 0 < m2) (p : Addr) (hp : A8 = some p) => (show p.block ≠ wd.heap.size by have h1 := hf8 p hp; have h2 := R7.out.lt; omega))
          replace O1 := hide ((O1.out.below hb2).more hb2.size)
          replace R7 := hide (R7.out.below hb2)
          have O2 := hide ho8
          replace HQ := hide (HQ.out.trans (hb2.mono HQ.out.size))
          refine hK2.out _ _ HQ.out (fun _ => ?_)
          clear hK2 K2 ho8 hf8 hb2
          (try simp only [Act.put, List.getElem_toArray, List.getElem_cons_succ, List.getElem_cons_zero, List.setIfInBounds_toArray, List.set_cons_zero, List.set_cons_succ])
          refine wpAnyH_ready (rs := [5]) (by kernel_rfl) (by simp) ?_
          refine (AllReadyH.cons rfl (fun K3 hK3 => ?_) AllReadyH.nil)
          · go_simp
            refine hK3.out _ _ (HQ.out.alloc HQ.out.size _) (fun _ => ?_)
            clear hK3 K3
            have hb3 : Below wa2.heap.size wa2 (wa2.alloc (.cells #[.int .u64 0, .slice none 0 0] 25)) := (Below.refl _ _).alloc (Nat.le_refl _) _
            have NE := hide (show wd.heap.size ≠ wa2.heap.size from Nat.ne_of_lt R7.out.lt)
            have N18 := hide (fun (hn : 0 < m1) (p : Addr) (hp : A7 = some p) => (show p.block ≠ wa2.heap.size by obtain ⟨b, off, e1, hb, _⟩ := O1.out.2 hn; rw [hp] at e1; injection e1 with e1; rw [e1]; exact Nat.ne_of_lt hb))
            have N28 := hide (fun (hn : 0 < m2) (p : Addr) (hp : A8 = some p) => (show p.block ≠ wa2.heap.size by obtain ⟨b, off, e1, hb, _⟩ := O2.out.2 hn; rw [hp] at e1; injection e1 with e1; rw [e1]; exact Nat.ne_of_lt hb))
            replace O1 := hide ((O1.out.below hb3).more hb3.size)
            replace O2 := hide ((O2.out.below hb3).more hb3.size)
            replace R7 := hide (R7.out.below hb3)
            have R8 := hide (RowAt.new wa2 25 #[.int .u64 0, .slice none 0 0])
            have G8 := hide HQ.out.size
            replace HQ := hide (HQ.out.alloc HQ.out.size (.cells #[.int .u64 0, .slice none 0 0] 25))
            clear hb3
            (try simp only [Act.put, List.getElem_toArray, List.getElem_cons_succ, List.getElem_cons_zero, List.setIfInBounds_toArray, List.set_cons_zero, List.set_cons_succ])
            generalize wa2.alloc (.cells #[.int .u64 0, .slice none 0 0] 25) = wa3 at *
            refine wpAnyH_ready (rs := [6]) (by kernel_rfl) (by simp) ?_
            refine AllReadyH.cons rfl (fun K hK => ?_) AllReadyH.nil
            have l7 := R7.out.lt
            have z7 := row20 R7.out
            have y7 := row21 R7.out
            have f7 := R7.out.frozen 0
            have h7 := R7.out.frozen 1
            go_simp
            refine hK.out _ _ ((HQ.out.setCell (p := ⟨wd.heap.size, 0, none⟩) G7.out _).setCell (p := ⟨wd.heap.size, 1, none⟩) G7.out _) (fun _ => ?_)
            clear hK K
            replace O1 := hide (((O1.out.setOffS2 (g := wd.heap.size) N17.out 0 (.int .u64 e1)).setOffS2 (g := wd.heap.size) N17.out 1 (.slice A7 m1 k7)))
            replace O2 := hide (((O2.out.setOffS2 (g := wd.heap.size) N27.out 0 (.int .u64 e1)).setOffS2 (g := wd.heap.size) N27.out 1 (.slice A7 m1 k7)))
            replace R8 := hide (((R8.out.setNe (o := 0) (v := (.int .u64 e1)) (g2 := wd.heap.size) (Ne.symm NE.out)).setNe (o := 1) (v := (.slice A7 m1 k7)) (g2 := wd.heap.size) (Ne.symm NE.out)))
            replace R7 : Hid (RowAt ((wa3.setCell ⟨wd.heap.size, 0, none⟩ (.int .u64 e1)).setCell ⟨wd.heap.size, 1, none⟩ (.slice A7 m1 k7)) (wd.heap.size) 25 #[.int .u64 e1, .slice A7 m1 k7]) := hide (by have h := (R7.out.set 0 (.int .u64 e1)).set 1 (.slice A7 m1 k7); simpa using h)
            replace HQ := hide ((HQ.out.setCell (p := ⟨wd.heap.size, 0, none⟩) G7.out (.int .u64 e1)).setCell (p := ⟨wd.heap.size, 1, none⟩) G7.out (.slice A7 m1 k7))
            clear l7 z7 y7 f7 h7
            generalize ((wa3.setCell ⟨wd.heap.size, 0, none⟩ (.int .u64 e1)).setCell ⟨wd.heap.size, 1, none⟩ (.slice A7 m1 k7)) = wt7 at *
            (try simp only [Act.put, List.getElem_toArray, List.getElem_cons_succ, List.getElem_cons_zero, List.setIfInBounds_toArray, List.set_cons_zero, List.set_cons_succ])
            refine wpAnyH_ready (rs := [7]) (by kernel_rfl) (by simp) ?_
            refine AllReadyH.cons rfl (fun K hK => ?_) AllReadyH.nil
            have l8 := R8.out.lt
            have z8 := row20 R8.out
            have y8 := row21 R8.out
            have f8 := R8.out.frozen 0
            have h8 := R8.out.frozen 1
            go_simp
            refine hK.out _ _ ((HQ.out.setCell (p := ⟨wa2.heap.size, 0, none⟩) G8.out _).setCell (p := ⟨wa2.heap.size, 1, none⟩) G8.out _) (fun _ => ?_)
            clear hK K
            replace O1 := hide (((O1.out.setOffS2 (g := wa2.heap.size) N18.out 0 (.int .u64 e2)).setOffS2 (g := wa2.heap.size) N18.out 1 (.slice A8 m2 k8)))
            replace O2 := hide (((O2.out.setOffS2 (g := wa2.heap.size) N28.out 0 (.int .u64 e2)).setOffS2 (g := wa2.heap.size) N28.out 1 (.slice A8 m2 k8)))
            replace R7 := hide (((R7.out.setNe (o := 0) (v := (.int .u64 e2)) (g2 := wa2.heap.size) NE.out).setNe (o := 1) (v := (.slice A8 m2 k8)) (g2 := wa2.heap.size) NE.out))
            replace R8 : Hid (RowAt ((wt7.setCell ⟨wa2.heap.size, 0, none⟩ (.int .u64 e2)).setCell ⟨wa2.heap.size, 1, none⟩ (.slice A8 m2 k8)) (wa2.heap.size) 25 #[.int .u64 e2, .slice A8 m2 k8]) := hide (by have h := (R8.out.set 0 (.int .u64 e2)).set 1 (.slice A8 m2 k8); simpa using h)
            replace HQ := hide ((HQ.out.setCell (p := ⟨wa2.heap.size, 0, none⟩) G8.out (.int .u64 e2)).setCell (p := ⟨wa2.heap.size, 1, none⟩) G8.out (.slice A8 m2 k8))
            clear l8 z8 y8 f8 h8
            (try simp only [Act.put, List.getElem_toArray, List.getElem_cons_succ, List.getElem_cons_zero, List.setIfInBounds_toArray, List.set_cons_zero, List.set_cons_succ])
            refine wpAnyH_done (by kernel_rfl) ?_ _
            go_wp2_with fail
            go_meet
            case rel => exact ⟨_, A7, k7, _, A8, k8, rfl, rfl, R7.out, R8.out, O1.out, O2.out, hk7, hk8, HQ.out⟩
        · go_simp
          refine hK2.out _ _ (HQ.out.alloc HQ.out.size _) (fun _ => ?_)
          clear hK2 K2
          have hb2 : Below wa1.heap.size wa1 (wa1.alloc (.cells #[.int .u64 0, .slice none 0 0] 25)) := (Below.refl _ _).alloc (Nat.le_refl _) _
          have NE := hide (show wd.heap.size ≠ wa1.heap.size from Nat.ne_of_lt R7.out.lt)
          have N18 := hide (fun (hn : 0 < m1) (p : Addr) (hp : A7 = some p) => (show p.block ≠ wa1.heap.size by obtain ⟨b, off, e1, hb, _⟩ := O1.out.2 hn; rw [hp] at e1; injection e1 with e1; rw [e1]; exact Nat.ne_of_lt hb))
          replace O1 := hide ((O1.out.below hb2).more hb2.size)
          replace R7 := hide (R7.out.below hb2)
          have R8 := hide (RowAt.new wa1 25 #[.int .u64 0, .slice none 0 0])
          have G8 := hide HQ.out.size
          replace HQ := hide (HQ.out.alloc HQ.out.size (.cells #[.int .u64 0, .slice none 0 0] 25))
          clear hb2
          (try simp only [Act.put, List.getElem_toArray, List.getElem_cons_succ, List.getElem_cons_zero, List.setIfInBounds_toArray, List.set_cons_zero, List.set_cons_succ])
          generalize wa1.alloc (.cells #[.int .u64 0, .slice none 0 0] 25) = wa2 at *
          refine wpAnyH_ready (rs := [3]) (by kernel_rfl) (by simp) ?_
          refine (AllReadyH.cons rfl (fun K3 hK3 => ?_) AllReadyH.nil)
          · go_simp
            refine (HO2.out _ (HQ.out)).mono ?_
            rintro e wa3 ⟨A8, k8, rfl, hk8, hkm8, ho8, hf8, hb3⟩
            have N27 := hide (fun (_ : 0 < m2) (p : Addr) (hp : A8 = some p) => (show p.block ≠ wd.heap.size by have h1 := hf8 p hp; have h2 := R7.out.lt; omega))
            have N28 := hide (fun (_ : 0 < m2) (p : Addr) (hp : A8 = some p) => (show p.block ≠ wa1.heap.size by have h1 := hf8 p hp; have h2 := R8.out.lt; omega))
            replace O1 := hide ((O1.out.below hb3).more hb3.size)
            replace R7 := hide (R7.out.below hb3)
            replace R8 := hide (R8.out.below hb3)
            have O2 := hide ho8
            replace HQ := hide (HQ.out.trans (hb3.mono HQ.out.size))
            refine hK3.out _ _ HQ.out (fun _ => ?_)
            clear hK3 K3 ho8 hf8 hb3
            (try simp only [Act.put, List.getElem_toArray, List.getElem_cons_succ, List.getElem_cons_zero, List.setIfInBounds_toArray, List.set_cons_zero, List.set_cons_succ])
            refine wpAnyH_ready (rs := [6]) (by kernel_rfl) (by simp) ?_
            refine AllReadyH.cons rfl (fun K hK => ?_) AllReadyH.nil
            have l7 := R7.out.lt
            have z7 := row20 R7.out
            have y7 := row21 R7.out
            have f7 := R7.out.frozen 0
            have h7 := R7.out.frozen 1
            go_simp
            refine hK.out _ _ ((HQ.out.setCell (p := ⟨wd.heap.size, 0, none⟩) G7.out _).setCell (p := ⟨wd.heap.size, 1, none⟩) G7.out _) (fun _ => ?_)
            clear hK K
            replace O1 := hide (((O1.out.setOffS2 (g := wd.heap.size) N17.out 0 (.int .u64 e1)).setOffS2 (g := wd.heap.size) N17.out 1 (.slice A7 m1 k7)))
            replace O2 := hide (((O2.out.setOffS2 (g := wd.heap.size) N27.out 0 (.int .u64 e1)).setOffS2 (g := wd.heap.size) N27.out 1 (.slice A7 m1 k7)))
            replace R8 := hide (((R8.out.setNe (o := 0) (v := (.int .u64 e1)) (g2 := wd.heap.size) (Ne.symm NE.out)).setNe (o := 1) (v := (.slice A7 m1 k7)) (g2 := wd.heap.size) (Ne.symm NE.out)))
            replace R7 : Hid (RowAt ((wa3.setCell ⟨wd.heap.size, 0, none⟩ (.int .u64 e1)).setCell ⟨wd.heap.size, 1, none⟩ (.slice A7 m1 k7)) (wd.heap.size) 25 #[.int .u64 e1, .slice A7 m1 k7]) := hide (by have h := (R7.out.set 0 (.int .u64 e1)).set 1 (.slice A7 m1 k7); simpa using h)
            replace HQ := hide ((HQ.out.setCell (p := ⟨wd.heap.size, 0, none⟩) G7.out (.int .u64 e1)).setCell (p := ⟨wd.heap.size, 1, none⟩) G7.out (.slice A7 m1 k7))
            clear l7 z7 y7 f7 h7
            generalize ((wa3.setCell ⟨wd.heap.size, 0, none⟩ (.int .u64 e1)).setCell ⟨wd.heap.size, 1, none⟩ (.slice A7 m1 k7)) = wt7 at *
            (try simp only [Act.put, List.getElem_toArray, List.getElem_cons_succ, List.getElem_cons_zero, List.setIfInBounds_toArray, List.set_cons_zero, List.set_cons_succ])
            refine wpAnyH_ready (rs := [7]) (by kernel_rfl) (by simp) ?_
            refine AllReadyH.cons rfl (fun K hK => ?_) AllReadyH.nil
            have l8 := R8.out.lt
            have z8 := row20 R8.out
            have y8 := row21 R8.out
            have f8 := R8.out.frozen 0
            have h8 := R8.out.frozen 1
            go_simp
            refine hK.out _ _ ((HQ.out.setCell (p := ⟨wa1.heap.size, 0, none⟩) G8.out _).setCell (p := ⟨wa1.heap.size, 1, none⟩) G8.out _) (fun _ => ?_)
            clear hK K
            replace O1 := hide (((O1.out.setOffS2 (g := wa1.heap.size) N18.out 0 (.int .u64 e2)).setOffS2 (g := wa1.heap.size) N18.out 1 (.slice A8 m2 k8)))
            replace O2 := hide (((O2.out.setOffS2 (g := wa1.heap.size) N28.out 0 (.int .u64 e2)).setOffS2 (g := wa1.heap.size) N28.out 1 (.slice A8 m2 k8)))
            replace R7 := hide (((R7.out.setNe (o := 0) (v := (.int .u64 e2)) (g2 := wa1.heap.size) NE.out).setNe (o := 1) (v := (.slice A8 m2 k8)) (g2 := wa1.heap.size) NE.out))
            replace R8 : Hid (RowAt ((wt7.setCell ⟨wa1.heap.size, 0, none⟩ (.int .u64 e2)).setCell ⟨wa1.heap.size, 1, none⟩ (.slice A8 m2 k8)) (wa1.heap.size) 25 #[.int .u64 e2, .slice A8 m2 k8]) := hide (by have h := (R8.out.set 0 (.int .u64 e2)).set 1 (.slice A8 m2 k8); simpa using h)
            replace HQ := hide ((HQ.out.setCell (p := ⟨wa1.heap.size, 0, none⟩) G8.out (.int .u64 e2)).setCell (p := ⟨wa1.heap.size, 1, none⟩) G8.out (.slice A8 m2 k8))
            clear l8 z8 y8 f8 h8
            (try simp only [Act.put, List.getElem_toArray, List.getElem_cons_succ, List.getElem_cons_zero, List.setIfInBounds_toArray, List.set_cons_zero, List.set_cons_succ])
            refine wpAnyH_done (by kernel_rfl) ?_ _
            go_wp2_with fail
            go_meet
            case rel => exact ⟨_, A7, k7, _, A8, k8, rfl, rfl, R7.out, R8.out, O1.out, O2.out, hk7, hk8, HQ.out⟩
      · go_simp
        refine hK1.out _ _ (HQ.out.alloc HQ.out.size _) (fun _ => ?_)
        clear hK1 K1
        have hb1 : Below wa0.heap.size wa0 (wa0.alloc (.cells #[.int .u64 0, .slice none 0 0] 25)) := (Below.refl _ _).alloc (Nat.le_refl _) _
        have NE := hide (show wd.heap.size ≠ wa0.heap.size from Nat.ne_of_lt R7.out.lt)
        replace R7 := hide (R7.out.below hb1)
        have R8 := hide (RowAt.new wa0 25 #[.int .u64 0, .slice none 0 0])
        have G8 := hide HQ.out.size
        replace HQ := hide (HQ.out.alloc HQ.out.size (.cells #[.int .u64 0, .slice none 0 0] 25))
        clear hb1
        (try simp only [Act.put, List.getElem_toArray, List.getElem_cons_succ, List.getElem_cons_zero, List.setIfInBounds_toArray, List.set_cons_zero, List.set_cons_succ])
        generalize wa0.alloc (.cells #[.int .u64 0, .slice none 0 0] 25) = wa1 at *
        refine wpAnyH_ready (rs := [1]) (by kernel_rfl) (by simp) ?_
        refine (AllReadyH.cons rfl (fun K2 hK2 => ?_) AllReadyH.nil)
        · go_simp
          refine (HO1.out _ (HQ.out)).mono ?_
          rintro e wa2 ⟨A7, k7, rfl, hk7, hkm7, ho7, hf7, hb2⟩
          have N17 := hide (fun (_ : 0 < m1) (p : Addr) (hp : A7 = some p) => (show p.block ≠ wd.heap.size by have h1 := hf7 p hp; have h2 := R7.out.lt; omega))
          have N18 := hide (fun (_ : 0 < m1) (p : Addr) (hp : A7 = some p) => (show p.block ≠ wa0.heap.size by have h1 := hf7 p hp; have h2 := R8.out.lt; omega))
          replace R7 := hide (R7.out.below hb2)
          replace R8 := hide (R8.out.below hb2)
          have O1 := hide ho7
          replace HQ := hide (HQ.out.trans (hb2.mono HQ.out.size))
          refine hK2.out _ _ HQ.out (fun _ => ?_)
          clear hK2 K2 ho7 hf7 hb2
          (try simp only [Act.put, List.getElem_toArray, List.getElem_cons_succ, List.getElem_cons_zero, List.setIfInBounds_toArray, List.set_cons_zero, List.set_cons_succ])
          refine wpAnyH_ready (rs := [3]) (by kernel_rfl) (by simp) ?_
          refine (AllReadyH.cons rfl (fun K3 hK3 => ?_) AllReadyH.nil)
          · go_simp
            refine (HO2.out _ (HQ.out)).mono ?_
            rintro e wa3 ⟨A8, k8, rfl, hk8, hkm8, ho8, hf8, hb3⟩
            have N27 := hide (fun (_ : 0 < m2) (p : Addr) (hp : A8 = some p) => (show p.block ≠ wd.heap.size by have h1 := hf8 p hp; have h2 := R7.out.lt; omega))
            have N28 := hide (fun (_ : 0 < m2) (p : Addr) (hp : A8 = some p) => (show p.block ≠ wa0.heap.size by have h1 := hf8 p hp; have h2 := R8.out.lt; omega))
            replace O1 := hide ((O1.out.below hb3).more hb3.size)
            replace R7 := hide (R7.out.below hb3)
            replace R8 := hide (R8.out.below hb3)
            have O2 := hide ho8
            replace HQ := hide (HQ.out.trans (hb3.mono HQ.out.size))
            refine hK3.out _ _ HQ.out (fun _ => ?_)
            clear hK3 K3 ho8 hf8 hb3
            (try simp only [Act.put, List.getElem_toArray, List.getElem_cons_succ, List.getElem_cons_zero, List.setIfInBounds_toArray, List.set_cons_zero, List.set_cons_succ])
            refine wpAnyH_ready (rs := [6]) (by kernel_rfl) (by simp) ?_
            refine AllReadyH.cons rfl (fun K hK => ?_) AllReadyH.nil
            have l7 := R7.out.lt
            have z7 := row20 R7.out
            have y7 := row21 R7.out
            have f7 := R7.out.frozen 0
            have h7 := R7.out.frozen 1
            go_simp
            refine hK.out _ _ ((HQ.out.setCell (p := ⟨wd.heap.size, 0, none⟩) G7.out _).setCell (p := ⟨wd.heap.size, 1, none⟩) G7.out _) (fun _ => ?_)
            clear hK K
            replace O1 := hide (((O1.out.setOffS2 (g := wd.heap.size) N17.out 0 (.int .u64 e1)).setOffS2 (g := wd.heap.size) N17.out 1 (.slice A7 m1 k7)))
            replace O2 := hide (((O2.out.setOffS2 (g := wd.heap.size) N27.out 0 (.int .u64 e1)).setOffS2 (g := wd.heap.size) N27.out 1 (.slice A7 m1 k7)))
            replace R8 := hide (((R8.out.setNe (o := 0) (v := (.int .u64 e1)) (g2 := wd.heap.size) (Ne.symm NE.out)).setNe (o := 1) (v := (.slice A7 m1 k7)) (g2 := wd.heap.size) (Ne.symm NE.out)))
            replace R7 : Hid (RowAt ((wa3.setCell ⟨wd.heap.size, 0, none⟩ (.int .u64 e1)).setCell ⟨wd.heap.size, 1, none⟩ (.slice A7 m1 k7)) (wd.heap.size) 25 #[.int .u64 e1, .slice A7 m1 k7]) := hide (by have h := (R7.out.set 0 (.int .u64 e1)).set 1 (.slice A7 m1 k7); simpa using h)
            replace HQ := hide ((HQ.out.setCell (p := ⟨wd.heap.size, 0, none⟩) G7.out (.int .u64 e1)).setCell (p := ⟨wd.heap.size, 1, none⟩) G7.out (.slice A7 m1 k7))
            clear l7 z7 y7 f7 h7
            generalize ((wa3.setCell ⟨wd.heap.size, 0, none⟩ (.int .u64 e1)).setCell ⟨wd.heap.size, 1, none⟩ (.slice A7 m1 k7)) = wt7 at *
            (try simp only [Act.put, List.getElem_toArray, List.getElem_cons_succ, List.getElem_cons_zero, List.setIfInBounds_toArray, List.set_cons_zero, List.set_cons_succ])
            refine wpAnyH_ready (rs := [7]) (by kernel_rfl) (by simp) ?_
            refine AllReadyH.cons rfl (fun K hK => ?_) AllReadyH.nil
            have l8 := R8.out.lt
            have z8 := row20 R8.out
            have y8 := row21 R8.out
            have f8 := R8.out.frozen 0
            have h8 := R8.out.frozen 1
            go_simp
            refine hK.out _ _ ((HQ.out.setCell (p := ⟨wa0.heap.size, 0, none⟩) G8.out _).setCell (p := ⟨wa0.heap.size, 1, none⟩) G8.out _) (fun _ => ?_)
            clear hK K
            replace O1 := hide (((O1.out.setOffS2 (g := wa0.heap.size) N18.out 0 (.int .u64 e2)).setOffS2 (g := wa0.heap.size) N18.out 1 (.slice A8 m2 k8)))
            replace O2 := hide (((O2.out.setOffS2 (g := wa0.heap.size) N28.out 0 (.int .u64 e2)).setOffS2 (g := wa0.heap.size) N28.out 1 (.slice A8 m2 k8)))
            replace R7 := hide (((R7.out.setNe (o := 0) (v := (.int .u64 e2)) (g2 := wa0.heap.size) NE.out).setNe (o := 1) (v := (.slice A8 m2 k8)) (g2 := wa0.heap.size) NE.out))
            replace R8 : Hid (RowAt ((wt7.setCell ⟨wa0.heap.size, 0, none⟩ (.int .u64 e2)).setCell ⟨wa0.heap.size, 1, none⟩ (.slice A8 m2 k8)) (wa0.heap.size) 25 #[.int .u64 e2, .slice A8 m2 k8]) := hide (by have h := (R8.out.set 0 (.int .u64 e2)).set 1 (.slice A8 m2 k8); simpa using h)
            replace HQ := hide ((HQ.out.setCell (p := ⟨wa0.heap.size, 0, none⟩) G8.out (.int .u64 e2)).setCell (p := ⟨wa0.heap.size, 1, none⟩) G8.out (.slice A8 m2 k8))
            clear l8 z8 y8 f8 h8
            (try simp only [Act.put, List.getElem_toArray, List.getElem_cons_succ, List.getElem_cons_zero, List.setIfInBounds_toArray, List.set_cons_zero, List.set_cons_succ])
            refine wpAnyH_done (by kernel_rfl) ?_ _
            go_wp2_with fail
            go_meet
            case rel => exact ⟨_, A7, k7, _, A8, k8, rfl, rfl, R7.out, R8.out, O1.out, O2.out, hk7, hk8, HQ.out⟩
    · go_simp
      refine hK0.out _ _ (HQ.out.alloc HQ.out.size _) (fun _ => ?_)
      clear hK0 K0
      have hb0 : Below wd.heap.size wd (wd.alloc (.cells #[.int .u64 0, .slice none 0 0] 25)) := (Below.refl _ _).alloc (Nat.le_refl _) _
      have R8 := hide (RowAt.new wd 25 #[.int .u64 0, .slice none 0 0])
      have G8 := hide HQ.out.size
      replace HQ := hide (HQ.out.alloc HQ.out.size (.cells #[.int .u64 0, .slice none 0 0] 25))
      clear hb0
      (try simp only [Act.put, List.getElem_toArray, List.getElem_cons_succ, List.getElem_cons_zero, List.setIfInBounds_toArray, List.set_cons_zero, List.set_cons_succ])
      generalize wd.alloc (.cells #[.int .u64 0, .slice none 0 0] 25) = wa0 at *
      refine wpAnyH_ready (rs := [1, 4]) (by kernel_rfl) (by simp) ?_
      refine (AllReadyH.cons rfl (fun K1 hK1 => ?_) (AllReadyH.cons rfl (fun K1 hK1 => ?_) AllReadyH.nil))
      · go_simp
        refine (HO1.out _ (HQ.out)).mono ?_
        rintro e wa1 ⟨A7, k7, rfl, hk7, hkm7, ho7, hf7, hb1⟩
        have N18 := hide (fun (_ : 0 < m1) (p : Addr) (hp : A7 = some p) => (show p.block ≠ wd.heap.size by have h1 := hf7 p hp; have h2 := R8.out.lt; omega))
        replace R8 := hide (R8.out.below hb1)
        have O1 := hide ho7
        replace HQ := hide (HQ.out.trans (hb1.mono HQ.out.size))
        refine hK1.out _ _ HQ.out (fun _ => ?_)
        clear hK1 K1 ho7 hf7 hb1
        (try simp only [Act.put, List.getElem_toArray, List.getElem_cons_succ, List.getElem_cons_zero, List.setIfInBounds_toArray, List.set_cons_zero, List.set_cons_succ])
        refine wpAnyH_ready (rs := [3, 4]) (by kernel_rfl) (by simp) ?_
        refine (AllReadyH.cons rfl (fun K2 hK2 => ?_) (AllReadyH.cons rfl (fun K2 hK2 => ?_) AllReadyH.nil))
        · go_simp
          refine (HO2.out _ (HQ.out)).mono ?_
          rintro e wa2 ⟨A8, k8, rfl, hk8, hkm8, ho8, hf8, hb2⟩
          have N28 := hide (fun (_ : 0 < m2) (p : Addr) (hp : A8 = some p) => (show p.block ≠ wd.heap.size by have h1 := hf8 p hp; have h2 := R8.out.lt; omega))
          replace O1 := hide ((O1.out.below hb2).more hb2.size)
          replace R8 := hide (R8.out.below hb2)
          have O2 := hide ho8
          replace HQ := hide (HQ.out.trans (hb2.mono HQ.out.size))
          refine hK2.out _ _ HQ.out (fun _ => ?_)
          clear hK2 K2 ho8 hf8 hb2
          (try simp only [Act.put, List.getElem_toArray, List.getElem_cons_succ, List.getElem_cons_zero, List.setIfInBounds_toArray, List.set_cons_zero, List.set_cons_succ])
          refine wpAnyH_ready (rs := [4]) (by kernel_rfl) (by simp) ?_
          refine (AllReadyH.cons rfl (fun K3 hK3 => ?_) AllReadyH.nil)
          · go_simp
            refine hK3.out _ _ (HQ.out.alloc HQ.out.size _) (fun _ => ?_)
            clear hK3 K3
            have hb3 : Below wa2.heap.size wa2 (wa2.alloc (.cells #[.int .u64 0, .slice none 0 0] 25)) := (Below.refl _ _).alloc (Nat.le_refl _) _
            have NE := hide (show wa2.heap.size ≠ wd.heap.size from Nat.ne_of_gt R8.out.lt)
            have N17 := hide (fun (hn : 0 < m1) (p : Addr) (hp : A7 = some p) => (show p.block ≠ wa2.heap.size by obtain ⟨b, off, e1, hb, _⟩ := O1.out.2 hn; rw [hp] at e1; injection e1 with e1; rw [e1]; exact Nat.ne_of_lt hb))
            have N27 := hide (fun (hn : 0 < m2) (p : Addr) (hp : A8 = some p) => (show p.block ≠ wa2.heap.size by obtain ⟨b, off, e1, hb, _⟩ := O2.out.2 hn; rw [hp] at e1; injection e1 with e1; rw [e1]; exact Nat.ne_of_lt hb))
            replace O1 := hide ((O1.out.below hb3).more hb3.size)
            replace O2 := hide ((O2.out.below hb3).more hb3.size)
            replace R8 := hide (R8.out.below hb3)
            have R7 := hide (RowAt.new wa2 25 #[.int .u64 0, .slice none 0 0])
            have G7 := hide HQ.out.size
            replace HQ := hide (HQ.out.alloc HQ.out.size (.cells #[.int .u64 0, .slice none 0 0] 25))
            clear hb3
            (try simp only [Act.put, List.getElem_toArray, List.getElem_cons_succ, List.getElem_cons_zero, List.setIfInBounds_toArray, List.set_cons_zero, List.set_cons_succ])
            generalize wa2.alloc (.cells #[.int .u64 0, .slice none 0 0] 25) = wa3 at *
            refine wpAnyH_ready (rs := [6]) (by kernel_rfl) (by simp) ?_
            refine AllReadyH.cons rfl (fun K hK => ?_) AllReadyH.nil
            have l7 := R7.out.lt
            have z7 := row20 R7.out
            have y7 := row21 R7.out
            have f7 := R7.out.frozen 0
            have h7 := R7.out.frozen 1
            go_simp
            refine hK.out _ _ ((HQ.out.setCell (p := ⟨wa2.heap.size, 0, none⟩) G7.out _).setCell (p := ⟨wa2.heap.size, 1, none⟩) G7.out _) (fun _ => ?_)
            clear hK K
            replace O1 := hide (((O1.out.setOffS2 (g := wa2.heap.size) N17.out 0 (.int .u64 e1)).setOffS2 (g := wa2.heap.size) N17.out 1 (.slice A7 m1 k7)))
            replace O2 := hide (((O2.out.setOffS2 (g := wa2.heap.size) N27.out 0 (.int .u64 e1)).setOffS2 (g := wa2.heap.size) N27.out 1 (.slice A7 m1 k7)))
            replace R8 := hide (((R8.out.setNe (o := 0) (v := (.int .u64 e1)) (g2 := wa2.heap.size) (Ne.symm NE.out)).setNe (o := 1) (v := (.slice A7 m1 k7)) (g2 := wa2.heap.size) (Ne.symm NE.out)))
            replace R7 : Hid (RowAt ((wa3.setCell ⟨wa2.heap.size, 0, none⟩ (.int .u64 e1)).setCell ⟨wa2.heap.size, 1, none⟩ (.slice A7 m1 k7)) (wa2.heap.size) 25 #[.int .u64 e1, .slice A7 m1 k7]) := hide (by have h := (R7.out.set 0 (.int .u64 e1)).set 1 (.slice A7 m1 k7); simpa using h)
            replace HQ := hide ((HQ.out.setCell (p := ⟨wa2.heap.size, 0, none⟩) G7.out (.int .u64 e1)).setCell (p := ⟨wa2.heap.size, 1, none⟩) G7.out (.slice A7 m1 k7))
            clear l7 z7 y7 f7 h7
            generalize ((wa3.setCell ⟨wa2.heap.size, 0, none⟩ (.int .u64 e1)).setCell ⟨wa2.heap.size, 1, none⟩ (.slice A7 m1 k7)) = wt7 at *
            (try simp only [Act.put, List.getElem_toArray, List.getElem_cons_succ, List.getElem_cons_zero, List.setIfInBounds_toArray, List.set_cons_zero, List.set_cons_succ])
            refine wpAnyH_ready (rs := [7]) (by kernel_rfl) (by simp) ?_
            refine AllReadyH.cons rfl (fun K hK => ?_) AllReadyH.nil
            have l8 := R8.out.lt
            have z8 := row20 R8.out
            have y8 := row21 R8.out
            have f8 := R8.out.frozen 0
            have h8 := R8.out.frozen 1
            go_simp
            refine hK.out _ _ ((HQ.out.setCell (p := ⟨wd.heap.size, 0, none⟩) G8.out _).setCell (p := ⟨wd.heap.size, 1, none⟩) G8.out _) (fun _ => ?_)
            clear hK K
            replace O1 := hide (((O1.out.setOffS2 (g := wd.heap.size) N18.out 0 (.int .u64 e2)).setOffS2 (g := wd.heap.size) N18.out 1 (.slice A8 m2 k8)))
            replace O2 := hide (((O2.out.setOffS2 (g := wd.heap.size) N28.out 0 (.int .u64 e2)).setOffS2 (g := wd.heap.size) N28.out 1 (.slice A8 m2 k8)))
            replace R7 := hide (((R7.out.setNe (o := 0) (v := (.int .u64 e2)) (g2 := wd.heap.size) NE.out).setNe (o := 1) (v := (.slice A8 m2 k8)) (g2 := wd.heap.size) NE.out))
            replace R8 : Hid (RowAt ((wt7.setCell ⟨wd.heap.size, 0, none⟩ (.int .u64 e2)).setCell ⟨wd.heap.size, 1, none⟩ (.slice A8 m2 k8)) (wd.heap.size) 25 #[.int .u64 e2, .slice A8 m2 k8]) := hide (by have h := (R8.out.set 0 (.int .u64 e2)).set 1 (.slice A8 m2 k8); simpa using h)
            replace HQ := hide ((HQ.out.setCell (p := ⟨wd.heap.size, 0, none⟩) G8.out (.int .u64 e2)).setCell (p := ⟨wd.heap.size, 1, none⟩) G8.out (.slice A8 m2 k8))
            clear l8 z8 y8 f8 h8
            (try simp only [Act.put, List.getElem_toArray, List.getElem_cons_succ, List.getElem_cons_zero, List.setIfInBounds_toArray, List.set_cons_zero, List.set_cons_succ])
            refine wpAnyH_done (by kernel_rfl) ?_ _
            go_wp2_with fail
            go_meet
            case rel => exact ⟨_, A7, k7, _, A8, k8, rfl, rfl, R7.out, R8.out, O1.out, O2.out, hk7, hk8, HQ.out⟩
        · go_simp
          refine hK2.out _ _ (HQ.out.alloc HQ.out.size _) (fun _ => ?_)
          clear hK2 K2
          have hb2 : Below wa1.heap.size wa1 (wa1.alloc (.cells #[.int .u64 0, .slice none 0 0] 25)) := (Below.refl _ _).alloc (Nat.le_refl _) _
          have NE := hide (show wa1.heap.size ≠ wd.heap.size from Nat.ne_of_gt R8.out.lt)
          have N17 := hide (fun (hn : 0 < m1) (p : Addr) (hp : A7 = some p) => (show p.block ≠ wa1.heap.size by obtain ⟨b, off, e1, hb, _⟩ := O1.out.2 hn; rw [hp] at e1; injection e1 with e1; rw [e1]; exact Nat.ne_of_lt hb))
          replace O1 := hide ((O1.out.below hb2).more hb2.size)
          replace R8 := hide (R8.out.below hb2)
          have R7 := hide (RowAt.new wa1 25 #[.int .u64 0, .slice none 0 0])
          have G7 := hide HQ.out.size
          replace HQ := hide (HQ.out.alloc HQ.out.size (.cells #[.int .u64 0, .slice none 0 0] 25))
          clear hb2
          (try simp only [Act.put, List.getElem_toArray, List.getElem_cons_succ, List.getElem_cons_zero, List.setIfInBounds_toArray, List.set_cons_zero, List.set_cons_succ])
          generalize wa1.alloc (.cells #[.int .u64 0, .slice none 0 0] 25) = wa2 at *
          refine wpAnyH_ready (rs := [3]) (by kernel_rfl) (by simp) ?_
          refine (AllReadyH.cons rfl (fun K3 hK3 => ?_) AllReadyH.nil)
          · go_simp
            refine (HO2.out _ (HQ.out)).mono ?_
            rintro e wa3 ⟨A8, k8, rfl, hk8, hkm8, ho8, hf8, hb3⟩
            have N27 := hide (fun (_ : 0 < m2) (p : Addr) (hp : A8 = some p) => (show p.block ≠ wa1.heap.size by have h1 := hf8 p hp; have h2 := R7.out.lt; omega))
            have N28 := hide (fun (_ : 0 < m2) (p : Addr) (hp : A8 = some p) => (show p.block ≠ wd.heap.size by have h1 := hf8 p hp; have h2 := R8.out.lt; omega))
            replace O1 := hide ((O1.out.below hb3).more hb3.size)
            replace R7 := hide (R7.out.below hb3)
            replace R8 := hide (R8.out.below hb3)
            have O2 := hide ho8
            replace HQ := hide (HQ.out.trans (hb3.mono HQ.out.size))
            refine hK3.out _ _ HQ.out (fun _ => ?_)
            clear hK3 K3 ho8 hf8 hb3
            (try simp only [Act.put, List.getElem_toArray, List.getElem_cons_succ, List.getElem_cons_zero, List.setIfInBounds_toArray, List.set_cons_zero, List.set_cons_succ])
            refine wpAnyH_ready (rs := [6]) (by kernel_rfl) (by simp) ?_
            refine AllReadyH.cons rfl (fun K hK => ?_) AllReadyH.nil
            have l7 := R7.out.lt
            have z7 := row20 R7.out
            have y7 := row21 R7.out
            have f7 := R7.out.frozen 0
            have h7 := R7.out.frozen 1
            go_simp
            refine hK.out _ _ ((HQ.out.setCell (p := ⟨wa1.heap.size, 0, none⟩) G7.out _).setCell (p := ⟨wa1.heap.size, 1, none⟩) G7.out _) (fun _ => ?_)
            clear hK K
            replace O1 := hide (((O1.out.setOffS2 (g := wa1.heap.size) N17.out 0 (.int .u64 e1)).setOffS2 (g := wa1.heap.size) N17.out 1 (.slice A7 m1 k7)))
            replace O2 := hide (((O2.out.setOffS2 (g := wa1.heap.size) N27.out 0 (.int .u64 e1)).setOffS2 (g := wa1.heap.size) N27.out 1 (.slice A7 m1 k7)))
            replace R8 := hide (((R8.out.setNe (o := 0) (v := (.int .u64 e1)) (g2 := wa1.heap.size) (Ne.symm NE.out)).setNe (o := 1) (v := (.slice A7 m1 k7)) (g2 := wa1.heap.size) (Ne.symm NE.out)))
            replace R7 : Hid (RowAt ((wa3.setCell ⟨wa1.heap.size, 0, none⟩ (.int .u64 e1)).setCell ⟨wa1.heap.size, 1, none⟩ (.slice A7 m1 k7)) (wa1.heap.size) 25 #[.int .u64 e1, .slice A7 m1 k7]) := hide (by have h := (R7.out.set 0 (.int .u64 e1)).set 1 (.slice A7 m1 k7); simpa using h)
            replace HQ := hide ((HQ.out.setCell (p := ⟨wa1.heap.size, 0, none⟩) G7.out (.int .u64 e1)).setCell (p := ⟨wa1.heap.size, 1, none⟩) G7.out (.slice A7 m1 k7))
            clear l7 z7 y7 f7 h7
            generalize ((wa3.setCell ⟨wa1.heap.size, 0, none⟩ (.int .u64 e1)).setCell ⟨wa1.heap.size, 1, none⟩ (.slice A7 m1 k7)) = wt7 at *
            (try simp only [Act.put, List.getElem_toArray, List.getElem_cons_succ, List.getElem_cons_zero, List.setIfInBounds_toArray, List.set_cons_zero, List.set_cons_succ])
            refine wpAnyH_ready (rs := [7]) (by kernel_rfl) (by simp) ?_
            refine AllReadyH.cons rfl (fun K hK => ?_) AllReadyH.nil
            have l8 := R8.out.lt
            have z8 := row20 R8.out
            have y8 := row21 R8.out
            have f8 := R8.out.frozen 0
            have h8 := R8.out.frozen 1
            go_simp
            refine hK.out _ _ ((HQ.out.setCell (p := ⟨wd.heap.size, 0, none⟩) G8.out _).setCell (p := ⟨wd.heap.size, 1, none⟩) G8.out _) (fun _ => ?_)
            clear hK K
            replace O1 := hide (((O1.out.setOffS2 (g := wd.heap.size) N18.out 0 (.int .u64 e2)).setOffS2 (g := wd.heap.size) N18.out 1 (.slice A8 m2 k8)))
            replace O2 := hide (((O2.out.setOffS2 (g := wd.heap.size) N28.out 0 (.int .u64 e2)).setOffS2 (g := wd.heap.size) N28.out 1 (.slice A8 m2 k8)))
            replace R7 := hide (((R7.out.setNe (o := 0) (v := (.int .u64 e2)) (g2 := wd.heap.size) NE.out).setNe (o := 1) (v := (.slice A8 m2 k8)) (g2 := wd.heap.size) NE.out))
            replace R8 : Hid (RowAt ((wt7.setCell ⟨wd.heap.size, 0, none⟩ (.int .u64 e2)).setCell ⟨wd.heap.size, 1, none⟩ (.slice A8 m2 k8)) (wd.heap.size) 25 #[.int .u64 e2, .slice A8 m2 k8]) := hide (by have h := (R8.out.set 0 (.int .u64 e2)).set 1 (.slice A8 m2 k8); simpa using h)
            replace HQ := hide ((HQ.out.setCell (p := ⟨wd.heap.size, 0, none⟩) G8.out (.int .u64 e2)).setCell (p := ⟨wd.heap.size, 1, none⟩) G8.out (.slice A8 m2 k8))
            clear l8 z8 y8 f8 h8
            (try simp only [Act.put, List.getElem_toArray, List.getElem_cons_succ, List.getElem_cons_zero, List.setIfInBounds_toArray, List.set_cons_zero, List.set_cons_succ])
            refine wpAnyH_done (by kernel_rfl) ?_ _
            go_wp2_with fail
            go_meet
            case rel => exact ⟨_, A7, k7, _, A8, k8, rfl, rfl, R7.out, R8.out, O1.out, O2.out, hk7, hk8, HQ.out⟩
      · go_simp
        refine hK1.out _ _ (HQ.out.alloc HQ.out.size _) (fun _ => ?_)
        clear hK1 K1
        have hb1 : Below wa0.heap.size wa0 (wa0.alloc (.cells #[.int .u64 0, .slice none 0 0] 25)) := (Below.refl _ _).alloc (Nat.le_refl _) _
        have NE := hide (show wa0.heap.size ≠ wd.heap.size from Nat.ne_of_gt R8.out.lt)
        replace R8 := hide (R8.out.below hb1)
        have R7 := hide (RowAt.new wa0 25 #[.int .u64 0, .slice none 0 0])
        have G7 := hide HQ.out.size
        replace HQ := hide (HQ.out.alloc HQ.out.size (.cells #[.int .u64 0, .slice none 0 0] 25))
        clear hb1
        (try simp only [Act.put, List.getElem_toArray, List.getElem_cons_succ, List.getElem_cons_zero, List.setIfInBounds_toArray, List.set_cons_zero, List.set_cons_succ])
        generalize wa0.alloc (.cells #[.int .u64 0, .slice none 0 0] 25) = wa1 at *
        refine wpAnyH_ready (rs := [1]) (by kernel_rfl) (by simp) ?_
        refine (AllReadyH.cons rfl (fun K2 hK2 => ?_) AllReadyH.nil)
        · go_simp
          refine (HO1.out _ (HQ.out)).mono ?_
          rintro e wa2 ⟨A7, k7, rfl, hk7, hkm7, ho7, hf7, hb2⟩
          have N17 := hide (fun (_ : 0 < m1) (p : Addr) (hp : A7 = some p) => (show p.block ≠ wa0.heap.size by have h1 := hf7 p hp; have h2 := R7.out.lt; omega))
          have N18 := hide (fun (_ : 0 < m1) (p : Addr) (hp : A7 = some p) => (show p.block ≠ wd.heap.size by have h1 := hf7 p hp; have h2 := R8.out.lt; omega))
          replace R7 := hide (R7.out.below hb2)
          replace R8 := hide (R8.out.below hb2)
          have O1 := hide ho7
          replace HQ := hide (HQ.out.trans (hb2.mono HQ.out.size))
          refine hK2.out _ _ HQ.out (fun _ => ?_)
          clear hK2 K2 ho7 hf7 hb2
          (try simp only [Act.put, List.getElem_toArray, List.getElem_cons_succ, List.getElem_cons_zero, List.setIfInBounds_toArray, List.set_cons_zero, List.set_cons_succ])
          refine wpAnyH_ready (rs := [3]) (by kernel_rfl) (by simp) ?_
          refine (AllReadyH.cons rfl (fun K3 hK3 => ?_) AllReadyH.nil)
          · go_simp
            refine (HO2.out _ (HQ.out)).mono ?_
            rintro e wa3 ⟨A8, k8, rfl, hk8, hkm8, ho8, hf8, hb3⟩
            have N27 := hide (fun (_ : 0 < m2) (p : Addr) (hp : A8 = some p) => (show p.block ≠ wa0.heap.size by have h1 := hf8 p hp; have h2 := R7.out.lt; omega))
            have N28 := hide (fun (_ : 0 < m2) (p : Addr) (hp : A8 = some p) => (show p.block ≠ wd.heap.size by have h1 := hf8 p hp; have h2 := R8.out.lt; omega))
            replace O1 := hide ((O1.out.below hb3).more hb3.size)
            replace R7 := hide (R7.out.below hb3)
            replace R8 := hide (R8.out.below hb3)
            have O2 := hide ho8
            replace HQ := hide (HQ.out.trans (hb3.mono HQ.out.size))
            refine hK3.out _ _ HQ.out (fun _ => ?_)
            clear hK3 K3 ho8 hf8 hb3
            (try simp only [Act.put, List.getElem_toArray, List.getElem_cons_succ, List.getElem_cons_zero, List.setIfInBounds_toArray, List.set_cons_zero, List.set_cons_succ])
            refine wpAnyH_ready (rs := [6]) (by kernel_rfl) (by simp) ?_
            refine AllReadyH.cons rfl (fun K hK => ?_) AllReadyH.nil
            have l7 := R7.out.lt
            have z7 := row20 R7.out
            have y7 := row21 R7.out
            have f7 := R7.out.frozen 0
            have h7 := R7.out.frozen 1
            go_simp
            refine hK.out _ _ ((HQ.out.setCell (p := ⟨wa0.heap.size, 0, none⟩) G7.out _).setCell (p := ⟨wa0.heap.size, 1, none⟩) G7.out _) (fun _ => ?_)
            clear hK K
            replace O1 := hide (((O1.out.setOffS2 (g := wa0.heap.size) N17.out 0 (.int .u64 e1)).setOffS2 (g := wa0.heap.size) N17.out 1 (.slice A7 m1 k7)))
            replace O2 := hide (((O2.out.setOffS2 (g := wa0.heap.size) N27.out 0 (.int .u64 e1)).setOffS2 (g := wa0.heap.size) N27.out 1 (.slice A7 m1 k7)))
            replace R8 := hide (((R8.out.setNe (o := 0) (v := (.int .u64 e1)) (g2 := wa0.heap.size) (Ne.symm NE.out)).setNe (o := 1) (v := (.slice A7 m1 k7)) (g2 := wa0.heap.size) (Ne.symm NE.out)))
            replace R7 : Hid (RowAt ((wa3.setCell ⟨wa0.heap.size, 0, none⟩ (.int .u64 e1)).setCell ⟨wa0.heap.size, 1, none⟩ (.slice A7 m1 k7)) (wa0.heap.size) 25 #[.int .u64 e1, .slice A7 m1 k7]) := hide (by have h := (R7.out.set 0 (.int .u64 e1)).set 1 (.slice A7 m1 k7); simpa using h)
            replace HQ := hide ((HQ.out.setCell (p := ⟨wa0.heap.size, 0, none⟩) G7.out (.int .u64 e1)).setCell (p := ⟨wa0.heap.size, 1, none⟩) G7.out (.slice A7 m1 k7))
            clear l7 z7 y7 f7 h7
            generalize ((wa3.setCell ⟨wa0.heap.size, 0, none⟩ (.int .u64 e1)).setCell ⟨wa0.heap.size, 1, none⟩ (.slice A7 m1 k7)) = wt7 at *
            (try simp only [Act.put, List.getElem_toArray, List.getElem_cons_succ, List.getElem_cons_zero, List.setIfInBounds_toArray, List.set_cons_zero, List.set_cons_succ])
            refine wpAnyH_ready (rs := [7]) (by kernel_rfl) (by simp) ?_
            refine AllReadyH.cons rfl (fun K hK => ?_) AllReadyH.nil
            have l8 := R8.out.lt
            have z8 := row20 R8.out
            have y8 := row21 R8.out
            have f8 := R8.out.frozen 0
            have h8 := R8.out.frozen 1
            go_simp
            refine hK.out _ _ ((HQ.out.setCell (p := ⟨wd.heap.size, 0, none⟩) G8.out _).setCell (p := ⟨wd.heap.size, 1, none⟩) G8.out _) (fun _ => ?_)
            clear hK K
            replace O1 := hide (((O1.out.setOffS2 (g := wd.heap.size) N18.out 0 (.int .u64 e2)).setOffS2 (g := wd.heap.size) N18.out 1 (.slice A8 m2 k8)))
            replace O2 := hide (((O2.out.setOffS2 (g := wd.heap.size) N28.out 0 (.int .u64 e2)).setOffS2 (g := wd.heap.size) N28.out 1 (.slice A8 m2 k8)))
            replace R7 := hide (((R7.out.setNe (o := 0) (v := (.int .u64 e2)) (g2 := wd.heap.size) NE.out).setNe (o := 1) (v := (.slice A8 m2 k8)) (g2 := wd.heap.size) NE.out))
            replace R8 : Hid (RowAt ((wt7.setCell ⟨wd.heap.size, 0, none⟩ (.int .u64 e2)).setCell ⟨wd.heap.size, 1, none⟩ (.slice A8 m2 k8)) (wd.heap.size) 25 #[.int .u64 e2, .slice A8 m2 k8]) := hide (by have h := (R8.out.set 0 (.int .u64 e2)).set 1 (.slice A8 m2 k8); simpa using h)
            replace HQ := hide ((HQ.out.setCell (p := ⟨wd.heap.size, 0, none⟩) G8.out (.int .u64 e2)).setCell (p := ⟨wd.heap.size, 1, none⟩) G8.out (.slice A8 m2 k8))
            clear l8 z8 y8 f8 h8
            (try simp only [Act.put, List.getElem_toArray, List.getElem_cons_succ, List.getElem_cons_zero, List.setIfInBounds_toArray, List.set_cons_zero, List.set_cons_succ])
            refine wpAnyH_done (by kernel_rfl) ?_ _
            go_wp2_with fail
            go_meet
            case rel => exact ⟨_, A7, k7, _, A8, k8, rfl, rfl, R7.out, R8.out, O1.out, O2.out, hk7, hk8, HQ.out⟩
  case rest =>
    rename_i K hK
    refine hK _ _ ?_
    clear hK K
    obtain ⟨w2, hw2⟩ : ∃ w, w = wc := ⟨_, rfl⟩
    subst hw2
    obtain ⟨g7, A7, k7, g8, A8, k8, rfl, rfl, hr7, hr8, ho7, ho8, hk7, hk8, hb⟩ := hcut
    clear qR1_0 qR1_1 lR1 qR2_0 qR2_1 lR2
    replace R1 := hide (R1.out.below hb)
    replace R2 := hide (R2.out.below hb)
    replace HB := hide (HB.out.trans (hb.mono HB.out.size))
    have R7 := hide hr7
    have R8 := hide hr8
    have O7 := hide ho7
    have O8 := hide ho8
    clear hr7 hr8 ho7 ho8 hb HO1 HO2 HOWN2 R2
    obtain ⟨r, hr⟩ : ∃ r, pOk e1 S = r := ⟨_, rfl⟩
    have HR := hide hr
    obtain ⟨ck, hck⟩ : ∃ k : Int, (if r = true then 0 else 230) = k := ⟨_, rfl⟩
    have HKK := hide hck
    have HRR := hide (fun w (h : Rd w w.heap.size 1 A7 m1 (Cs encW S)) => rright_any A7 k7 m1 e1 S w h HL1.out (by omega) e1p HU1.out r hr)
    have HCK := hide (fun w (h : Rd w w.heap.size 1 A7 m1 (Cs encW S)) => check_any A7 k7 m1 e1 S w h HL1.out e1p (by omega) ck (by rw [hr]; exact hck))
    obtain ⟨bb, hbb⟩ : ∃ b, decide (e1 = e2 ∧ S = T) = b := ⟨_, rfl⟩
    have HBB := hide hbb
    clear hr hck hbb
    have qR7_0 := row20 R7.out
    have qR7_1 := row21 R7.out
    have lR7 := R7.out.lt
    go_wp2_with fail
    clear qR7_0 qR7_1 lR7
    with_reducible refine (HRR.out _ O7.out).mono ?_
    rintro e w301 ⟨rfl, hb⟩
    replace O7 := hide ((O7.out.below hb).more hb.size)
    replace O8 := hide ((O8.out.below hb).more hb.size)
    replace R1 := hide (R1.out.below hb)
    replace R7 := hide (R7.out.below hb)
    replace R8 := hide (R8.out.below hb)
    replace HB := hide (HB.out.trans (hb.mono HB.out.size))
    clear hb HRR
    have qR7_0 := row20 R7.out
    have qR7_1 := row21 R7.out
    have lR7 := R7.out.lt
    go_wp2_with fail
    clear qR7_0 qR7_1 lR7
    with_reducible refine (HCK.out _ O7.out).mono ?_
    rintro e w302 ⟨rfl, hb⟩
    replace O7 := hide ((O7.out.below hb).more hb.size)
    replace O8 := hide ((O8.out.below hb).more hb.size)
    replace R1 := hide (R1.out.below hb)
    replace R7 := hide (R7.out.below hb)
    replace R8 := hide (R8.out.below hb)
    replace HB := hide (HB.out.trans (hb.mono HB.out.size))
    clear hb HCK
    have Q21 : Hid (∀ w, Below w302.heap.size w302 w → Calls Try.prog 21 #[.agg #[.int .u64 e1, .slice A7 m1 k7], .agg #[.int .u64 e2, .slice A8 m2 k8]] w fun e W' => e = .returned (.bool bb) ∧ Below w.heap.size w W') := hide (fun w hw => same_any A7 A8 k7 k8 m1 m2 e1 e2 S T w ((O7.out.below hw).more hw.size) ((O8.out.below hw).more hw.size) HL1.out HL2.out (by omega) (by omega) bb HBB.out)
    have Q18 : Hid (∀ w, Below w302.heap.size w302 w → Calls Try.prog 14 #[.agg #[.int .u64 e1, .slice A7 m1 k7], .agg #[.int .u64 e2, .slice A8 m2 k8]] w fun e W' => e = .returned (.bool bb) ∧ Below w.heap.size w W') := hide (fun w hw => rsame_any A7 A8 k7 k8 m1 m2 e1 e2 S T w ((O7.out.below hw).more hw.size) ((O8.out.below hw).more hw.size) HL1.out HL2.out (by omega) (by omega) bb HBB.out)
    have Q21x : Hid (∀ w A' c', Below w302.heap.size w302 w → Rd w w.heap.size 1 A' m1 (Cs encW S) → Calls Try.prog 21 #[.agg #[.int .u64 e1, .slice A7 m1 k7], .agg #[.int .u64 e1, .slice A' m1 c']] w fun e W' => e = .returned (.bool true) ∧ Below w.heap.size w W') := hide (fun w A' c' hw hr => same_any A7 A' k7 c' m1 m1 e1 e1 S S w ((O7.out.below hw).more hw.size) hr HL1.out HL1.out (by omega) (by omega) true (by simp))
    have QX : Hid (∀ w, Below w302.heap.size w302 w → Calls Try.prog 9 #[.agg #[.int .u64 e1, .slice A1 n1 c1]] w fun e' W' => ∃ A' c', e' = .returned (.agg #[.int .u64 e1, .slice A' m1 c']) ∧ Rd W' W'.heap.size 1 A' m1 (Cs encW S) ∧ Below w.heap.size w W') := hide (fun w hw => (HOWN1.out w (HB.out.trans (hw.mono HB.out.size))).mono fun e' W' ⟨A', c', e1, _, _, e3, _, e5⟩ => ⟨A', c', e1, e3, e5⟩)
    have HS : Hid (∀ w w', (Below w302.heap.size w302 w ∧ w.cell? ⟨g7, 0, none⟩ = some (.int .u64 e1) ∧ w.cell? ⟨g7, 1, none⟩ = some (.slice A7 m1 k7) ∧ w.cell? ⟨g8, 0, none⟩ = some (.int .u64 e2) ∧ w.cell? ⟨g8, 1, none⟩ = some (.slice A8 m2 k8) ∧ w.cell? ⟨g1, 0, none⟩ = some (.int .u64 e1) ∧ w.cell? ⟨g1, 1, none⟩ = some (.slice A1 n1 c1)) → Below w.heap.size w w' → (Below w302.heap.size w302 w' ∧ w'.cell? ⟨g7, 0, none⟩ = some (.int .u64 e1) ∧ w'.cell? ⟨g7, 1, none⟩ = some (.slice A7 m1 k7) ∧ w'.cell? ⟨g8, 0, none⟩ = some (.int .u64 e2) ∧ w'.cell? ⟨g8, 1, none⟩ = some (.slice A8 m2 k8) ∧ w'.cell? ⟨g1, 0, none⟩ = some (.int .u64 e1) ∧ w'.cell? ⟨g1, 1, none⟩ = some (.slice A1 n1 c1))) := hide (fun w w' h hb => ⟨h.1.trans (hb.mono h.1.size), kept hb h.2.1, kept hb h.2.2.1, kept hb h.2.2.2.1, kept hb h.2.2.2.2.1, kept hb h.2.2.2.2.2.1, kept hb h.2.2.2.2.2.2⟩)
    have qR7_0 := row20 R7.out
    have qR7_1 := row21 R7.out
    have lR7 := R7.out.lt
    have qR8_0 := row20 R8.out
    have qR8_1 := row21 R8.out
    have lR8 := R8.out.lt
    have qR1_0 := row20 R1.out
    have qR1_1 := row21 R1.out
    have lR1 := R1.out.lt
    go_upto_region 6 with fail
    go_cut [59] from 32 to 59 (fun s59 wx => s59 = .bool false ∧ Below w302.heap.size w302 wx)
    case first =>
      have hbd0 : Below w302.heap.size w302 w302.drew := (Below.refl _ _).drew
      cases r
      · have hk := HKK.out
        simp at hk
        subst hk
        refine wp_region_held_drew (S := fun wX => Below w302.heap.size w302 wX ∧ wX.cell? ⟨g7, 0, none⟩ = some (.int .u64 e1) ∧ wX.cell? ⟨g7, 1, none⟩ = some (.slice A7 m1 k7) ∧ wX.cell? ⟨g8, 0, none⟩ = some (.int .u64 e2) ∧ wX.cell? ⟨g8, 1, none⟩ = some (.slice A8 m2 k8) ∧ wX.cell? ⟨g1, 0, none⟩ = some (.int .u64 e1) ∧ wX.cell? ⟨g1, 1, none⟩ = some (.slice A1 n1 c1)) (by kernel_rfl) (⟨hbd0, qR7_0, qR7_1, qR8_0, qR8_1, qR1_0, qR1_1⟩) (fun hHeld => ?_)
        (refine wpAnyH_take (i := 0) (v := ?_) rfl (by kernel_rfl) (by kernel_rfl) (by kernel_rfl) (fun _ _ _ h => h) (Or.inl ⟨by rfl, ?_⟩) (by assumption) ?_; rotate_left; (focus (intro w hSw; (try dsimp only at hSw); go_simp; first | done | with_reducible rfl)); (try simp only [Act.put, List.getElem_toArray, List.getElem_cons_succ, List.getElem_cons_zero, List.setIfInBounds_toArray, List.set_cons_zero, List.set_cons_succ]))
        (refine wpAnyH_take (i := 1) (v := ?_) rfl (by kernel_rfl) (by kernel_rfl) (by kernel_rfl) (fun _ _ _ h => h) (Or.inl ⟨by rfl, ?_⟩) (by assumption) ?_; rotate_left; (focus (intro w hSw; (try dsimp only at hSw); go_simp; first | done | with_reducible rfl)); (try simp only [Act.put, List.getElem_toArray, List.getElem_cons_succ, List.getElem_cons_zero, List.setIfInBounds_toArray, List.set_cons_zero, List.set_cons_succ]))
        (refine wpAnyH_take (i := 2) (v := ?_) rfl (by kernel_rfl) (by kernel_rfl) (by kernel_rfl) (fun _ _ _ h => h) (Or.inl ⟨by rfl, ?_⟩) (by assumption) ?_; rotate_left; (focus (intro w hSw; (try dsimp only at hSw); go_simp; first | done | with_reducible rfl)); (try simp only [Act.put, List.getElem_toArray, List.getElem_cons_succ, List.getElem_cons_zero, List.setIfInBounds_toArray, List.set_cons_zero, List.set_cons_succ]))
        (refine wpAnyH_take (i := 3) (v := ?_) rfl (by kernel_rfl) (by kernel_rfl) (by kernel_rfl) (fun _ _ _ h => h) (Or.inl ⟨by rfl, ?_⟩) (by assumption) ?_; rotate_left; (focus (intro w hSw; (try dsimp only at hSw); go_simp; first | done | with_reducible rfl)); (try simp only [Act.put, List.getElem_toArray, List.getElem_cons_succ, List.getElem_cons_zero, List.setIfInBounds_toArray, List.set_cons_zero, List.set_cons_succ]))
        (refine wpAnyH_take (i := 4) (v := ?_) rfl (by kernel_rfl) (by kernel_rfl) (by kernel_rfl) (fun _ _ _ h => h) (Or.inl ⟨by rfl, ?_⟩) (by assumption) ?_; rotate_left; (focus (intro w hSw; (try dsimp only at hSw); go_simp; first | done | with_reducible rfl)); (try simp only [Act.put, List.getElem_toArray, List.getElem_cons_succ, List.getElem_cons_zero, List.setIfInBounds_toArray, List.set_cons_zero, List.set_cons_succ]))
        (refine wpAnyH_take (i := 5) (v := ?_) rfl (by kernel_rfl) (by kernel_rfl) (by kernel_rfl) (fun _ _ _ h => h) (Or.inl ⟨by rfl, ?_⟩) (by assumption) ?_; rotate_left; (focus (intro w hSw; (try dsimp only at hSw); go_simp; first | done | with_reducible rfl)); (try simp only [Act.put, List.getElem_toArray, List.getElem_cons_succ, List.getElem_cons_zero, List.setIfInBounds_toArray, List.set_cons_zero, List.set_cons_succ]))
        (refine wpAnyH_take (i := 6) (v := ?_) rfl (by kernel_rfl) (by kernel_rfl) (by kernel_rfl) (fun _ _ _ h => h) (Or.inl ⟨by rfl, ?_⟩) (by assumption) ?_; rotate_left; (focus (intro w hSw; (try dsimp only at hSw); go_simp; first | done | with_reducible rfl)); (try simp only [Act.put, List.getElem_toArray, List.getElem_cons_succ, List.getElem_cons_zero, List.setIfInBounds_toArray, List.set_cons_zero, List.set_cons_succ]))
        (refine wpAnyH_take (i := 7) (v := ?_) rfl (by kernel_rfl) (by kernel_rfl) (by kernel_rfl) (fun _ _ _ h => h) (Or.inl ⟨by rfl, ?_⟩) (by assumption) ?_; rotate_left; (focus (intro w hSw; (try dsimp only at hSw); go_simp; first | done | with_reducible rfl)); (try simp only [Act.put, List.getElem_toArray, List.getElem_cons_succ, List.getElem_cons_zero, List.setIfInBounds_toArray, List.set_cons_zero, List.set_cons_succ]))
        (refine wpAnyH_take (i := 8) (v := ?_) rfl (by kernel_rfl) (by kernel_rfl) (by kernel_rfl) (fun _ _ _ h => h) (Or.inl ⟨by rfl, ?_⟩) (by assumption) ?_; rotate_left; (focus (intro w hSw; (try dsimp only at hSw); go_simp; first | done | with_reducible rfl)); (try simp only [Act.put, List.getElem_toArray, List.getElem_cons_succ, List.getElem_cons_zero, List.setIfInBounds_toArray, List.set_cons_zero, List.set_cons_succ]))
        (refine wpAnyH_take (i := 9) (v := ?_) rfl (by kernel_rfl) (by kernel_rfl) (by kernel_rfl) (fun _ _ _ h => h) (Or.inl ⟨by rfl, ?_⟩) (by assumption) ?_; rotate_left; (focus (intro w hSw; (try dsimp only at hSw); go_simp; first | done | with_reducible rfl)); (try simp only [Act.put, List.getElem_toArray, List.getElem_cons_succ, List.getElem_cons_zero, List.setIfInBounds_toArray, List.set_cons_zero, List.set_cons_succ]))
        (refine wpAnyH_take (i := 10) (v := ?_) rfl (by kernel_rfl) (by kernel_rfl) (by kernel_rfl) (fun _ _ _ h => h) (Or.inl ⟨by rfl, ?_⟩) (by assumption) ?_; rotate_left; (focus (intro w hSw; (try dsimp only at hSw); go_simp; first | done | with_reducible rfl)); (try simp only [Act.put, List.getElem_toArray, List.getElem_cons_succ, List.getElem_cons_zero, List.setIfInBounds_toArray, List.set_cons_zero, List.set_cons_succ]))
        (refine wpAnyH_take (i := 11) (v := ?_) rfl (by kernel_rfl) (by kernel_rfl) (by kernel_rfl) (fun _ _ _ h => h) (Or.inl ⟨by rfl, ?_⟩) (by assumption) ?_; rotate_left; (focus (intro w hSw; (try dsimp only at hSw); go_simp; first | done | with_reducible rfl)); (try simp only [Act.put, List.getElem_toArray, List.getElem_cons_succ, List.getElem_cons_zero, List.setIfInBounds_toArray, List.set_cons_zero, List.set_cons_succ]))
        (refine wpAnyH_take (i := 12) (v := ?_) rfl (by kernel_rfl) (by kernel_rfl) (by kernel_rfl) (fun _ _ _ h => h) (Or.inl ⟨by rfl, ?_⟩) (by assumption) ?_; rotate_left; (focus (intro w hSw; (try dsimp only at hSw); go_simp; first | done | with_reducible rfl)); (try simp only [Act.put, List.getElem_toArray, List.getElem_cons_succ, List.getElem_cons_zero, List.setIfInBounds_toArray, List.set_cons_zero, List.set_cons_succ]))
        (refine wpAnyH_take (i := 13) (v := ?_) rfl (by kernel_rfl) (by kernel_rfl) (by kernel_rfl) (fun _ _ _ h => h) (Or.inl ⟨by rfl, ?_⟩) (by assumption) ?_; rotate_left; (focus (intro w hSw; (try dsimp only at hSw); go_simp; first | done | with_reducible rfl)); (try simp only [Act.put, List.getElem_toArray, List.getElem_cons_succ, List.getElem_cons_zero, List.setIfInBounds_toArray, List.set_cons_zero, List.set_cons_succ]))
        (refine wpAnyH_take (i := 14) (v := ?_) rfl (by kernel_rfl) (by kernel_rfl) (by kernel_rfl) (fun _ _ _ h => h) (Or.inl ⟨by rfl, ?_⟩) (by assumption) ?_; rotate_left; (focus (intro w hSw; (try dsimp only at hSw); go_simp; first | done | with_reducible rfl)); (try simp only [Act.put, List.getElem_toArray, List.getElem_cons_succ, List.getElem_cons_zero, List.setIfInBounds_toArray, List.set_cons_zero, List.set_cons_succ]))
        (refine wpAnyH_take (i := 16) (v := ?_) rfl (by kernel_rfl) (by kernel_rfl) (by kernel_rfl) (fun _ _ _ h => h) (Or.inl ⟨by rfl, ?_⟩) (by assumption) ?_; rotate_left; (focus (intro w hSw; (try dsimp only at hSw); go_simp; first | done | with_reducible rfl)); (try simp only [Act.put, List.getElem_toArray, List.getElem_cons_succ, List.getElem_cons_zero, List.setIfInBounds_toArray, List.set_cons_zero, List.set_cons_succ]))
        (refine wpAnyH_take (i := 17) (v := ?_) rfl (by kernel_rfl) (by kernel_rfl) (by kernel_rfl) (fun _ _ _ h => h) (Or.inl ⟨by rfl, ?_⟩) (by assumption) ?_; rotate_left; (focus (intro w hSw; (try dsimp only at hSw); go_simp; first | done | with_reducible rfl)); (try simp only [Act.put, List.getElem_toArray, List.getElem_cons_succ, List.getElem_cons_zero, List.setIfInBounds_toArray, List.set_cons_zero, List.set_cons_succ]))
        refine wpAnyH_ready (rs := [15]) (by kernel_rfl) (by simp) ?_
        refine AllReadyH.cons rfl (fun K hK => ?_) AllReadyH.nil
        go_simp
        (with_reducible refine (Q21.out _ (And.left hHeld)).mono ?_; rintro e w5 ⟨rfl, hb⟩)
        refine hK.out _ _ (HS.out _ _ hHeld hb) (fun hHeld => ?_)
        clear hK K
        (try simp only [Act.put, List.getElem_toArray, List.getElem_cons_succ, List.getElem_cons_zero, List.setIfInBounds_toArray, List.set_cons_zero, List.set_cons_succ])
        refine wpAnyH_ready (rs := [18]) (by kernel_rfl) (by simp) ?_
        refine AllReadyH.cons rfl (fun K hK => ?_) AllReadyH.nil
        go_simp
        (with_reducible refine (Q18.out _ (And.left hHeld)).mono ?_; rintro e w6 ⟨rfl, hb⟩)
        refine hK.out _ _ (HS.out _ _ hHeld hb) (fun hHeld => ?_)
        clear hK K
        (try simp only [Act.put, List.getElem_toArray, List.getElem_cons_succ, List.getElem_cons_zero, List.setIfInBounds_toArray, List.set_cons_zero, List.set_cons_succ])
        (refine wpAnyH_take (i := 19) (v := ?_) rfl (by kernel_rfl) (by kernel_rfl) (by kernel_rfl) (fun _ _ _ h => h) (Or.inl ⟨by rfl, ?_⟩) (by assumption) ?_; rotate_left; (focus (intro w hSw; (try dsimp only at hSw); go_simp; first | done | with_reducible rfl)); (try simp only [Act.put, List.getElem_toArray, List.getElem_cons_succ, List.getElem_cons_zero, List.setIfInBounds_toArray, List.set_cons_zero, List.set_cons_succ]))
        (refine wpAnyH_take (i := 20) (v := ?_) rfl (by kernel_rfl) (by kernel_rfl) (by kernel_rfl) (fun _ _ _ h => h) (Or.inl ⟨by rfl, ?_⟩) (by assumption) ?_; rotate_left; (focus (intro w hSw; (try dsimp only at hSw); go_simp; first | done | with_reducible rfl)); (try simp only [Act.put, List.getElem_toArray, List.getElem_cons_succ, List.getElem_cons_zero, List.setIfInBounds_toArray, List.set_cons_zero, List.set_cons_succ]))
        (refine wpAnyH_take (i := 21) (v := ?_) rfl (by kernel_rfl) (by kernel_rfl) (by kernel_rfl) (fun _ _ _ h => h) (Or.inl ⟨by rfl, ?_⟩) (by assumption) ?_; rotate_left; (focus (intro w hSw; (try dsimp only at hSw); go_simp; first | done | with_reducible rfl)); (try simp only [Act.put, List.getElem_toArray, List.getElem_cons_succ, List.getElem_cons_zero, List.setIfInBounds_toArray, List.set_cons_zero, List.set_cons_succ]))
        (refine wpAnyH_take (i := 22) (v := ?_) rfl (by kernel_rfl) (by kernel_rfl) (by kernel_rfl) (fun _ _ _ h => h) (Or.inl ⟨by rfl, ?_⟩) (by assumption) ?_; rotate_left; (focus (intro w hSw; (try dsimp only at hSw); go_simp; first | done | with_reducible rfl)); (try simp only [Act.put, List.getElem_toArray, List.getElem_cons_succ, List.getElem_cons_zero, List.setIfInBounds_toArray, List.set_cons_zero, List.set_cons_succ]))
        (refine wpAnyH_take (i := 23) (v := ?_) rfl (by kernel_rfl) (by kernel_rfl) (by kernel_rfl) (fun _ _ _ h => h) (Or.inl ⟨by rfl, ?_⟩) (by assumption) ?_; rotate_left; (focus (intro w hSw; (try dsimp only at hSw); go_simp; first | done | with_reducible rfl)); (try simp only [Act.put, List.getElem_toArray, List.getElem_cons_succ, List.getElem_cons_zero, List.setIfInBounds_toArray, List.set_cons_zero, List.set_cons_succ]))
        refine wpAnyH_ready (rs := [24]) (by kernel_rfl) (by simp) ?_
        refine AllReadyH.cons rfl (fun K hK => ?_) AllReadyH.nil
        go_simp
        (with_reducible refine (QX.out _ (And.left hHeld)).mono ?_; rintro e w7 ⟨Ay, cy, rfl, hrdy, hb⟩)
        refine hK.out _ _ (HS.out _ _ hHeld hb) (fun hHeld => ?_)
        clear hK K
        (try simp only [Act.put, List.getElem_toArray, List.getElem_cons_succ, List.getElem_cons_zero, List.setIfInBounds_toArray, List.set_cons_zero, List.set_cons_succ])
        refine wpAnyH_ready (rs := [25]) (by kernel_rfl) (by simp) ?_
        refine AllReadyH.cons rfl (fun K hK => ?_) AllReadyH.nil
        go_simp
        (with_reducible refine (Q21x.out _ _ _ (And.left hHeld) hrdy).mono ?_; rintro e w8 ⟨rfl, hb⟩)
        refine hK.out _ _ (HS.out _ _ hHeld hb) (fun hHeld => ?_)
        clear hK K
        (try simp only [Act.put, List.getElem_toArray, List.getElem_cons_succ, List.getElem_cons_zero, List.setIfInBounds_toArray, List.set_cons_zero, List.set_cons_succ])
        (refine wpAnyH_take (i := 26) (v := ?_) rfl (by kernel_rfl) (by kernel_rfl) (by kernel_rfl) (fun _ _ _ h => h) (Or.inl ⟨by rfl, ?_⟩) (by assumption) ?_; rotate_left; (focus (intro w hSw; (try dsimp only at hSw); go_simp; first | done | with_reducible rfl)); (try simp only [Act.put, List.getElem_toArray, List.getElem_cons_succ, List.getElem_cons_zero, List.setIfInBounds_toArray, List.set_cons_zero, List.set_cons_succ]))
        (refine wpAnyH_take (i := 27) (v := ?_) rfl (by kernel_rfl) (by kernel_rfl) (by kernel_rfl) (fun _ _ _ h => h) (Or.inl ⟨by rfl, ?_⟩) (by assumption) ?_; rotate_left; (focus (intro w hSw; (try dsimp only at hSw); go_simp; first | done | with_reducible rfl)); (try simp only [Act.put, List.getElem_toArray, List.getElem_cons_succ, List.getElem_cons_zero, List.setIfInBounds_toArray, List.set_cons_zero, List.set_cons_succ]))
        refine wpAnyH_done (by kernel_rfl) ?_ _
        have hbd := And.left hHeld
        go_wp2_with fail
        go_meet
        case rel => exact ⟨rfl, hbd⟩
      · have hk := HKK.out
        simp at hk
        subst hk
        refine wp_region_held_drew (S := fun wX => Below w302.heap.size w302 wX ∧ wX.cell? ⟨g7, 0, none⟩ = some (.int .u64 e1) ∧ wX.cell? ⟨g7, 1, none⟩ = some (.slice A7 m1 k7) ∧ wX.cell? ⟨g8, 0, none⟩ = some (.int .u64 e2) ∧ wX.cell? ⟨g8, 1, none⟩ = some (.slice A8 m2 k8) ∧ wX.cell? ⟨g1, 0, none⟩ = some (.int .u64 e1) ∧ wX.cell? ⟨g1, 1, none⟩ = some (.slice A1 n1 c1)) (by kernel_rfl) (⟨hbd0, qR7_0, qR7_1, qR8_0, qR8_1, qR1_0, qR1_1⟩) (fun hHeld => ?_)
        (refine wpAnyH_take (i := 0) (v := ?_) rfl (by kernel_rfl) (by kernel_rfl) (by kernel_rfl) (fun _ _ _ h => h) (Or.inl ⟨by rfl, ?_⟩) (by assumption) ?_; rotate_left; (focus (intro w hSw; (try dsimp only at hSw); go_simp; first | done | with_reducible rfl)); (try simp only [Act.put, List.getElem_toArray, List.getElem_cons_succ, List.getElem_cons_zero, List.setIfInBounds_toArray, List.set_cons_zero, List.set_cons_succ]))
        (refine wpAnyH_take (i := 1) (v := ?_) rfl (by kernel_rfl) (by kernel_rfl) (by kernel_rfl) (fun _ _ _ h => h) (Or.inl ⟨by rfl, ?_⟩) (by assumption) ?_; rotate_left; (focus (intro w hSw; (try dsimp only at hSw); go_simp; first | done | with_reducible rfl)); (try simp only [Act.put, List.getElem_toArray, List.getElem_cons_succ, List.getElem_cons_zero, List.setIfInBounds_toArray, List.set_cons_zero, List.set_cons_succ]))
        (refine wpAnyH_take (i := 2) (v := ?_) rfl (by kernel_rfl) (by kernel_rfl) (by kernel_rfl) (fun _ _ _ h => h) (Or.inl ⟨by rfl, ?_⟩) (by assumption) ?_; rotate_left; (focus (intro w hSw; (try dsimp only at hSw); go_simp; first | done | with_reducible rfl)); (try simp only [Act.put, List.getElem_toArray, List.getElem_cons_succ, List.getElem_cons_zero, List.setIfInBounds_toArray, List.set_cons_zero, List.set_cons_succ]))
        (refine wpAnyH_take (i := 3) (v := ?_) rfl (by kernel_rfl) (by kernel_rfl) (by kernel_rfl) (fun _ _ _ h => h) (Or.inl ⟨by rfl, ?_⟩) (by assumption) ?_; rotate_left; (focus (intro w hSw; (try dsimp only at hSw); go_simp; first | done | with_reducible rfl)); (try simp only [Act.put, List.getElem_toArray, List.getElem_cons_succ, List.getElem_cons_zero, List.setIfInBounds_toArray, List.set_cons_zero, List.set_cons_succ]))
        (refine wpAnyH_take (i := 4) (v := ?_) rfl (by kernel_rfl) (by kernel_rfl) (by kernel_rfl) (fun _ _ _ h => h) (Or.inl ⟨by rfl, ?_⟩) (by assumption) ?_; rotate_left; (focus (intro w hSw; (try dsimp only at hSw); go_simp; first | done | with_reducible rfl)); (try simp only [Act.put, List.getElem_toArray, List.getElem_cons_succ, List.getElem_cons_zero, List.setIfInBounds_toArray, List.set_cons_zero, List.set_cons_succ]))
        (refine wpAnyH_take (i := 5) (v := ?_) rfl (by kernel_rfl) (by kernel_rfl) (by kernel_rfl) (fun _ _ _ h => h) (Or.inl ⟨by rfl, ?_⟩) (by assumption) ?_; rotate_left; (focus (intro w hSw; (try dsimp only at hSw); go_simp; first | done | with_reducible rfl)); (try simp only [Act.put, List.getElem_toArray, List.getElem_cons_succ, List.getElem_cons_zero, List.setIfInBounds_toArray, List.set_cons_zero, List.set_cons_succ]))
        (refine wpAnyH_take (i := 6) (v := ?_) rfl (by kernel_rfl) (by kernel_rfl) (by kernel_rfl) (fun _ _ _ h => h) (Or.inl ⟨by rfl, ?_⟩) (by assumption) ?_; rotate_left; (focus (intro w hSw; (try dsimp only at hSw); go_simp; first | done | with_reducible rfl)); (try simp only [Act.put, List.getElem_toArray, List.getElem_cons_succ, List.getElem_cons_zero, List.setIfInBounds_toArray, List.set_cons_zero, List.set_cons_succ]))
        (refine wpAnyH_take (i := 7) (v := ?_) rfl (by kernel_rfl) (by kernel_rfl) (by kernel_rfl) (fun _ _ _ h => h) (Or.inl ⟨by rfl, ?_⟩) (by assumption) ?_; rotate_left; (focus (intro w hSw; (try dsimp only at hSw); go_simp; first | done | with_reducible rfl)); (try simp only [Act.put, List.getElem_toArray, List.getElem_cons_succ, List.getElem_cons_zero, List.setIfInBounds_toArray, List.set_cons_zero, List.set_cons_succ]))
        (refine wpAnyH_take (i := 8) (v := undef) rfl (by kernel_rfl) (by kernel_rfl) (by kernel_rfl) (fun _ _ _ h => h) (Or.inr ⟨by rfl, rfl⟩) (by assumption) ?_; (try simp only [Act.put, List.getElem_toArray, List.getElem_cons_succ, List.getElem_cons_zero, List.setIfInBounds_toArray, List.set_cons_zero, List.set_cons_succ]))
        (refine wpAnyH_take (i := 9) (v := undef) rfl (by kernel_rfl) (by kernel_rfl) (by kernel_rfl) (fun _ _ _ h => h) (Or.inr ⟨by rfl, rfl⟩) (by assumption) ?_; (try simp only [Act.put, List.getElem_toArray, List.getElem_cons_succ, List.getElem_cons_zero, List.setIfInBounds_toArray, List.set_cons_zero, List.set_cons_succ]))
        (refine wpAnyH_take (i := 10) (v := ?_) rfl (by kernel_rfl) (by kernel_rfl) (by kernel_rfl) (fun _ _ _ h => h) (Or.inl ⟨by rfl, ?_⟩) (by assumption) ?_; rotate_left; (focus (intro w hSw; (try dsimp only at hSw); go_simp; first | done | with_reducible rfl)); (try simp only [Act.put, List.getElem_toArray, List.getElem_cons_succ, List.getElem_cons_zero, List.setIfInBounds_toArray, List.set_cons_zero, List.set_cons_succ]))
        (refine wpAnyH_take (i := 11) (v := ?_) rfl (by kernel_rfl) (by kernel_rfl) (by kernel_rfl) (fun _ _ _ h => h) (Or.inl ⟨by rfl, ?_⟩) (by assumption) ?_; rotate_left; (focus (intro w hSw; (try dsimp only at hSw); go_simp; first | done | with_reducible rfl)); (try simp only [Act.put, List.getElem_toArray, List.getElem_cons_succ, List.getElem_cons_zero, List.setIfInBounds_toArray, List.set_cons_zero, List.set_cons_succ]))
        (refine wpAnyH_take (i := 12) (v := ?_) rfl (by kernel_rfl) (by kernel_rfl) (by kernel_rfl) (fun _ _ _ h => h) (Or.inl ⟨by rfl, ?_⟩) (by assumption) ?_; rotate_left; (focus (intro w hSw; (try dsimp only at hSw); go_simp; first | done | with_reducible rfl)); (try simp only [Act.put, List.getElem_toArray, List.getElem_cons_succ, List.getElem_cons_zero, List.setIfInBounds_toArray, List.set_cons_zero, List.set_cons_succ]))
        (refine wpAnyH_take (i := 13) (v := ?_) rfl (by kernel_rfl) (by kernel_rfl) (by kernel_rfl) (fun _ _ _ h => h) (Or.inl ⟨by rfl, ?_⟩) (by assumption) ?_; rotate_left; (focus (intro w hSw; (try dsimp only at hSw); go_simp; first | done | with_reducible rfl)); (try simp only [Act.put, List.getElem_toArray, List.getElem_cons_succ, List.getElem_cons_zero, List.setIfInBounds_toArray, List.set_cons_zero, List.set_cons_succ]))
        (refine wpAnyH_take (i := 14) (v := ?_) rfl (by kernel_rfl) (by kernel_rfl) (by kernel_rfl) (fun _ _ _ h => h) (Or.inl ⟨by rfl, ?_⟩) (by assumption) ?_; rotate_left; (focus (intro w hSw; (try dsimp only at hSw); go_simp; first | done | with_reducible rfl)); (try simp only [Act.put, List.getElem_toArray, List.getElem_cons_succ, List.getElem_cons_zero, List.setIfInBounds_toArray, List.set_cons_zero, List.set_cons_succ]))
        (refine wpAnyH_take (i := 16) (v := ?_) rfl (by kernel_rfl) (by kernel_rfl) (by kernel_rfl) (fun _ _ _ h => h) (Or.inl ⟨by rfl, ?_⟩) (by assumption) ?_; rotate_left; (focus (intro w hSw; (try dsimp only at hSw); go_simp; first | done | with_reducible rfl)); (try simp only [Act.put, List.getElem_toArray, List.getElem_cons_succ, List.getElem_cons_zero, List.setIfInBounds_toArray, List.set_cons_zero, List.set_cons_succ]))
        (refine wpAnyH_take (i := 17) (v := ?_) rfl (by kernel_rfl) (by kernel_rfl) (by kernel_rfl) (fun _ _ _ h => h) (Or.inl ⟨by rfl, ?_⟩) (by assumption) ?_; rotate_left; (focus (intro w hSw; (try dsimp only at hSw); go_simp; first | done | with_reducible rfl)); (try simp only [Act.put, List.getElem_toArray, List.getElem_cons_succ, List.getElem_cons_zero, List.setIfInBounds_toArray, List.set_cons_zero, List.set_cons_succ]))
        refine wpAnyH_ready (rs := [15]) (by kernel_rfl) (by simp) ?_
        refine AllReadyH.cons rfl (fun K hK => ?_) AllReadyH.nil
        go_simp
        (with_reducible refine (Q21.out _ (And.left hHeld)).mono ?_; rintro e w5 ⟨rfl, hb⟩)
        refine hK.out _ _ (HS.out _ _ hHeld hb) (fun hHeld => ?_)
        clear hK K
        (try simp only [Act.put, List.getElem_toArray, List.getElem_cons_succ, List.getElem_cons_zero, List.setIfInBounds_toArray, List.set_cons_zero, List.set_cons_succ])
        refine wpAnyH_ready (rs := [18]) (by kernel_rfl) (by simp) ?_
        refine AllReadyH.cons rfl (fun K hK => ?_) AllReadyH.nil
        go_simp
        (with_reducible refine (Q18.out _ (And.left hHeld)).mono ?_; rintro e w6 ⟨rfl, hb⟩)
        refine hK.out _ _ (HS.out _ _ hHeld hb) (fun hHeld => ?_)
        clear hK K
        (try simp only [Act.put, List.getElem_toArray, List.getElem_cons_succ, List.getElem_cons_zero, List.setIfInBounds_toArray, List.set_cons_zero, List.set_cons_succ])
        (refine wpAnyH_take (i := 19) (v := ?_) rfl (by kernel_rfl) (by kernel_rfl) (by kernel_rfl) (fun _ _ _ h => h) (Or.inl ⟨by rfl, ?_⟩) (by assumption) ?_; rotate_left; (focus (intro w hSw; (try dsimp only at hSw); go_simp; first | done | with_reducible rfl)); (try simp only [Act.put, List.getElem_toArray, List.getElem_cons_succ, List.getElem_cons_zero, List.setIfInBounds_toArray, List.set_cons_zero, List.set_cons_succ]))
        (refine wpAnyH_take (i := 20) (v := ?_) rfl (by kernel_rfl) (by kernel_rfl) (by kernel_rfl) (fun _ _ _ h => h) (Or.inl ⟨by rfl, ?_⟩) (by assumption) ?_; rotate_left; (focus (intro w hSw; (try dsimp only at hSw); go_simp; first | done | with_reducible rfl)); (try simp only [Act.put, List.getElem_toArray, List.getElem_cons_succ, List.getElem_cons_zero, List.setIfInBounds_toArray, List.set_cons_zero, List.set_cons_succ]))
        (refine wpAnyH_take (i := 21) (v := ?_) rfl (by kernel_rfl) (by kernel_rfl) (by kernel_rfl) (fun _ _ _ h => h) (Or.inl ⟨by rfl, ?_⟩) (by assumption) ?_; rotate_left; (focus (intro w hSw; (try dsimp only at hSw); go_simp; first | done | with_reducible rfl)); (try simp only [Act.put, List.getElem_toArray, List.getElem_cons_succ, List.getElem_cons_zero, List.setIfInBounds_toArray, List.set_cons_zero, List.set_cons_succ]))
        (refine wpAnyH_take (i := 22) (v := ?_) rfl (by kernel_rfl) (by kernel_rfl) (by kernel_rfl) (fun _ _ _ h => h) (Or.inl ⟨by rfl, ?_⟩) (by assumption) ?_; rotate_left; (focus (intro w hSw; (try dsimp only at hSw); go_simp; first | done | with_reducible rfl)); (try simp only [Act.put, List.getElem_toArray, List.getElem_cons_succ, List.getElem_cons_zero, List.setIfInBounds_toArray, List.set_cons_zero, List.set_cons_succ]))
        (refine wpAnyH_take (i := 23) (v := ?_) rfl (by kernel_rfl) (by kernel_rfl) (by kernel_rfl) (fun _ _ _ h => h) (Or.inl ⟨by rfl, ?_⟩) (by assumption) ?_; rotate_left; (focus (intro w hSw; (try dsimp only at hSw); go_simp; first | done | with_reducible rfl)); (try simp only [Act.put, List.getElem_toArray, List.getElem_cons_succ, List.getElem_cons_zero, List.setIfInBounds_toArray, List.set_cons_zero, List.set_cons_succ]))
        refine wpAnyH_ready (rs := [24]) (by kernel_rfl) (by simp) ?_
        refine AllReadyH.cons rfl (fun K hK => ?_) AllReadyH.nil
        go_simp
        (with_reducible refine (QX.out _ (And.left hHeld)).mono ?_; rintro e w7 ⟨Ay, cy, rfl, hrdy, hb⟩)
        refine hK.out _ _ (HS.out _ _ hHeld hb) (fun hHeld => ?_)
        clear hK K
        (try simp only [Act.put, List.getElem_toArray, List.getElem_cons_succ, List.getElem_cons_zero, List.setIfInBounds_toArray, List.set_cons_zero, List.set_cons_succ])
        refine wpAnyH_ready (rs := [25]) (by kernel_rfl) (by simp) ?_
        refine AllReadyH.cons rfl (fun K hK => ?_) AllReadyH.nil
        go_simp
        (with_reducible refine (Q21x.out _ _ _ (And.left hHeld) hrdy).mono ?_; rintro e w8 ⟨rfl, hb⟩)
        refine hK.out _ _ (HS.out _ _ hHeld hb) (fun hHeld => ?_)
        clear hK K
        (try simp only [Act.put, List.getElem_toArray, List.getElem_cons_succ, List.getElem_cons_zero, List.setIfInBounds_toArray, List.set_cons_zero, List.set_cons_succ])
        (refine wpAnyH_take (i := 26) (v := ?_) rfl (by kernel_rfl) (by kernel_rfl) (by kernel_rfl) (fun _ _ _ h => h) (Or.inl ⟨by rfl, ?_⟩) (by assumption) ?_; rotate_left; (focus (intro w hSw; (try dsimp only at hSw); go_simp; first | done | with_reducible rfl)); (try simp only [Act.put, List.getElem_toArray, List.getElem_cons_succ, List.getElem_cons_zero, List.setIfInBounds_toArray, List.set_cons_zero, List.set_cons_succ]))
        (refine wpAnyH_take (i := 27) (v := ?_) rfl (by kernel_rfl) (by kernel_rfl) (by kernel_rfl) (fun _ _ _ h => h) (Or.inl ⟨by rfl, ?_⟩) (by assumption) ?_; rotate_left; (focus (intro w hSw; (try dsimp only at hSw); go_simp; first | done | with_reducible rfl)); (try simp only [Act.put, List.getElem_toArray, List.getElem_cons_succ, List.getElem_cons_zero, List.setIfInBounds_toArray, List.set_cons_zero, List.set_cons_succ]))
        refine wpAnyH_done (by kernel_rfl) ?_ _
        have hbd := And.left hHeld
        go_wp2_with fail
        go_meet
        case rel => exact ⟨rfl, hbd⟩
    case rest =>
      rename_i K hK
      refine hK _ _ ?_
      clear hK K
      obtain ⟨w5, hw5⟩ : ∃ w, w = wc := ⟨_, rfl⟩
      subst hw5
      obtain ⟨rfl, hb⟩ := hcut
      clear qR7_0 qR7_1 lR7 qR8_0 qR8_1 lR8 qR1_0 qR1_1 lR1 HS Q21 Q18 Q21x QX
      replace O7 := hide ((O7.out.below hb).more hb.size)
      replace O8 := hide ((O8.out.below hb).more hb.size)
      replace R1 := hide (R1.out.below hb)
      replace R7 := hide (R7.out.below hb)
      replace R8 := hide (R8.out.below hb)
      replace HB := hide (HB.out.trans (hb.mono HB.out.size))
      clear hb
      clear R8 O8
      have HOL := hide (fun w (h : Rd w w.heap.size 1 A7 m1 (Cs encW S)) => Oldest_any A7 k7 m1 e1 S w h HL1.out e1p HU1.out (by omega))
      have HBA := hide (fun w (h : Rd w w.heap.size 1 A7 m1 (Cs encW S)) => Back_any A7 k7 m1 e1 S w h HL1.out e1p HU1.out (by omega))
      have HSF := hide (fun w (h : Rd w w.heap.size 1 A7 m1 (Cs encW S)) x q hq => safe_any A7 k7 m1 e1 x S w h HL1.out HE1.out (by omega) q hq)
      have HRSF := hide (fun w x (hx : 0 ≤ x) q hq => rsafe_any (.slice A7 m1 k7) e1 x w HE1.out hx q hq)
      cases r
      · skip
        have HOL2 := hide (fun w h => HOL.out w h 0 false (by rw [HR.out]; rfl) (by rw [HR.out]; rfl))
        have HBA2 := hide (fun w h => HBA.out w h [] (by rw [HR.out]; rfl) 0 rfl)
        clear HOL HBA
        have qR7_0 := row20 R7.out
        have qR7_1 := row21 R7.out
        have lR7 := R7.out.lt
        go_wp2_with fail
        clear qR7_0 qR7_1 lR7
        with_reducible refine (HOL2.out _ O7.out).mono ?_
        rintro e w303 ⟨rfl, hb⟩
        replace O7 := hide ((O7.out.below hb).more hb.size)
        replace R1 := hide (R1.out.below hb)
        replace R7 := hide (R7.out.below hb)
        replace HB := hide (HB.out.trans (hb.mono HB.out.size))
        clear hb HOL2
        have qR7_0 := row20 R7.out
        have qR7_1 := row21 R7.out
        have lR7 := R7.out.lt
        go_wp2_with fail
        clear qR7_0 qR7_1 lR7
        with_reducible refine (HBA2.out _ O7.out).mono ?_
        rintro e w304 ⟨A12, c12, rfl, hc12, hcm12, hrd, hb⟩
        replace O7 := hide ((O7.out.below hb).more hb.size)
        replace R1 := hide (R1.out.below hb)
        replace R7 := hide (R7.out.below hb)
        replace HB := hide (HB.out.trans (hb.mono HB.out.size))
        have O12 := hide (hrd)
        clear hb hrd HBA2
        have qR7_0 := row20 R7.out
        have qR7_1 := row21 R7.out
        have lR7 := R7.out.lt
        go_wp2_with fail
        clear qR7_0 qR7_1 lR7
        with_reducible refine (EqualIK (n1 := 0) (n2 := 0) A12 none c12 0 [] [] _ O12.out Rd.none_ rfl rfl (by omega) (by omega) true (by simp)).mono ?_
        rintro e w305 ⟨rfl, hb⟩
        replace O7 := hide ((O7.out.below hb).more hb.size)
        replace O12 := hide ((O12.out.below hb).more hb.size)
        replace R1 := hide (R1.out.below hb)
        replace R7 := hide (R7.out.below hb)
        replace HB := hide (HB.out.trans (hb.mono HB.out.size))
        clear hb
        clear O12
        go_wp2_with fail
        go_loopw [90] (fun i wr => ∃ (j : Nat), j ≤ n3 ∧ j ≤ 8 ∧ i = .int .i64 j ∧ Below w305.heap.size w305 wr) (fun i _ => n3 - (intOf i).toNat)
        case atStart => exact ⟨0, by omega, by omega, rfl, Below.refl _ _⟩
        case round =>
          obtain ⟨j, hj, hj8, rfl, hbr⟩ := hrel
          replace O7 := hide ((O7.out.below hbr).more hbr.size)
          replace R1 := hide (R1.out.below hbr)
          replace R7 := hide (R7.out.below hbr)
          replace HB := hide (HB.out.trans (hbr.mono HB.out.size))
          have HBr := hide hbr
          clear hbr
          have HBQ := hide (Below.refl wr.heap.size wr)
          by_cases hlt : j < n3
          · skip
            have h3 := H3.out.below HB.out
            obtain ⟨b1, o1, hA3, hb1, hd10⟩ := h3.elemN HX3.out hlt (List.getElem?_eq_getElem (by rw [HX3.out]; exact hlt))
            subst hA3
            have hbl1 : b1 < wr.heap.size := by have := HB.out.size; omega
            have HUX := hide (HU3.out _ (List.getElem_mem (show j < zs.length by rw [HX3.out]; exact hlt)))
            have hjz : j < zs.length := by rw [HX3.out]; exact hlt
            clear h3
            generalize zs[j] = z at *
            clear hjz
            by_cases h8 : j = 8
            · skip
              have h8I : ((j : Int) == 8) = true := by simp; omega
              clear h8
              have QX : Hid (∀ w, Below wr.heap.size wr w → Calls Try.prog 9 #[.agg #[.int .u64 e1, .slice A1 n1 c1]] w fun e' W' => ∃ A' c', e' = .returned (.agg #[.int .u64 e1, .slice A' m1 c']) ∧ Rd W' W'.heap.size 1 A' m1 (Cs encW S) ∧ Below w.heap.size w W') := hide (fun w hw => (HOWN1.out w (HB.out.trans (hw.mono HB.out.size))).mono fun e' W' ⟨A', c', e1, _, _, e3, _, e5⟩ => ⟨A', c', e1, e3, e5⟩)
              have Q18x : Hid (∀ w A' c', Below wr.heap.size wr w → Rd w w.heap.size 1 A' m1 (Cs encW S) → Calls Try.prog 14 #[.agg #[.int .u64 e1, .slice A7 m1 k7], .agg #[.int .u64 e1, .slice A' m1 c']] w fun e W' => e = .returned (.bool true) ∧ Below w.heap.size w W') := hide (fun w A' c' hw hr => rsame_any A7 A' k7 c' m1 m1 e1 e1 S S w ((O7.out.below hw).more hw.size) hr HL1.out HL1.out (by omega) (by omega) true (by simp))
              have qR7_0 := row20 R7.out
              have qR7_1 := row21 R7.out
              have lR7 := R7.out.lt
              have qR1_0 := row20 R1.out
              have qR1_1 := row21 R1.out
              have lR1 := R1.out.lt
              have HS : Hid (∀ w w', (Below wr.heap.size wr w ∧ w.cell? ⟨g7, 0, none⟩ = some (.int .u64 e1) ∧ w.cell? ⟨g7, 1, none⟩ = some (.slice A7 m1 k7) ∧ w.cell? ⟨g1, 0, none⟩ = some (.int .u64 e1) ∧ w.cell? ⟨g1, 1, none⟩ = some (.slice A1 n1 c1)) → Below w.heap.size w w' → (Below wr.heap.size wr w' ∧ w'.cell? ⟨g7, 0, none⟩ = some (.int .u64 e1) ∧ w'.cell? ⟨g7, 1, none⟩ = some (.slice A7 m1 k7) ∧ w'.cell? ⟨g1, 0, none⟩ = some (.int .u64 e1) ∧ w'.cell? ⟨g1, 1, none⟩ = some (.slice A1 n1 c1))) := hide (fun w w' h hb => ⟨h.1.trans (hb.mono h.1.size), kept hb h.2.1, kept hb h.2.2.1, kept hb h.2.2.2.1, kept hb h.2.2.2.2⟩)
              go_wp2_with fail
              have hbd0 : Below wr.heap.size wr wr.drew := (Below.refl _ _).drew
              go_region_held3 (fun wX => Below wr.heap.size wr wX ∧ wX.cell? ⟨g7, 0, none⟩ = some (.int .u64 e1) ∧ wX.cell? ⟨g7, 1, none⟩ = some (.slice A7 m1 k7) ∧ wX.cell? ⟨g1, 0, none⟩ = some (.int .u64 e1) ∧ wX.cell? ⟨g1, 1, none⟩ = some (.slice A1 n1 c1))
                (first | exact HS.out _ _ ‹_› hb | exact ⟨hbd0, qR7_0, qR7_1, qR1_0, qR1_1⟩ | go_keep)
                (first
                  | (go_at_call 9; with_reducible refine (QX.out _ (And.left ‹Below wr.heap.size wr _ ∧ _›)).mono ?_; rintro e wq ⟨Ay, cy, rfl, hrdy, hb⟩)
                  | (go_at_call 14; with_reducible refine (Q18x.out _ _ _ (And.left ‹Below wr.heap.size wr _ ∧ _›) hrdy).mono ?_; rintro e wq ⟨rfl, hb⟩))
              have hbd := And.left ‹Below wr.heap.size wr _ ∧ _›
              clear qR7_0 qR7_1 lR7 qR1_0 qR1_1 lR1 HS
              go_wp2_with fail
              go_ret
              exact ⟨rfl, HB.out.trans (hbd.mono HB.out.size)⟩
            · skip
              have h8I : ((j : Int) == 8) = false := by simp; omega
              have z0 : 0 ≤ z := HUX.out.1
              obtain ⟨q, hq⟩ : ∃ q, (pOk e1 S && decide (z ≤ e1 - 2 ∧ 2 ≤ e1)) = q := ⟨_, rfl⟩
              have HSFz := hide (fun w h => HSF.out w h z q hq)
              have hqf : q = false := by rw [← hq, HR.out]; rfl
              clear hq
              subst hqf
              have qR7_0 := row20 R7.out
              have qR7_1 := row21 R7.out
              have lR7 := R7.out.lt
              go_wp2_with fail
              clear qR7_0 qR7_1 lR7
              with_reducible refine (HSFz.out _ O7.out).mono ?_
              rintro e w501 ⟨rfl, hb⟩
              replace O7 := hide ((O7.out.below hb).more hb.size)
              replace R1 := hide (R1.out.below hb)
              replace R7 := hide (R7.out.below hb)
              replace HB := hide (HB.out.trans (hb.mono HB.out.size))
              replace HBQ := hide (HBQ.out.trans (hb.mono HBQ.out.size))
              clear hb HSFz hd10 hbl1
              obtain ⟨gm, hgm⟩ : ∃ k : Int, z % 12 = k := ⟨_, rfl⟩
              have hg0 : 0 ≤ gm := by omega
              have hg12 : gm < 12 := by omega
              have HZU := hide (show z < 18446744073709551616 from by have := HUX.out; unfold U64 at this; omega)
              by_cases hmay : 1 ≤ gm - 1 ∧ gm - 1 ≤ 8
              · skip
                obtain ⟨n, hn⟩ : ∃ n : Nat, gm - 1 = n := ⟨(gm - 1).toNat, by omega⟩
                have hn1' : 1 ≤ n := by omega
                have hn8 : n ≤ 8 := by omega
                have hgn : gm = (n : Int) + 1 := by omega
                subst hgn
                clear hn
                have hv8n : decide ((n : Int) ≤ 8) = true := by simp; omega
                obtain ⟨i0, hi0, hz0, hz1, hz2⟩ := info_parts elW.info
                have hmk := fun w => run_make_rowN (P := Try.prog) 23 22 i0 _ Try.underlying23 hi0 hz0 .i64 .i64 n n (Nat.le_refl _) (by rw [hz2]; omega) (by omega) w
                rw [hz1, Nat.mul_one] at hmk
                have HMK := hide hmk
                clear hi0 hz0 hz1 hz2 hmk
                have hzu := HZU.out
                go_wp2_with fail
                clear hzu hgm
                with_reducible refine (new_yes n _ hn1' hn8).mono ?_
                rintro e w502 ⟨A19, c19, rfl, hc19, hcm19, hrd, hb⟩
                replace O7 := hide ((O7.out.below hb).more hb.size)
                replace R1 := hide (R1.out.below hb)
                replace R7 := hide (R7.out.below hb)
                replace HB := hide (HB.out.trans (hb.mono HB.out.size))
                replace HBQ := hide (HBQ.out.trans (hb.mono HBQ.out.size))
                have O19 := hide (hrd)
                clear hb hrd
                go_wp2_with fail
                obtain ⟨g19, hg19⟩ : ∃ g, w502.heap.size = g := ⟨_, rfl⟩
                have hWg19 : W.heap.size ≤ g19 := by rw [← hg19]; exact HB.out.size
                have hbx : Below w502.heap.size w502 (w502.alloc (.cells #[.int .u64 0, .slice A19 n c19] 25)) := (Below.refl _ _).alloc (Nat.le_refl _) _
                have hrx := RowAt.new w502 25 #[.int .u64 0, .slice A19 n c19]
                rw [hg19] at hrx
                replace O7 := hide ((O7.out.below hbx).more hbx.size)
                replace O19 := hide ((O19.out.below hbx).more hbx.size)
                replace R1 := hide (R1.out.below hbx)
                replace R7 := hide (R7.out.below hbx)
                replace HB := hide (HB.out.trans (hbx.mono HB.out.size))
                replace HBQ := hide (HBQ.out.trans (hbx.mono HBQ.out.size))
                have hs503 : (w502.alloc (.cells #[.int .u64 0, .slice A19 n c19] 25)).heap.size = g19 + 1 := by rw [World.size_alloc, hg19]
                have R19 := hide hrx
                clear hbx hrx
                generalize w502.alloc (.cells #[.int .u64 0, .slice A19 n c19] 25) = w504 at *
                (try rw [hg19])
                clear hg19 hs503
                have qR19_0 := row20 R19.out
                have qR19_1 := row21 R19.out
                have lR19 := R19.out.lt
                have HS : Hid (∀ w w', (Below w504.heap.size w504 w ∧ w.cell? ⟨g19, 0, none⟩ = some (.int .u64 0) ∧ w.cell? ⟨g19, 1, none⟩ = some (.slice A19 n c19)) → Below w.heap.size w w' → (Below w504.heap.size w504 w' ∧ w'.cell? ⟨g19, 0, none⟩ = some (.int .u64 0) ∧ w'.cell? ⟨g19, 1, none⟩ = some (.slice A19 n c19))) := hide (fun w w' h hb => ⟨h.1.trans (hb.mono h.1.size), kept hb h.2.1, kept hb h.2.2⟩)
                have hbm : Below w504.heap.size w504 (w504.drew.alloc (.cells (madeCells #[.int .u64 0] n) 22)) := (Below.refl _ _).drew.alloc (Nat.le_refl _) _
                have hrm : Rd (w504.drew.alloc (.cells (madeCells #[.int .u64 0] n) 22)) (w504.drew.alloc (.cells (madeCells #[.int .u64 0] n) 22)).heap.size 1 (some ⟨w504.heap.size, 0, none⟩) n (Cs encW (List.replicate n 0)) := by
                  have hM := Cs_rep n
                  have hM2 : (madeCells #[.int .u64 0] n).toList = Cs encW (List.replicate n 0) := by simpa [Value.cells] using hM
                  have h := Rd.new w504.drew (madeCells #[.int .u64 0] n) 22 1 n (by simp [madeCells])
                  rw [hM2] at h
                  exact h.more (by rw [World.size_alloc]; exact Nat.le_refl _)
                have QSM : Hid (Calls Try.prog 14 #[.agg #[.int .u64 0, .slice A19 n c19], .agg #[.int .u64 0, .slice (some ⟨w504.heap.size, 0, none⟩) n n]] (w504.drew.alloc (.cells (madeCells #[.int .u64 0] n) 22)) fun e W' => e = .returned (.bool true) ∧ Below (w504.drew.alloc (.cells (madeCells #[.int .u64 0] n) 22)).heap.size (w504.drew.alloc (.cells (madeCells #[.int .u64 0] n) 22)) W') := hide (rsame_any A19 (some ⟨w504.heap.size, 0, none⟩) c19 n n n 0 0 _ _ _ ((O19.out.below hbm).more hbm.size) hrm (by simp) (by simp) (by omega) (by omega) true (by simp))
                have HBM := hide hbm
                have hmk := HMK.out
                clear hbm hrm
                go_wp2_with fail
                have hbd0 : Below w504.heap.size w504 w504.drew := (Below.refl _ _).drew
                refine wp_region_held_drew (S := fun wX => Below w504.heap.size w504 wX ∧ wX.cell? ⟨g19, 0, none⟩ = some (.int .u64 0) ∧ wX.cell? ⟨g19, 1, none⟩ = some (.slice A19 n c19)) (by kernel_rfl) (⟨hbd0, qR19_0, qR19_1⟩) (fun hHeld => ?_)
                (refine wpAnyH_take (i := 0) (v := ?_) rfl (by kernel_rfl) (by kernel_rfl) (by kernel_rfl) (fun _ _ _ h => h) (Or.inl ⟨by rfl, ?_⟩) (by assumption) ?_; rotate_left; (focus (intro w hSw; (try dsimp only at hSw); go_simp; first | done | with_reducible rfl)); (try simp only [Act.put, List.getElem_toArray, List.getElem_cons_succ, List.getElem_cons_zero, List.setIfInBounds_toArray, List.set_cons_zero, List.set_cons_succ]))
                (refine wpAnyH_take (i := 1) (v := ?_) rfl (by kernel_rfl) (by kernel_rfl) (by kernel_rfl) (fun _ _ _ h => h) (Or.inl ⟨by rfl, ?_⟩) (by assumption) ?_; rotate_left; (focus (intro w hSw; (try dsimp only at hSw); go_simp; first | done | with_reducible rfl)); (try simp only [Act.put, List.getElem_toArray, List.getElem_cons_succ, List.getElem_cons_zero, List.setIfInBounds_toArray, List.set_cons_zero, List.set_cons_succ]))
                (refine wpAnyH_take (i := 2) (v := ?_) rfl (by kernel_rfl) (by kernel_rfl) (by kernel_rfl) (fun _ _ _ h => h) (Or.inl ⟨by rfl, ?_⟩) (by assumption) ?_; rotate_left; (focus (intro w hSw; (try dsimp only at hSw); go_simp; first | done | with_reducible rfl)); (try simp only [Act.put, List.getElem_toArray, List.getElem_cons_succ, List.getElem_cons_zero, List.setIfInBounds_toArray, List.set_cons_zero, List.set_cons_succ]))
                (refine wpAnyH_take (i := 3) (v := ?_) rfl (by kernel_rfl) (by kernel_rfl) (by kernel_rfl) (fun _ _ _ h => h) (Or.inl ⟨by rfl, ?_⟩) (by assumption) ?_; rotate_left; (focus (intro w hSw; (try dsimp only at hSw); go_simp; first | done | with_reducible rfl)); (try simp only [Act.put, List.getElem_toArray, List.getElem_cons_succ, List.getElem_cons_zero, List.setIfInBounds_toArray, List.set_cons_zero, List.set_cons_succ]))
                (refine wpAnyH_take (i := 4) (v := ?_) rfl (by kernel_rfl) (by kernel_rfl) (by kernel_rfl) (fun _ _ _ h => h) (Or.inl ⟨by rfl, ?_⟩) (by assumption) ?_; rotate_left; (focus (intro w hSw; (try dsimp only at hSw); go_simp; first | done | with_reducible rfl)); (try simp only [Act.put, List.getElem_toArray, List.getElem_cons_succ, List.getElem_cons_zero, List.setIfInBounds_toArray, List.set_cons_zero, List.set_cons_succ]))
                (refine wpAnyH_take (i := 5) (v := ?_) rfl (by kernel_rfl) (by kernel_rfl) (by kernel_rfl) (fun _ _ _ h => h) (Or.inl ⟨by rfl, ?_⟩) (by assumption) ?_; rotate_left; (focus (intro w hSw; (try dsimp only at hSw); go_simp; first | done | with_reducible rfl)); (try simp only [Act.put, List.getElem_toArray, List.getElem_cons_succ, List.getElem_cons_zero, List.setIfInBounds_toArray, List.set_cons_zero, List.set_cons_succ]))
                (refine wpAnyH_take (i := 6) (v := ?_) rfl (by kernel_rfl) (by kernel_rfl) (by kernel_rfl) (fun _ _ _ h => h) (Or.inl ⟨by rfl, ?_⟩) (by assumption) ?_; rotate_left; (focus (intro w hSw; (try dsimp only at hSw); go_simp; first | done | with_reducible rfl)); (try simp only [Act.put, List.getElem_toArray, List.getElem_cons_succ, List.getElem_cons_zero, List.setIfInBounds_toArray, List.set_cons_zero, List.set_cons_succ]))
                (refine wpAnyH_take (i := 7) (v := ?_) rfl (by kernel_rfl) (by kernel_rfl) (by kernel_rfl) (fun _ _ _ h => h) (Or.inl ⟨by rfl, ?_⟩) (by assumption) ?_; rotate_left; (focus (intro w hSw; (try dsimp only at hSw); go_simp; first | done | with_reducible rfl)); (try simp only [Act.put, List.getElem_toArray, List.getElem_cons_succ, List.getElem_cons_zero, List.setIfInBounds_toArray, List.set_cons_zero, List.set_cons_succ]))
                (refine wpAnyH_take (i := 8) (v := undef) rfl (by kernel_rfl) (by kernel_rfl) (by kernel_rfl) (fun _ _ _ h => h) (Or.inr ⟨by rfl, rfl⟩) (by assumption) ?_; (try simp only [Act.put, List.getElem_toArray, List.getElem_cons_succ, List.getElem_cons_zero, List.setIfInBounds_toArray, List.set_cons_zero, List.set_cons_succ]))
                (refine wpAnyH_take (i := 9) (v := undef) rfl (by kernel_rfl) (by kernel_rfl) (by kernel_rfl) (fun _ _ _ h => h) (Or.inr ⟨by rfl, rfl⟩) (by assumption) ?_; (try simp only [Act.put, List.getElem_toArray, List.getElem_cons_succ, List.getElem_cons_zero, List.setIfInBounds_toArray, List.set_cons_zero, List.set_cons_succ]))
                (refine wpAnyH_take (i := 10) (v := undef) rfl (by kernel_rfl) (by kernel_rfl) (by kernel_rfl) (fun _ _ _ h => h) (Or.inr ⟨by rfl, rfl⟩) (by assumption) ?_; (try simp only [Act.put, List.getElem_toArray, List.getElem_cons_succ, List.getElem_cons_zero, List.setIfInBounds_toArray, List.set_cons_zero, List.set_cons_succ]))
                (refine wpAnyH_take (i := 11) (v := undef) rfl (by kernel_rfl) (by kernel_rfl) (by kernel_rfl) (fun _ _ _ h => h) (Or.inr ⟨by rfl, rfl⟩) (by assumption) ?_; (try simp only [Act.put, List.getElem_toArray, List.getElem_cons_succ, List.getElem_cons_zero, List.setIfInBounds_toArray, List.set_cons_zero, List.set_cons_succ]))
                (refine wpAnyH_take (i := 12) (v := undef) rfl (by kernel_rfl) (by kernel_rfl) (by kernel_rfl) (fun _ _ _ h => h) (Or.inr ⟨by rfl, rfl⟩) (by assumption) ?_; (try simp only [Act.put, List.getElem_toArray, List.getElem_cons_succ, List.getElem_cons_zero, List.setIfInBounds_toArray, List.set_cons_zero, List.set_cons_succ]))
                (refine wpAnyH_take (i := 13) (v := undef) rfl (by kernel_rfl) (by kernel_rfl) (by kernel_rfl) (fun _ _ _ h => h) (Or.inr ⟨by rfl, rfl⟩) (by assumption) ?_; (try simp only [Act.put, List.getElem_toArray, List.getElem_cons_succ, List.getElem_cons_zero, List.setIfInBounds_toArray, List.set_cons_zero, List.set_cons_succ]))
                (refine wpAnyH_take (i := 14) (v := undef) rfl (by kernel_rfl) (by kernel_rfl) (by kernel_rfl) (fun _ _ _ h => h) (Or.inr ⟨by rfl, rfl⟩) (by assumption) ?_; (try simp only [Act.put, List.getElem_toArray, List.getElem_cons_succ, List.getElem_cons_zero, List.setIfInBounds_toArray, List.set_cons_zero, List.set_cons_succ]))
                (refine wpAnyH_take (i := 15) (v := undef) rfl (by kernel_rfl) (by kernel_rfl) (by kernel_rfl) (fun _ _ _ h => h) (Or.inr ⟨by rfl, rfl⟩) (by assumption) ?_; (try simp only [Act.put, List.getElem_toArray, List.getElem_cons_succ, List.getElem_cons_zero, List.setIfInBounds_toArray, List.set_cons_zero, List.set_cons_succ]))
                (refine wpAnyH_take (i := 16) (v := ?_) rfl (by kernel_rfl) (by kernel_rfl) (by kernel_rfl) (fun _ _ _ h => h) (Or.inl ⟨by rfl, ?_⟩) (by assumption) ?_; rotate_left; (focus (intro w hSw; (try dsimp only at hSw); go_simp; first | done | with_reducible rfl)); (try simp only [Act.put, List.getElem_toArray, List.getElem_cons_succ, List.getElem_cons_zero, List.setIfInBounds_toArray, List.set_cons_zero, List.set_cons_succ]))
                (refine wpAnyH_take (i := 17) (v := ?_) rfl (by kernel_rfl) (by kernel_rfl) (by kernel_rfl) (fun _ _ _ h => h) (Or.inl ⟨by rfl, ?_⟩) (by assumption) ?_; rotate_left; (focus (intro w hSw; (try dsimp only at hSw); go_simp; first | done | with_reducible rfl)); (try simp only [Act.put, List.getElem_toArray, List.getElem_cons_succ, List.getElem_cons_zero, List.setIfInBounds_toArray, List.set_cons_zero, List.set_cons_succ]))
                (refine wpAnyH_take (i := 18) (v := ?_) rfl (by kernel_rfl) (by kernel_rfl) (by kernel_rfl) (fun _ _ _ h => h) (Or.inl ⟨by rfl, ?_⟩) (by assumption) ?_; rotate_left; (focus (intro w hSw; (try dsimp only at hSw); go_simp; first | done | with_reducible rfl)); (try simp only [Act.put, List.getElem_toArray, List.getElem_cons_succ, List.getElem_cons_zero, List.setIfInBounds_toArray, List.set_cons_zero, List.set_cons_succ]))
                (refine wpAnyH_take (i := 19) (v := ?_) rfl (by kernel_rfl) (by kernel_rfl) (by kernel_rfl) (fun _ _ _ h => h) (Or.inl ⟨by rfl, ?_⟩) (by assumption) ?_; rotate_left; (focus (intro w hSw; (try dsimp only at hSw); go_simp; first | done | with_reducible rfl)); (try simp only [Act.put, List.getElem_toArray, List.getElem_cons_succ, List.getElem_cons_zero, List.setIfInBounds_toArray, List.set_cons_zero, List.set_cons_succ]))
                (refine wpAnyH_take (i := 20) (v := ?_) rfl (by kernel_rfl) (by kernel_rfl) (by kernel_rfl) (fun _ _ _ h => h) (Or.inl ⟨by rfl, ?_⟩) (by assumption) ?_; rotate_left; (focus (intro w hSw; (try dsimp only at hSw); go_simp; first | done | with_reducible rfl)); (try simp only [Act.put, List.getElem_toArray, List.getElem_cons_succ, List.getElem_cons_zero, List.setIfInBounds_toArray, List.set_cons_zero, List.set_cons_succ]))
                (refine wpAnyH_take (i := 21) (v := ?_) rfl (by kernel_rfl) (by kernel_rfl) (by kernel_rfl) (fun _ _ _ h => h) (Or.inl ⟨by rfl, ?_⟩) (by assumption) ?_; rotate_left; (focus (intro w hSw; (try dsimp only at hSw); go_simp; first | done | with_reducible rfl)); (try simp only [Act.put, List.getElem_toArray, List.getElem_cons_succ, List.getElem_cons_zero, List.setIfInBounds_toArray, List.set_cons_zero, List.set_cons_succ]))
                (refine wpAnyH_take (i := 22) (v := ?_) rfl (by kernel_rfl) (by kernel_rfl) (by kernel_rfl) (fun _ _ _ h => h) (Or.inl ⟨by rfl, ?_⟩) (by assumption) ?_; rotate_left; (focus (intro w hSw; (try dsimp only at hSw); go_simp; first | done | with_reducible rfl)); (try simp only [Act.put, List.getElem_toArray, List.getElem_cons_succ, List.getElem_cons_zero, List.setIfInBounds_toArray, List.set_cons_zero, List.set_cons_succ]))
                refine wpAnyH_ready (rs := [23]) (by kernel_rfl) (by simp) ?_
                refine AllReadyH.cons rfl (fun K hK => ?_) AllReadyH.nil
                go_simp
                skip
                refine hK.out _ _ (⟨HBM.out, kept HBM.out qR19_0, kept HBM.out qR19_1⟩) (fun hHeld => ?_)
                clear hK K
                (try simp only [Act.put, List.getElem_toArray, List.getElem_cons_succ, List.getElem_cons_zero, List.setIfInBounds_toArray, List.set_cons_zero, List.set_cons_succ])
                (refine wpAnyH_take (i := 24) (v := ?_) rfl (by kernel_rfl) (by kernel_rfl) (by kernel_rfl) (fun _ _ _ h => h) (Or.inl ⟨by rfl, ?_⟩) (by assumption) ?_; rotate_left; (focus (intro w hSw; (try dsimp only at hSw); go_simp; first | done | with_reducible rfl)); (try simp only [Act.put, List.getElem_toArray, List.getElem_cons_succ, List.getElem_cons_zero, List.setIfInBounds_toArray, List.set_cons_zero, List.set_cons_succ]))
                refine wpAnyH_ready (rs := [25]) (by kernel_rfl) (by simp) ?_
                refine AllReadyH.cons rfl (fun K hK => ?_) AllReadyH.nil
                go_simp
                (refine QSM.out.mono ?_; rintro e wp ⟨rfl, hb⟩)
                refine hK.out _ _ (HS.out _ _ hHeld hb) (fun hHeld => ?_)
                clear hK K
                (try simp only [Act.put, List.getElem_toArray, List.getElem_cons_succ, List.getElem_cons_zero, List.setIfInBounds_toArray, List.set_cons_zero, List.set_cons_succ])
                (refine wpAnyH_take (i := 26) (v := ?_) rfl (by kernel_rfl) (by kernel_rfl) (by kernel_rfl) (fun _ _ _ h => h) (Or.inl ⟨by rfl, ?_⟩) (by assumption) ?_; rotate_left; (focus (intro w hSw; (try dsimp only at hSw); go_simp; first | done | with_reducible rfl)); (try simp only [Act.put, List.getElem_toArray, List.getElem_cons_succ, List.getElem_cons_zero, List.setIfInBounds_toArray, List.set_cons_zero, List.set_cons_succ]))
                (refine wpAnyH_take (i := 27) (v := ?_) rfl (by kernel_rfl) (by kernel_rfl) (by kernel_rfl) (fun _ _ _ h => h) (Or.inl ⟨by rfl, ?_⟩) (by assumption) ?_; rotate_left; (focus (intro w hSw; (try dsimp only at hSw); go_simp; first | done | with_reducible rfl)); (try simp only [Act.put, List.getElem_toArray, List.getElem_cons_succ, List.getElem_cons_zero, List.setIfInBounds_toArray, List.set_cons_zero, List.set_cons_succ]))
                (refine wpAnyH_take (i := 28) (v := ?_) rfl (by kernel_rfl) (by kernel_rfl) (by kernel_rfl) (fun _ _ _ h => h) (Or.inl ⟨by rfl, ?_⟩) (by assumption) ?_; rotate_left; (focus (intro w hSw; (try dsimp only at hSw); go_simp; first | done | with_reducible rfl)); (try simp only [Act.put, List.getElem_toArray, List.getElem_cons_succ, List.getElem_cons_zero, List.setIfInBounds_toArray, List.set_cons_zero, List.set_cons_succ]))
                refine wpAnyH_done (by kernel_rfl) ?_ _
                have hbd := And.left hHeld
                clear qR19_0 qR19_1 lR19 HS
                replace O7 := hide ((O7.out.below hbd).more hbd.size)
                replace O19 := hide ((O19.out.below hbd).more hbd.size)
                replace R1 := hide (R1.out.below hbd)
                replace R7 := hide (R7.out.below hbd)
                replace R19 := hide (R19.out.below hbd)
                replace HB := hide (HB.out.trans (hbd.mono HB.out.size))
                replace HBQ := hide (HBQ.out.trans (hbd.mono HBQ.out.size))
                go_wp2_with fail
                go_roundw
                case rel => exact ⟨j + 1, by omega, by omega, by go_num, (HBr.out.trans ((HBQ.out).mono HBr.out.size))⟩
                case measure => simp [intOf]; omega
              · skip
                obtain ⟨v, hv⟩ : ∃ v : Int, gm = v + 1 := ⟨gm - 1, by omega⟩
                have hmay' : ¬ (1 ≤ v ∧ v ≤ 8) := by omega
                subst hv
                have hvl : -1 ≤ v := by omega
                have hvh : v ≤ 10 := by omega
                clear hmay
                have hzu := HZU.out
                go_wp2_with fail
                clear hzu hgm
                with_reducible refine (new_no v _ hmay').mono ?_
                rintro e w502 ⟨rfl, hb⟩
                replace O7 := hide ((O7.out.below hb).more hb.size)
                replace R1 := hide (R1.out.below hb)
                replace R7 := hide (R7.out.below hb)
                replace HB := hide (HB.out.trans (hb.mono HB.out.size))
                replace HBQ := hide (HBQ.out.trans (hb.mono HBQ.out.size))
                clear hb
                by_cases hv1 : 1 ≤ v
                · skip
                  have hv8 : ¬ v ≤ 8 := by omega
                  have hv8d : decide (v ≤ 8) = false := by simp; omega
                  go_wp2_with fail
                  obtain ⟨g19, hg19⟩ : ∃ g, w502.heap.size = g := ⟨_, rfl⟩
                  have hWg19 : W.heap.size ≤ g19 := by rw [← hg19]; exact HB.out.size
                  have hbx : Below w502.heap.size w502 (w502.alloc (.cells #[.int .u64 0, .slice none 0 0] 25)) := (Below.refl _ _).alloc (Nat.le_refl _) _
                  have hrx := RowAt.new w502 25 #[.int .u64 0, .slice none 0 0]
                  rw [hg19] at hrx
                  replace O7 := hide ((O7.out.below hbx).more hbx.size)
                  replace R1 := hide (R1.out.below hbx)
                  replace R7 := hide (R7.out.below hbx)
                  replace HB := hide (HB.out.trans (hbx.mono HB.out.size))
                  replace HBQ := hide (HBQ.out.trans (hbx.mono HBQ.out.size))
                  have hs503 : (w502.alloc (.cells #[.int .u64 0, .slice none 0 0] 25)).heap.size = g19 + 1 := by rw [World.size_alloc, hg19]
                  have R19 := hide hrx
                  clear hbx hrx
                  generalize w502.alloc (.cells #[.int .u64 0, .slice none 0 0] 25) = w504 at *
                  (try rw [hg19])
                  clear hg19 hs503
                  have qR19_0 := row20 R19.out
                  have qR19_1 := row21 R19.out
                  have lR19 := R19.out.lt
                  have HS : Hid (∀ w w', (Below w504.heap.size w504 w ∧ w.cell? ⟨g19, 0, none⟩ = some (.int .u64 0) ∧ w.cell? ⟨g19, 1, none⟩ = some (.slice none 0 0)) → Below w.heap.size w w' → (Below w504.heap.size w504 w' ∧ w'.cell? ⟨g19, 0, none⟩ = some (.int .u64 0) ∧ w'.cell? ⟨g19, 1, none⟩ = some (.slice none 0 0))) := hide (fun w w' h hb => ⟨h.1.trans (hb.mono h.1.size), kept hb h.2.1, kept hb h.2.2⟩)
                  go_wp2_with fail
                  have hbd0 : Below w504.heap.size w504 w504.drew := (Below.refl _ _).drew
                  refine wp_region_held_drew (S := fun wX => Below w504.heap.size w504 wX ∧ wX.cell? ⟨g19, 0, none⟩ = some (.int .u64 0) ∧ wX.cell? ⟨g19, 1, none⟩ = some (.slice none 0 0)) (by kernel_rfl) (⟨hbd0, qR19_0, qR19_1⟩) (fun hHeld => ?_)
                  (refine wpAnyH_take (i := 0) (v := ?_) rfl (by kernel_rfl) (by kernel_rfl) (by kernel_rfl) (fun _ _ _ h => h) (Or.inl ⟨by rfl, ?_⟩) (by assumption) ?_; rotate_left; (focus (intro w hSw; (try dsimp only at hSw); go_simp; first | done | with_reducible rfl)); (try simp only [Act.put, List.getElem_toArray, List.getElem_cons_succ, List.getElem_cons_zero, List.setIfInBounds_toArray, List.set_cons_zero, List.set_cons_succ]))
                  (refine wpAnyH_take (i := 1) (v := ?_) rfl (by kernel_rfl) (by kernel_rfl) (by kernel_rfl) (fun _ _ _ h => h) (Or.inl ⟨by rfl, ?_⟩) (by assumption) ?_; rotate_left; (focus (intro w hSw; (try dsimp only at hSw); go_simp; first | done | with_reducible rfl)); (try simp only [Act.put, List.getElem_toArray, List.getElem_cons_succ, List.getElem_cons_zero, List.setIfInBounds_toArray, List.set_cons_zero, List.set_cons_succ]))
                  (refine wpAnyH_take (i := 2) (v := ?_) rfl (by kernel_rfl) (by kernel_rfl) (by kernel_rfl) (fun _ _ _ h => h) (Or.inl ⟨by rfl, ?_⟩) (by assumption) ?_; rotate_left; (focus (intro w hSw; (try dsimp only at hSw); go_simp; first | done | with_reducible rfl)); (try simp only [Act.put, List.getElem_toArray, List.getElem_cons_succ, List.getElem_cons_zero, List.setIfInBounds_toArray, List.set_cons_zero, List.set_cons_succ]))
                  (refine wpAnyH_take (i := 3) (v := ?_) rfl (by kernel_rfl) (by kernel_rfl) (by kernel_rfl) (fun _ _ _ h => h) (Or.inl ⟨by rfl, ?_⟩) (by assumption) ?_; rotate_left; (focus (intro w hSw; (try dsimp only at hSw); go_simp; first | done | with_reducible rfl)); (try simp only [Act.put, List.getElem_toArray, List.getElem_cons_succ, List.getElem_cons_zero, List.setIfInBounds_toArray, List.set_cons_zero, List.set_cons_succ]))
                  (refine wpAnyH_take (i := 4) (v := ?_) rfl (by kernel_rfl) (by kernel_rfl) (by kernel_rfl) (fun _ _ _ h => h) (Or.inl ⟨by rfl, ?_⟩) (by assumption) ?_; rotate_left; (focus (intro w hSw; (try dsimp only at hSw); go_simp; first | done | with_reducible rfl)); (try simp only [Act.put, List.getElem_toArray, List.getElem_cons_succ, List.getElem_cons_zero, List.setIfInBounds_toArray, List.set_cons_zero, List.set_cons_succ]))
                  (refine wpAnyH_take (i := 5) (v := ?_) rfl (by kernel_rfl) (by kernel_rfl) (by kernel_rfl) (fun _ _ _ h => h) (Or.inl ⟨by rfl, ?_⟩) (by assumption) ?_; rotate_left; (focus (intro w hSw; (try dsimp only at hSw); go_simp; first | done | with_reducible rfl)); (try simp only [Act.put, List.getElem_toArray, List.getElem_cons_succ, List.getElem_cons_zero, List.setIfInBounds_toArray, List.set_cons_zero, List.set_cons_succ]))
                  (refine wpAnyH_take (i := 6) (v := ?_) rfl (by kernel_rfl) (by kernel_rfl) (by kernel_rfl) (fun _ _ _ h => h) (Or.inl ⟨by rfl, ?_⟩) (by assumption) ?_; rotate_left; (focus (intro w hSw; (try dsimp only at hSw); go_simp; first | done | with_reducible rfl)); (try simp only [Act.put, List.getElem_toArray, List.getElem_cons_succ, List.getElem_cons_zero, List.setIfInBounds_toArray, List.set_cons_zero, List.set_cons_succ]))
                  (refine wpAnyH_take (i := 7) (v := ?_) rfl (by kernel_rfl) (by kernel_rfl) (by kernel_rfl) (fun _ _ _ h => h) (Or.inl ⟨by rfl, ?_⟩) (by assumption) ?_; rotate_left; (focus (intro w hSw; (try dsimp only at hSw); go_simp; first | done | with_reducible rfl)); (try simp only [Act.put, List.getElem_toArray, List.getElem_cons_succ, List.getElem_cons_zero, List.setIfInBounds_toArray, List.set_cons_zero, List.set_cons_succ]))
                  (refine wpAnyH_take (i := 8) (v := ?_) rfl (by kernel_rfl) (by kernel_rfl) (by kernel_rfl) (fun _ _ _ h => h) (Or.inl ⟨by rfl, ?_⟩) (by assumption) ?_; rotate_left; (focus (intro w hSw; (try dsimp only at hSw); go_simp; first | done | with_reducible rfl)); (try simp only [Act.put, List.getElem_toArray, List.getElem_cons_succ, List.getElem_cons_zero, List.setIfInBounds_toArray, List.set_cons_zero, List.set_cons_succ]))
                  (refine wpAnyH_take (i := 9) (v := ?_) rfl (by kernel_rfl) (by kernel_rfl) (by kernel_rfl) (fun _ _ _ h => h) (Or.inl ⟨by rfl, ?_⟩) (by assumption) ?_; rotate_left; (focus (intro w hSw; (try dsimp only at hSw); go_simp; first | done | with_reducible rfl)); (try simp only [Act.put, List.getElem_toArray, List.getElem_cons_succ, List.getElem_cons_zero, List.setIfInBounds_toArray, List.set_cons_zero, List.set_cons_succ]))
                  (refine wpAnyH_take (i := 10) (v := ?_) rfl (by kernel_rfl) (by kernel_rfl) (by kernel_rfl) (fun _ _ _ h => h) (Or.inl ⟨by rfl, ?_⟩) (by assumption) ?_; rotate_left; (focus (intro w hSw; (try dsimp only at hSw); go_simp; first | done | with_reducible rfl)); (try simp only [Act.put, List.getElem_toArray, List.getElem_cons_succ, List.getElem_cons_zero, List.setIfInBounds_toArray, List.set_cons_zero, List.set_cons_succ]))
                  (refine wpAnyH_take (i := 11) (v := ?_) rfl (by kernel_rfl) (by kernel_rfl) (by kernel_rfl) (fun _ _ _ h => h) (Or.inl ⟨by rfl, ?_⟩) (by assumption) ?_; rotate_left; (focus (intro w hSw; (try dsimp only at hSw); go_simp; first | done | with_reducible rfl)); (try simp only [Act.put, List.getElem_toArray, List.getElem_cons_succ, List.getElem_cons_zero, List.setIfInBounds_toArray, List.set_cons_zero, List.set_cons_succ]))
                  (refine wpAnyH_take (i := 12) (v := ?_) rfl (by kernel_rfl) (by kernel_rfl) (by kernel_rfl) (fun _ _ _ h => h) (Or.inl ⟨by rfl, ?_⟩) (by assumption) ?_; rotate_left; (focus (intro w hSw; (try dsimp only at hSw); go_simp; first | done | with_reducible rfl)); (try simp only [Act.put, List.getElem_toArray, List.getElem_cons_succ, List.getElem_cons_zero, List.setIfInBounds_toArray, List.set_cons_zero, List.set_cons_succ]))
                  (refine wpAnyH_take (i := 13) (v := ?_) rfl (by kernel_rfl) (by kernel_rfl) (by kernel_rfl) (fun _ _ _ h => h) (Or.inl ⟨by rfl, ?_⟩) (by assumption) ?_; rotate_left; (focus (intro w hSw; (try dsimp only at hSw); go_simp; first | done | with_reducible rfl)); (try simp only [Act.put, List.getElem_toArray, List.getElem_cons_succ, List.getElem_cons_zero, List.setIfInBounds_toArray, List.set_cons_zero, List.set_cons_succ]))
                  (refine wpAnyH_take (i := 14) (v := ?_) rfl (by kernel_rfl) (by kernel_rfl) (by kernel_rfl) (fun _ _ _ h => h) (Or.inl ⟨by rfl, ?_⟩) (by assumption) ?_; rotate_left; (focus (intro w hSw; (try dsimp only at hSw); go_simp; first | done | with_reducible rfl)); (try simp only [Act.put, List.getElem_toArray, List.getElem_cons_succ, List.getElem_cons_zero, List.setIfInBounds_toArray, List.set_cons_zero, List.set_cons_succ]))
                  (refine wpAnyH_take (i := 15) (v := ?_) rfl (by kernel_rfl) (by kernel_rfl) (by kernel_rfl) (fun _ _ _ h => h) (Or.inl ⟨by rfl, ?_⟩) (by assumption) ?_; rotate_left; (focus (intro w hSw; (try dsimp only at hSw); go_simp; first | done | with_reducible rfl)); (try simp only [Act.put, List.getElem_toArray, List.getElem_cons_succ, List.getElem_cons_zero, List.setIfInBounds_toArray, List.set_cons_zero, List.set_cons_succ]))
                  (refine wpAnyH_take (i := 16) (v := ?_) rfl (by kernel_rfl) (by kernel_rfl) (by kernel_rfl) (fun _ _ _ h => h) (Or.inl ⟨by rfl, ?_⟩) (by assumption) ?_; rotate_left; (focus (intro w hSw; (try dsimp only at hSw); go_simp; first | done | with_reducible rfl)); (try simp only [Act.put, List.getElem_toArray, List.getElem_cons_succ, List.getElem_cons_zero, List.setIfInBounds_toArray, List.set_cons_zero, List.set_cons_succ]))
                  (refine wpAnyH_take (i := 17) (v := ?_) rfl (by kernel_rfl) (by kernel_rfl) (by kernel_rfl) (fun _ _ _ h => h) (Or.inl ⟨by rfl, ?_⟩) (by assumption) ?_; rotate_left; (focus (intro w hSw; (try dsimp only at hSw); go_simp; first | done | with_reducible rfl)); (try simp only [Act.put, List.getElem_toArray, List.getElem_cons_succ, List.getElem_cons_zero, List.setIfInBounds_toArray, List.set_cons_zero, List.set_cons_succ]))
                  (refine wpAnyH_take (i := 18) (v := ?_) rfl (by kernel_rfl) (by kernel_rfl) (by kernel_rfl) (fun _ _ _ h => h) (Or.inl ⟨by rfl, ?_⟩) (by assumption) ?_; rotate_left; (focus (intro w hSw; (try dsimp only at hSw); go_simp; first | done | with_reducible rfl)); (try simp only [Act.put, List.getElem_toArray, List.getElem_cons_succ, List.getElem_cons_zero, List.setIfInBounds_toArray, List.set_cons_zero, List.set_cons_succ]))
                  (refine wpAnyH_take (i := 19) (v := ?_) rfl (by kernel_rfl) (by kernel_rfl) (by kernel_rfl) (fun _ _ _ h => h) (Or.inl ⟨by rfl, ?_⟩) (by assumption) ?_; rotate_left; (focus (intro w hSw; (try dsimp only at hSw); go_simp; first | done | with_reducible rfl)); (try simp only [Act.put, List.getElem_toArray, List.getElem_cons_succ, List.getElem_cons_zero, List.setIfInBounds_toArray, List.set_cons_zero, List.set_cons_succ]))
                  (refine wpAnyH_take (i := 20) (v := ?_) rfl (by kernel_rfl) (by kernel_rfl) (by kernel_rfl) (fun _ _ _ h => h) (Or.inl ⟨by rfl, ?_⟩) (by assumption) ?_; rotate_left; (focus (intro w hSw; (try dsimp only at hSw); go_simp; first | done | with_reducible rfl)); (try simp only [Act.put, List.getElem_toArray, List.getElem_cons_succ, List.getElem_cons_zero, List.setIfInBounds_toArray, List.set_cons_zero, List.set_cons_succ]))
                  (refine wpAnyH_take (i := 21) (v := undef) rfl (by kernel_rfl) (by kernel_rfl) (by kernel_rfl) (fun _ _ _ h => h) (Or.inr ⟨by rfl, rfl⟩) (by assumption) ?_; (try simp only [Act.put, List.getElem_toArray, List.getElem_cons_succ, List.getElem_cons_zero, List.setIfInBounds_toArray, List.set_cons_zero, List.set_cons_succ]))
                  (refine wpAnyH_take (i := 22) (v := undef) rfl (by kernel_rfl) (by kernel_rfl) (by kernel_rfl) (fun _ _ _ h => h) (Or.inr ⟨by rfl, rfl⟩) (by assumption) ?_; (try simp only [Act.put, List.getElem_toArray, List.getElem_cons_succ, List.getElem_cons_zero, List.setIfInBounds_toArray, List.set_cons_zero, List.set_cons_succ]))
                  (refine wpAnyH_take (i := 23) (v := undef) rfl (by kernel_rfl) (by kernel_rfl) (by kernel_rfl) (fun _ _ _ h => h) (Or.inr ⟨by rfl, rfl⟩) (by assumption) ?_; (try simp only [Act.put, List.getElem_toArray, List.getElem_cons_succ, List.getElem_cons_zero, List.setIfInBounds_toArray, List.set_cons_zero, List.set_cons_succ]))
                  (refine wpAnyH_take (i := 24) (v := undef) rfl (by kernel_rfl) (by kernel_rfl) (by kernel_rfl) (fun _ _ _ h => h) (Or.inr ⟨by rfl, rfl⟩) (by assumption) ?_; (try simp only [Act.put, List.getElem_toArray, List.getElem_cons_succ, List.getElem_cons_zero, List.setIfInBounds_toArray, List.set_cons_zero, List.set_cons_succ]))
                  (refine wpAnyH_take (i := 25) (v := undef) rfl (by kernel_rfl) (by kernel_rfl) (by kernel_rfl) (fun _ _ _ h => h) (Or.inr ⟨by rfl, rfl⟩) (by assumption) ?_; (try simp only [Act.put, List.getElem_toArray, List.getElem_cons_succ, List.getElem_cons_zero, List.setIfInBounds_toArray, List.set_cons_zero, List.set_cons_succ]))
                  (refine wpAnyH_take (i := 26) (v := undef) rfl (by kernel_rfl) (by kernel_rfl) (by kernel_rfl) (fun _ _ _ h => h) (Or.inr ⟨by rfl, rfl⟩) (by assumption) ?_; (try simp only [Act.put, List.getElem_toArray, List.getElem_cons_succ, List.getElem_cons_zero, List.setIfInBounds_toArray, List.set_cons_zero, List.set_cons_succ]))
                  (refine wpAnyH_take (i := 27) (v := ?_) rfl (by kernel_rfl) (by kernel_rfl) (by kernel_rfl) (fun _ _ _ h => h) (Or.inl ⟨by rfl, ?_⟩) (by assumption) ?_; rotate_left; (focus (intro w hSw; (try dsimp only at hSw); go_simp; first | done | with_reducible rfl)); (try simp only [Act.put, List.getElem_toArray, List.getElem_cons_succ, List.getElem_cons_zero, List.setIfInBounds_toArray, List.set_cons_zero, List.set_cons_succ]))
                  (refine wpAnyH_take (i := 28) (v := ?_) rfl (by kernel_rfl) (by kernel_rfl) (by kernel_rfl) (fun _ _ _ h => h) (Or.inl ⟨by rfl, ?_⟩) (by assumption) ?_; rotate_left; (focus (intro w hSw; (try dsimp only at hSw); go_simp; first | done | with_reducible rfl)); (try simp only [Act.put, List.getElem_toArray, List.getElem_cons_succ, List.getElem_cons_zero, List.setIfInBounds_toArray, List.set_cons_zero, List.set_cons_succ]))
                  refine wpAnyH_done (by kernel_rfl) ?_ _
                  have hbd := And.left hHeld
                  clear qR19_0 qR19_1 lR19 HS
                  replace O7 := hide ((O7.out.below hbd).more hbd.size)
                  replace R1 := hide (R1.out.below hbd)
                  replace R7 := hide (R7.out.below hbd)
                  replace R19 := hide (R19.out.below hbd)
                  replace HB := hide (HB.out.trans (hbd.mono HB.out.size))
                  replace HBQ := hide (HBQ.out.trans (hbd.mono HBQ.out.size))
                  go_wp2_with fail
                  go_roundw
                  case rel => exact ⟨j + 1, by omega, by omega, by go_num, (HBr.out.trans ((HBQ.out).mono HBr.out.size))⟩
                  case measure => simp [intOf]; omega
                · skip
                  have hv1d : decide (1 ≤ v) = false := by simp; omega
                  go_wp2_with fail
                  obtain ⟨g19, hg19⟩ : ∃ g, w502.heap.size = g := ⟨_, rfl⟩
                  have hWg19 : W.heap.size ≤ g19 := by rw [← hg19]; exact HB.out.size
                  have hbx : Below w502.heap.size w502 (w502.alloc (.cells #[.int .u64 0, .slice none 0 0] 25)) := (Below.refl _ _).alloc (Nat.le_refl _) _
                  have hrx := RowAt.new w502 25 #[.int .u64 0, .slice none 0 0]
                  rw [hg19] at hrx
                  replace O7 := hide ((O7.out.below hbx).more hbx.size)
                  replace R1 := hide (R1.out.below hbx)
                  replace R7 := hide (R7.out.below hbx)
                  replace HB := hide (HB.out.trans (hbx.mono HB.out.size))
                  replace HBQ := hide (HBQ.out.trans (hbx.mono HBQ.out.size))
                  have hs503 : (w502.alloc (.cells #[.int .u64 0, .slice none 0 0] 25)).heap.size = g19 + 1 := by rw [World.size_alloc, hg19]
                  have R19 := hide hrx
                  clear hbx hrx
                  generalize w502.alloc (.cells #[.int .u64 0, .slice none 0 0] 25) = w504 at *
                  (try rw [hg19])
                  clear hg19 hs503
                  have qR19_0 := row20 R19.out
                  have qR19_1 := row21 R19.out
                  have lR19 := R19.out.lt
                  have HS : Hid (∀ w w', (Below w504.heap.size w504 w ∧ w.cell? ⟨g19, 0, none⟩ = some (.int .u64 0) ∧ w.cell? ⟨g19, 1, none⟩ = some (.slice none 0 0)) → Below w.heap.size w w' → (Below w504.heap.size w504 w' ∧ w'.cell? ⟨g19, 0, none⟩ = some (.int .u64 0) ∧ w'.cell? ⟨g19, 1, none⟩ = some (.slice none 0 0))) := hide (fun w w' h hb => ⟨h.1.trans (hb.mono h.1.size), kept hb h.2.1, kept hb h.2.2⟩)
                  go_wp2_with fail
                  have hbd0 : Below w504.heap.size w504 w504.drew := (Below.refl _ _).drew
                  refine wp_region_held_drew (S := fun wX => Below w504.heap.size w504 wX ∧ wX.cell? ⟨g19, 0, none⟩ = some (.int .u64 0) ∧ wX.cell? ⟨g19, 1, none⟩ = some (.slice none 0 0)) (by kernel_rfl) (⟨hbd0, qR19_0, qR19_1⟩) (fun hHeld => ?_)
                  (refine wpAnyH_take (i := 0) (v := ?_) rfl (by kernel_rfl) (by kernel_rfl) (by kernel_rfl) (fun _ _ _ h => h) (Or.inl ⟨by rfl, ?_⟩) (by assumption) ?_; rotate_left; (focus (intro w hSw; (try dsimp only at hSw); go_simp; first | done | with_reducible rfl)); (try simp only [Act.put, List.getElem_toArray, List.getElem_cons_succ, List.getElem_cons_zero, List.setIfInBounds_toArray, List.set_cons_zero, List.set_cons_succ]))
                  (refine wpAnyH_take (i := 1) (v := ?_) rfl (by kernel_rfl) (by kernel_rfl) (by kernel_rfl) (fun _ _ _ h => h) (Or.inl ⟨by rfl, ?_⟩) (by assumption) ?_; rotate_left; (focus (intro w hSw; (try dsimp only at hSw); go_simp; first | done | with_reducible rfl)); (try simp only [Act.put, List.getElem_toArray, List.getElem_cons_succ, List.getElem_cons_zero, List.setIfInBounds_toArray, List.set_cons_zero, List.set_cons_succ]))
                  (refine wpAnyH_take (i := 2) (v := ?_) rfl (by kernel_rfl) (by kernel_rfl) (by kernel_rfl) (fun _ _ _ h => h) (Or.inl ⟨by rfl, ?_⟩) (by assumption) ?_; rotate_left; (focus (intro w hSw; (try dsimp only at hSw); go_simp; first | done | with_reducible rfl)); (try simp only [Act.put, List.getElem_toArray, List.getElem_cons_succ, List.getElem_cons_zero, List.setIfInBounds_toArray, List.set_cons_zero, List.set_cons_succ]))
                  (refine wpAnyH_take (i := 3) (v := ?_) rfl (by kernel_rfl) (by kernel_rfl) (by kernel_rfl) (fun _ _ _ h => h) (Or.inl ⟨by rfl, ?_⟩) (by assumption) ?_; rotate_left; (focus (intro w hSw; (try dsimp only at hSw); go_simp; first | done | with_reducible rfl)); (try simp only [Act.put, List.getElem_toArray, List.getElem_cons_succ, List.getElem_cons_zero, List.setIfInBounds_toArray, List.set_cons_zero, List.set_cons_succ]))
                  (refine wpAnyH_take (i := 4) (v := ?_) rfl (by kernel_rfl) (by kernel_rfl) (by kernel_rfl) (fun _ _ _ h => h) (Or.inl ⟨by rfl, ?_⟩) (by assumption) ?_; rotate_left; (focus (intro w hSw; (try dsimp only at hSw); go_simp; first | done | with_reducible rfl)); (try simp only [Act.put, List.getElem_toArray, List.getElem_cons_succ, List.getElem_cons_zero, List.setIfInBounds_toArray, List.set_cons_zero, List.set_cons_succ]))
                  (refine wpAnyH_take (i := 5) (v := ?_) rfl (by kernel_rfl) (by kernel_rfl) (by kernel_rfl) (fun _ _ _ h => h) (Or.inl ⟨by rfl, ?_⟩) (by assumption) ?_; rotate_left; (focus (intro w hSw; (try dsimp only at hSw); go_simp; first | done | with_reducible rfl)); (try simp only [Act.put, List.getElem_toArray, List.getElem_cons_succ, List.getElem_cons_zero, List.setIfInBounds_toArray, List.set_cons_zero, List.set_cons_succ]))
                  (refine wpAnyH_take (i := 6) (v := ?_) rfl (by kernel_rfl) (by kernel_rfl) (by kernel_rfl) (fun _ _ _ h => h) (Or.inl ⟨by rfl, ?_⟩) (by assumption) ?_; rotate_left; (focus (intro w hSw; (try dsimp only at hSw); go_simp; first | done | with_reducible rfl)); (try simp only [Act.put, List.getElem_toArray, List.getElem_cons_succ, List.getElem_cons_zero, List.setIfInBounds_toArray, List.set_cons_zero, List.set_cons_succ]))
                  (refine wpAnyH_take (i := 7) (v := ?_) rfl (by kernel_rfl) (by kernel_rfl) (by kernel_rfl) (fun _ _ _ h => h) (Or.inl ⟨by rfl, ?_⟩) (by assumption) ?_; rotate_left; (focus (intro w hSw; (try dsimp only at hSw); go_simp; first | done | with_reducible rfl)); (try simp only [Act.put, List.getElem_toArray, List.getElem_cons_succ, List.getElem_cons_zero, List.setIfInBounds_toArray, List.set_cons_zero, List.set_cons_succ]))
                  (refine wpAnyH_take (i := 8) (v := ?_) rfl (by kernel_rfl) (by kernel_rfl) (by kernel_rfl) (fun _ _ _ h => h) (Or.inl ⟨by rfl, ?_⟩) (by assumption) ?_; rotate_left; (focus (intro w hSw; (try dsimp only at hSw); go_simp; first | done | with_reducible rfl)); (try simp only [Act.put, List.getElem_toArray, List.getElem_cons_succ, List.getElem_cons_zero, List.setIfInBounds_toArray, List.set_cons_zero, List.set_cons_succ]))
                  (refine wpAnyH_take (i := 9) (v := ?_) rfl (by kernel_rfl) (by kernel_rfl) (by kernel_rfl) (fun _ _ _ h => h) (Or.inl ⟨by rfl, ?_⟩) (by assumption) ?_; rotate_left; (focus (intro w hSw; (try dsimp only at hSw); go_simp; first | done | with_reducible rfl)); (try simp only [Act.put, List.getElem_toArray, List.getElem_cons_succ, List.getElem_cons_zero, List.setIfInBounds_toArray, List.set_cons_zero, List.set_cons_succ]))
                  (refine wpAnyH_take (i := 10) (v := ?_) rfl (by kernel_rfl) (by kernel_rfl) (by kernel_rfl) (fun _ _ _ h => h) (Or.inl ⟨by rfl, ?_⟩) (by assumption) ?_; rotate_left; (focus (intro w hSw; (try dsimp only at hSw); go_simp; first | done | with_reducible rfl)); (try simp only [Act.put, List.getElem_toArray, List.getElem_cons_succ, List.getElem_cons_zero, List.setIfInBounds_toArray, List.set_cons_zero, List.set_cons_succ]))
                  (refine wpAnyH_take (i := 11) (v := ?_) rfl (by kernel_rfl) (by kernel_rfl) (by kernel_rfl) (fun _ _ _ h => h) (Or.inl ⟨by rfl, ?_⟩) (by assumption) ?_; rotate_left; (focus (intro w hSw; (try dsimp only at hSw); go_simp; first | done | with_reducible rfl)); (try simp only [Act.put, List.getElem_toArray, List.getElem_cons_succ, List.getElem_cons_zero, List.setIfInBounds_toArray, List.set_cons_zero, List.set_cons_succ]))
                  (refine wpAnyH_take (i := 12) (v := ?_) rfl (by kernel_rfl) (by kernel_rfl) (by kernel_rfl) (fun _ _ _ h => h) (Or.inl ⟨by rfl, ?_⟩) (by assumption) ?_; rotate_left; (focus (intro w hSw; (try dsimp only at hSw); go_simp; first | done | with_reducible rfl)); (try simp only [Act.put, List.getElem_toArray, List.getElem_cons_succ, List.getElem_cons_zero, List.setIfInBounds_toArray, List.set_cons_zero, List.set_cons_succ]))
                  (refine wpAnyH_take (i := 13) (v := ?_) rfl (by kernel_rfl) (by kernel_rfl) (by kernel_rfl) (fun _ _ _ h => h) (Or.inl ⟨by rfl, ?_⟩) (by assumption) ?_; rotate_left; (focus (intro w hSw; (try dsimp only at hSw); go_simp; first | done | with_reducible rfl)); (try simp only [Act.put, List.getElem_toArray, List.getElem_cons_succ, List.getElem_cons_zero, List.setIfInBounds_toArray, List.set_cons_zero, List.set_cons_succ]))
                  (refine wpAnyH_take (i := 14) (v := ?_) rfl (by kernel_rfl) (by kernel_rfl) (by kernel_rfl) (fun _ _ _ h => h) (Or.inl ⟨by rfl, ?_⟩) (by assumption) ?_; rotate_left; (focus (intro w hSw; (try dsimp only at hSw); go_simp; first | done | with_reducible rfl)); (try simp only [Act.put, List.getElem_toArray, List.getElem_cons_succ, List.getElem_cons_zero, List.setIfInBounds_toArray, List.set_cons_zero, List.set_cons_succ]))
                  (refine wpAnyH_take (i := 15) (v := ?_) rfl (by kernel_rfl) (by kernel_rfl) (by kernel_rfl) (fun _ _ _ h => h) (Or.inl ⟨by rfl, ?_⟩) (by assumption) ?_; rotate_left; (focus (intro w hSw; (try dsimp only at hSw); go_simp; first | done | with_reducible rfl)); (try simp only [Act.put, List.getElem_toArray, List.getElem_cons_succ, List.getElem_cons_zero, List.setIfInBounds_toArray, List.set_cons_zero, List.set_cons_succ]))
                  (refine wpAnyH_take (i := 16) (v := ?_) rfl (by kernel_rfl) (by kernel_rfl) (by kernel_rfl) (fun _ _ _ h => h) (Or.inl ⟨by rfl, ?_⟩) (by assumption) ?_; rotate_left; (focus (intro w hSw; (try dsimp only at hSw); go_simp; first | done | with_reducible rfl)); (try simp only [Act.put, List.getElem_toArray, List.getElem_cons_succ, List.getElem_cons_zero, List.setIfInBounds_toArray, List.set_cons_zero, List.set_cons_succ]))
                  (refine wpAnyH_take (i := 17) (v := ?_) rfl (by kernel_rfl) (by kernel_rfl) (by kernel_rfl) (fun _ _ _ h => h) (Or.inl ⟨by rfl, ?_⟩) (by assumption) ?_; rotate_left; (focus (intro w hSw; (try dsimp only at hSw); go_simp; first | done | with_reducible rfl)); (try simp only [Act.put, List.getElem_toArray, List.getElem_cons_succ, List.getElem_cons_zero, List.setIfInBounds_toArray, List.set_cons_zero, List.set_cons_succ]))
                  (refine wpAnyH_take (i := 18) (v := ?_) rfl (by kernel_rfl) (by kernel_rfl) (by kernel_rfl) (fun _ _ _ h => h) (Or.inl ⟨by rfl, ?_⟩) (by assumption) ?_; rotate_left; (focus (intro w hSw; (try dsimp only at hSw); go_simp; first | done | with_reducible rfl)); (try simp only [Act.put, List.getElem_toArray, List.getElem_cons_succ, List.getElem_cons_zero, List.setIfInBounds_toArray, List.set_cons_zero, List.set_cons_succ]))
                  (refine wpAnyH_take (i := 19) (v := ?_) rfl (by kernel_rfl) (by kernel_rfl) (by kernel_rfl) (fun _ _ _ h => h) (Or.inl ⟨by rfl, ?_⟩) (by assumption) ?_; rotate_left; (focus (intro w hSw; (try dsimp only at hSw); go_simp; first | done | with_reducible rfl)); (try simp only [Act.put, List.getElem_toArray, List.getElem_cons_succ, List.getElem_cons_zero, List.setIfInBounds_toArray, List.set_cons_zero, List.set_cons_succ]))
                  (refine wpAnyH_take (i := 20) (v := ?_) rfl (by kernel_rfl) (by kernel_rfl) (by kernel_rfl) (fun _ _ _ h => h) (Or.inl ⟨by rfl, ?_⟩) (by assumption) ?_; rotate_left; (focus (intro w hSw; (try dsimp only at hSw); go_simp; first | done | with_reducible rfl)); (try simp only [Act.put, List.getElem_toArray, List.getElem_cons_succ, List.getElem_cons_zero, List.setIfInBounds_toArray, List.set_cons_zero, List.set_cons_succ]))
                  (refine wpAnyH_take (i := 21) (v := undef) rfl (by kernel_rfl) (by kernel_rfl) (by kernel_rfl) (fun _ _ _ h => h) (Or.inr ⟨by rfl, rfl⟩) (by assumption) ?_; (try simp only [Act.put, List.getElem_toArray, List.getElem_cons_succ, List.getElem_cons_zero, List.setIfInBounds_toArray, List.set_cons_zero, List.set_cons_succ]))
                  (refine wpAnyH_take (i := 22) (v := undef) rfl (by kernel_rfl) (by kernel_rfl) (by kernel_rfl) (fun _ _ _ h => h) (Or.inr ⟨by rfl, rfl⟩) (by assumption) ?_; (try simp only [Act.put, List.getElem_toArray, List.getElem_cons_succ, List.getElem_cons_zero, List.setIfInBounds_toArray, List.set_cons_zero, List.set_cons_succ]))
                  (refine wpAnyH_take (i := 23) (v := undef) rfl (by kernel_rfl) (by kernel_rfl) (by kernel_rfl) (fun _ _ _ h => h) (Or.inr ⟨by rfl, rfl⟩) (by assumption) ?_; (try simp only [Act.put, List.getElem_toArray, List.getElem_cons_succ, List.getElem_cons_zero, List.setIfInBounds_toArray, List.set_cons_zero, List.set_cons_succ]))
                  (refine wpAnyH_take (i := 24) (v := undef) rfl (by kernel_rfl) (by kernel_rfl) (by kernel_rfl) (fun _ _ _ h => h) (Or.inr ⟨by rfl, rfl⟩) (by assumption) ?_; (try simp only [Act.put, List.getElem_toArray, List.getElem_cons_succ, List.getElem_cons_zero, List.setIfInBounds_toArray, List.set_cons_zero, List.set_cons_succ]))
                  (refine wpAnyH_take (i := 25) (v := undef) rfl (by kernel_rfl) (by kernel_rfl) (by kernel_rfl) (fun _ _ _ h => h) (Or.inr ⟨by rfl, rfl⟩) (by assumption) ?_; (try simp only [Act.put, List.getElem_toArray, List.getElem_cons_succ, List.getElem_cons_zero, List.setIfInBounds_toArray, List.set_cons_zero, List.set_cons_succ]))
                  (refine wpAnyH_take (i := 26) (v := undef) rfl (by kernel_rfl) (by kernel_rfl) (by kernel_rfl) (fun _ _ _ h => h) (Or.inr ⟨by rfl, rfl⟩) (by assumption) ?_; (try simp only [Act.put, List.getElem_toArray, List.getElem_cons_succ, List.getElem_cons_zero, List.setIfInBounds_toArray, List.set_cons_zero, List.set_cons_succ]))
                  (refine wpAnyH_take (i := 27) (v := ?_) rfl (by kernel_rfl) (by kernel_rfl) (by kernel_rfl) (fun _ _ _ h => h) (Or.inl ⟨by rfl, ?_⟩) (by assumption) ?_; rotate_left; (focus (intro w hSw; (try dsimp only at hSw); go_simp; first | done | with_reducible rfl)); (try simp only [Act.put, List.getElem_toArray, List.getElem_cons_succ, List.getElem_cons_zero, List.setIfInBounds_toArray, List.set_cons_zero, List.set_cons_succ]))
                  (refine wpAnyH_take (i := 28) (v := ?_) rfl (by kernel_rfl) (by kernel_rfl) (by kernel_rfl) (fun _ _ _ h => h) (Or.inl ⟨by rfl, ?_⟩) (by assumption) ?_; rotate_left; (focus (intro w hSw; (try dsimp only at hSw); go_simp; first | done | with_reducible rfl)); (try simp only [Act.put, List.getElem_toArray, List.getElem_cons_succ, List.getElem_cons_zero, List.setIfInBounds_toArray, List.set_cons_zero, List.set_cons_succ]))
                  refine wpAnyH_done (by kernel_rfl) ?_ _
                  have hbd := And.left hHeld
                  clear qR19_0 qR19_1 lR19 HS
                  replace O7 := hide ((O7.out.below hbd).more hbd.size)
                  replace R1 := hide (R1.out.below hbd)
                  replace R7 := hide (R7.out.below hbd)
                  replace R19 := hide (R19.out.below hbd)
                  replace HB := hide (HB.out.trans (hbd.mono HB.out.size))
                  replace HBQ := hide (HBQ.out.trans (hbd.mono HBQ.out.size))
                  go_wp2_with fail
                  go_roundw
                  case rel => exact ⟨j + 1, by omega, by omega, by go_num, (HBr.out.trans ((HBQ.out).mono HBr.out.size))⟩
                  case measure => simp [intOf]; omega
          · skip
            have QX : Hid (∀ w, Below wr.heap.size wr w → Calls Try.prog 9 #[.agg #[.int .u64 e1, .slice A1 n1 c1]] w fun e' W' => ∃ A' c', e' = .returned (.agg #[.int .u64 e1, .slice A' m1 c']) ∧ Rd W' W'.heap.size 1 A' m1 (Cs encW S) ∧ Below w.heap.size w W') := hide (fun w hw => (HOWN1.out w (HB.out.trans (hw.mono HB.out.size))).mono fun e' W' ⟨A', c', e1, _, _, e3, _, e5⟩ => ⟨A', c', e1, e3, e5⟩)
            have Q18x : Hid (∀ w A' c', Below wr.heap.size wr w → Rd w w.heap.size 1 A' m1 (Cs encW S) → Calls Try.prog 14 #[.agg #[.int .u64 e1, .slice A7 m1 k7], .agg #[.int .u64 e1, .slice A' m1 c']] w fun e W' => e = .returned (.bool true) ∧ Below w.heap.size w W') := hide (fun w A' c' hw hr => rsame_any A7 A' k7 c' m1 m1 e1 e1 S S w ((O7.out.below hw).more hw.size) hr HL1.out HL1.out (by omega) (by omega) true (by simp))
            have qR7_0 := row20 R7.out
            have qR7_1 := row21 R7.out
            have lR7 := R7.out.lt
            have qR1_0 := row20 R1.out
            have qR1_1 := row21 R1.out
            have lR1 := R1.out.lt
            have HS : Hid (∀ w w', (Below wr.heap.size wr w ∧ w.cell? ⟨g7, 0, none⟩ = some (.int .u64 e1) ∧ w.cell? ⟨g7, 1, none⟩ = some (.slice A7 m1 k7) ∧ w.cell? ⟨g1, 0, none⟩ = some (.int .u64 e1) ∧ w.cell? ⟨g1, 1, none⟩ = some (.slice A1 n1 c1)) → Below w.heap.size w w' → (Below wr.heap.size wr w' ∧ w'.cell? ⟨g7, 0, none⟩ = some (.int .u64 e1) ∧ w'.cell? ⟨g7, 1, none⟩ = some (.slice A7 m1 k7) ∧ w'.cell? ⟨g1, 0, none⟩ = some (.int .u64 e1) ∧ w'.cell? ⟨g1, 1, none⟩ = some (.slice A1 n1 c1))) := hide (fun w w' h hb => ⟨h.1.trans (hb.mono h.1.size), kept hb h.2.1, kept hb h.2.2.1, kept hb h.2.2.2.1, kept hb h.2.2.2.2⟩)
            go_wp2_with fail
            have hbd0 : Below wr.heap.size wr wr.drew := (Below.refl _ _).drew
            go_region_held3 (fun wX => Below wr.heap.size wr wX ∧ wX.cell? ⟨g7, 0, none⟩ = some (.int .u64 e1) ∧ wX.cell? ⟨g7, 1, none⟩ = some (.slice A7 m1 k7) ∧ wX.cell? ⟨g1, 0, none⟩ = some (.int .u64 e1) ∧ wX.cell? ⟨g1, 1, none⟩ = some (.slice A1 n1 c1))
              (first | exact HS.out _ _ ‹_› hb | exact ⟨hbd0, qR7_0, qR7_1, qR1_0, qR1_1⟩ | go_keep)
              (first
                | (go_at_call 9; with_reducible refine (QX.out _ (And.left ‹Below wr.heap.size wr _ ∧ _›)).mono ?_; rintro e wq ⟨Ay, cy, rfl, hrdy, hb⟩)
                | (go_at_call 14; with_reducible refine (Q18x.out _ _ _ (And.left ‹Below wr.heap.size wr _ ∧ _›) hrdy).mono ?_; rintro e wq ⟨rfl, hb⟩))
            have hbd := And.left ‹Below wr.heap.size wr _ ∧ _›
            clear qR7_0 qR7_1 lR7 qR1_0 qR1_1 lR1 HS
            go_wp2_with fail
            go_ret
            exact ⟨rfl, HB.out.trans (hbd.mono HB.out.size)⟩
      · skip
        obtain ⟨a, ha⟩ : ∃ a, oldE S = a := ⟨_, rfl⟩
        obtain ⟨ob, hob⟩ : ∃ b, oldB S = b := ⟨_, rfl⟩
        obtain ⟨L, hL⟩ : ∃ L, backL e1 S = L := ⟨_, rfl⟩
        obtain ⟨lm, hlm⟩ : ∃ l, L.length = l := ⟨_, rfl⟩
        have HROL := hide (fun w (h : Rd w w.heap.size 1 A7 m1 (Cs encW S)) => rOldest_any A7 k7 m1 e1 S w h HL1.out HU1.out (by omega) a ob ha hob)
        have HRBA := hide (fun w (h : Rd w w.heap.size 1 A7 m1 (Cs encW S)) => rBack_any A7 k7 m1 e1 S w h HL1.out HU1.out (by omega) lm (by rw [hL]; exact hlm))
        have HOL2 := hide (fun w h => HOL.out w h a ob (by rw [HR.out, if_pos rfl]; exact ha) (by rw [HR.out, if_pos rfl]; exact hob))
        have HBA2 := hide (fun w h => HBA.out w h L (by rw [HR.out, if_pos rfl]; exact hL) lm hlm)
        have hlm4 : lm ≤ 4096 := by rw [← hlm, ← hL]; have := backL_length e1 S; have := HL1.out; omega
        rw [hL] at HRBA
        have HLM := hide hlm
        clear ha hob hL hlm HOL HBA
        have qR7_0 := row20 R7.out
        have qR7_1 := row21 R7.out
        have lR7 := R7.out.lt
        go_wp2_with fail
        clear qR7_0 qR7_1 lR7
        with_reducible refine (HRBA.out _ O7.out).mono ?_
        rintro e w303 ⟨A11, c11, rfl, hc11, hcm11, hrd, hb⟩
        replace O7 := hide ((O7.out.below hb).more hb.size)
        replace R1 := hide (R1.out.below hb)
        replace R7 := hide (R7.out.below hb)
        replace HB := hide (HB.out.trans (hb.mono HB.out.size))
        have O11 := hide (hrd)
        clear hb hrd HRBA
        have qR7_0 := row20 R7.out
        have qR7_1 := row21 R7.out
        have lR7 := R7.out.lt
        go_wp2_with fail
        clear qR7_0 qR7_1 lR7
        with_reducible refine (HROL.out _ O7.out).mono ?_
        rintro e w304 ⟨rfl, hb⟩
        replace O7 := hide ((O7.out.below hb).more hb.size)
        replace O11 := hide ((O11.out.below hb).more hb.size)
        replace R1 := hide (R1.out.below hb)
        replace R7 := hide (R7.out.below hb)
        replace HB := hide (HB.out.trans (hb.mono HB.out.size))
        clear hb HROL
        have qR7_0 := row20 R7.out
        have qR7_1 := row21 R7.out
        have lR7 := R7.out.lt
        go_wp2_with fail
        clear qR7_0 qR7_1 lR7
        with_reducible refine (HOL2.out _ O7.out).mono ?_
        rintro e w305 ⟨rfl, hb⟩
        replace O7 := hide ((O7.out.below hb).more hb.size)
        replace O11 := hide ((O11.out.below hb).more hb.size)
        replace R1 := hide (R1.out.below hb)
        replace R7 := hide (R7.out.below hb)
        replace HB := hide (HB.out.trans (hb.mono HB.out.size))
        clear hb HOL2
        have qR7_0 := row20 R7.out
        have qR7_1 := row21 R7.out
        have lR7 := R7.out.lt
        go_wp2_with fail
        clear qR7_0 qR7_1 lR7
        with_reducible refine (HBA2.out _ O7.out).mono ?_
        rintro e w306 ⟨A12, c12, rfl, hc12, hcm12, hrd, hb⟩
        replace O7 := hide ((O7.out.below hb).more hb.size)
        replace O11 := hide ((O11.out.below hb).more hb.size)
        replace R1 := hide (R1.out.below hb)
        replace R7 := hide (R7.out.below hb)
        replace HB := hide (HB.out.trans (hb.mono HB.out.size))
        have O12 := hide (hrd)
        clear hb hrd HBA2
        have qR7_0 := row20 R7.out
        have qR7_1 := row21 R7.out
        have lR7 := R7.out.lt
        go_wp2_with fail
        clear qR7_0 qR7_1 lR7
        with_reducible refine (EqualIK A12 A11 c12 c11 L L _ O12.out O11.out HLM.out HLM.out hlm4 hlm4 true (by simp)).mono ?_
        rintro e w307 ⟨rfl, hb⟩
        replace O7 := hide ((O7.out.below hb).more hb.size)
        replace O11 := hide ((O11.out.below hb).more hb.size)
        replace O12 := hide ((O12.out.below hb).more hb.size)
        replace R1 := hide (R1.out.below hb)
        replace R7 := hide (R7.out.below hb)
        replace HB := hide (HB.out.trans (hb.mono HB.out.size))
        clear hb
        clear O12 O11
        go_wp2_with fail
        go_loopw [90] (fun i wr => ∃ (j : Nat), j ≤ n3 ∧ j ≤ 8 ∧ i = .int .i64 j ∧ Below w307.heap.size w307 wr) (fun i _ => n3 - (intOf i).toNat)
        case atStart => exact ⟨0, by omega, by omega, rfl, Below.refl _ _⟩
        case round =>
          obtain ⟨j, hj, hj8, rfl, hbr⟩ := hrel
          replace O7 := hide ((O7.out.below hbr).more hbr.size)
          replace R1 := hide (R1.out.below hbr)
          replace R7 := hide (R7.out.below hbr)
          replace HB := hide (HB.out.trans (hbr.mono HB.out.size))
          have HBr := hide hbr
          clear hbr
          have HBQ := hide (Below.refl wr.heap.size wr)
          by_cases hlt : j < n3
          · skip
            have h3 := H3.out.below HB.out
            obtain ⟨b1, o1, hA3, hb1, hd10⟩ := h3.elemN HX3.out hlt (List.getElem?_eq_getElem (by rw [HX3.out]; exact hlt))
            subst hA3
            have hbl1 : b1 < wr.heap.size := by have := HB.out.size; omega
            have HUX := hide (HU3.out _ (List.getElem_mem (show j < zs.length by rw [HX3.out]; exact hlt)))
            have hjz : j < zs.length := by rw [HX3.out]; exact hlt
            clear h3
            generalize zs[j] = z at *
            clear hjz
            by_cases h8 : j = 8
            · skip
              have h8I : ((j : Int) == 8) = true := by simp; omega
              clear h8
              have QX : Hid (∀ w, Below wr.heap.size wr w → Calls Try.prog 9 #[.agg #[.int .u64 e1, .slice A1 n1 c1]] w fun e' W' => ∃ A' c', e' = .returned (.agg #[.int .u64 e1, .slice A' m1 c']) ∧ Rd W' W'.heap.size 1 A' m1 (Cs encW S) ∧ Below w.heap.size w W') := hide (fun w hw => (HOWN1.out w (HB.out.trans (hw.mono HB.out.size))).mono fun e' W' ⟨A', c', e1, _, _, e3, _, e5⟩ => ⟨A', c', e1, e3, e5⟩)
              have Q18x : Hid (∀ w A' c', Below wr.heap.size wr w → Rd w w.heap.size 1 A' m1 (Cs encW S) → Calls Try.prog 14 #[.agg #[.int .u64 e1, .slice A7 m1 k7], .agg #[.int .u64 e1, .slice A' m1 c']] w fun e W' => e = .returned (.bool true) ∧ Below w.heap.size w W') := hide (fun w A' c' hw hr => rsame_any A7 A' k7 c' m1 m1 e1 e1 S S w ((O7.out.below hw).more hw.size) hr HL1.out HL1.out (by omega) (by omega) true (by simp))
              have qR7_0 := row20 R7.out
              have qR7_1 := row21 R7.out
              have lR7 := R7.out.lt
              have qR1_0 := row20 R1.out
              have qR1_1 := row21 R1.out
              have lR1 := R1.out.lt
              have HS : Hid (∀ w w', (Below wr.heap.size wr w ∧ w.cell? ⟨g7, 0, none⟩ = some (.int .u64 e1) ∧ w.cell? ⟨g7, 1, none⟩ = some (.slice A7 m1 k7) ∧ w.cell? ⟨g1, 0, none⟩ = some (.int .u64 e1) ∧ w.cell? ⟨g1, 1, none⟩ = some (.slice A1 n1 c1)) → Below w.heap.size w w' → (Below wr.heap.size wr w' ∧ w'.cell? ⟨g7, 0, none⟩ = some (.int .u64 e1) ∧ w'.cell? ⟨g7, 1, none⟩ = some (.slice A7 m1 k7) ∧ w'.cell? ⟨g1, 0, none⟩ = some (.int .u64 e1) ∧ w'.cell? ⟨g1, 1, none⟩ = some (.slice A1 n1 c1))) := hide (fun w w' h hb => ⟨h.1.trans (hb.mono h.1.size), kept hb h.2.1, kept hb h.2.2.1, kept hb h.2.2.2.1, kept hb h.2.2.2.2⟩)
              go_wp2_with fail
              have hbd0 : Below wr.heap.size wr wr.drew := (Below.refl _ _).drew
              go_region_held3 (fun wX => Below wr.heap.size wr wX ∧ wX.cell? ⟨g7, 0, none⟩ = some (.int .u64 e1) ∧ wX.cell? ⟨g7, 1, none⟩ = some (.slice A7 m1 k7) ∧ wX.cell? ⟨g1, 0, none⟩ = some (.int .u64 e1) ∧ wX.cell? ⟨g1, 1, none⟩ = some (.slice A1 n1 c1))
                (first | exact HS.out _ _ ‹_› hb | exact ⟨hbd0, qR7_0, qR7_1, qR1_0, qR1_1⟩ | go_keep)
                (first
                  | (go_at_call 9; with_reducible refine (QX.out _ (And.left ‹Below wr.heap.size wr _ ∧ _›)).mono ?_; rintro e wq ⟨Ay, cy, rfl, hrdy, hb⟩)
                  | (go_at_call 14; with_reducible refine (Q18x.out _ _ _ (And.left ‹Below wr.heap.size wr _ ∧ _›) hrdy).mono ?_; rintro e wq ⟨rfl, hb⟩))
              have hbd := And.left ‹Below wr.heap.size wr _ ∧ _›
              clear qR7_0 qR7_1 lR7 qR1_0 qR1_1 lR1 HS
              go_wp2_with fail
              go_ret
              exact ⟨rfl, HB.out.trans (hbd.mono HB.out.size)⟩
            · skip
              have h8I : ((j : Int) == 8) = false := by simp; omega
              have z0 : 0 ≤ z := HUX.out.1
              obtain ⟨q, hq⟩ : ∃ q, (pOk e1 S && decide (z ≤ e1 - 2 ∧ 2 ≤ e1)) = q := ⟨_, rfl⟩
              have HSFz := hide (fun w h => HSF.out w h z q hq)
              have HRSFz := hide (fun w => HRSF.out w z z0 q (by rw [← hq, HR.out, Bool.true_and]))
              clear hq
              have qR7_0 := row20 R7.out
              have qR7_1 := row21 R7.out
              have lR7 := R7.out.lt
              go_wp2_with fail
              clear qR7_0 qR7_1 lR7
              with_reducible refine (HSFz.out _ O7.out).mono ?_
              rintro e w501 ⟨rfl, hb⟩
              replace O7 := hide ((O7.out.below hb).more hb.size)
              replace R1 := hide (R1.out.below hb)
              replace R7 := hide (R7.out.below hb)
              replace HB := hide (HB.out.trans (hb.mono HB.out.size))
              replace HBQ := hide (HBQ.out.trans (hb.mono HBQ.out.size))
              clear hb HSFz hd10 hbl1
              obtain ⟨gm, hgm⟩ : ∃ k : Int, z % 12 = k := ⟨_, rfl⟩
              have hg0 : 0 ≤ gm := by omega
              have hg12 : gm < 12 := by omega
              have HZU := hide (show z < 18446744073709551616 from by have := HUX.out; unfold U64 at this; omega)
              have qR7_0 := row20 R7.out
              have qR7_1 := row21 R7.out
              have lR7 := R7.out.lt
              go_wp2_with fail
              clear qR7_0 qR7_1 lR7
              with_reducible refine (HRSFz.out _).mono ?_
              rintro e w502 ⟨rfl, hb⟩
              replace O7 := hide ((O7.out.below hb).more hb.size)
              replace R1 := hide (R1.out.below hb)
              replace R7 := hide (R7.out.below hb)
              replace HB := hide (HB.out.trans (hb.mono HB.out.size))
              replace HBQ := hide (HBQ.out.trans (hb.mono HBQ.out.size))
              clear hb HRSFz
              by_cases hmay : 1 ≤ gm - 1 ∧ gm - 1 ≤ 8
              · skip
                obtain ⟨n, hn⟩ : ∃ n : Nat, gm - 1 = n := ⟨(gm - 1).toNat, by omega⟩
                have hn1' : 1 ≤ n := by omega
                have hn8 : n ≤ 8 := by omega
                have hgn : gm = (n : Int) + 1 := by omega
                subst hgn
                clear hn
                have hv8n : decide ((n : Int) ≤ 8) = true := by simp; omega
                obtain ⟨i0, hi0, hz0, hz1, hz2⟩ := info_parts elW.info
                have hmk := fun w => run_make_rowN (P := Try.prog) 23 22 i0 _ Try.underlying23 hi0 hz0 .i64 .i64 n n (Nat.le_refl _) (by rw [hz2]; omega) (by omega) w
                rw [hz1, Nat.mul_one] at hmk
                have HMK := hide hmk
                clear hi0 hz0 hz1 hz2 hmk
                have hzu := HZU.out
                go_wp2_with fail
                clear hzu hgm
                with_reducible refine (new_yes n _ hn1' hn8).mono ?_
                rintro e w503 ⟨A19, c19, rfl, hc19, hcm19, hrd, hb⟩
                replace O7 := hide ((O7.out.below hb).more hb.size)
                replace R1 := hide (R1.out.below hb)
                replace R7 := hide (R7.out.below hb)
                replace HB := hide (HB.out.trans (hb.mono HB.out.size))
                replace HBQ := hide (HBQ.out.trans (hb.mono HBQ.out.size))
                have O19 := hide (hrd)
                clear hb hrd
                go_wp2_with fail
                obtain ⟨g19, hg19⟩ : ∃ g, w503.heap.size = g := ⟨_, rfl⟩
                have hWg19 : W.heap.size ≤ g19 := by rw [← hg19]; exact HB.out.size
                have hbx : Below w503.heap.size w503 (w503.alloc (.cells #[.int .u64 0, .slice A19 n c19] 25)) := (Below.refl _ _).alloc (Nat.le_refl _) _
                have hrx := RowAt.new w503 25 #[.int .u64 0, .slice A19 n c19]
                rw [hg19] at hrx
                replace O7 := hide ((O7.out.below hbx).more hbx.size)
                replace O19 := hide ((O19.out.below hbx).more hbx.size)
                replace R1 := hide (R1.out.below hbx)
                replace R7 := hide (R7.out.below hbx)
                replace HB := hide (HB.out.trans (hbx.mono HB.out.size))
                replace HBQ := hide (HBQ.out.trans (hbx.mono HBQ.out.size))
                have hs504 : (w503.alloc (.cells #[.int .u64 0, .slice A19 n c19] 25)).heap.size = g19 + 1 := by rw [World.size_alloc, hg19]
                have R19 := hide hrx
                clear hbx hrx
                generalize w503.alloc (.cells #[.int .u64 0, .slice A19 n c19] 25) = w505 at *
                (try rw [hg19])
                clear hg19 hs504
                have qR19_0 := row20 R19.out
                have qR19_1 := row21 R19.out
                have lR19 := R19.out.lt
                have HS : Hid (∀ w w', (Below w505.heap.size w505 w ∧ w.cell? ⟨g19, 0, none⟩ = some (.int .u64 0) ∧ w.cell? ⟨g19, 1, none⟩ = some (.slice A19 n c19)) → Below w.heap.size w w' → (Below w505.heap.size w505 w' ∧ w'.cell? ⟨g19, 0, none⟩ = some (.int .u64 0) ∧ w'.cell? ⟨g19, 1, none⟩ = some (.slice A19 n c19))) := hide (fun w w' h hb => ⟨h.1.trans (hb.mono h.1.size), kept hb h.2.1, kept hb h.2.2⟩)
                have hbm : Below w505.heap.size w505 (w505.drew.alloc (.cells (madeCells #[.int .u64 0] n) 22)) := (Below.refl _ _).drew.alloc (Nat.le_refl _) _
                have hrm : Rd (w505.drew.alloc (.cells (madeCells #[.int .u64 0] n) 22)) (w505.drew.alloc (.cells (madeCells #[.int .u64 0] n) 22)).heap.size 1 (some ⟨w505.heap.size, 0, none⟩) n (Cs encW (List.replicate n 0)) := by
                  have hM := Cs_rep n
                  have hM2 : (madeCells #[.int .u64 0] n).toList = Cs encW (List.replicate n 0) := by simpa [Value.cells] using hM
                  have h := Rd.new w505.drew (madeCells #[.int .u64 0] n) 22 1 n (by simp [madeCells])
                  rw [hM2] at h
                  exact h.more (by rw [World.size_alloc]; exact Nat.le_refl _)
                have QSM : Hid (Calls Try.prog 14 #[.agg #[.int .u64 0, .slice A19 n c19], .agg #[.int .u64 0, .slice (some ⟨w505.heap.size, 0, none⟩) n n]] (w505.drew.alloc (.cells (madeCells #[.int .u64 0] n) 22)) fun e W' => e = .returned (.bool true) ∧ Below (w505.drew.alloc (.cells (madeCells #[.int .u64 0] n) 22)).heap.size (w505.drew.alloc (.cells (madeCells #[.int .u64 0] n) 22)) W') := hide (rsame_any A19 (some ⟨w505.heap.size, 0, none⟩) c19 n n n 0 0 _ _ _ ((O19.out.below hbm).more hbm.size) hrm (by simp) (by simp) (by omega) (by omega) true (by simp))
                have HBM := hide hbm
                have hmk := HMK.out
                clear hbm hrm
                go_wp2_with fail
                have hbd0 : Below w505.heap.size w505 w505.drew := (Below.refl _ _).drew
                refine wp_region_held_drew (S := fun wX => Below w505.heap.size w505 wX ∧ wX.cell? ⟨g19, 0, none⟩ = some (.int .u64 0) ∧ wX.cell? ⟨g19, 1, none⟩ = some (.slice A19 n c19)) (by kernel_rfl) (⟨hbd0, qR19_0, qR19_1⟩) (fun hHeld => ?_)
                (refine wpAnyH_take (i := 0) (v := ?_) rfl (by kernel_rfl) (by kernel_rfl) (by kernel_rfl) (fun _ _ _ h => h) (Or.inl ⟨by rfl, ?_⟩) (by assumption) ?_; rotate_left; (focus (intro w hSw; (try dsimp only at hSw); go_simp; first | done | with_reducible rfl)); (try simp only [Act.put, List.getElem_toArray, List.getElem_cons_succ, List.getElem_cons_zero, List.setIfInBounds_toArray, List.set_cons_zero, List.set_cons_succ]))
                (refine wpAnyH_take (i := 1) (v := ?_) rfl (by kernel_rfl) (by kernel_rfl) (by kernel_rfl) (fun _ _ _ h => h) (Or.inl ⟨by rfl, ?_⟩) (by assumption) ?_; rotate_left; (focus (intro w hSw; (try dsimp only at hSw); go_simp; first | done | with_reducible rfl)); (try simp only [Act.put, List.getElem_toArray, List.getElem_cons_succ, List.getElem_cons_zero, List.setIfInBounds_toArray, List.set_cons_zero, List.set_cons_succ]))
                (refine wpAnyH_take (i := 2) (v := ?_) rfl (by kernel_rfl) (by kernel_rfl) (by kernel_rfl) (fun _ _ _ h => h) (Or.inl ⟨by rfl, ?_⟩) (by assumption) ?_; rotate_left; (focus (intro w hSw; (try dsimp only at hSw); go_simp; first | done | with_reducible rfl)); (try simp only [Act.put, List.getElem_toArray, List.getElem_cons_succ, List.getElem_cons_zero, List.setIfInBounds_toArray, List.set_cons_zero, List.set_cons_succ]))
                (refine wpAnyH_take (i := 3) (v := ?_) rfl (by kernel_rfl) (by kernel_rfl) (by kernel_rfl) (fun _ _ _ h => h) (Or.inl ⟨by rfl, ?_⟩) (by assumption) ?_; rotate_left; (focus (intro w hSw; (try dsimp only at hSw); go_simp; first | done | with_reducible rfl)); (try simp only [Act.put, List.getElem_toArray, List.getElem_cons_succ, List.getElem_cons_zero, List.setIfInBounds_toArray, List.set_cons_zero, List.set_cons_succ]))
                (refine wpAnyH_take (i := 4) (v := ?_) rfl (by kernel_rfl) (by kernel_rfl) (by kernel_rfl) (fun _ _ _ h => h) (Or.inl ⟨by rfl, ?_⟩) (by assumption) ?_; rotate_left; (focus (intro w hSw; (try dsimp only at hSw); go_simp; first | done | with_reducible rfl)); (try simp only [Act.put, List.getElem_toArray, List.getElem_cons_succ, List.getElem_cons_zero, List.setIfInBounds_toArray, List.set_cons_zero, List.set_cons_succ]))
                (refine wpAnyH_take (i := 5) (v := ?_) rfl (by kernel_rfl) (by kernel_rfl) (by kernel_rfl) (fun _ _ _ h => h) (Or.inl ⟨by rfl, ?_⟩) (by assumption) ?_; rotate_left; (focus (intro w hSw; (try dsimp only at hSw); go_simp; first | done | with_reducible rfl)); (try simp only [Act.put, List.getElem_toArray, List.getElem_cons_succ, List.getElem_cons_zero, List.setIfInBounds_toArray, List.set_cons_zero, List.set_cons_succ]))
                (refine wpAnyH_take (i := 6) (v := ?_) rfl (by kernel_rfl) (by kernel_rfl) (by kernel_rfl) (fun _ _ _ h => h) (Or.inl ⟨by rfl, ?_⟩) (by assumption) ?_; rotate_left; (focus (intro w hSw; (try dsimp only at hSw); go_simp; first | done | with_reducible rfl)); (try simp only [Act.put, List.getElem_toArray, List.getElem_cons_succ, List.getElem_cons_zero, List.setIfInBounds_toArray, List.set_cons_zero, List.set_cons_succ]))
                (refine wpAnyH_take (i := 7) (v := ?_) rfl (by kernel_rfl) (by kernel_rfl) (by kernel_rfl) (fun _ _ _ h => h) (Or.inl ⟨by rfl, ?_⟩) (by assumption) ?_; rotate_left; (focus (intro w hSw; (try dsimp only at hSw); go_simp; first | done | with_reducible rfl)); (try simp only [Act.put, List.getElem_toArray, List.getElem_cons_succ, List.getElem_cons_zero, List.setIfInBounds_toArray, List.set_cons_zero, List.set_cons_succ]))
                (refine wpAnyH_take (i := 8) (v := undef) rfl (by kernel_rfl) (by kernel_rfl) (by kernel_rfl) (fun _ _ _ h => h) (Or.inr ⟨by rfl, rfl⟩) (by assumption) ?_; (try simp only [Act.put, List.getElem_toArray, List.getElem_cons_succ, List.getElem_cons_zero, List.setIfInBounds_toArray, List.set_cons_zero, List.set_cons_succ]))
                (refine wpAnyH_take (i := 9) (v := undef) rfl (by kernel_rfl) (by kernel_rfl) (by kernel_rfl) (fun _ _ _ h => h) (Or.inr ⟨by rfl, rfl⟩) (by assumption) ?_; (try simp only [Act.put, List.getElem_toArray, List.getElem_cons_succ, List.getElem_cons_zero, List.setIfInBounds_toArray, List.set_cons_zero, List.set_cons_succ]))
                (refine wpAnyH_take (i := 10) (v := undef) rfl (by kernel_rfl) (by kernel_rfl) (by kernel_rfl) (fun _ _ _ h => h) (Or.inr ⟨by rfl, rfl⟩) (by assumption) ?_; (try simp only [Act.put, List.getElem_toArray, List.getElem_cons_succ, List.getElem_cons_zero, List.setIfInBounds_toArray, List.set_cons_zero, List.set_cons_succ]))
                (refine wpAnyH_take (i := 11) (v := undef) rfl (by kernel_rfl) (by kernel_rfl) (by kernel_rfl) (fun _ _ _ h => h) (Or.inr ⟨by rfl, rfl⟩) (by assumption) ?_; (try simp only [Act.put, List.getElem_toArray, List.getElem_cons_succ, List.getElem_cons_zero, List.setIfInBounds_toArray, List.set_cons_zero, List.set_cons_succ]))
                (refine wpAnyH_take (i := 12) (v := undef) rfl (by kernel_rfl) (by kernel_rfl) (by kernel_rfl) (fun _ _ _ h => h) (Or.inr ⟨by rfl, rfl⟩) (by assumption) ?_; (try simp only [Act.put, List.getElem_toArray, List.getElem_cons_succ, List.getElem_cons_zero, List.setIfInBounds_toArray, List.set_cons_zero, List.set_cons_succ]))
                (refine wpAnyH_take (i := 13) (v := undef) rfl (by kernel_rfl) (by kernel_rfl) (by kernel_rfl) (fun _ _ _ h => h) (Or.inr ⟨by rfl, rfl⟩) (by assumption) ?_; (try simp only [Act.put, List.getElem_toArray, List.getElem_cons_succ, List.getElem_cons_zero, List.setIfInBounds_toArray, List.set_cons_zero, List.set_cons_succ]))
                (refine wpAnyH_take (i := 14) (v := undef) rfl (by kernel_rfl) (by kernel_rfl) (by kernel_rfl) (fun _ _ _ h => h) (Or.inr ⟨by rfl, rfl⟩) (by assumption) ?_; (try simp only [Act.put, List.getElem_toArray, List.getElem_cons_succ, List.getElem_cons_zero, List.setIfInBounds_toArray, List.set_cons_zero, List.set_cons_succ]))
                (refine wpAnyH_take (i := 15) (v := undef) rfl (by kernel_rfl) (by kernel_rfl) (by kernel_rfl) (fun _ _ _ h => h) (Or.inr ⟨by rfl, rfl⟩) (by assumption) ?_; (try simp only [Act.put, List.getElem_toArray, List.getElem_cons_succ, List.getElem_cons_zero, List.setIfInBounds_toArray, List.set_cons_zero, List.set_cons_succ]))
                (refine wpAnyH_take (i := 16) (v := ?_) rfl (by kernel_rfl) (by kernel_rfl) (by kernel_rfl) (fun _ _ _ h => h) (Or.inl ⟨by rfl, ?_⟩) (by assumption) ?_; rotate_left; (focus (intro w hSw; (try dsimp only at hSw); go_simp; first | done | with_reducible rfl)); (try simp only [Act.put, List.getElem_toArray, List.getElem_cons_succ, List.getElem_cons_zero, List.setIfInBounds_toArray, List.set_cons_zero, List.set_cons_succ]))
                (refine wpAnyH_take (i := 17) (v := ?_) rfl (by kernel_rfl) (by kernel_rfl) (by kernel_rfl) (fun _ _ _ h => h) (Or.inl ⟨by rfl, ?_⟩) (by assumption) ?_; rotate_left; (focus (intro w hSw; (try dsimp only at hSw); go_simp; first | done | with_reducible rfl)); (try simp only [Act.put, List.getElem_toArray, List.getElem_cons_succ, List.getElem_cons_zero, List.setIfInBounds_toArray, List.set_cons_zero, List.set_cons_succ]))
                (refine wpAnyH_take (i := 18) (v := ?_) rfl (by kernel_rfl) (by kernel_rfl) (by kernel_rfl) (fun _ _ _ h => h) (Or.inl ⟨by rfl, ?_⟩) (by assumption) ?_; rotate_left; (focus (intro w hSw; (try dsimp only at hSw); go_simp; first | done | with_reducible rfl)); (try simp only [Act.put, List.getElem_toArray, List.getElem_cons_succ, List.getElem_cons_zero, List.setIfInBounds_toArray, List.set_cons_zero, List.set_cons_succ]))
                (refine wpAnyH_take (i := 19) (v := ?_) rfl (by kernel_rfl) (by kernel_rfl) (by kernel_rfl) (fun _ _ _ h => h) (Or.inl ⟨by rfl, ?_⟩) (by assumption) ?_; rotate_left; (focus (intro w hSw; (try dsimp only at hSw); go_simp; first | done | with_reducible rfl)); (try simp only [Act.put, List.getElem_toArray, List.getElem_cons_succ, List.getElem_cons_zero, List.setIfInBounds_toArray, List.set_cons_zero, List.set_cons_succ]))
                (refine wpAnyH_take (i := 20) (v := ?_) rfl (by kernel_rfl) (by kernel_rfl) (by kernel_rfl) (fun _ _ _ h => h) (Or.inl ⟨by rfl, ?_⟩) (by assumption) ?_; rotate_left; (focus (intro w hSw; (try dsimp only at hSw); go_simp; first | done | with_reducible rfl)); (try simp only [Act.put, List.getElem_toArray, List.getElem_cons_succ, List.getElem_cons_zero, List.setIfInBounds_toArray, List.set_cons_zero, List.set_cons_succ]))
                (refine wpAnyH_take (i := 21) (v := ?_) rfl (by kernel_rfl) (by kernel_rfl) (by kernel_rfl) (fun _ _ _ h => h) (Or.inl ⟨by rfl, ?_⟩) (by assumption) ?_; rotate_left; (focus (intro w hSw; (try dsimp only at hSw); go_simp; first | done | with_reducible rfl)); (try simp only [Act.put, List.getElem_toArray, List.getElem_cons_succ, List.getElem_cons_zero, List.setIfInBounds_toArray, List.set_cons_zero, List.set_cons_succ]))
                (refine wpAnyH_take (i := 22) (v := ?_) rfl (by kernel_rfl) (by kernel_rfl) (by kernel_rfl) (fun _ _ _ h => h) (Or.inl ⟨by rfl, ?_⟩) (by assumption) ?_; rotate_left; (focus (intro w hSw; (try dsimp only at hSw); go_simp; first | done | with_reducible rfl)); (try simp only [Act.put, List.getElem_toArray, List.getElem_cons_succ, List.getElem_cons_zero, List.setIfInBounds_toArray, List.set_cons_zero, List.set_cons_succ]))
                refine wpAnyH_ready (rs := [23]) (by kernel_rfl) (by simp) ?_
                refine AllReadyH.cons rfl (fun K hK => ?_) AllReadyH.nil
                go_simp
                skip
                refine hK.out _ _ (⟨HBM.out, kept HBM.out qR19_0, kept HBM.out qR19_1⟩) (fun hHeld => ?_)
                clear hK K
                (try simp only [Act.put, List.getElem_toArray, List.getElem_cons_succ, List.getElem_cons_zero, List.setIfInBounds_toArray, List.set_cons_zero, List.set_cons_succ])
                (refine wpAnyH_take (i := 24) (v := ?_) rfl (by kernel_rfl) (by kernel_rfl) (by kernel_rfl) (fun _ _ _ h => h) (Or.inl ⟨by rfl, ?_⟩) (by assumption) ?_; rotate_left; (focus (intro w hSw; (try dsimp only at hSw); go_simp; first | done | with_reducible rfl)); (try simp only [Act.put, List.getElem_toArray, List.getElem_cons_succ, List.getElem_cons_zero, List.setIfInBounds_toArray, List.set_cons_zero, List.set_cons_succ]))
                refine wpAnyH_ready (rs := [25]) (by kernel_rfl) (by simp) ?_
                refine AllReadyH.cons rfl (fun K hK => ?_) AllReadyH.nil
                go_simp
                (refine QSM.out.mono ?_; rintro e wp ⟨rfl, hb⟩)
                refine hK.out _ _ (HS.out _ _ hHeld hb) (fun hHeld => ?_)
                clear hK K
                (try simp only [Act.put, List.getElem_toArray, List.getElem_cons_succ, List.getElem_cons_zero, List.setIfInBounds_toArray, List.set_cons_zero, List.set_cons_succ])
                (refine wpAnyH_take (i := 26) (v := ?_) rfl (by kernel_rfl) (by kernel_rfl) (by kernel_rfl) (fun _ _ _ h => h) (Or.inl ⟨by rfl, ?_⟩) (by assumption) ?_; rotate_left; (focus (intro w hSw; (try dsimp only at hSw); go_simp; first | done | with_reducible rfl)); (try simp only [Act.put, List.getElem_toArray, List.getElem_cons_succ, List.getElem_cons_zero, List.setIfInBounds_toArray, List.set_cons_zero, List.set_cons_succ]))
                (refine wpAnyH_take (i := 27) (v := ?_) rfl (by kernel_rfl) (by kernel_rfl) (by kernel_rfl) (fun _ _ _ h => h) (Or.inl ⟨by rfl, ?_⟩) (by assumption) ?_; rotate_left; (focus (intro w hSw; (try dsimp only at hSw); go_simp; first | done | with_reducible rfl)); (try simp only [Act.put, List.getElem_toArray, List.getElem_cons_succ, List.getElem_cons_zero, List.setIfInBounds_toArray, List.set_cons_zero, List.set_cons_succ]))
                (refine wpAnyH_take (i := 28) (v := ?_) rfl (by kernel_rfl) (by kernel_rfl) (by kernel_rfl) (fun _ _ _ h => h) (Or.inl ⟨by rfl, ?_⟩) (by assumption) ?_; rotate_left; (focus (intro w hSw; (try dsimp only at hSw); go_simp; first | done | with_reducible rfl)); (try simp only [Act.put, List.getElem_toArray, List.getElem_cons_succ, List.getElem_cons_zero, List.setIfInBounds_toArray, List.set_cons_zero, List.set_cons_succ]))
                refine wpAnyH_done (by kernel_rfl) ?_ _
                have hbd := And.left hHeld
                clear qR19_0 qR19_1 lR19 HS
                replace O7 := hide ((O7.out.below hbd).more hbd.size)
                replace O19 := hide ((O19.out.below hbd).more hbd.size)
                replace R1 := hide (R1.out.below hbd)
                replace R7 := hide (R7.out.below hbd)
                replace R19 := hide (R19.out.below hbd)
                replace HB := hide (HB.out.trans (hbd.mono HB.out.size))
                replace HBQ := hide (HBQ.out.trans (hbd.mono HBQ.out.size))
                go_wp2_with fail
                go_roundw
                case rel => exact ⟨j + 1, by omega, by omega, by go_num, (HBr.out.trans ((HBQ.out).mono HBr.out.size))⟩
                case measure => simp [intOf]; omega
              · skip
                obtain ⟨v, hv⟩ : ∃ v : Int, gm = v + 1 := ⟨gm - 1, by omega⟩
                have hmay' : ¬ (1 ≤ v ∧ v ≤ 8) := by omega
                subst hv
                have hvl : -1 ≤ v := by omega
                have hvh : v ≤ 10 := by omega
                clear hmay
                have hzu := HZU.out
                go_wp2_with fail
                clear hzu hgm
                with_reducible refine (new_no v _ hmay').mono ?_
                rintro e w503 ⟨rfl, hb⟩
                replace O7 := hide ((O7.out.below hb).more hb.size)
                replace R1 := hide (R1.out.below hb)
                replace R7 := hide (R7.out.below hb)
                replace HB := hide (HB.out.trans (hb.mono HB.out.size))
                replace HBQ := hide (HBQ.out.trans (hb.mono HBQ.out.size))
                clear hb
                by_cases hv1 : 1 ≤ v
                · skip
                  have hv8 : ¬ v ≤ 8 := by omega
                  have hv8d : decide (v ≤ 8) = false := by simp; omega
                  go_wp2_with fail
                  obtain ⟨g19, hg19⟩ : ∃ g, w503.heap.size = g := ⟨_, rfl⟩
                  have hWg19 : W.heap.size ≤ g19 := by rw [← hg19]; exact HB.out.size
                  have hbx : Below w503.heap.size w503 (w503.alloc (.cells #[.int .u64 0, .slice none 0 0] 25)) := (Below.refl _ _).alloc (Nat.le_refl _) _
                  have hrx := RowAt.new w503 25 #[.int .u64 0, .slice none 0 0]
                  rw [hg19] at hrx
                  replace O7 := hide ((O7.out.below hbx).more hbx.size)
                  replace R1 := hide (R1.out.below hbx)
                  replace R7 := hide (R7.out.below hbx)
                  replace HB := hide (HB.out.trans (hbx.mono HB.out.size))
                  replace HBQ := hide (HBQ.out.trans (hbx.mono HBQ.out.size))
                  have hs504 : (w503.alloc (.cells #[.int .u64 0, .slice none 0 0] 25)).heap.size = g19 + 1 := by rw [World.size_alloc, hg19]
                  have R19 := hide hrx
                  clear hbx hrx
                  generalize w503.alloc (.cells #[.int .u64 0, .slice none 0 0] 25) = w505 at *
                  (try rw [hg19])
                  clear hg19 hs504
                  have qR19_0 := row20 R19.out
                  have qR19_1 := row21 R19.out
                  have lR19 := R19.out.lt
                  have HS : Hid (∀ w w', (Below w505.heap.size w505 w ∧ w.cell? ⟨g19, 0, none⟩ = some (.int .u64 0) ∧ w.cell? ⟨g19, 1, none⟩ = some (.slice none 0 0)) → Below w.heap.size w w' → (Below w505.heap.size w505 w' ∧ w'.cell? ⟨g19, 0, none⟩ = some (.int .u64 0) ∧ w'.cell? ⟨g19, 1, none⟩ = some (.slice none 0 0))) := hide (fun w w' h hb => ⟨h.1.trans (hb.mono h.1.size), kept hb h.2.1, kept hb h.2.2⟩)
                  go_wp2_with fail
                  have hbd0 : Below w505.heap.size w505 w505.drew := (Below.refl _ _).drew
                  refine wp_region_held_drew (S := fun wX => Below w505.heap.size w505 wX ∧ wX.cell? ⟨g19, 0, none⟩ = some (.int .u64 0) ∧ wX.cell? ⟨g19, 1, none⟩ = some (.slice none 0 0)) (by kernel_rfl) (⟨hbd0, qR19_0, qR19_1⟩) (fun hHeld => ?_)
                  (refine wpAnyH_take (i := 0) (v := ?_) rfl (by kernel_rfl) (by kernel_rfl) (by kernel_rfl) (fun _ _ _ h => h) (Or.inl ⟨by rfl, ?_⟩) (by assumption) ?_; rotate_left; (focus (intro w hSw; (try dsimp only at hSw); go_simp; first | done | with_reducible rfl)); (try simp only [Act.put, List.getElem_toArray, List.getElem_cons_succ, List.getElem_cons_zero, List.setIfInBounds_toArray, List.set_cons_zero, List.set_cons_succ]))
                  (refine wpAnyH_take (i := 1) (v := ?_) rfl (by kernel_rfl) (by kernel_rfl) (by kernel_rfl) (fun _ _ _ h => h) (Or.inl ⟨by rfl, ?_⟩) (by assumption) ?_; rotate_left; (focus (intro w hSw; (try dsimp only at hSw); go_simp; first | done | with_reducible rfl)); (try simp only [Act.put, List.getElem_toArray, List.getElem_cons_succ, List.getElem_cons_zero, List.setIfInBounds_toArray, List.set_cons_zero, List.set_cons_succ]))
                  (refine wpAnyH_take (i := 2) (v := ?_) rfl (by kernel_rfl) (by kernel_rfl) (by kernel_rfl) (fun _ _ _ h => h) (Or.inl ⟨by rfl, ?_⟩) (by assumption) ?_; rotate_left; (focus (intro w hSw; (try dsimp only at hSw); go_simp; first | done | with_reducible rfl)); (try simp only [Act.put, List.getElem_toArray, List.getElem_cons_succ, List.getElem_cons_zero, List.setIfInBounds_toArray, List.set_cons_zero, List.set_cons_succ]))
                  (refine wpAnyH_take (i := 3) (v := ?_) rfl (by kernel_rfl) (by kernel_rfl) (by kernel_rfl) (fun _ _ _ h => h) (Or.inl ⟨by rfl, ?_⟩) (by assumption) ?_; rotate_left; (focus (intro w hSw; (try dsimp only at hSw); go_simp; first | done | with_reducible rfl)); (try simp only [Act.put, List.getElem_toArray, List.getElem_cons_succ, List.getElem_cons_zero, List.setIfInBounds_toArray, List.set_cons_zero, List.set_cons_succ]))
                  (refine wpAnyH_take (i := 4) (v := ?_) rfl (by kernel_rfl) (by kernel_rfl) (by kernel_rfl) (fun _ _ _ h => h) (Or.inl ⟨by rfl, ?_⟩) (by assumption) ?_; rotate_left; (focus (intro w hSw; (try dsimp only at hSw); go_simp; first | done | with_reducible rfl)); (try simp only [Act.put, List.getElem_toArray, List.getElem_cons_succ, List.getElem_cons_zero, List.setIfInBounds_toArray, List.set_cons_zero, List.set_cons_succ]))
                  (refine wpAnyH_take (i := 5) (v := ?_) rfl (by kernel_rfl) (by kernel_rfl) (by kernel_rfl) (fun _ _ _ h => h) (Or.inl ⟨by rfl, ?_⟩) (by assumption) ?_; rotate_left; (focus (intro w hSw; (try dsimp only at hSw); go_simp; first | done | with_reducible rfl)); (try simp only [Act.put, List.getElem_toArray, List.getElem_cons_succ, List.getElem_cons_zero, List.setIfInBounds_toArray, List.set_cons_zero, List.set_cons_succ]))
                  (refine wpAnyH_take (i := 6) (v := ?_) rfl (by kernel_rfl) (by kernel_rfl) (by kernel_rfl) (fun _ _ _ h => h) (Or.inl ⟨by rfl, ?_⟩) (by assumption) ?_; rotate_left; (focus (intro w hSw; (try dsimp only at hSw); go_simp; first | done | with_reducible rfl)); (try simp only [Act.put, List.getElem_toArray, List.getElem_cons_succ, List.getElem_cons_zero, List.setIfInBounds_toArray, List.set_cons_zero, List.set_cons_succ]))
                  (refine wpAnyH_take (i := 7) (v := ?_) rfl (by kernel_rfl) (by kernel_rfl) (by kernel_rfl) (fun _ _ _ h => h) (Or.inl ⟨by rfl, ?_⟩) (by assumption) ?_; rotate_left; (focus (intro w hSw; (try dsimp only at hSw); go_simp; first | done | with_reducible rfl)); (try simp only [Act.put, List.getElem_toArray, List.getElem_cons_succ, List.getElem_cons_zero, List.setIfInBounds_toArray, List.set_cons_zero, List.set_cons_succ]))
                  (refine wpAnyH_take (i := 8) (v := ?_) rfl (by kernel_rfl) (by kernel_rfl) (by kernel_rfl) (fun _ _ _ h => h) (Or.inl ⟨by rfl, ?_⟩) (by assumption) ?_; rotate_left; (focus (intro w hSw; (try dsimp only at hSw); go_simp; first | done | with_reducible rfl)); (try simp only [Act.put, List.getElem_toArray, List.getElem_cons_succ, List.getElem_cons_zero, List.setIfInBounds_toArray, List.set_cons_zero, List.set_cons_succ]))
                  (refine wpAnyH_take (i := 9) (v := ?_) rfl (by kernel_rfl) (by kernel_rfl) (by kernel_rfl) (fun _ _ _ h => h) (Or.inl ⟨by rfl, ?_⟩) (by assumption) ?_; rotate_left; (focus (intro w hSw; (try dsimp only at hSw); go_simp; first | done | with_reducible rfl)); (try simp only [Act.put, List.getElem_toArray, List.getElem_cons_succ, List.getElem_cons_zero, List.setIfInBounds_toArray, List.set_cons_zero, List.set_cons_succ]))
                  (refine wpAnyH_take (i := 10) (v := ?_) rfl (by kernel_rfl) (by kernel_rfl) (by kernel_rfl) (fun _ _ _ h => h) (Or.inl ⟨by rfl, ?_⟩) (by assumption) ?_; rotate_left; (focus (intro w hSw; (try dsimp only at hSw); go_simp; first | done | with_reducible rfl)); (try simp only [Act.put, List.getElem_toArray, List.getElem_cons_succ, List.getElem_cons_zero, List.setIfInBounds_toArray, List.set_cons_zero, List.set_cons_succ]))
                  (refine wpAnyH_take (i := 11) (v := ?_) rfl (by kernel_rfl) (by kernel_rfl) (by kernel_rfl) (fun _ _ _ h => h) (Or.inl ⟨by rfl, ?_⟩) (by assumption) ?_; rotate_left; (focus (intro w hSw; (try dsimp only at hSw); go_simp; first | done | with_reducible rfl)); (try simp only [Act.put, List.getElem_toArray, List.getElem_cons_succ, List.getElem_cons_zero, List.setIfInBounds_toArray, List.set_cons_zero, List.set_cons_succ]))
                  (refine wpAnyH_take (i := 12) (v := ?_) rfl (by kernel_rfl) (by kernel_rfl) (by kernel_rfl) (fun _ _ _ h => h) (Or.inl ⟨by rfl, ?_⟩) (by assumption) ?_; rotate_left; (focus (intro w hSw; (try dsimp only at hSw); go_simp; first | done | with_reducible rfl)); (try simp only [Act.put, List.getElem_toArray, List.getElem_cons_succ, List.getElem_cons_zero, List.setIfInBounds_toArray, List.set_cons_zero, List.set_cons_succ]))
                  (refine wpAnyH_take (i := 13) (v := ?_) rfl (by kernel_rfl) (by kernel_rfl) (by kernel_rfl) (fun _ _ _ h => h) (Or.inl ⟨by rfl, ?_⟩) (by assumption) ?_; rotate_left; (focus (intro w hSw; (try dsimp only at hSw); go_simp; first | done | with_reducible rfl)); (try simp only [Act.put, List.getElem_toArray, List.getElem_cons_succ, List.getElem_cons_zero, List.setIfInBounds_toArray, List.set_cons_zero, List.set_cons_succ]))
                  (refine wpAnyH_take (i := 14) (v := ?_) rfl (by kernel_rfl) (by kernel_rfl) (by kernel_rfl) (fun _ _ _ h => h) (Or.inl ⟨by rfl, ?_⟩) (by assumption) ?_; rotate_left; (focus (intro w hSw; (try dsimp only at hSw); go_simp; first | done | with_reducible rfl)); (try simp only [Act.put, List.getElem_toArray, List.getElem_cons_succ, List.getElem_cons_zero, List.setIfInBounds_toArray, List.set_cons_zero, List.set_cons_succ]))
                  (refine wpAnyH_take (i := 15) (v := ?_) rfl (by kernel_rfl) (by kernel_rfl) (by kernel_rfl) (fun _ _ _ h => h) (Or.inl ⟨by rfl, ?_⟩) (by assumption) ?_; rotate_left; (focus (intro w hSw; (try dsimp only at hSw); go_simp; first | done | with_reducible rfl)); (try simp only [Act.put, List.getElem_toArray, List.getElem_cons_succ, List.getElem_cons_zero, List.setIfInBounds_toArray, List.set_cons_zero, List.set_cons_succ]))
                  (refine wpAnyH_take (i := 16) (v := ?_) rfl (by kernel_rfl) (by kernel_rfl) (by kernel_rfl) (fun _ _ _ h => h) (Or.inl ⟨by rfl, ?_⟩) (by assumption) ?_; rotate_left; (focus (intro w hSw; (try dsimp only at hSw); go_simp; first | done | with_reducible rfl)); (try simp only [Act.put, List.getElem_toArray, List.getElem_cons_succ, List.getElem_cons_zero, List.setIfInBounds_toArray, List.set_cons_zero, List.set_cons_succ]))
                  (refine wpAnyH_take (i := 17) (v := ?_) rfl (by kernel_rfl) (by kernel_rfl) (by kernel_rfl) (fun _ _ _ h => h) (Or.inl ⟨by rfl, ?_⟩) (by assumption) ?_; rotate_left; (focus (intro w hSw; (try dsimp only at hSw); go_simp; first | done | with_reducible rfl)); (try simp only [Act.put, List.getElem_toArray, List.getElem_cons_succ, List.getElem_cons_zero, List.setIfInBounds_toArray, List.set_cons_zero, List.set_cons_succ]))
                  (refine wpAnyH_take (i := 18) (v := ?_) rfl (by kernel_rfl) (by kernel_rfl) (by kernel_rfl) (fun _ _ _ h => h) (Or.inl ⟨by rfl, ?_⟩) (by assumption) ?_; rotate_left; (focus (intro w hSw; (try dsimp only at hSw); go_simp; first | done | with_reducible rfl)); (try simp only [Act.put, List.getElem_toArray, List.getElem_cons_succ, List.getElem_cons_zero, List.setIfInBounds_toArray, List.set_cons_zero, List.set_cons_succ]))
                  (refine wpAnyH_take (i := 19) (v := ?_) rfl (by kernel_rfl) (by kernel_rfl) (by kernel_rfl) (fun _ _ _ h => h) (Or.inl ⟨by rfl, ?_⟩) (by assumption) ?_; rotate_left; (focus (intro w hSw; (try dsimp only at hSw); go_simp; first | done | with_reducible rfl)); (try simp only [Act.put, List.getElem_toArray, List.getElem_cons_succ, List.getElem_cons_zero, List.setIfInBounds_toArray, List.set_cons_zero, List.set_cons_succ]))
                  (refine wpAnyH_take (i := 20) (v := ?_) rfl (by kernel_rfl) (by kernel_rfl) (by kernel_rfl) (fun _ _ _ h => h) (Or.inl ⟨by rfl, ?_⟩) (by assumption) ?_; rotate_left; (focus (intro w hSw; (try dsimp only at hSw); go_simp; first | done | with_reducible rfl)); (try simp only [Act.put, List.getElem_toArray, List.getElem_cons_succ, List.getElem_cons_zero, List.setIfInBounds_toArray, List.set_cons_zero, List.set_cons_succ]))
                  (refine wpAnyH_take (i := 21) (v := undef) rfl (by kernel_rfl) (by kernel_rfl) (by kernel_rfl) (fun _ _ _ h => h) (Or.inr ⟨by rfl, rfl⟩) (by assumption) ?_; (try simp only [Act.put, List.getElem_toArray, List.getElem_cons_succ, List.getElem_cons_zero, List.setIfInBounds_toArray, List.set_cons_zero, List.set_cons_succ]))
                  (refine wpAnyH_take (i := 22) (v := undef) rfl (by kernel_rfl) (by kernel_rfl) (by kernel_rfl) (fun _ _ _ h => h) (Or.inr ⟨by rfl, rfl⟩) (by assumption) ?_; (try simp only [Act.put, List.getElem_toArray, List.getElem_cons_succ, List.getElem_cons_zero, List.setIfInBounds_toArray, List.set_cons_zero, List.set_cons_succ]))
                  (refine wpAnyH_take (i := 23) (v := undef) rfl (by kernel_rfl) (by kernel_rfl) (by kernel_rfl) (fun _ _ _ h => h) (Or.inr ⟨by rfl, rfl⟩) (by assumption) ?_; (try simp only [Act.put, List.getElem_toArray, List.getElem_cons_succ, List.getElem_cons_zero, List.setIfInBounds_toArray, List.set_cons_zero, List.set_cons_succ]))
                  (refine wpAnyH_take (i := 24) (v := undef) rfl (by kernel_rfl) (by kernel_rfl) (by kernel_rfl) (fun _ _ _ h => h) (Or.inr ⟨by rfl, rfl⟩) (by assumption) ?_; (try simp only [Act.put, List.getElem_toArray, List.getElem_cons_succ, List.getElem_cons_zero, List.setIfInBounds_toArray, List.set_cons_zero, List.set_cons_succ]))
                  (refine wpAnyH_take (i := 25) (v := undef) rfl (by kernel_rfl) (by kernel_rfl) (by kernel_rfl) (fun _ _ _ h => h) (Or.inr ⟨by rfl, rfl⟩) (by assumption) ?_; (try simp only [Act.put, List.getElem_toArray, List.getElem_cons_succ, List.getElem_cons_zero, List.setIfInBounds_toArray, List.set_cons_zero, List.set_cons_succ]))
                  (refine wpAnyH_take (i := 26) (v := undef) rfl (by kernel_rfl) (by kernel_rfl) (by kernel_rfl) (fun _ _ _ h => h) (Or.inr ⟨by rfl, rfl⟩) (by assumption) ?_; (try simp only [Act.put, List.getElem_toArray, List.getElem_cons_succ, List.getElem_cons_zero, List.setIfInBounds_toArray, List.set_cons_zero, List.set_cons_succ]))
                  (refine wpAnyH_take (i := 27) (v := ?_) rfl (by kernel_rfl) (by kernel_rfl) (by kernel_rfl) (fun _ _ _ h => h) (Or.inl ⟨by rfl, ?_⟩) (by assumption) ?_; rotate_left; (focus (intro w hSw; (try dsimp only at hSw); go_simp; first | done | with_reducible rfl)); (try simp only [Act.put, List.getElem_toArray, List.getElem_cons_succ, List.getElem_cons_zero, List.setIfInBounds_toArray, List.set_cons_zero, List.set_cons_succ]))
                  (refine wpAnyH_take (i := 28) (v := ?_) rfl (by kernel_rfl) (by kernel_rfl) (by kernel_rfl) (fun _ _ _ h => h) (Or.inl ⟨by rfl, ?_⟩) (by assumption) ?_; rotate_left; (focus (intro w hSw; (try dsimp only at hSw); go_simp; first | done | with_reducible rfl)); (try simp only [Act.put, List.getElem_toArray, List.getElem_cons_succ, List.getElem_cons_zero, List.setIfInBounds_toArray, List.set_cons_zero, List.set_cons_succ]))
                  refine wpAnyH_done (by kernel_rfl) ?_ _
                  have hbd := And.left hHeld
                  clear qR19_0 qR19_1 lR19 HS
                  replace O7 := hide ((O7.out.below hbd).more hbd.size)
                  replace R1 := hide (R1.out.below hbd)
                  replace R7 := hide (R7.out.below hbd)
                  replace R19 := hide (R19.out.below hbd)
                  replace HB := hide (HB.out.trans (hbd.mono HB.out.size))
                  replace HBQ := hide (HBQ.out.trans (hbd.mono HBQ.out.size))
                  go_wp2_with fail
                  go_roundw
                  case rel => exact ⟨j + 1, by omega, by omega, by go_num, (HBr.out.trans ((HBQ.out).mono HBr.out.size))⟩
                  case measure => simp [intOf]; omega
                · skip
                  have hv1d : decide (1 ≤ v) = false := by simp; omega
                  go_wp2_with fail
                  obtain ⟨g19, hg19⟩ : ∃ g, w503.heap.size = g := ⟨_, rfl⟩
                  have hWg19 : W.heap.size ≤ g19 := by rw [← hg19]; exact HB.out.size
                  have hbx : Below w503.heap.size w503 (w503.alloc (.cells #[.int .u64 0, .slice none 0 0] 25)) := (Below.refl _ _).alloc (Nat.le_refl _) _
                  have hrx := RowAt.new w503 25 #[.int .u64 0, .slice none 0 0]
                  rw [hg19] at hrx
                  replace O7 := hide ((O7.out.below hbx).more hbx.size)
                  replace R1 := hide (R1.out.below hbx)
                  replace R7 := hide (R7.out.below hbx)
                  replace HB := hide (HB.out.trans (hbx.mono HB.out.size))
                  replace HBQ := hide (HBQ.out.trans (hbx.mono HBQ.out.size))
                  have hs504 : (w503.alloc (.cells #[.int .u64 0, .slice none 0 0] 25)).heap.size = g19 + 1 := by rw [World.size_alloc, hg19]
                  have R19 := hide hrx
                  clear hbx hrx
                  generalize w503.alloc (.cells #[.int .u64 0, .slice none 0 0] 25) = w505 at *
                  (try rw [hg19])
                  clear hg19 hs504
                  have qR19_0 := row20 R19.out
                  have qR19_1 := row21 R19.out
                  have lR19 := R19.out.lt
                  have HS : Hid (∀ w w', (Below w505.heap.size w505 w ∧ w.cell? ⟨g19, 0, none⟩ = some (.int .u64 0) ∧ w.cell? ⟨g19, 1, none⟩ = some (.slice none 0 0)) → Below w.heap.size w w' → (Below w505.heap.size w505 w' ∧ w'.cell? ⟨g19, 0, none⟩ = some (.int .u64 0) ∧ w'.cell? ⟨g19, 1, none⟩ = some (.slice none 0 0))) := hide (fun w w' h hb => ⟨h.1.trans (hb.mono h.1.size), kept hb h.2.1, kept hb h.2.2⟩)
                  go_wp2_with fail
                  have hbd0 : Below w505.heap.size w505 w505.drew := (Below.refl _ _).drew
                  refine wp_region_held_drew (S := fun wX => Below w505.heap.size w505 wX ∧ wX.cell? ⟨g19, 0, none⟩ = some (.int .u64 0) ∧ wX.cell? ⟨g19, 1, none⟩ = some (.slice none 0 0)) (by kernel_rfl) (⟨hbd0, qR19_0, qR19_1⟩) (fun hHeld => ?_)
                  (refine wpAnyH_take (i := 0) (v := ?_) rfl (by kernel_rfl) (by kernel_rfl) (by kernel_rfl) (fun _ _ _ h => h) (Or.inl ⟨by rfl, ?_⟩) (by assumption) ?_; rotate_left; (focus (intro w hSw; (try dsimp only at hSw); go_simp; first | done | with_reducible rfl)); (try simp only [Act.put, List.getElem_toArray, List.getElem_cons_succ, List.getElem_cons_zero, List.setIfInBounds_toArray, List.set_cons_zero, List.set_cons_succ]))
                  (refine wpAnyH_take (i := 1) (v := ?_) rfl (by kernel_rfl) (by kernel_rfl) (by kernel_rfl) (fun _ _ _ h => h) (Or.inl ⟨by rfl, ?_⟩) (by assumption) ?_; rotate_left; (focus (intro w hSw; (try dsimp only at hSw); go_simp; first | done | with_reducible rfl)); (try simp only [Act.put, List.getElem_toArray, List.getElem_cons_succ, List.getElem_cons_zero, List.setIfInBounds_toArray, List.set_cons_zero, List.set_cons_succ]))
                  (refine wpAnyH_take (i := 2) (v := ?_) rfl (by kernel_rfl) (by kernel_rfl) (by kernel_rfl) (fun _ _ _ h => h) (Or.inl ⟨by rfl, ?_⟩) (by assumption) ?_; rotate_left; (focus (intro w hSw; (try dsimp only at hSw); go_simp; first | done | with_reducible rfl)); (try simp only [Act.put, List.getElem_toArray, List.getElem_cons_succ, List.getElem_cons_zero, List.setIfInBounds_toArray, List.set_cons_zero, List.set_cons_succ]))
                  (refine wpAnyH_take (i := 3) (v := ?_) rfl (by kernel_rfl) (by kernel_rfl) (by kernel_rfl) (fun _ _ _ h => h) (Or.inl ⟨by rfl, ?_⟩) (by assumption) ?_; rotate_left; (focus (intro w hSw; (try dsimp only at hSw); go_simp; first | done | with_reducible rfl)); (try simp only [Act.put, List.getElem_toArray, List.getElem_cons_succ, List.getElem_cons_zero, List.setIfInBounds_toArray, List.set_cons_zero, List.set_cons_succ]))
                  (refine wpAnyH_take (i := 4) (v := ?_) rfl (by kernel_rfl) (by kernel_rfl) (by kernel_rfl) (fun _ _ _ h => h) (Or.inl ⟨by rfl, ?_⟩) (by assumption) ?_; rotate_left; (focus (intro w hSw; (try dsimp only at hSw); go_simp; first | done | with_reducible rfl)); (try simp only [Act.put, List.getElem_toArray, List.getElem_cons_succ, List.getElem_cons_zero, List.setIfInBounds_toArray, List.set_cons_zero, List.set_cons_succ]))
                  (refine wpAnyH_take (i := 5) (v := ?_) rfl (by kernel_rfl) (by kernel_rfl) (by kernel_rfl) (fun _ _ _ h => h) (Or.inl ⟨by rfl, ?_⟩) (by assumption) ?_; rotate_left; (focus (intro w hSw; (try dsimp only at hSw); go_simp; first | done | with_reducible rfl)); (try simp only [Act.put, List.getElem_toArray, List.getElem_cons_succ, List.getElem_cons_zero, List.setIfInBounds_toArray, List.set_cons_zero, List.set_cons_succ]))
                  (refine wpAnyH_take (i := 6) (v := ?_) rfl (by kernel_rfl) (by kernel_rfl) (by kernel_rfl) (fun _ _ _ h => h) (Or.inl ⟨by rfl, ?_⟩) (by assumption) ?_; rotate_left; (focus (intro w hSw; (try dsimp only at hSw); go_simp; first | done | with_reducible rfl)); (try simp only [Act.put, List.getElem_toArray, List.getElem_cons_succ, List.getElem_cons_zero, List.setIfInBounds_toArray, List.set_cons_zero, List.set_cons_succ]))
                  (refine wpAnyH_take (i := 7) (v := ?_) rfl (by kernel_rfl) (by kernel_rfl) (by kernel_rfl) (fun _ _ _ h => h) (Or.inl ⟨by rfl, ?_⟩) (by assumption) ?_; rotate_left; (focus (intro w hSw; (try dsimp only at hSw); go_simp; first | done | with_reducible rfl)); (try simp only [Act.put, List.getElem_toArray, List.getElem_cons_succ, List.getElem_cons_zero, List.setIfInBounds_toArray, List.set_cons_zero, List.set_cons_succ]))
                  (refine wpAnyH_take (i := 8) (v := ?_) rfl (by kernel_rfl) (by kernel_rfl) (by kernel_rfl) (fun _ _ _ h => h) (Or.inl ⟨by rfl, ?_⟩) (by assumption) ?_; rotate_left; (focus (intro w hSw; (try dsimp only at hSw); go_simp; first | done | with_reducible rfl)); (try simp only [Act.put, List.getElem_toArray, List.getElem_cons_succ, List.getElem_cons_zero, List.setIfInBounds_toArray, List.set_cons_zero, List.set_cons_succ]))
                  (refine wpAnyH_take (i := 9) (v := ?_) rfl (by kernel_rfl) (by kernel_rfl) (by kernel_rfl) (fun _ _ _ h => h) (Or.inl ⟨by rfl, ?_⟩) (by assumption) ?_; rotate_left; (focus (intro w hSw; (try dsimp only at hSw); go_simp; first | done | with_reducible rfl)); (try simp only [Act.put, List.getElem_toArray, List.getElem_cons_succ, List.getElem_cons_zero, List.setIfInBounds_toArray, List.set_cons_zero, List.set_cons_succ]))
                  (refine wpAnyH_take (i := 10) (v := ?_) rfl (by kernel_rfl) (by kernel_rfl) (by kernel_rfl) (fun _ _ _ h => h) (Or.inl ⟨by rfl, ?_⟩) (by assumption) ?_; rotate_left; (focus (intro w hSw; (try dsimp only at hSw); go_simp; first | done | with_reducible rfl)); (try simp only [Act.put, List.getElem_toArray, List.getElem_cons_succ, List.getElem_cons_zero, List.setIfInBounds_toArray, List.set_cons_zero, List.set_cons_succ]))
                  (refine wpAnyH_take (i := 11) (v := ?_) rfl (by kernel_rfl) (by kernel_rfl) (by kernel_rfl) (fun _ _ _ h => h) (Or.inl ⟨by rfl, ?_⟩) (by assumption) ?_; rotate_left; (focus (intro w hSw; (try dsimp only at hSw); go_simp; first | done | with_reducible rfl)); (try simp only [Act.put, List.getElem_toArray, List.getElem_cons_succ, List.getElem_cons_zero, List.setIfInBounds_toArray, List.set_cons_zero, List.set_cons_succ]))
                  (refine wpAnyH_take (i := 12) (v := ?_) rfl (by kernel_rfl) (by kernel_rfl) (by kernel_rfl) (fun _ _ _ h => h) (Or.inl ⟨by rfl, ?_⟩) (by assumption) ?_; rotate_left; (focus (intro w hSw; (try dsimp only at hSw); go_simp; first | done | with_reducible rfl)); (try simp only [Act.put, List.getElem_toArray, List.getElem_cons_succ, List.getElem_cons_zero, List.setIfInBounds_toArray, List.set_cons_zero, List.set_cons_succ]))
                  (refine wpAnyH_take (i := 13) (v := ?_) rfl (by kernel_rfl) (by kernel_rfl) (by kernel_rfl) (fun _ _ _ h => h) (Or.inl ⟨by rfl, ?_⟩) (by assumption) ?_; rotate_left; (focus (intro w hSw; (try dsimp only at hSw); go_simp; first | done | with_reducible rfl)); (try simp only [Act.put, List.getElem_toArray, List.getElem_cons_succ, List.getElem_cons_zero, List.setIfInBounds_toArray, List.set_cons_zero, List.set_cons_succ]))
                  (refine wpAnyH_take (i := 14) (v := ?_) rfl (by kernel_rfl) (by kernel_rfl) (by kernel_rfl) (fun _ _ _ h => h) (Or.inl ⟨by rfl, ?_⟩) (by assumption) ?_; rotate_left; (focus (intro w hSw; (try dsimp only at hSw); go_simp; first | done | with_reducible rfl)); (try simp only [Act.put, List.getElem_toArray, List.getElem_cons_succ, List.getElem_cons_zero, List.setIfInBounds_toArray, List.set_cons_zero, List.set_cons_succ]))
                  (refine wpAnyH_take (i := 15) (v := ?_) rfl (by kernel_rfl) (by kernel_rfl) (by kernel_rfl) (fun _ _ _ h => h) (Or.inl ⟨by rfl, ?_⟩) (by assumption) ?_; rotate_left; (focus (intro w hSw; (try dsimp only at hSw); go_simp; first | done | with_reducible rfl)); (try simp only [Act.put, List.getElem_toArray, List.getElem_cons_succ, List.getElem_cons_zero, List.setIfInBounds_toArray, List.set_cons_zero, List.set_cons_succ]))
                  (refine wpAnyH_take (i := 16) (v := ?_) rfl (by kernel_rfl) (by kernel_rfl) (by kernel_rfl) (fun _ _ _ h => h) (Or.inl ⟨by rfl, ?_⟩) (by assumption) ?_; rotate_left; (focus (intro w hSw; (try dsimp only at hSw); go_simp; first | done | with_reducible rfl)); (try simp only [Act.put, List.getElem_toArray, List.getElem_cons_succ, List.getElem_cons_zero, List.setIfInBounds_toArray, List.set_cons_zero, List.set_cons_succ]))
                  (refine wpAnyH_take (i := 17) (v := ?_) rfl (by kernel_rfl) (by kernel_rfl) (by kernel_rfl) (fun _ _ _ h => h) (Or.inl ⟨by rfl, ?_⟩) (by assumption) ?_; rotate_left; (focus (intro w hSw; (try dsimp only at hSw); go_simp; first | done | with_reducible rfl)); (try simp only [Act.put, List.getElem_toArray, List.getElem_cons_succ, List.getElem_cons_zero, List.setIfInBounds_toArray, List.set_cons_zero, List.set_cons_succ]))
                  (refine wpAnyH_take (i := 18) (v := ?_) rfl (by kernel_rfl) (by kernel_rfl) (by kernel_rfl) (fun _ _ _ h => h) (Or.inl ⟨by rfl, ?_⟩) (by assumption) ?_; rotate_left; (focus (intro w hSw; (try dsimp only at hSw); go_simp; first | done | with_reducible rfl)); (try simp only [Act.put, List.getElem_toArray, List.getElem_cons_succ, List.getElem_cons_zero, List.setIfInBounds_toArray, List.set_cons_zero, List.set_cons_succ]))
                  (refine wpAnyH_take (i := 19) (v := ?_) rfl (by kernel_rfl) (by kernel_rfl) (by kernel_rfl) (fun _ _ _ h => h) (Or.inl ⟨by rfl, ?_⟩) (by assumption) ?_; rotate_left; (focus (intro w hSw; (try dsimp only at hSw); go_simp; first | done | with_reducible rfl)); (try simp only [Act.put, List.getElem_toArray, List.getElem_cons_succ, List.getElem_cons_zero, List.setIfInBounds_toArray, List.set_cons_zero, List.set_cons_succ]))
                  (refine wpAnyH_take (i := 20) (v := ?_) rfl (by kernel_rfl) (by kernel_rfl) (by kernel_rfl) (fun _ _ _ h => h) (Or.inl ⟨by rfl, ?_⟩) (by assumption) ?_; rotate_left; (focus (intro w hSw; (try dsimp only at hSw); go_simp; first | done | with_reducible rfl)); (try simp only [Act.put, List.getElem_toArray, List.getElem_cons_succ, List.getElem_cons_zero, List.setIfInBounds_toArray, List.set_cons_zero, List.set_cons_succ]))
                  (refine wpAnyH_take (i := 21) (v := undef) rfl (by kernel_rfl) (by kernel_rfl) (by kernel_rfl) (fun _ _ _ h => h) (Or.inr ⟨by rfl, rfl⟩) (by assumption) ?_; (try simp only [Act.put, List.getElem_toArray, List.getElem_cons_succ, List.getElem_cons_zero, List.setIfInBounds_toArray, List.set_cons_zero, List.set_cons_succ]))
                  (refine wpAnyH_take (i := 22) (v := undef) rfl (by kernel_rfl) (by kernel_rfl) (by kernel_rfl) (fun _ _ _ h => h) (Or.inr ⟨by rfl, rfl⟩) (by assumption) ?_; (try simp only [Act.put, List.getElem_toArray, List.getElem_cons_succ, List.getElem_cons_zero, List.setIfInBounds_toArray, List.set_cons_zero, List.set_cons_succ]))
                  (refine wpAnyH_take (i := 23) (v := undef) rfl (by kernel_rfl) (by kernel_rfl) (by kernel_rfl) (fun _ _ _ h => h) (Or.inr ⟨by rfl, rfl⟩) (by assumption) ?_; (try simp only [Act.put, List.getElem_toArray, List.getElem_cons_succ, List.getElem_cons_zero, List.setIfInBounds_toArray, List.set_cons_zero, List.set_cons_succ]))
                  (refine wpAnyH_take (i := 24) (v := undef) rfl (by kernel_rfl) (by kernel_rfl) (by kernel_rfl) (fun _ _ _ h => h) (Or.inr ⟨by rfl, rfl⟩) (by assumption) ?_; (try simp only [Act.put, List.getElem_toArray, List.getElem_cons_succ, List.getElem_cons_zero, List.setIfInBounds_toArray, List.set_cons_zero, List.set_cons_succ]))
                  (refine wpAnyH_take (i := 25) (v := undef) rfl (by kernel_rfl) (by kernel_rfl) (by kernel_rfl) (fun _ _ _ h => h) (Or.inr ⟨by rfl, rfl⟩) (by assumption) ?_; (try simp only [Act.put, List.getElem_toArray, List.getElem_cons_succ, List.getElem_cons_zero, List.setIfInBounds_toArray, List.set_cons_zero, List.set_cons_succ]))
                  (refine wpAnyH_take (i := 26) (v := undef) rfl (by kernel_rfl) (by kernel_rfl) (by kernel_rfl) (fun _ _ _ h => h) (Or.inr ⟨by rfl, rfl⟩) (by assumption) ?_; (try simp only [Act.put, List.getElem_toArray, List.getElem_cons_succ, List.getElem_cons_zero, List.setIfInBounds_toArray, List.set_cons_zero, List.set_cons_succ]))
                  (refine wpAnyH_take (i := 27) (v := ?_) rfl (by kernel_rfl) (by kernel_rfl) (by kernel_rfl) (fun _ _ _ h => h) (Or.inl ⟨by rfl, ?_⟩) (by assumption) ?_; rotate_left; (focus (intro w hSw; (try dsimp only at hSw); go_simp; first | done | with_reducible rfl)); (try simp only [Act.put, List.getElem_toArray, List.getElem_cons_succ, List.getElem_cons_zero, List.setIfInBounds_toArray, List.set_cons_zero, List.set_cons_succ]))
                  (refine wpAnyH_take (i := 28) (v := ?_) rfl (by kernel_rfl) (by kernel_rfl) (by kernel_rfl) (fun _ _ _ h => h) (Or.inl ⟨by rfl, ?_⟩) (by assumption) ?_; rotate_left; (focus (intro w hSw; (try dsimp only at hSw); go_simp; first | done | with_reducible rfl)); (try simp only [Act.put, List.getElem_toArray, List.getElem_cons_succ, List.getElem_cons_zero, List.setIfInBounds_toArray, List.set_cons_zero, List.set_cons_succ]))
                  refine wpAnyH_done (by kernel_rfl) ?_ _
                  have hbd := And.left hHeld
                  clear qR19_0 qR19_1 lR19 HS
                  replace O7 := hide ((O7.out.below hbd).more hbd.size)
                  replace R1 := hide (R1.out.below hbd)
                  replace R7 := hide (R7.out.below hbd)
                  replace R19 := hide (R19.out.below hbd)
                  replace HB := hide (HB.out.trans (hbd.mono HB.out.size))
                  replace HBQ := hide (HBQ.out.trans (hbd.mono HBQ.out.size))
                  go_wp2_with fail
                  go_roundw
                  case rel => exact ⟨j + 1, by omega, by omega, by go_num, (HBr.out.trans ((HBQ.out).mono HBr.out.size))⟩
                  case measure => simp [intOf]; omega
          · skip
            have QX : Hid (∀ w, Below wr.heap.size wr w → Calls Try.prog 9 #[.agg #[.int .u64 e1, .slice A1 n1 c1]] w fun e' W' => ∃ A' c', e' = .returned (.agg #[.int .u64 e1, .slice A' m1 c']) ∧ Rd W' W'.heap.size 1 A' m1 (Cs encW S) ∧ Below w.heap.size w W') := hide (fun w hw => (HOWN1.out w (HB.out.trans (hw.mono HB.out.size))).mono fun e' W' ⟨A', c', e1, _, _, e3, _, e5⟩ => ⟨A', c', e1, e3, e5⟩)
            have Q18x : Hid (∀ w A' c', Below wr.heap.size wr w → Rd w w.heap.size 1 A' m1 (Cs encW S) → Calls Try.prog 14 #[.agg #[.int .u64 e1, .slice A7 m1 k7], .agg #[.int .u64 e1, .slice A' m1 c']] w fun e W' => e = .returned (.bool true) ∧ Below w.heap.size w W') := hide (fun w A' c' hw hr => rsame_any A7 A' k7 c' m1 m1 e1 e1 S S w ((O7.out.below hw).more hw.size) hr HL1.out HL1.out (by omega) (by omega) true (by simp))
            have qR7_0 := row20 R7.out
            have qR7_1 := row21 R7.out
            have lR7 := R7.out.lt
            have qR1_0 := row20 R1.out
            have qR1_1 := row21 R1.out
            have lR1 := R1.out.lt
            have HS : Hid (∀ w w', (Below wr.heap.size wr w ∧ w.cell? ⟨g7, 0, none⟩ = some (.int .u64 e1) ∧ w.cell? ⟨g7, 1, none⟩ = some (.slice A7 m1 k7) ∧ w.cell? ⟨g1, 0, none⟩ = some (.int .u64 e1) ∧ w.cell? ⟨g1, 1, none⟩ = some (.slice A1 n1 c1)) → Below w.heap.size w w' → (Below wr.heap.size wr w' ∧ w'.cell? ⟨g7, 0, none⟩ = some (.int .u64 e1) ∧ w'.cell? ⟨g7, 1, none⟩ = some (.slice A7 m1 k7) ∧ w'.cell? ⟨g1, 0, none⟩ = some (.int .u64 e1) ∧ w'.cell? ⟨g1, 1, none⟩ = some (.slice A1 n1 c1))) := hide (fun w w' h hb => ⟨h.1.trans (hb.mono h.1.size), kept hb h.2.1, kept hb h.2.2.1, kept hb h.2.2.2.1, kept hb h.2.2.2.2⟩)
            go_wp2_with fail
            have hbd0 : Below wr.heap.size wr wr.drew := (Below.refl _ _).drew
            go_region_held3 (fun wX => Below wr.heap.size wr wX ∧ wX.cell? ⟨g7, 0, none⟩ = some (.int .u64 e1) ∧ wX.cell? ⟨g7, 1, none⟩ = some (.slice A7 m1 k7) ∧ wX.cell? ⟨g1, 0, none⟩ = some (.int .u64 e1) ∧ wX.cell? ⟨g1, 1, none⟩ = some (.slice A1 n1 c1))
              (first | exact HS.out _ _ ‹_› hb | exact ⟨hbd0, qR7_0, qR7_1, qR1_0, qR1_1⟩ | go_keep)
              (first
                | (go_at_call 9; with_reducible refine (QX.out _ (And.left ‹Below wr.heap.size wr _ ∧ _›)).mono ?_; rintro e wq ⟨Ay, cy, rfl, hrdy, hb⟩)
                | (go_at_call 14; with_reducible refine (Q18x.out _ _ _ (And.left ‹Below wr.heap.size wr _ ∧ _›) hrdy).mono ?_; rintro e wq ⟨rfl, hb⟩))
            have hbd := And.left ‹Below wr.heap.size wr _ ∧ _›
            clear qR7_0 qR7_1 lR7 qR1_0 qR1_1 lR1 HS
            go_wp2_with fail
            go_ret
            exact ⟨rfl, HB.out.trans (hbd.mono HB.out.size)⟩
end Go.Proofs.Ytopaopfebgonjaa
