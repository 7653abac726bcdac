/-
  DirMay, walked.
-/
import Derived.Test.YtjlbnegdiabglaaDjc
import Derived.Test.YtjlbnegdiabglaaDkc
import Derived.Test.YtjlbnegdiabglaaHeldT
import Derived.BigQuiet
import Derived.Deep.RegionHeld3
import Derived.Deep.CutRange
import Derived.Deep.CutBlock
set_option linter.unusedSimpArgs false
set_option linter.unusedVariables false
namespace Go.Proofs.Ytjlbnegdiabglaa
open Go Go.RowKit
attribute [local go_sem] via_cell via_frozen

set_option maxRecDepth 100000 in
set_option maxHeartbeats 16000000 in
theorem May_walk (A1 : Option Addr) (c1 n1 : Nat) (dep1 : Int) (es1 : List En) (A2 : Option Addr) (c2 n2 : Nat) (dep2 : Int) (es2 : List En) (AH : Option Addr) (cH nH : Nat) (hs : List Int) (W : World)
    (h1 : Rd W W.heap.size 2 A1 n1 (Cs encE es1)) (hx1 : es1.length = n1) (hn1 : n1 ≤ c1) (hm1 : c1 ≤ 9223372036854775807) (hu1 : ∀ e ∈ es1, U64 e.2)
    (h2 : Rd W W.heap.size 2 A2 n2 (Cs encE es2)) (hx2 : es2.length = n2) (hn2 : n2 ≤ c2) (hm2 : c2 ≤ 9223372036854775807) (hu2 : ∀ e ∈ es2, U64 e.2)
    (h3 : Rd W W.heap.size 1 AH nH (Cs encW hs)) (hx3 : hs.length = nH) (hn3 : nH ≤ cH) (hm3 : cH ≤ 9223372036854775807) (hu3 : ∀ x ∈ hs, U64 x) :
    Calls Try.prog 4 #[.agg #[.int .i64 dep1, .slice A1 n1 c1], .agg #[.int .i64 dep2, .slice A2 n2 c2], .slice AH nH cH] W fun e W' => e = .returned (.bool true) ∧ Below W.heap.size W W' := by
  obtain ⟨L1, hL1⟩ : ∃ L, es1.take 34 = L := ⟨_, rfl⟩
  obtain ⟨L2, hL2⟩ : ∃ L, es2.take 34 = L := ⟨_, rfl⟩
  have HUL1 := hide (show ∀ e ∈ L1, U64 e.2 from fun e he => hu1 e (by rw [← hL1] at he; exact List.mem_of_mem_take he))
  have HUL2 := hide (show ∀ e ∈ L2, U64 e.2 from fun e he => hu2 e (by rw [← hL2] at he; exact List.mem_of_mem_take he))
  have HLL1 := hide (show L1.length ≤ 34 from by rw [← hL1, List.length_take]; omega)
  have HLL2 := hide (show L2.length ≤ 34 from by rw [← hL2, List.length_take]; omega)
  have HOWN1 := hide (fun w (hb : Below W.heap.size W w) => own_any W.heap.size A1 c1 n1 dep1 es1 w (h1.below hb) hx1 hb.size hn1 hm1)
  have HOWN2 := hide (fun w (hb : Below W.heap.size W w) => own_any W.heap.size A2 c2 n2 dep2 es2 w (h2.below hb) hx2 hb.size hn2 hm2)
  rw [hL1] at HOWN1
  rw [hL2] at HOWN2
  obtain ⟨m1, hmm1⟩ : ∃ n, L1.length = n := ⟨_, rfl⟩
  obtain ⟨m2, hmm2⟩ : ∃ n, L2.length = n := ⟨_, rfl⟩
  have HM1 := hide hmm1
  have HM2 := hide hmm2
  have hm34 : m1 ≤ 34 := by have := HLL1.out; omega
  have HT := hide h3
  have HTX := hide hx3
  have HTU := hide hu3
  have ha1 := (Below.refl _ W).alloc (Nat.le_refl _) (.cells #[.int .i64 dep1, .slice A1 n1 c1] 24)
  have ha2 := (Below.refl _ (W.alloc (.cells #[.int .i64 dep1, .slice A1 n1 c1] 24))).alloc (Nat.le_refl _) (.cells #[.int .i64 dep2, .slice A2 n2 c2] 24)
  have R1 := hide ((RowAt.new W 24 #[.int .i64 dep1, .slice A1 n1 c1]).below ha2)
  have R2 := hide (show RowAt ((W.alloc (.cells #[.int .i64 dep1, .slice A1 n1 c1] 24)).alloc (.cells #[.int .i64 dep2, .slice A2 n2 c2] 24)) (W.heap.size + 1) 24 #[.int .i64 dep2, .slice A2 n2 c2] from by have h := RowAt.new (W.alloc (.cells #[.int .i64 dep1, .slice A1 n1 c1] 24)) 24 #[.int .i64 dep2, .slice A2 n2 c2]; rw [World.size_alloc] at h; exact h)
  have HB := hide (ha1.trans (ha2.mono ha1.size))
  clear ha1 ha2 h1 h2 h3 hu1 hu2 hu3 hx1 hx2 hx3 hL1 hL2 hmm1 hmm2
  go_enter Try.func4, Try.ntmps4
  go_upto_region 1 with (fail)
  generalize (W.alloc (.cells #[.int .i64 dep1, .slice A1 n1 c1] 24)).alloc (.cells #[.int .i64 dep2, .slice A2 n2 c2] 24) = w1 at *
  go_wp2_with fail
  with_reducible refine (wakes_any w1).mono ?_
  rintro e w2 ⟨rfl, hb⟩
  replace R1 := hide (R1.out.below hb)
  replace R2 := hide (R2.out.below hb)
  replace HB := hide (HB.out.trans (hb.mono HB.out.size))
  clear hb
  have q10 := row20 R1.out
  have q11 := row21 R1.out
  have q1l := R1.out.lt
  have q20 := row20 R2.out
  have q21 := row21 R2.out
  have q2l := R2.out.lt
  have HO1 := hide (fun w (hb : Below w2.heap.size w2 w) => HOWN1.out w (HB.out.trans (hb.mono HB.out.size)))
  have HO2 := hide (fun w (hb : Below w2.heap.size w2 w) => HOWN2.out w (HB.out.trans (hb.mono HB.out.size)))
  go_upto_region 3 with (fail)
  go_cut [7, 8] from 22 to 25 (fun s7 s8 wx => ∃ (g7 : Nat) (A7 : Option Addr) (k7 : Nat) (g8 : Nat) (A8 : Option Addr) (k8 : Nat), s7 = .pointer (some ⟨g7, 0, none⟩) ∧ s8 = .pointer (some ⟨g8, 0, none⟩) ∧ RowAt wx g7 24 #[.int .i64 dep1, .slice A7 m1 k7] ∧ RowAt wx g8 24 #[.int .i64 dep2, .slice A8 m2 k8] ∧ wx.ownsRow w2.heap.size 31 2 (.slice A7 m1 k7) m1 (Cs encE L1) ∧ wx.ownsRow w2.heap.size 31 2 (.slice A8 m2 k8) m2 (Cs encE L2) ∧ Below w2.heap.size w2 wx)
  case first =>
    refine wp_region_held_drew (S := fun wX => Below w2.heap.size w2 wX) (by kernel_rfl) (Below.refl _ _).drew (fun hHeld => ?_)
    refine wpAnyH_take (i := 0) (v := .agg #[.int .i64 dep1, .slice A1 n1 c1]) rfl (by kernel_rfl) (by kernel_rfl) (by kernel_rfl) (fun _ _ _ h => h) (Or.inl ⟨by rfl, fun w hw => ?_⟩) (by assumption) ?_
    · have e0 := kept hw q10; have e1 := kept hw q11
      go_simp
      first | done | with_reducible rfl
    simp only [Act.put, List.getElem_toArray, List.getElem_cons_succ, List.getElem_cons_zero, List.setIfInBounds_toArray, List.set_cons_zero, List.set_cons_succ]
    refine wpAnyH_take (i := 2) (v := .agg #[.int .i64 dep2, .slice A2 n2 c2]) rfl (by kernel_rfl) (by kernel_rfl) (by kernel_rfl) (fun _ _ _ h => h) (Or.inl ⟨by rfl, fun w hw => ?_⟩) (by assumption) ?_
    · have e0 := kept hw q20; have e1 := kept hw q21
      go_simp
      first | done | with_reducible rfl
    simp only [Act.put, List.getElem_toArray, List.getElem_cons_succ, List.getElem_cons_zero, List.setIfInBounds_toArray, List.set_cons_zero, List.set_cons_succ]
    have HQ := hide ((Below.refl w2.heap.size w2).drew)
    generalize w2.drew = wd at *
    refine wpAnyH_ready (rs := [1, 4, 5]) (by kernel_rfl) (by simp) ?_
    refine (AllReadyH.cons rfl (fun K0 hK0 => ?_) (AllReadyH.cons rfl (fun K0 hK0 => ?_) (AllReadyH.cons rfl (fun K0 hK0 => ?_) AllReadyH.nil)))
    · go_simp
      refine (HO1.out _ (HQ.out)).mono ?_
      rintro e wa0 ⟨A7, k7, rfl, ho7, hb0⟩
      have O1 := hide (ownsRow_base (base' := w2.heap.size) ho7 HQ.out.size)
      replace HQ := hide (HQ.out.trans (hb0.mono HQ.out.size))
      rw [HM1.out] at O1
      rw [HM1.out]
      refine hK0.out _ _ HQ.out (fun _ => ?_)
      clear hK0 K0 ho7 hb0
      (try simp only [Act.put, List.getElem_toArray, List.getElem_cons_succ, List.getElem_cons_zero, List.setIfInBounds_toArray, List.set_cons_zero, List.set_cons_succ])
      refine wpAnyH_ready (rs := [3, 4, 5]) (by kernel_rfl) (by simp) ?_
      refine (AllReadyH.cons rfl (fun K1 hK1 => ?_) (AllReadyH.cons rfl (fun K1 hK1 => ?_) (AllReadyH.cons rfl (fun K1 hK1 => ?_) AllReadyH.nil)))
      · go_simp
        refine (HO2.out _ (HQ.out)).mono ?_
        rintro e wa1 ⟨A8, k8, rfl, ho8, hb1⟩
        replace O1 := hide (own_keepB O1.out hb1)
        have O2 := hide (ownsRow_base (base' := w2.heap.size) ho8 HQ.out.size)
        replace HQ := hide (HQ.out.trans (hb1.mono HQ.out.size))
        rw [HM2.out] at O2
        rw [HM2.out]
        refine hK1.out _ _ HQ.out (fun _ => ?_)
        clear hK1 K1 ho8 hb1
        (try simp only [Act.put, List.getElem_toArray, List.getElem_cons_succ, List.getElem_cons_zero, List.setIfInBounds_toArray, List.set_cons_zero, List.set_cons_succ])
        refine wpAnyH_ready (rs := [4, 5]) (by kernel_rfl) (by simp) ?_
        refine (AllReadyH.cons rfl (fun K2 hK2 => ?_) (AllReadyH.cons rfl (fun K2 hK2 => ?_) AllReadyH.nil))
        · go_simp
          refine hK2.out _ _ (HQ.out.alloc HQ.out.size _) (fun _ => ?_)
          clear hK2 K2
          have hb2 : Below wa1.heap.size wa1 (wa1.alloc (.cells #[.int .i64 0, .slice none 0 0] 24)) := (Below.refl _ _).alloc (Nat.le_refl _) _
          replace O1 := hide (own_keepB O1.out hb2)
          replace O2 := hide (own_keepB O2.out hb2)
          have R7 := hide (RowAt.new wa1 24 #[.int .i64 0, .slice none 0 0])
          have G7 := hide HQ.out.size
          replace HQ := hide (HQ.out.alloc HQ.out.size (.cells #[.int .i64 0, .slice none 0 0] 24))
          clear hb2
          (try simp only [Act.put, List.getElem_toArray, List.getElem_cons_succ, List.getElem_cons_zero, List.setIfInBounds_toArray, List.set_cons_zero, List.set_cons_succ])
          generalize wa1.alloc (.cells #[.int .i64 0, .slice none 0 0] 24) = wa2 at *
          refine wpAnyH_ready (rs := [5]) (by kernel_rfl) (by simp) ?_
          refine (AllReadyH.cons rfl (fun K3 hK3 => ?_) AllReadyH.nil)
          · go_simp
            refine hK3.out _ _ (HQ.out.alloc HQ.out.size _) (fun _ => ?_)
            clear hK3 K3
            have hb3 : Below wa2.heap.size wa2 (wa2.alloc (.cells #[.int .i64 0, .slice none 0 0] 24)) := (Below.refl _ _).alloc (Nat.le_refl _) _
            have NE := hide (show wa1.heap.size ≠ wa2.heap.size from Nat.ne_of_lt R7.out.lt)
            replace O1 := hide (own_keepB O1.out hb3)
            replace O2 := hide (own_keepB O2.out hb3)
            replace R7 := hide (R7.out.below hb3)
            have R8 := hide (RowAt.new wa2 24 #[.int .i64 0, .slice none 0 0])
            have G8 := hide HQ.out.size
            replace HQ := hide (HQ.out.alloc HQ.out.size (.cells #[.int .i64 0, .slice none 0 0] 24))
            clear hb3
            (try simp only [Act.put, List.getElem_toArray, List.getElem_cons_succ, List.getElem_cons_zero, List.setIfInBounds_toArray, List.set_cons_zero, List.set_cons_succ])
            generalize wa2.alloc (.cells #[.int .i64 0, .slice none 0 0] 24) = wa3 at *
            refine wpAnyH_ready (rs := [6]) (by kernel_rfl) (by simp) ?_
            refine AllReadyH.cons rfl (fun K hK => ?_) AllReadyH.nil
            have l7 := R7.out.lt
            have z7 := row20 R7.out
            have y7 := row21 R7.out
            have f7 := R7.out.frozen 0
            have h7 := R7.out.frozen 1
            go_simp
            refine hK.out _ _ ((HQ.out.setCell (p := ⟨wa1.heap.size, 0, none⟩) G7.out _).setCell (p := ⟨wa1.heap.size, 1, none⟩) G7.out _) (fun _ => ?_)
            clear hK K
            replace O1 := hide (own_setBox (own_setBox O1.out R7.out (by decide) 0 (.int .i64 dep1)) (R7.out.set 0 (.int .i64 dep1)) (by decide) 1 (.slice A7 m1 k7))
            replace O2 := hide (own_setBox (own_setBox O2.out R7.out (by decide) 0 (.int .i64 dep1)) (R7.out.set 0 (.int .i64 dep1)) (by decide) 1 (.slice A7 m1 k7))
            replace R8 := hide (((R8.out.setNe (o := 0) (v := (.int .i64 dep1)) (g2 := wa1.heap.size) (Ne.symm NE.out)).setNe (o := 1) (v := (.slice A7 m1 k7)) (g2 := wa1.heap.size) (Ne.symm NE.out)))
            replace R7 : Hid (RowAt ((wa3.setCell ⟨wa1.heap.size, 0, none⟩ (.int .i64 dep1)).setCell ⟨wa1.heap.size, 1, none⟩ (.slice A7 m1 k7)) (wa1.heap.size) 24 #[.int .i64 dep1, .slice A7 m1 k7]) := hide (by have h := (R7.out.set 0 (.int .i64 dep1)).set 1 (.slice A7 m1 k7); simpa using h)
            replace HQ := hide ((HQ.out.setCell (p := ⟨wa1.heap.size, 0, none⟩) G7.out (.int .i64 dep1)).setCell (p := ⟨wa1.heap.size, 1, none⟩) G7.out (.slice A7 m1 k7))
            clear l7 z7 y7 f7 h7
            generalize ((wa3.setCell ⟨wa1.heap.size, 0, none⟩ (.int .i64 dep1)).setCell ⟨wa1.heap.size, 1, none⟩ (.slice A7 m1 k7)) = wt7 at *
            (try simp only [Act.put, List.getElem_toArray, List.getElem_cons_succ, List.getElem_cons_zero, List.setIfInBounds_toArray, List.set_cons_zero, List.set_cons_succ])
            refine wpAnyH_ready (rs := [7]) (by kernel_rfl) (by simp) ?_
            refine AllReadyH.cons rfl (fun K hK => ?_) AllReadyH.nil
            have l8 := R8.out.lt
            have z8 := row20 R8.out
            have y8 := row21 R8.out
            have f8 := R8.out.frozen 0
            have h8 := R8.out.frozen 1
            go_simp
            refine hK.out _ _ ((HQ.out.setCell (p := ⟨wa2.heap.size, 0, none⟩) G8.out _).setCell (p := ⟨wa2.heap.size, 1, none⟩) G8.out _) (fun _ => ?_)
            clear hK K
            replace O1 := hide (own_setBox (own_setBox O1.out R8.out (by decide) 0 (.int .i64 dep2)) (R8.out.set 0 (.int .i64 dep2)) (by decide) 1 (.slice A8 m2 k8))
            replace O2 := hide (own_setBox (own_setBox O2.out R8.out (by decide) 0 (.int .i64 dep2)) (R8.out.set 0 (.int .i64 dep2)) (by decide) 1 (.slice A8 m2 k8))
            replace R7 := hide (((R7.out.setNe (o := 0) (v := (.int .i64 dep2)) (g2 := wa2.heap.size) NE.out).setNe (o := 1) (v := (.slice A8 m2 k8)) (g2 := wa2.heap.size) NE.out))
            replace R8 : Hid (RowAt ((wt7.setCell ⟨wa2.heap.size, 0, none⟩ (.int .i64 dep2)).setCell ⟨wa2.heap.size, 1, none⟩ (.slice A8 m2 k8)) (wa2.heap.size) 24 #[.int .i64 dep2, .slice A8 m2 k8]) := hide (by have h := (R8.out.set 0 (.int .i64 dep2)).set 1 (.slice A8 m2 k8); simpa using h)
            replace HQ := hide ((HQ.out.setCell (p := ⟨wa2.heap.size, 0, none⟩) G8.out (.int .i64 dep2)).setCell (p := ⟨wa2.heap.size, 1, none⟩) G8.out (.slice A8 m2 k8))
            clear l8 z8 y8 f8 h8
            (try simp only [Act.put, List.getElem_toArray, List.getElem_cons_succ, List.getElem_cons_zero, List.setIfInBounds_toArray, List.set_cons_zero, List.set_cons_succ])
            refine wpAnyH_done (by kernel_rfl) ?_ _
            go_wp2_with fail
            go_meet
            case rel => exact ⟨_, A7, k7, _, A8, k8, rfl, rfl, R7.out, R8.out, O1.out, O2.out, HQ.out⟩
        · go_simp
          refine hK2.out _ _ (HQ.out.alloc HQ.out.size _) (fun _ => ?_)
          clear hK2 K2
          have hb2 : Below wa1.heap.size wa1 (wa1.alloc (.cells #[.int .i64 0, .slice none 0 0] 24)) := (Below.refl _ _).alloc (Nat.le_refl _) _
          replace O1 := hide (own_keepB O1.out hb2)
          replace O2 := hide (own_keepB O2.out hb2)
          have R8 := hide (RowAt.new wa1 24 #[.int .i64 0, .slice none 0 0])
          have G8 := hide HQ.out.size
          replace HQ := hide (HQ.out.alloc HQ.out.size (.cells #[.int .i64 0, .slice none 0 0] 24))
          clear hb2
          (try simp only [Act.put, List.getElem_toArray, List.getElem_cons_succ, List.getElem_cons_zero, List.setIfInBounds_toArray, List.set_cons_zero, List.set_cons_succ])
          generalize wa1.alloc (.cells #[.int .i64 0, .slice none 0 0] 24) = wa2 at *
          refine wpAnyH_ready (rs := [4]) (by kernel_rfl) (by simp) ?_
          refine (AllReadyH.cons rfl (fun K3 hK3 => ?_) AllReadyH.nil)
          · go_simp
            refine hK3.out _ _ (HQ.out.alloc HQ.out.size _) (fun _ => ?_)
            clear hK3 K3
            have hb3 : Below wa2.heap.size wa2 (wa2.alloc (.cells #[.int .i64 0, .slice none 0 0] 24)) := (Below.refl _ _).alloc (Nat.le_refl _) _
            have NE := hide (show wa2.heap.size ≠ wa1.heap.size from Nat.ne_of_gt R8.out.lt)
            replace O1 := hide (own_keepB O1.out hb3)
            replace O2 := hide (own_keepB O2.out hb3)
            replace R8 := hide (R8.out.below hb3)
            have R7 := hide (RowAt.new wa2 24 #[.int .i64 0, .slice none 0 0])
            have G7 := hide HQ.out.size
            replace HQ := hide (HQ.out.alloc HQ.out.size (.cells #[.int .i64 0, .slice none 0 0] 24))
            clear hb3
            (try simp only [Act.put, List.getElem_toArray, List.getElem_cons_succ, List.getElem_cons_zero, List.setIfInBounds_toArray, List.set_cons_zero, List.set_cons_succ])
            generalize wa2.alloc (.cells #[.int .i64 0, .slice none 0 0] 24) = wa3 at *
            refine wpAnyH_ready (rs := [6]) (by kernel_rfl) (by simp) ?_
            refine AllReadyH.cons rfl (fun K hK => ?_) AllReadyH.nil
            have l7 := R7.out.lt
            have z7 := row20 R7.out
            have y7 := row21 R7.out
            have f7 := R7.out.frozen 0
            have h7 := R7.out.frozen 1
            go_simp
            refine hK.out _ _ ((HQ.out.setCell (p := ⟨wa2.heap.size, 0, none⟩) G7.out _).setCell (p := ⟨wa2.heap.size, 1, none⟩) G7.out _) (fun _ => ?_)
            clear hK K
            replace O1 := hide (own_setBox (own_setBox O1.out R7.out (by decide) 0 (.int .i64 dep1)) (R7.out.set 0 (.int .i64 dep1)) (by decide) 1 (.slice A7 m1 k7))
            replace O2 := hide (own_setBox (own_setBox O2.out R7.out (by decide) 0 (.int .i64 dep1)) (R7.out.set 0 (.int .i64 dep1)) (by decide) 1 (.slice A7 m1 k7))
            replace R8 := hide (((R8.out.setNe (o := 0) (v := (.int .i64 dep1)) (g2 := wa2.heap.size) (Ne.symm NE.out)).setNe (o := 1) (v := (.slice A7 m1 k7)) (g2 := wa2.heap.size) (Ne.symm NE.out)))
            replace R7 : Hid (RowAt ((wa3.setCell ⟨wa2.heap.size, 0, none⟩ (.int .i64 dep1)).setCell ⟨wa2.heap.size, 1, none⟩ (.slice A7 m1 k7)) (wa2.heap.size) 24 #[.int .i64 dep1, .slice A7 m1 k7]) := hide (by have h := (R7.out.set 0 (.int .i64 dep1)).set 1 (.slice A7 m1 k7); simpa using h)
            replace HQ := hide ((HQ.out.setCell (p := ⟨wa2.heap.size, 0, none⟩) G7.out (.int .i64 dep1)).setCell (p := ⟨wa2.heap.size, 1, none⟩) G7.out (.slice A7 m1 k7))
            clear l7 z7 y7 f7 h7
            generalize ((wa3.setCell ⟨wa2.heap.size, 0, none⟩ (.int .i64 dep1)).setCell ⟨wa2.heap.size, 1, none⟩ (.slice A7 m1 k7)) = wt7 at *
            (try simp only [Act.put, List.getElem_toArray, List.getElem_cons_succ, List.getElem_cons_zero, List.setIfInBounds_toArray, List.set_cons_zero, List.set_cons_succ])
            refine wpAnyH_ready (rs := [7]) (by kernel_rfl) (by simp) ?_
            refine AllReadyH.cons rfl (fun K hK => ?_) AllReadyH.nil
            have l8 := R8.out.lt
            have z8 := row20 R8.out
            have y8 := row21 R8.out
            have f8 := R8.out.frozen 0
            have h8 := R8.out.frozen 1
            go_simp
            refine hK.out _ _ ((HQ.out.setCell (p := ⟨wa1.heap.size, 0, none⟩) G8.out _).setCell (p := ⟨wa1.heap.size, 1, none⟩) G8.out _) (fun _ => ?_)
            clear hK K
            replace O1 := hide (own_setBox (own_setBox O1.out R8.out (by decide) 0 (.int .i64 dep2)) (R8.out.set 0 (.int .i64 dep2)) (by decide) 1 (.slice A8 m2 k8))
            replace O2 := hide (own_setBox (own_setBox O2.out R8.out (by decide) 0 (.int .i64 dep2)) (R8.out.set 0 (.int .i64 dep2)) (by decide) 1 (.slice A8 m2 k8))
            replace R7 := hide (((R7.out.setNe (o := 0) (v := (.int .i64 dep2)) (g2 := wa1.heap.size) NE.out).setNe (o := 1) (v := (.slice A8 m2 k8)) (g2 := wa1.heap.size) NE.out))
            replace R8 : Hid (RowAt ((wt7.setCell ⟨wa1.heap.size, 0, none⟩ (.int .i64 dep2)).setCell ⟨wa1.heap.size, 1, none⟩ (.slice A8 m2 k8)) (wa1.heap.size) 24 #[.int .i64 dep2, .slice A8 m2 k8]) := hide (by have h := (R8.out.set 0 (.int .i64 dep2)).set 1 (.slice A8 m2 k8); simpa using h)
            replace HQ := hide ((HQ.out.setCell (p := ⟨wa1.heap.size, 0, none⟩) G8.out (.int .i64 dep2)).setCell (p := ⟨wa1.heap.size, 1, none⟩) G8.out (.slice A8 m2 k8))
            clear l8 z8 y8 f8 h8
            (try simp only [Act.put, List.getElem_toArray, List.getElem_cons_succ, List.getElem_cons_zero, List.setIfInBounds_toArray, List.set_cons_zero, List.set_cons_succ])
            refine wpAnyH_done (by kernel_rfl) ?_ _
            go_wp2_with fail
            go_meet
            case rel => exact ⟨_, A7, k7, _, A8, k8, rfl, rfl, R7.out, R8.out, O1.out, O2.out, HQ.out⟩
      · go_simp
        refine hK1.out _ _ (HQ.out.alloc HQ.out.size _) (fun _ => ?_)
        clear hK1 K1
        have hb1 : Below wa0.heap.size wa0 (wa0.alloc (.cells #[.int .i64 0, .slice none 0 0] 24)) := (Below.refl _ _).alloc (Nat.le_refl _) _
        replace O1 := hide (own_keepB O1.out hb1)
        have R7 := hide (RowAt.new wa0 24 #[.int .i64 0, .slice none 0 0])
        have G7 := hide HQ.out.size
        replace HQ := hide (HQ.out.alloc HQ.out.size (.cells #[.int .i64 0, .slice none 0 0] 24))
        clear hb1
        (try simp only [Act.put, List.getElem_toArray, List.getElem_cons_succ, List.getElem_cons_zero, List.setIfInBounds_toArray, List.set_cons_zero, List.set_cons_succ])
        generalize wa0.alloc (.cells #[.int .i64 0, .slice none 0 0] 24) = wa1 at *
        refine wpAnyH_ready (rs := [3, 5]) (by kernel_rfl) (by simp) ?_
        refine (AllReadyH.cons rfl (fun K2 hK2 => ?_) (AllReadyH.cons rfl (fun K2 hK2 => ?_) AllReadyH.nil))
        · go_simp
          refine (HO2.out _ (HQ.out)).mono ?_
          rintro e wa2 ⟨A8, k8, rfl, ho8, hb2⟩
          replace O1 := hide (own_keepB O1.out hb2)
          replace R7 := hide (R7.out.below hb2)
          have O2 := hide (ownsRow_base (base' := w2.heap.size) ho8 HQ.out.size)
          replace HQ := hide (HQ.out.trans (hb2.mono HQ.out.size))
          rw [HM2.out] at O2
          rw [HM2.out]
          refine hK2.out _ _ HQ.out (fun _ => ?_)
          clear hK2 K2 ho8 hb2
          (try simp only [Act.put, List.getElem_toArray, List.getElem_cons_succ, List.getElem_cons_zero, List.setIfInBounds_toArray, List.set_cons_zero, List.set_cons_succ])
          refine wpAnyH_ready (rs := [5]) (by kernel_rfl) (by simp) ?_
          refine (AllReadyH.cons rfl (fun K3 hK3 => ?_) AllReadyH.nil)
          · go_simp
            refine hK3.out _ _ (HQ.out.alloc HQ.out.size _) (fun _ => ?_)
            clear hK3 K3
            have hb3 : Below wa2.heap.size wa2 (wa2.alloc (.cells #[.int .i64 0, .slice none 0 0] 24)) := (Below.refl _ _).alloc (Nat.le_refl _) _
            have NE := hide (show wa0.heap.size ≠ wa2.heap.size from Nat.ne_of_lt R7.out.lt)
            replace O1 := hide (own_keepB O1.out hb3)
            replace O2 := hide (own_keepB O2.out hb3)
            replace R7 := hide (R7.out.below hb3)
            have R8 := hide (RowAt.new wa2 24 #[.int .i64 0, .slice none 0 0])
            have G8 := hide HQ.out.size
            replace HQ := hide (HQ.out.alloc HQ.out.size (.cells #[.int .i64 0, .slice none 0 0] 24))
            clear hb3
            (try simp only [Act.put, List.getElem_toArray, List.getElem_cons_succ, List.getElem_cons_zero, List.setIfInBounds_toArray, List.set_cons_zero, List.set_cons_succ])
            generalize wa2.alloc (.cells #[.int .i64 0, .slice none 0 0] 24) = wa3 at *
            refine wpAnyH_ready (rs := [6]) (by kernel_rfl) (by simp) ?_
            refine AllReadyH.cons rfl (fun K hK => ?_) AllReadyH.nil
            have l7 := R7.out.lt
            have z7 := row20 R7.out
            have y7 := row21 R7.out
            have f7 := R7.out.frozen 0
            have h7 := R7.out.frozen 1
            go_simp
            refine hK.out _ _ ((HQ.out.setCell (p := ⟨wa0.heap.size, 0, none⟩) G7.out _).setCell (p := ⟨wa0.heap.size, 1, none⟩) G7.out _) (fun _ => ?_)
            clear hK K
            replace O1 := hide (own_setBox (own_setBox O1.out R7.out (by decide) 0 (.int .i64 dep1)) (R7.out.set 0 (.int .i64 dep1)) (by decide) 1 (.slice A7 m1 k7))
            replace O2 := hide (own_setBox (own_setBox O2.out R7.out (by decide) 0 (.int .i64 dep1)) (R7.out.set 0 (.int .i64 dep1)) (by decide) 1 (.slice A7 m1 k7))
            replace R8 := hide (((R8.out.setNe (o := 0) (v := (.int .i64 dep1)) (g2 := wa0.heap.size) (Ne.symm NE.out)).setNe (o := 1) (v := (.slice A7 m1 k7)) (g2 := wa0.heap.size) (Ne.symm NE.out)))
            replace R7 : Hid (RowAt ((wa3.setCell ⟨wa0.heap.size, 0, none⟩ (.int .i64 dep1)).setCell ⟨wa0.heap.size, 1, none⟩ (.slice A7 m1 k7)) (wa0.heap.size) 24 #[.int .i64 dep1, .slice A7 m1 k7]) := hide (by have h := (R7.out.set 0 (.int .i64 dep1)).set 1 (.slice A7 m1 k7); simpa using h)
            replace HQ := hide ((HQ.out.setCell (p := ⟨wa0.heap.size, 0, none⟩) G7.out (.int .i64 dep1)).setCell (p := ⟨wa0.heap.size, 1, none⟩) G7.out (.slice A7 m1 k7))
            clear l7 z7 y7 f7 h7
            generalize ((wa3.setCell ⟨wa0.heap.size, 0, none⟩ (.int .i64 dep1)).setCell ⟨wa0.heap.size, 1, none⟩ (.slice A7 m1 k7)) = wt7 at *
            (try simp only [Act.put, List.getElem_toArray, List.getElem_cons_succ, List.getElem_cons_zero, List.setIfInBounds_toArray, List.set_cons_zero, List.set_cons_succ])
            refine wpAnyH_ready (rs := [7]) (by kernel_rfl) (by simp) ?_
            refine AllReadyH.cons rfl (fun K hK => ?_) AllReadyH.nil
            have l8 := R8.out.lt
            have z8 := row20 R8.out
            have y8 := row21 R8.out
            have f8 := R8.out.frozen 0
            have h8 := R8.out.frozen 1
            go_simp
            refine hK.out _ _ ((HQ.out.setCell (p := ⟨wa2.heap.size, 0, none⟩) G8.out _).setCell (p := ⟨wa2.heap.size, 1, none⟩) G8.out _) (fun _ => ?_)
            clear hK K
            replace O1 := hide (own_setBox (own_setBox O1.out R8.out (by decide) 0 (.int .i64 dep2)) (R8.out.set 0 (.int .i64 dep2)) (by decide) 1 (.slice A8 m2 k8))
            replace O2 := hide (own_setBox (own_setBox O2.out R8.out (by decide) 0 (.int .i64 dep2)) (R8.out.set 0 (.int .i64 dep2)) (by decide) 1 (.slice A8 m2 k8))
            replace R7 := hide (((R7.out.setNe (o := 0) (v := (.int .i64 dep2)) (g2 := wa2.heap.size) NE.out).setNe (o := 1) (v := (.slice A8 m2 k8)) (g2 := wa2.heap.size) NE.out))
            replace R8 : Hid (RowAt ((wt7.setCell ⟨wa2.heap.size, 0, none⟩ (.int .i64 dep2)).setCell ⟨wa2.heap.size, 1, none⟩ (.slice A8 m2 k8)) (wa2.heap.size) 24 #[.int .i64 dep2, .slice A8 m2 k8]) := hide (by have h := (R8.out.set 0 (.int .i64 dep2)).set 1 (.slice A8 m2 k8); simpa using h)
            replace HQ := hide ((HQ.out.setCell (p := ⟨wa2.heap.size, 0, none⟩) G8.out (.int .i64 dep2)).setCell (p := ⟨wa2.heap.size, 1, none⟩) G8.out (.slice A8 m2 k8))
            clear l8 z8 y8 f8 h8
            (try simp only [Act.put, List.getElem_toArray, List.getElem_cons_succ, List.getElem_cons_zero, List.setIfInBounds_toArray, List.set_cons_zero, List.set_cons_succ])
            refine wpAnyH_done (by kernel_rfl) ?_ _
            go_wp2_with fail
            go_meet
            case rel => exact ⟨_, A7, k7, _, A8, k8, rfl, rfl, R7.out, R8.out, O1.out, O2.out, HQ.out⟩
        · go_simp
          refine hK2.out _ _ (HQ.out.alloc HQ.out.size _) (fun _ => ?_)
          clear hK2 K2
          have hb2 : Below wa1.heap.size wa1 (wa1.alloc (.cells #[.int .i64 0, .slice none 0 0] 24)) := (Below.refl _ _).alloc (Nat.le_refl _) _
          have NE := hide (show wa0.heap.size ≠ wa1.heap.size from Nat.ne_of_lt R7.out.lt)
          replace O1 := hide (own_keepB O1.out hb2)
          replace R7 := hide (R7.out.below hb2)
          have R8 := hide (RowAt.new wa1 24 #[.int .i64 0, .slice none 0 0])
          have G8 := hide HQ.out.size
          replace HQ := hide (HQ.out.alloc HQ.out.size (.cells #[.int .i64 0, .slice none 0 0] 24))
          clear hb2
          (try simp only [Act.put, List.getElem_toArray, List.getElem_cons_succ, List.getElem_cons_zero, List.setIfInBounds_toArray, List.set_cons_zero, List.set_cons_succ])
          generalize wa1.alloc (.cells #[.int .i64 0, .slice none 0 0] 24) = wa2 at *
          refine wpAnyH_ready (rs := [3]) (by kernel_rfl) (by simp) ?_
          refine (AllReadyH.cons rfl (fun K3 hK3 => ?_) AllReadyH.nil)
          · go_simp
            refine (HO2.out _ (HQ.out)).mono ?_
            rintro e wa3 ⟨A8, k8, rfl, ho8, hb3⟩
            replace O1 := hide (own_keepB O1.out hb3)
            replace R7 := hide (R7.out.below hb3)
            replace R8 := hide (R8.out.below hb3)
            have O2 := hide (ownsRow_base (base' := w2.heap.size) ho8 HQ.out.size)
            replace HQ := hide (HQ.out.trans (hb3.mono HQ.out.size))
            rw [HM2.out] at O2
            rw [HM2.out]
            refine hK3.out _ _ HQ.out (fun _ => ?_)
            clear hK3 K3 ho8 hb3
            (try simp only [Act.put, List.getElem_toArray, List.getElem_cons_succ, List.getElem_cons_zero, List.setIfInBounds_toArray, List.set_cons_zero, List.set_cons_succ])
            refine wpAnyH_ready (rs := [6]) (by kernel_rfl) (by simp) ?_
            refine AllReadyH.cons rfl (fun K hK => ?_) AllReadyH.nil
            have l7 := R7.out.lt
            have z7 := row20 R7.out
            have y7 := row21 R7.out
            have f7 := R7.out.frozen 0
            have h7 := R7.out.frozen 1
            go_simp
            refine hK.out _ _ ((HQ.out.setCell (p := ⟨wa0.heap.size, 0, none⟩) G7.out _).setCell (p := ⟨wa0.heap.size, 1, none⟩) G7.out _) (fun _ => ?_)
            clear hK K
            replace O1 := hide (own_setBox (own_setBox O1.out R7.out (by decide) 0 (.int .i64 dep1)) (R7.out.set 0 (.int .i64 dep1)) (by decide) 1 (.slice A7 m1 k7))
            replace O2 := hide (own_setBox (own_setBox O2.out R7.out (by decide) 0 (.int .i64 dep1)) (R7.out.set 0 (.int .i64 dep1)) (by decide) 1 (.slice A7 m1 k7))
            replace R8 := hide (((R8.out.setNe (o := 0) (v := (.int .i64 dep1)) (g2 := wa0.heap.size) (Ne.symm NE.out)).setNe (o := 1) (v := (.slice A7 m1 k7)) (g2 := wa0.heap.size) (Ne.symm NE.out)))
            replace R7 : Hid (RowAt ((wa3.setCell ⟨wa0.heap.size, 0, none⟩ (.int .i64 dep1)).setCell ⟨wa0.heap.size, 1, none⟩ (.slice A7 m1 k7)) (wa0.heap.size) 24 #[.int .i64 dep1, .slice A7 m1 k7]) := hide (by have h := (R7.out.set 0 (.int .i64 dep1)).set 1 (.slice A7 m1 k7); simpa using h)
            replace HQ := hide ((HQ.out.setCell (p := ⟨wa0.heap.size, 0, none⟩) G7.out (.int .i64 dep1)).setCell (p := ⟨wa0.heap.size, 1, none⟩) G7.out (.slice A7 m1 k7))
            clear l7 z7 y7 f7 h7
            generalize ((wa3.setCell ⟨wa0.heap.size, 0, none⟩ (.int .i64 dep1)).setCell ⟨wa0.heap.size, 1, none⟩ (.slice A7 m1 k7)) = wt7 at *
            (try simp only [Act.put, List.getElem_toArray, List.getElem_cons_succ, List.getElem_cons_zero, List.setIfInBounds_toArray, List.set_cons_zero, List.set_cons_succ])
            refine wpAnyH_ready (rs := [7]) (by kernel_rfl) (by simp) ?_
            refine AllReadyH.cons rfl (fun K hK => ?_) AllReadyH.nil
            have l8 := R8.out.lt
            have z8 := row20 R8.out
            have y8 := row21 R8.out
            have f8 := R8.out.frozen 0
            have h8 := R8.out.frozen 1
            go_simp
            refine hK.out _ _ ((HQ.out.setCell (p := ⟨wa1.heap.size, 0, none⟩) G8.out _).setCell (p := ⟨wa1.heap.size, 1, none⟩) G8.out _) (fun _ => ?_)
            clear hK K
            replace O1 := hide (own_setBox (own_setBox O1.out R8.out (by decide) 0 (.int .i64 dep2)) (R8.out.set 0 (.int .i64 dep2)) (by decide) 1 (.slice A8 m2 k8))
            replace O2 := hide (own_setBox (own_setBox O2.out R8.out (by decide) 0 (.int .i64 dep2)) (R8.out.set 0 (.int .i64 dep2)) (by decide) 1 (.slice A8 m2 k8))
            replace R7 := hide (((R7.out.setNe (o := 0) (v := (.int .i64 dep2)) (g2 := wa1.heap.size) NE.out).setNe (o := 1) (v := (.slice A8 m2 k8)) (g2 := wa1.heap.size) NE.out))
            replace R8 : Hid (RowAt ((wt7.setCell ⟨wa1.heap.size, 0, none⟩ (.int .i64 dep2)).setCell ⟨wa1.heap.size, 1, none⟩ (.slice A8 m2 k8)) (wa1.heap.size) 24 #[.int .i64 dep2, .slice A8 m2 k8]) := hide (by have h := (R8.out.set 0 (.int .i64 dep2)).set 1 (.slice A8 m2 k8); simpa using h)
            replace HQ := hide ((HQ.out.setCell (p := ⟨wa1.heap.size, 0, none⟩) G8.out (.int .i64 dep2)).setCell (p := ⟨wa1.heap.size, 1, none⟩) G8.out (.slice A8 m2 k8))
            clear l8 z8 y8 f8 h8
            (try simp only [Act.put, List.getElem_toArray, List.getElem_cons_succ, List.getElem_cons_zero, List.setIfInBounds_toArray, List.set_cons_zero, List.set_cons_succ])
            refine wpAnyH_done (by kernel_rfl) ?_ _
            go_wp2_with fail
            go_meet
            case rel => exact ⟨_, A7, k7, _, A8, k8, rfl, rfl, R7.out, R8.out, O1.out, O2.out, HQ.out⟩
      · go_simp
        refine hK1.out _ _ (HQ.out.alloc HQ.out.size _) (fun _ => ?_)
        clear hK1 K1
        have hb1 : Below wa0.heap.size wa0 (wa0.alloc (.cells #[.int .i64 0, .slice none 0 0] 24)) := (Below.refl _ _).alloc (Nat.le_refl _) _
        replace O1 := hide (own_keepB O1.out hb1)
        have R8 := hide (RowAt.new wa0 24 #[.int .i64 0, .slice none 0 0])
        have G8 := hide HQ.out.size
        replace HQ := hide (HQ.out.alloc HQ.out.size (.cells #[.int .i64 0, .slice none 0 0] 24))
        clear hb1
        (try simp only [Act.put, List.getElem_toArray, List.getElem_cons_succ, List.getElem_cons_zero, List.setIfInBounds_toArray, List.set_cons_zero, List.set_cons_succ])
        generalize wa0.alloc (.cells #[.int .i64 0, .slice none 0 0] 24) = wa1 at *
        refine wpAnyH_ready (rs := [3, 4]) (by kernel_rfl) (by simp) ?_
        refine (AllReadyH.cons rfl (fun K2 hK2 => ?_) (AllReadyH.cons rfl (fun K2 hK2 => ?_) AllReadyH.nil))
        · go_simp
          refine (HO2.out _ (HQ.out)).mono ?_
          rintro e wa2 ⟨A8, k8, rfl, ho8, hb2⟩
          replace O1 := hide (own_keepB O1.out hb2)
          replace R8 := hide (R8.out.below hb2)
          have O2 := hide (ownsRow_base (base' := w2.heap.size) ho8 HQ.out.size)
          replace HQ := hide (HQ.out.trans (hb2.mono HQ.out.size))
          rw [HM2.out] at O2
          rw [HM2.out]
          refine hK2.out _ _ HQ.out (fun _ => ?_)
          clear hK2 K2 ho8 hb2
          (try simp only [Act.put, List.getElem_toArray, List.getElem_cons_succ, List.getElem_cons_zero, List.setIfInBounds_toArray, List.set_cons_zero, List.set_cons_succ])
          refine wpAnyH_ready (rs := [4]) (by kernel_rfl) (by simp) ?_
          refine (AllReadyH.cons rfl (fun K3 hK3 => ?_) AllReadyH.nil)
          · go_simp
            refine hK3.out _ _ (HQ.out.alloc HQ.out.size _) (fun _ => ?_)
            clear hK3 K3
            have hb3 : Below wa2.heap.size wa2 (wa2.alloc (.cells #[.int .i64 0, .slice none 0 0] 24)) := (Below.refl _ _).alloc (Nat.le_refl _) _
            have NE := hide (show wa2.heap.size ≠ wa0.heap.size from Nat.ne_of_gt R8.out.lt)
            replace O1 := hide (own_keepB O1.out hb3)
            replace O2 := hide (own_keepB O2.out hb3)
            replace R8 := hide (R8.out.below hb3)
            have R7 := hide (RowAt.new wa2 24 #[.int .i64 0, .slice none 0 0])
            have G7 := hide HQ.out.size
            replace HQ := hide (HQ.out.alloc HQ.out.size (.cells #[.int .i64 0, .slice none 0 0] 24))
            clear hb3
            (try simp only [Act.put, List.getElem_toArray, List.getElem_cons_succ, List.getElem_cons_zero, List.setIfInBounds_toArray, List.set_cons_zero, List.set_cons_succ])
            generalize wa2.alloc (.cells #[.int .i64 0, .slice none 0 0] 24) = wa3 at *
            refine wpAnyH_ready (rs := [6]) (by kernel_rfl) (by simp) ?_
            refine AllReadyH.cons rfl (fun K hK => ?_) AllReadyH.nil
            have l7 := R7.out.lt
            have z7 := row20 R7.out
            have y7 := row21 R7.out
            have f7 := R7.out.frozen 0
            have h7 := R7.out.frozen 1
            go_simp
            refine hK.out _ _ ((HQ.out.setCell (p := ⟨wa2.heap.size, 0, none⟩) G7.out _).setCell (p := ⟨wa2.heap.size, 1, none⟩) G7.out _) (fun _ => ?_)
            clear hK K
            replace O1 := hide (own_setBox (own_setBox O1.out R7.out (by decide) 0 (.int .i64 dep1)) (R7.out.set 0 (.int .i64 dep1)) (by decide) 1 (.slice A7 m1 k7))
            replace O2 := hide (own_setBox (own_setBox O2.out R7.out (by decide) 0 (.int .i64 dep1)) (R7.out.set 0 (.int .i64 dep1)) (by decide) 1 (.slice A7 m1 k7))
            replace R8 := hide (((R8.out.setNe (o := 0) (v := (.int .i64 dep1)) (g2 := wa2.heap.size) (Ne.symm NE.out)).setNe (o := 1) (v := (.slice A7 m1 k7)) (g2 := wa2.heap.size) (Ne.symm NE.out)))
            replace R7 : Hid (RowAt ((wa3.setCell ⟨wa2.heap.size, 0, none⟩ (.int .i64 dep1)).setCell ⟨wa2.heap.size, 1, none⟩ (.slice A7 m1 k7)) (wa2.heap.size) 24 #[.int .i64 dep1, .slice A7 m1 k7]) := hide (by have h := (R7.out.set 0 (.int .i64 dep1)).set 1 (.slice A7 m1 k7); simpa using h)
            replace HQ := hide ((HQ.out.setCell (p := ⟨wa2.heap.size, 0, none⟩) G7.out (.int .i64 dep1)).setCell (p := ⟨wa2.heap.size, 1, none⟩) G7.out (.slice A7 m1 k7))
            clear l7 z7 y7 f7 h7
            generalize ((wa3.setCell ⟨wa2.heap.size, 0, none⟩ (.int .i64 dep1)).setCell ⟨wa2.heap.size, 1, none⟩ (.slice A7 m1 k7)) = wt7 at *
            (try simp only [Act.put, List.getElem_toArray, List.getElem_cons_succ, List.getElem_cons_zero, List.setIfInBounds_toArray, List.set_cons_zero, List.set_cons_succ])
            refine wpAnyH_ready (rs := [7]) (by kernel_rfl) (by simp) ?_
            refine AllReadyH.cons rfl (fun K hK => ?_) AllReadyH.nil
            have l8 := R8.out.lt
            have z8 := row20 R8.out
            have y8 := row21 R8.out
            have f8 := R8.out.frozen 0
            have h8 := R8.out.frozen 1
            go_simp
            refine hK.out _ _ ((HQ.out.setCell (p := ⟨wa0.heap.size, 0, none⟩) G8.out _).setCell (p := ⟨wa0.heap.size, 1, none⟩) G8.out _) (fun _ => ?_)
            clear hK K
            replace O1 := hide (own_setBox (own_setBox O1.out R8.out (by decide) 0 (.int .i64 dep2)) (R8.out.set 0 (.int .i64 dep2)) (by decide) 1 (.slice A8 m2 k8))
            replace O2 := hide (own_setBox (own_setBox O2.out R8.out (by decide) 0 (.int .i64 dep2)) (R8.out.set 0 (.int .i64 dep2)) (by decide) 1 (.slice A8 m2 k8))
            replace R7 := hide (((R7.out.setNe (o := 0) (v := (.int .i64 dep2)) (g2 := wa0.heap.size) NE.out).setNe (o := 1) (v := (.slice A8 m2 k8)) (g2 := wa0.heap.size) NE.out))
            replace R8 : Hid (RowAt ((wt7.setCell ⟨wa0.heap.size, 0, none⟩ (.int .i64 dep2)).setCell ⟨wa0.heap.size, 1, none⟩ (.slice A8 m2 k8)) (wa0.heap.size) 24 #[.int .i64 dep2, .slice A8 m2 k8]) := hide (by have h := (R8.out.set 0 (.int .i64 dep2)).set 1 (.slice A8 m2 k8); simpa using h)
            replace HQ := hide ((HQ.out.setCell (p := ⟨wa0.heap.size, 0, none⟩) G8.out (.int .i64 dep2)).setCell (p := ⟨wa0.heap.size, 1, none⟩) G8.out (.slice A8 m2 k8))
            clear l8 z8 y8 f8 h8
            (try simp only [Act.put, List.getElem_toArray, List.getElem_cons_succ, List.getElem_cons_zero, List.setIfInBounds_toArray, List.set_cons_zero, List.set_cons_succ])
            refine wpAnyH_done (by kernel_rfl) ?_ _
            go_wp2_with fail
            go_meet
            case rel => exact ⟨_, A7, k7, _, A8, k8, rfl, rfl, R7.out, R8.out, O1.out, O2.out, HQ.out⟩
        · go_simp
          refine hK2.out _ _ (HQ.out.alloc HQ.out.size _) (fun _ => ?_)
          clear hK2 K2
          have hb2 : Below wa1.heap.size wa1 (wa1.alloc (.cells #[.int .i64 0, .slice none 0 0] 24)) := (Below.refl _ _).alloc (Nat.le_refl _) _
          have NE := hide (show wa1.heap.size ≠ wa0.heap.size from Nat.ne_of_gt R8.out.lt)
          replace O1 := hide (own_keepB O1.out hb2)
          replace R8 := hide (R8.out.below hb2)
          have R7 := hide (RowAt.new wa1 24 #[.int .i64 0, .slice none 0 0])
          have G7 := hide HQ.out.size
          replace HQ := hide (HQ.out.alloc HQ.out.size (.cells #[.int .i64 0, .slice none 0 0] 24))
          clear hb2
          (try simp only [Act.put, List.getElem_toArray, List.getElem_cons_succ, List.getElem_cons_zero, List.setIfInBounds_toArray, List.set_cons_zero, List.set_cons_succ])
          generalize wa1.alloc (.cells #[.int .i64 0, .slice none 0 0] 24) = wa2 at *
          refine wpAnyH_ready (rs := [3]) (by kernel_rfl) (by simp) ?_
          refine (AllReadyH.cons rfl (fun K3 hK3 => ?_) AllReadyH.nil)
          · go_simp
            refine (HO2.out _ (HQ.out)).mono ?_
            rintro e wa3 ⟨A8, k8, rfl, ho8, hb3⟩
            replace O1 := hide (own_keepB O1.out hb3)
            replace R7 := hide (R7.out.below hb3)
            replace R8 := hide (R8.out.below hb3)
            have O2 := hide (ownsRow_base (base' := w2.heap.size) ho8 HQ.out.size)
            replace HQ := hide (HQ.out.trans (hb3.mono HQ.out.size))
            rw [HM2.out] at O2
            rw [HM2.out]
            refine hK3.out _ _ HQ.out (fun _ => ?_)
            clear hK3 K3 ho8 hb3
            (try simp only [Act.put, List.getElem_toArray, List.getElem_cons_succ, List.getElem_cons_zero, List.setIfInBounds_toArray, List.set_cons_zero, List.set_cons_succ])
            refine wpAnyH_ready (rs := [6]) (by kernel_rfl) (by simp) ?_
            refine AllReadyH.cons rfl (fun K hK => ?_) AllReadyH.nil
            have l7 := R7.out.lt
            have z7 := row20 R7.out
            have y7 := row21 R7.out
            have f7 := R7.out.frozen 0
            have h7 := R7.out.frozen 1
            go_simp
            refine hK.out _ _ ((HQ.out.setCell (p := ⟨wa1.heap.size, 0, none⟩) G7.out _).setCell (p := ⟨wa1.heap.size, 1, none⟩) G7.out _) (fun _ => ?_)
            clear hK K
            replace O1 := hide (own_setBox (own_setBox O1.out R7.out (by decide) 0 (.int .i64 dep1)) (R7.out.set 0 (.int .i64 dep1)) (by decide) 1 (.slice A7 m1 k7))
            replace O2 := hide (own_setBox (own_setBox O2.out R7.out (by decide) 0 (.int .i64 dep1)) (R7.out.set 0 (.int .i64 dep1)) (by decide) 1 (.slice A7 m1 k7))
            replace R8 := hide (((R8.out.setNe (o := 0) (v := (.int .i64 dep1)) (g2 := wa1.heap.size) (Ne.symm NE.out)).setNe (o := 1) (v := (.slice A7 m1 k7)) (g2 := wa1.heap.size) (Ne.symm NE.out)))
            replace R7 : Hid (RowAt ((wa3.setCell ⟨wa1.heap.size, 0, none⟩ (.int .i64 dep1)).setCell ⟨wa1.heap.size, 1, none⟩ (.slice A7 m1 k7)) (wa1.heap.size) 24 #[.int .i64 dep1, .slice A7 m1 k7]) := hide (by have h := (R7.out.set 0 (.int .i64 dep1)).set 1 (.slice A7 m1 k7); simpa using h)
            replace HQ := hide ((HQ.out.setCell (p := ⟨wa1.heap.size, 0, none⟩) G7.out (.int .i64 dep1)).setCell (p := ⟨wa1.heap.size, 1, none⟩) G7.out (.slice A7 m1 k7))
            clear l7 z7 y7 f7 h7
            generalize ((wa3.setCell ⟨wa1.heap.size, 0, none⟩ (.int .i64 dep1)).setCell ⟨wa1.heap.size, 1, none⟩ (.slice A7 m1 k7)) = wt7 at *
            (try simp only [Act.put, List.getElem_toArray, List.getElem_cons_succ, List.getElem_cons_zero, List.setIfInBounds_toArray, List.set_cons_zero, List.set_cons_succ])
            refine wpAnyH_ready (rs := [7]) (by kernel_rfl) (by simp) ?_
            refine AllReadyH.cons rfl (fun K hK => ?_) AllReadyH.nil
            have l8 := R8.out.lt
            have z8 := row20 R8.out
            have y8 := row21 R8.out
            have f8 := R8.out.frozen 0
            have h8 := R8.out.frozen 1
            go_simp
            refine hK.out _ _ ((HQ.out.setCell (p := ⟨wa0.heap.size, 0, none⟩) G8.out _).setCell (p := ⟨wa0.heap.size, 1, none⟩) G8.out _) (fun _ => ?_)
            clear hK K
            replace O1 := hide (own_setBox (own_setBox O1.out R8.out (by decide) 0 (.int .i64 dep2)) (R8.out.set 0 (.int .i64 dep2)) (by decide) 1 (.slice A8 m2 k8))
            replace O2 := hide (own_setBox (own_setBox O2.out R8.out (by decide) 0 (.int .i64 dep2)) (R8.out.set 0 (.int .i64 dep2)) (by decide) 1 (.slice A8 m2 k8))
            replace R7 := hide (((R7.out.setNe (o := 0) (v := (.int .i64 dep2)) (g2 := wa0.heap.size) NE.out).setNe (o := 1) (v := (.slice A8 m2 k8)) (g2 := wa0.heap.size) NE.out))
            replace R8 : Hid (RowAt ((wt7.setCell ⟨wa0.heap.size, 0, none⟩ (.int .i64 dep2)).setCell ⟨wa0.heap.size, 1, none⟩ (.slice A8 m2 k8)) (wa0.heap.size) 24 #[.int .i64 dep2, .slice A8 m2 k8]) := hide (by have h := (R8.out.set 0 (.int .i64 dep2)).set 1 (.slice A8 m2 k8); simpa using h)
            replace HQ := hide ((HQ.out.setCell (p := ⟨wa0.heap.size, 0, none⟩) G8.out (.int .i64 dep2)).setCell (p := ⟨wa0.heap.size, 1, none⟩) G8.out (.slice A8 m2 k8))
            clear l8 z8 y8 f8 h8
            (try simp only [Act.put, List.getElem_toArray, List.getElem_cons_succ, List.getElem_cons_zero, List.setIfInBounds_toArray, List.set_cons_zero, List.set_cons_succ])
            refine wpAnyH_done (by kernel_rfl) ?_ _
            go_wp2_with fail
            go_meet
            case rel => exact ⟨_, A7, k7, _, A8, k8, rfl, rfl, R7.out, R8.out, O1.out, O2.out, HQ.out⟩
    · go_simp
      refine hK0.out _ _ (HQ.out.alloc HQ.out.size _) (fun _ => ?_)
      clear hK0 K0
      have hb0 : Below wd.heap.size wd (wd.alloc (.cells #[.int .i64 0, .slice none 0 0] 24)) := (Below.refl _ _).alloc (Nat.le_refl _) _
      have R7 := hide (RowAt.new wd 24 #[.int .i64 0, .slice none 0 0])
      have G7 := hide HQ.out.size
      replace HQ := hide (HQ.out.alloc HQ.out.size (.cells #[.int .i64 0, .slice none 0 0] 24))
      clear hb0
      (try simp only [Act.put, List.getElem_toArray, List.getElem_cons_succ, List.getElem_cons_zero, List.setIfInBounds_toArray, List.set_cons_zero, List.set_cons_succ])
      generalize wd.alloc (.cells #[.int .i64 0, .slice none 0 0] 24) = wa0 at *
      refine wpAnyH_ready (rs := [1, 5]) (by kernel_rfl) (by simp) ?_
      refine (AllReadyH.cons rfl (fun K1 hK1 => ?_) (AllReadyH.cons rfl (fun K1 hK1 => ?_) AllReadyH.nil))
      · go_simp
        refine (HO1.out _ (HQ.out)).mono ?_
        rintro e wa1 ⟨A7, k7, rfl, ho7, hb1⟩
        replace R7 := hide (R7.out.below hb1)
        have O1 := hide (ownsRow_base (base' := w2.heap.size) ho7 HQ.out.size)
        replace HQ := hide (HQ.out.trans (hb1.mono HQ.out.size))
        rw [HM1.out] at O1
        rw [HM1.out]
        refine hK1.out _ _ HQ.out (fun _ => ?_)
        clear hK1 K1 ho7 hb1
        (try simp only [Act.put, List.getElem_toArray, List.getElem_cons_succ, List.getElem_cons_zero, List.setIfInBounds_toArray, List.set_cons_zero, List.set_cons_succ])
        refine wpAnyH_ready (rs := [3, 5]) (by kernel_rfl) (by simp) ?_
        refine (AllReadyH.cons rfl (fun K2 hK2 => ?_) (AllReadyH.cons rfl (fun K2 hK2 => ?_) AllReadyH.nil))
        · go_simp
          refine (HO2.out _ (HQ.out)).mono ?_
          rintro e wa2 ⟨A8, k8, rfl, ho8, hb2⟩
          replace O1 := hide (own_keepB O1.out hb2)
          replace R7 := hide (R7.out.below hb2)
          have O2 := hide (ownsRow_base (base' := w2.heap.size) ho8 HQ.out.size)
          replace HQ := hide (HQ.out.trans (hb2.mono HQ.out.size))
          rw [HM2.out] at O2
          rw [HM2.out]
          refine hK2.out _ _ HQ.out (fun _ => ?_)
          clear hK2 K2 ho8 hb2
          (try simp only [Act.put, List.getElem_toArray, List.getElem_cons_succ, List.getElem_cons_zero, List.setIfInBounds_toArray, List.set_cons_zero, List.set_cons_succ])
          refine wpAnyH_ready (rs := [5]) (by kernel_rfl) (by simp) ?_
          refine (AllReadyH.cons rfl (fun K3 hK3 => ?_) AllReadyH.nil)
          · go_simp
            refine hK3.out _ _ (HQ.out.alloc HQ.out.size _) (fun _ => ?_)
            clear hK3 K3
            have hb3 : Below wa2.heap.size wa2 (wa2.alloc (.cells #[.int .i64 0, .slice none 0 0] 24)) := (Below.refl _ _).alloc (Nat.le_refl _) _
            have NE := hide (show wd.heap.size ≠ wa2.heap.size from Nat.ne_of_lt R7.out.lt)
            replace O1 := hide (own_keepB O1.out hb3)
            replace O2 := hide (own_keepB O2.out hb3)
            replace R7 := hide (R7.out.below hb3)
            have R8 := hide (RowAt.new wa2 24 #[.int .i64 0, .slice none 0 0])
            have G8 := hide HQ.out.size
            replace HQ := hide (HQ.out.alloc HQ.out.size (.cells #[.int .i64 0, .slice none 0 0] 24))
            clear hb3
            (try simp only [Act.put, List.getElem_toArray, List.getElem_cons_succ, List.getElem_cons_zero, List.setIfInBounds_toArray, List.set_cons_zero, List.set_cons_succ])
            generalize wa2.alloc (.cells #[.int .i64 0, .slice none 0 0] 24) = wa3 at *
            refine wpAnyH_ready (rs := [6]) (by kernel_rfl) (by simp) ?_
            refine AllReadyH.cons rfl (fun K hK => ?_) AllReadyH.nil
            have l7 := R7.out.lt
            have z7 := row20 R7.out
            have y7 := row21 R7.out
            have f7 := R7.out.frozen 0
            have h7 := R7.out.frozen 1
            go_simp
            refine hK.out _ _ ((HQ.out.setCell (p := ⟨wd.heap.size, 0, none⟩) G7.out _).setCell (p := ⟨wd.heap.size, 1, none⟩) G7.out _) (fun _ => ?_)
            clear hK K
            replace O1 := hide (own_setBox (own_setBox O1.out R7.out (by decide) 0 (.int .i64 dep1)) (R7.out.set 0 (.int .i64 dep1)) (by decide) 1 (.slice A7 m1 k7))
            replace O2 := hide (own_setBox (own_setBox O2.out R7.out (by decide) 0 (.int .i64 dep1)) (R7.out.set 0 (.int .i64 dep1)) (by decide) 1 (.slice A7 m1 k7))
            replace R8 := hide (((R8.out.setNe (o := 0) (v := (.int .i64 dep1)) (g2 := wd.heap.size) (Ne.symm NE.out)).setNe (o := 1) (v := (.slice A7 m1 k7)) (g2 := wd.heap.size) (Ne.symm NE.out)))
            replace R7 : Hid (RowAt ((wa3.setCell ⟨wd.heap.size, 0, none⟩ (.int .i64 dep1)).setCell ⟨wd.heap.size, 1, none⟩ (.slice A7 m1 k7)) (wd.heap.size) 24 #[.int .i64 dep1, .slice A7 m1 k7]) := hide (by have h := (R7.out.set 0 (.int .i64 dep1)).set 1 (.slice A7 m1 k7); simpa using h)
            replace HQ := hide ((HQ.out.setCell (p := ⟨wd.heap.size, 0, none⟩) G7.out (.int .i64 dep1)).setCell (p := ⟨wd.heap.size, 1, none⟩) G7.out (.slice A7 m1 k7))
            clear l7 z7 y7 f7 h7
            generalize ((wa3.setCell ⟨wd.heap.size, 0, none⟩ (.int .i64 dep1)).setCell ⟨wd.heap.size, 1, none⟩ (.slice A7 m1 k7)) = wt7 at *
            (try simp only [Act.put, List.getElem_toArray, List.getElem_cons_succ, List.getElem_cons_zero, List.setIfInBounds_toArray, List.set_cons_zero, List.set_cons_succ])
            refine wpAnyH_ready (rs := [7]) (by kernel_rfl) (by simp) ?_
            refine AllReadyH.cons rfl (fun K hK => ?_) AllReadyH.nil
            have l8 := R8.out.lt
            have z8 := row20 R8.out
            have y8 := row21 R8.out
            have f8 := R8.out.frozen 0
            have h8 := R8.out.frozen 1
            go_simp
            refine hK.out _ _ ((HQ.out.setCell (p := ⟨wa2.heap.size, 0, none⟩) G8.out _).setCell (p := ⟨wa2.heap.size, 1, none⟩) G8.out _) (fun _ => ?_)
            clear hK K
            replace O1 := hide (own_setBox (own_setBox O1.out R8.out (by decide) 0 (.int .i64 dep2)) (R8.out.set 0 (.int .i64 dep2)) (by decide) 1 (.slice A8 m2 k8))
            replace O2 := hide (own_setBox (own_setBox O2.out R8.out (by decide) 0 (.int .i64 dep2)) (R8.out.set 0 (.int .i64 dep2)) (by decide) 1 (.slice A8 m2 k8))
            replace R7 := hide (((R7.out.setNe (o := 0) (v := (.int .i64 dep2)) (g2 := wa2.heap.size) NE.out).setNe (o := 1) (v := (.slice A8 m2 k8)) (g2 := wa2.heap.size) NE.out))
            replace R8 : Hid (RowAt ((wt7.setCell ⟨wa2.heap.size, 0, none⟩ (.int .i64 dep2)).setCell ⟨wa2.heap.size, 1, none⟩ (.slice A8 m2 k8)) (wa2.heap.size) 24 #[.int .i64 dep2, .slice A8 m2 k8]) := hide (by have h := (R8.out.set 0 (.int .i64 dep2)).set 1 (.slice A8 m2 k8); simpa using h)
            replace HQ := hide ((HQ.out.setCell (p := ⟨wa2.heap.size, 0, none⟩) G8.out (.int .i64 dep2)).setCell (p := ⟨wa2.heap.size, 1, none⟩) G8.out (.slice A8 m2 k8))
            clear l8 z8 y8 f8 h8
            (try simp only [Act.put, List.getElem_toArray, List.getElem_cons_succ, List.getElem_cons_zero, List.setIfInBounds_toArray, List.set_cons_zero, List.set_cons_succ])
            refine wpAnyH_done (by kernel_rfl) ?_ _
            go_wp2_with fail
            go_meet
            case rel => exact ⟨_, A7, k7, _, A8, k8, rfl, rfl, R7.out, R8.out, O1.out, O2.out, HQ.out⟩
        · go_simp
          refine hK2.out _ _ (HQ.out.alloc HQ.out.size _) (fun _ => ?_)
          clear hK2 K2
          have hb2 : Below wa1.heap.size wa1 (wa1.alloc (.cells #[.int .i64 0, .slice none 0 0] 24)) := (Below.refl _ _).alloc (Nat.le_refl _) _
          have NE := hide (show wd.heap.size ≠ wa1.heap.size from Nat.ne_of_lt R7.out.lt)
          replace O1 := hide (own_keepB O1.out hb2)
          replace R7 := hide (R7.out.below hb2)
          have R8 := hide (RowAt.new wa1 24 #[.int .i64 0, .slice none 0 0])
          have G8 := hide HQ.out.size
          replace HQ := hide (HQ.out.alloc HQ.out.size (.cells #[.int .i64 0, .slice none 0 0] 24))
          clear hb2
          (try simp only [Act.put, List.getElem_toArray, List.getElem_cons_succ, List.getElem_cons_zero, List.setIfInBounds_toArray, List.set_cons_zero, List.set_cons_succ])
          generalize wa1.alloc (.cells #[.int .i64 0, .slice none 0 0] 24) = wa2 at *
          refine wpAnyH_ready (rs := [3]) (by kernel_rfl) (by simp) ?_
          refine (AllReadyH.cons rfl (fun K3 hK3 => ?_) AllReadyH.nil)
          · go_simp
            refine (HO2.out _ (HQ.out)).mono ?_
            rintro e wa3 ⟨A8, k8, rfl, ho8, hb3⟩
            replace O1 := hide (own_keepB O1.out hb3)
            replace R7 := hide (R7.out.below hb3)
            replace R8 := hide (R8.out.below hb3)
            have O2 := hide (ownsRow_base (base' := w2.heap.size) ho8 HQ.out.size)
            replace HQ := hide (HQ.out.trans (hb3.mono HQ.out.size))
            rw [HM2.out] at O2
            rw [HM2.out]
            refine hK3.out _ _ HQ.out (fun _ => ?_)
            clear hK3 K3 ho8 hb3
            (try simp only [Act.put, List.getElem_toArray, List.getElem_cons_succ, List.getElem_cons_zero, List.setIfInBounds_toArray, List.set_cons_zero, List.set_cons_succ])
            refine wpAnyH_ready (rs := [6]) (by kernel_rfl) (by simp) ?_
            refine AllReadyH.cons rfl (fun K hK => ?_) AllReadyH.nil
            have l7 := R7.out.lt
            have z7 := row20 R7.out
            have y7 := row21 R7.out
            have f7 := R7.out.frozen 0
            have h7 := R7.out.frozen 1
            go_simp
            refine hK.out _ _ ((HQ.out.setCell (p := ⟨wd.heap.size, 0, none⟩) G7.out _).setCell (p := ⟨wd.heap.size, 1, none⟩) G7.out _) (fun _ => ?_)
            clear hK K
            replace O1 := hide (own_setBox (own_setBox O1.out R7.out (by decide) 0 (.int .i64 dep1)) (R7.out.set 0 (.int .i64 dep1)) (by decide) 1 (.slice A7 m1 k7))
            replace O2 := hide (own_setBox (own_setBox O2.out R7.out (by decide) 0 (.int .i64 dep1)) (R7.out.set 0 (.int .i64 dep1)) (by decide) 1 (.slice A7 m1 k7))
            replace R8 := hide (((R8.out.setNe (o := 0) (v := (.int .i64 dep1)) (g2 := wd.heap.size) (Ne.symm NE.out)).setNe (o := 1) (v := (.slice A7 m1 k7)) (g2 := wd.heap.size) (Ne.symm NE.out)))
            replace R7 : Hid (RowAt ((wa3.setCell ⟨wd.heap.size, 0, none⟩ (.int .i64 dep1)).setCell ⟨wd.heap.size, 1, none⟩ (.slice A7 m1 k7)) (wd.heap.size) 24 #[.int .i64 dep1, .slice A7 m1 k7]) := hide (by have h := (R7.out.set 0 (.int .i64 dep1)).set 1 (.slice A7 m1 k7); simpa using h)
            replace HQ := hide ((HQ.out.setCell (p := ⟨wd.heap.size, 0, none⟩) G7.out (.int .i64 dep1)).setCell (p := ⟨wd.heap.size, 1, none⟩) G7.out (.slice A7 m1 k7))
            clear l7 z7 y7 f7 h7
            generalize ((wa3.setCell ⟨wd.heap.size, 0, none⟩ (.int .i64 dep1)).setCell ⟨wd.heap.size, 1, none⟩ (.slice A7 m1 k7)) = wt7 at *
            (try simp only [Act.put, List.getElem_toArray, List.getElem_cons_succ, List.getElem_cons_zero, List.setIfInBounds_toArray, List.set_cons_zero, List.set_cons_succ])
            refine wpAnyH_ready (rs := [7]) (by kernel_rfl) (by simp) ?_
            refine AllReadyH.cons rfl (fun K hK => ?_) AllReadyH.nil
            have l8 := R8.out.lt
            have z8 := row20 R8.out
            have y8 := row21 R8.out
            have f8 := R8.out.frozen 0
            have h8 := R8.out.frozen 1
            go_simp
            refine hK.out _ _ ((HQ.out.setCell (p := ⟨wa1.heap.size, 0, none⟩) G8.out _).setCell (p := ⟨wa1.heap.size, 1, none⟩) G8.out _) (fun _ => ?_)
            clear hK K
            replace O1 := hide (own_setBox (own_setBox O1.out R8.out (by decide) 0 (.int .i64 dep2)) (R8.out.set 0 (.int .i64 dep2)) (by decide) 1 (.slice A8 m2 k8))
            replace O2 := hide (own_setBox (own_setBox O2.out R8.out (by decide) 0 (.int .i64 dep2)) (R8.out.set 0 (.int .i64 dep2)) (by decide) 1 (.slice A8 m2 k8))
            replace R7 := hide (((R7.out.setNe (o := 0) (v := (.int .i64 dep2)) (g2 := wa1.heap.size) NE.out).setNe (o := 1) (v := (.slice A8 m2 k8)) (g2 := wa1.heap.size) NE.out))
            replace R8 : Hid (RowAt ((wt7.setCell ⟨wa1.heap.size, 0, none⟩ (.int .i64 dep2)).setCell ⟨wa1.heap.size, 1, none⟩ (.slice A8 m2 k8)) (wa1.heap.size) 24 #[.int .i64 dep2, .slice A8 m2 k8]) := hide (by have h := (R8.out.set 0 (.int .i64 dep2)).set 1 (.slice A8 m2 k8); simpa using h)
            replace HQ := hide ((HQ.out.setCell (p := ⟨wa1.heap.size, 0, none⟩) G8.out (.int .i64 dep2)).setCell (p := ⟨wa1.heap.size, 1, none⟩) G8.out (.slice A8 m2 k8))
            clear l8 z8 y8 f8 h8
            (try simp only [Act.put, List.getElem_toArray, List.getElem_cons_succ, List.getElem_cons_zero, List.setIfInBounds_toArray, List.set_cons_zero, List.set_cons_succ])
            refine wpAnyH_done (by kernel_rfl) ?_ _
            go_wp2_with fail
            go_meet
            case rel => exact ⟨_, A7, k7, _, A8, k8, rfl, rfl, R7.out, R8.out, O1.out, O2.out, HQ.out⟩
      · go_simp
        refine hK1.out _ _ (HQ.out.alloc HQ.out.size _) (fun _ => ?_)
        clear hK1 K1
        have hb1 : Below wa0.heap.size wa0 (wa0.alloc (.cells #[.int .i64 0, .slice none 0 0] 24)) := (Below.refl _ _).alloc (Nat.le_refl _) _
        have NE := hide (show wd.heap.size ≠ wa0.heap.size from Nat.ne_of_lt R7.out.lt)
        replace R7 := hide (R7.out.below hb1)
        have R8 := hide (RowAt.new wa0 24 #[.int .i64 0, .slice none 0 0])
        have G8 := hide HQ.out.size
        replace HQ := hide (HQ.out.alloc HQ.out.size (.cells #[.int .i64 0, .slice none 0 0] 24))
        clear hb1
        (try simp only [Act.put, List.getElem_toArray, List.getElem_cons_succ, List.getElem_cons_zero, List.setIfInBounds_toArray, List.set_cons_zero, List.set_cons_succ])
        generalize wa0.alloc (.cells #[.int .i64 0, .slice none 0 0] 24) = wa1 at *
        refine wpAnyH_ready (rs := [1]) (by kernel_rfl) (by simp) ?_
        refine (AllReadyH.cons rfl (fun K2 hK2 => ?_) AllReadyH.nil)
        · go_simp
          refine (HO1.out _ (HQ.out)).mono ?_
          rintro e wa2 ⟨A7, k7, rfl, ho7, hb2⟩
          replace R7 := hide (R7.out.below hb2)
          replace R8 := hide (R8.out.below hb2)
          have O1 := hide (ownsRow_base (base' := w2.heap.size) ho7 HQ.out.size)
          replace HQ := hide (HQ.out.trans (hb2.mono HQ.out.size))
          rw [HM1.out] at O1
          rw [HM1.out]
          refine hK2.out _ _ HQ.out (fun _ => ?_)
          clear hK2 K2 ho7 hb2
          (try simp only [Act.put, List.getElem_toArray, List.getElem_cons_succ, List.getElem_cons_zero, List.setIfInBounds_toArray, List.set_cons_zero, List.set_cons_succ])
          refine wpAnyH_ready (rs := [3]) (by kernel_rfl) (by simp) ?_
          refine (AllReadyH.cons rfl (fun K3 hK3 => ?_) AllReadyH.nil)
          · go_simp
            refine (HO2.out _ (HQ.out)).mono ?_
            rintro e wa3 ⟨A8, k8, rfl, ho8, hb3⟩
            replace O1 := hide (own_keepB O1.out hb3)
            replace R7 := hide (R7.out.below hb3)
            replace R8 := hide (R8.out.below hb3)
            have O2 := hide (ownsRow_base (base' := w2.heap.size) ho8 HQ.out.size)
            replace HQ := hide (HQ.out.trans (hb3.mono HQ.out.size))
            rw [HM2.out] at O2
            rw [HM2.out]
            refine hK3.out _ _ HQ.out (fun _ => ?_)
            clear hK3 K3 ho8 hb3
            (try simp only [Act.put, List.getElem_toArray, List.getElem_cons_succ, List.getElem_cons_zero, List.setIfInBounds_toArray, List.set_cons_zero, List.set_cons_succ])
            refine wpAnyH_ready (rs := [6]) (by kernel_rfl) (by simp) ?_
            refine AllReadyH.cons rfl (fun K hK => ?_) AllReadyH.nil
            have l7 := R7.out.lt
            have z7 := row20 R7.out
            have y7 := row21 R7.out
            have f7 := R7.out.frozen 0
            have h7 := R7.out.frozen 1
            go_simp
            refine hK.out _ _ ((HQ.out.setCell (p := ⟨wd.heap.size, 0, none⟩) G7.out _).setCell (p := ⟨wd.heap.size, 1, none⟩) G7.out _) (fun _ => ?_)
            clear hK K
            replace O1 := hide (own_setBox (own_setBox O1.out R7.out (by decide) 0 (.int .i64 dep1)) (R7.out.set 0 (.int .i64 dep1)) (by decide) 1 (.slice A7 m1 k7))
            replace O2 := hide (own_setBox (own_setBox O2.out R7.out (by decide) 0 (.int .i64 dep1)) (R7.out.set 0 (.int .i64 dep1)) (by decide) 1 (.slice A7 m1 k7))
            replace R8 := hide (((R8.out.setNe (o := 0) (v := (.int .i64 dep1)) (g2 := wd.heap.size) (Ne.symm NE.out)).setNe (o := 1) (v := (.slice A7 m1 k7)) (g2 := wd.heap.size) (Ne.symm NE.out)))
            replace R7 : Hid (RowAt ((wa3.setCell ⟨wd.heap.size, 0, none⟩ (.int .i64 dep1)).setCell ⟨wd.heap.size, 1, none⟩ (.slice A7 m1 k7)) (wd.heap.size) 24 #[.int .i64 dep1, .slice A7 m1 k7]) := hide (by have h := (R7.out.set 0 (.int .i64 dep1)).set 1 (.slice A7 m1 k7); simpa using h)
            replace HQ := hide ((HQ.out.setCell (p := ⟨wd.heap.size, 0, none⟩) G7.out (.int .i64 dep1)).setCell (p := ⟨wd.heap.size, 1, none⟩) G7.out (.slice A7 m1 k7))
            clear l7 z7 y7 f7 h7
            generalize ((wa3.setCell ⟨wd.heap.size, 0, none⟩ (.int .i64 dep1)).setCell ⟨wd.heap.size, 1, none⟩ (.slice A7 m1 k7)) = wt7 at *
            (try simp only [Act.put, List.getElem_toArray, List.getElem_cons_succ, List.getElem_cons_zero, List.setIfInBounds_toArray, List.set_cons_zero, List.set_cons_succ])
            refine wpAnyH_ready (rs := [7]) (by kernel_rfl) (by simp) ?_
            refine AllReadyH.cons rfl (fun K hK => ?_) AllReadyH.nil
            have l8 := R8.out.lt
            have z8 := row20 R8.out
            have y8 := row21 R8.out
            have f8 := R8.out.frozen 0
            have h8 := R8.out.frozen 1
            go_simp
            refine hK.out _ _ ((HQ.out.setCell (p := ⟨wa0.heap.size, 0, none⟩) G8.out _).setCell (p := ⟨wa0.heap.size, 1, none⟩) G8.out _) (fun _ => ?_)
            clear hK K
            replace O1 := hide (own_setBox (own_setBox O1.out R8.out (by decide) 0 (.int .i64 dep2)) (R8.out.set 0 (.int .i64 dep2)) (by decide) 1 (.slice A8 m2 k8))
            replace O2 := hide (own_setBox (own_setBox O2.out R8.out (by decide) 0 (.int .i64 dep2)) (R8.out.set 0 (.int .i64 dep2)) (by decide) 1 (.slice A8 m2 k8))
            replace R7 := hide (((R7.out.setNe (o := 0) (v := (.int .i64 dep2)) (g2 := wa0.heap.size) NE.out).setNe (o := 1) (v := (.slice A8 m2 k8)) (g2 := wa0.heap.size) NE.out))
            replace R8 : Hid (RowAt ((wt7.setCell ⟨wa0.heap.size, 0, none⟩ (.int .i64 dep2)).setCell ⟨wa0.heap.size, 1, none⟩ (.slice A8 m2 k8)) (wa0.heap.size) 24 #[.int .i64 dep2, .slice A8 m2 k8]) := hide (by have h := (R8.out.set 0 (.int .i64 dep2)).set 1 (.slice A8 m2 k8); simpa using h)
            replace HQ := hide ((HQ.out.setCell (p := ⟨wa0.heap.size, 0, none⟩) G8.out (.int .i64 dep2)).setCell (p := ⟨wa0.heap.size, 1, none⟩) G8.out (.slice A8 m2 k8))
            clear l8 z8 y8 f8 h8
            (try simp only [Act.put, List.getElem_toArray, List.getElem_cons_succ, List.getElem_cons_zero, List.setIfInBounds_toArray, List.set_cons_zero, List.set_cons_succ])
            refine wpAnyH_done (by kernel_rfl) ?_ _
            go_wp2_with fail
            go_meet
            case rel => exact ⟨_, A7, k7, _, A8, k8, rfl, rfl, R7.out, R8.out, O1.out, O2.out, HQ.out⟩
    · go_simp
      refine hK0.out _ _ (HQ.out.alloc HQ.out.size _) (fun _ => ?_)
      clear hK0 K0
      have hb0 : Below wd.heap.size wd (wd.alloc (.cells #[.int .i64 0, .slice none 0 0] 24)) := (Below.refl _ _).alloc (Nat.le_refl _) _
      have R8 := hide (RowAt.new wd 24 #[.int .i64 0, .slice none 0 0])
      have G8 := hide HQ.out.size
      replace HQ := hide (HQ.out.alloc HQ.out.size (.cells #[.int .i64 0, .slice none 0 0] 24))
      clear hb0
      (try simp only [Act.put, List.getElem_toArray, List.getElem_cons_succ, List.getElem_cons_zero, List.setIfInBounds_toArray, List.set_cons_zero, List.set_cons_succ])
      generalize wd.alloc (.cells #[.int .i64 0, .slice none 0 0] 24) = wa0 at *
      refine wpAnyH_ready (rs := [1, 4]) (by kernel_rfl) (by simp) ?_
      refine (AllReadyH.cons rfl (fun K1 hK1 => ?_) (AllReadyH.cons rfl (fun K1 hK1 => ?_) AllReadyH.nil))
      · go_simp
        refine (HO1.out _ (HQ.out)).mono ?_
        rintro e wa1 ⟨A7, k7, rfl, ho7, hb1⟩
        replace R8 := hide (R8.out.below hb1)
        have O1 := hide (ownsRow_base (base' := w2.heap.size) ho7 HQ.out.size)
        replace HQ := hide (HQ.out.trans (hb1.mono HQ.out.size))
        rw [HM1.out] at O1
        rw [HM1.out]
        refine hK1.out _ _ HQ.out (fun _ => ?_)
        clear hK1 K1 ho7 hb1
        (try simp only [Act.put, List.getElem_toArray, List.getElem_cons_succ, List.getElem_cons_zero, List.setIfInBounds_toArray, List.set_cons_zero, List.set_cons_succ])
        refine wpAnyH_ready (rs := [3, 4]) (by kernel_rfl) (by simp) ?_
        refine (AllReadyH.cons rfl (fun K2 hK2 => ?_) (AllReadyH.cons rfl (fun K2 hK2 => ?_) AllReadyH.nil))
        · go_simp
          refine (HO2.out _ (HQ.out)).mono ?_
          rintro e wa2 ⟨A8, k8, rfl, ho8, hb2⟩
          replace O1 := hide (own_keepB O1.out hb2)
          replace R8 := hide (R8.out.below hb2)
          have O2 := hide (ownsRow_base (base' := w2.heap.size) ho8 HQ.out.size)
          replace HQ := hide (HQ.out.trans (hb2.mono HQ.out.size))
          rw [HM2.out] at O2
          rw [HM2.out]
          refine hK2.out _ _ HQ.out (fun _ => ?_)
          clear hK2 K2 ho8 hb2
          (try simp only [Act.put, List.getElem_toArray, List.getElem_cons_succ, List.getElem_cons_zero, List.setIfInBounds_toArray, List.set_cons_zero, List.set_cons_succ])
          refine wpAnyH_ready (rs := [4]) (by kernel_rfl) (by simp) ?_
          refine (AllReadyH.cons rfl (fun K3 hK3 => ?_) AllReadyH.nil)
          · go_simp
            refine hK3.out _ _ (HQ.out.alloc HQ.out.size _) (fun _ => ?_)
            clear hK3 K3
            have hb3 : Below wa2.heap.size wa2 (wa2.alloc (.cells #[.int .i64 0, .slice none 0 0] 24)) := (Below.refl _ _).alloc (Nat.le_refl _) _
            have NE := hide (show wa2.heap.size ≠ wd.heap.size from Nat.ne_of_gt R8.out.lt)
            replace O1 := hide (own_keepB O1.out hb3)
            replace O2 := hide (own_keepB O2.out hb3)
            replace R8 := hide (R8.out.below hb3)
            have R7 := hide (RowAt.new wa2 24 #[.int .i64 0, .slice none 0 0])
            have G7 := hide HQ.out.size
            replace HQ := hide (HQ.out.alloc HQ.out.size (.cells #[.int .i64 0, .slice none 0 0] 24))
            clear hb3
            (try simp only [Act.put, List.getElem_toArray, List.getElem_cons_succ, List.getElem_cons_zero, List.setIfInBounds_toArray, List.set_cons_zero, List.set_cons_succ])
            generalize wa2.alloc (.cells #[.int .i64 0, .slice none 0 0] 24) = wa3 at *
            refine wpAnyH_ready (rs := [6]) (by kernel_rfl) (by simp) ?_
            refine AllReadyH.cons rfl (fun K hK => ?_) AllReadyH.nil
            have l7 := R7.out.lt
            have z7 := row20 R7.out
            have y7 := row21 R7.out
            have f7 := R7.out.frozen 0
            have h7 := R7.out.frozen 1
            go_simp
            refine hK.out _ _ ((HQ.out.setCell (p := ⟨wa2.heap.size, 0, none⟩) G7.out _).setCell (p := ⟨wa2.heap.size, 1, none⟩) G7.out _) (fun _ => ?_)
            clear hK K
            replace O1 := hide (own_setBox (own_setBox O1.out R7.out (by decide) 0 (.int .i64 dep1)) (R7.out.set 0 (.int .i64 dep1)) (by decide) 1 (.slice A7 m1 k7))
            replace O2 := hide (own_setBox (own_setBox O2.out R7.out (by decide) 0 (.int .i64 dep1)) (R7.out.set 0 (.int .i64 dep1)) (by decide) 1 (.slice A7 m1 k7))
            replace R8 := hide (((R8.out.setNe (o := 0) (v := (.int .i64 dep1)) (g2 := wa2.heap.size) (Ne.symm NE.out)).setNe (o := 1) (v := (.slice A7 m1 k7)) (g2 := wa2.heap.size) (Ne.symm NE.out)))
            replace R7 : Hid (RowAt ((wa3.setCell ⟨wa2.heap.size, 0, none⟩ (.int .i64 dep1)).setCell ⟨wa2.heap.size, 1, none⟩ (.slice A7 m1 k7)) (wa2.heap.size) 24 #[.int .i64 dep1, .slice A7 m1 k7]) := hide (by have h := (R7.out.set 0 (.int .i64 dep1)).set 1 (.slice A7 m1 k7); simpa using h)
            replace HQ := hide ((HQ.out.setCell (p := ⟨wa2.heap.size, 0, none⟩) G7.out (.int .i64 dep1)).setCell (p := ⟨wa2.heap.size, 1, none⟩) G7.out (.slice A7 m1 k7))
            clear l7 z7 y7 f7 h7
            generalize ((wa3.setCell ⟨wa2.heap.size, 0, none⟩ (.int .i64 dep1)).setCell ⟨wa2.heap.size, 1, none⟩ (.slice A7 m1 k7)) = wt7 at *
            (try simp only [Act.put, List.getElem_toArray, List.getElem_cons_succ, List.getElem_cons_zero, List.setIfInBounds_toArray, List.set_cons_zero, List.set_cons_succ])
            refine wpAnyH_ready (rs := [7]) (by kernel_rfl) (by simp) ?_
            refine AllReadyH.cons rfl (fun K hK => ?_) AllReadyH.nil
            have l8 := R8.out.lt
            have z8 := row20 R8.out
            have y8 := row21 R8.out
            have f8 := R8.out.frozen 0
            have h8 := R8.out.frozen 1
            go_simp
            refine hK.out _ _ ((HQ.out.setCell (p := ⟨wd.heap.size, 0, none⟩) G8.out _).setCell (p := ⟨wd.heap.size, 1, none⟩) G8.out _) (fun _ => ?_)
            clear hK K
            replace O1 := hide (own_setBox (own_setBox O1.out R8.out (by decide) 0 (.int .i64 dep2)) (R8.out.set 0 (.int .i64 dep2)) (by decide) 1 (.slice A8 m2 k8))
            replace O2 := hide (own_setBox (own_setBox O2.out R8.out (by decide) 0 (.int .i64 dep2)) (R8.out.set 0 (.int .i64 dep2)) (by decide) 1 (.slice A8 m2 k8))
            replace R7 := hide (((R7.out.setNe (o := 0) (v := (.int .i64 dep2)) (g2 := wd.heap.size) NE.out).setNe (o := 1) (v := (.slice A8 m2 k8)) (g2 := wd.heap.size) NE.out))
            replace R8 : Hid (RowAt ((wt7.setCell ⟨wd.heap.size, 0, none⟩ (.int .i64 dep2)).setCell ⟨wd.heap.size, 1, none⟩ (.slice A8 m2 k8)) (wd.heap.size) 24 #[.int .i64 dep2, .slice A8 m2 k8]) := hide (by have h := (R8.out.set 0 (.int .i64 dep2)).set 1 (.slice A8 m2 k8); simpa using h)
            replace HQ := hide ((HQ.out.setCell (p := ⟨wd.heap.size, 0, none⟩) G8.out (.int .i64 dep2)).setCell (p := ⟨wd.heap.size, 1, none⟩) G8.out (.slice A8 m2 k8))
            clear l8 z8 y8 f8 h8
            (try simp only [Act.put, List.getElem_toArray, List.getElem_cons_succ, List.getElem_cons_zero, List.setIfInBounds_toArray, List.set_cons_zero, List.set_cons_succ])
            refine wpAnyH_done (by kernel_rfl) ?_ _
            go_wp2_with fail
            go_meet
            case rel => exact ⟨_, A7, k7, _, A8, k8, rfl, rfl, R7.out, R8.out, O1.out, O2.out, HQ.out⟩
        · go_simp
          refine hK2.out _ _ (HQ.out.alloc HQ.out.size _) (fun _ => ?_)
          clear hK2 K2
          have hb2 : Below wa1.heap.size wa1 (wa1.alloc (.cells #[.int .i64 0, .slice none 0 0] 24)) := (Below.refl _ _).alloc (Nat.le_refl _) _
          have NE := hide (show wa1.heap.size ≠ wd.heap.size from Nat.ne_of_gt R8.out.lt)
          replace O1 := hide (own_keepB O1.out hb2)
          replace R8 := hide (R8.out.below hb2)
          have R7 := hide (RowAt.new wa1 24 #[.int .i64 0, .slice none 0 0])
          have G7 := hide HQ.out.size
          replace HQ := hide (HQ.out.alloc HQ.out.size (.cells #[.int .i64 0, .slice none 0 0] 24))
          clear hb2
          (try simp only [Act.put, List.getElem_toArray, List.getElem_cons_succ, List.getElem_cons_zero, List.setIfInBounds_toArray, List.set_cons_zero, List.set_cons_succ])
          generalize wa1.alloc (.cells #[.int .i64 0, .slice none 0 0] 24) = wa2 at *
          refine wpAnyH_ready (rs := [3]) (by kernel_rfl) (by simp) ?_
          refine (AllReadyH.cons rfl (fun K3 hK3 => ?_) AllReadyH.nil)
          · go_simp
            refine (HO2.out _ (HQ.out)).mono ?_
            rintro e wa3 ⟨A8, k8, rfl, ho8, hb3⟩
            replace O1 := hide (own_keepB O1.out hb3)
            replace R7 := hide (R7.out.below hb3)
            replace R8 := hide (R8.out.below hb3)
            have O2 := hide (ownsRow_base (base' := w2.heap.size) ho8 HQ.out.size)
            replace HQ := hide (HQ.out.trans (hb3.mono HQ.out.size))
            rw [HM2.out] at O2
            rw [HM2.out]
            refine hK3.out _ _ HQ.out (fun _ => ?_)
            clear hK3 K3 ho8 hb3
            (try simp only [Act.put, List.getElem_toArray, List.getElem_cons_succ, List.getElem_cons_zero, List.setIfInBounds_toArray, List.set_cons_zero, List.set_cons_succ])
            refine wpAnyH_ready (rs := [6]) (by kernel_rfl) (by simp) ?_
            refine AllReadyH.cons rfl (fun K hK => ?_) AllReadyH.nil
            have l7 := R7.out.lt
            have z7 := row20 R7.out
            have y7 := row21 R7.out
            have f7 := R7.out.frozen 0
            have h7 := R7.out.frozen 1
            go_simp
            refine hK.out _ _ ((HQ.out.setCell (p := ⟨wa1.heap.size, 0, none⟩) G7.out _).setCell (p := ⟨wa1.heap.size, 1, none⟩) G7.out _) (fun _ => ?_)
            clear hK K
            replace O1 := hide (own_setBox (own_setBox O1.out R7.out (by decide) 0 (.int .i64 dep1)) (R7.out.set 0 (.int .i64 dep1)) (by decide) 1 (.slice A7 m1 k7))
            replace O2 := hide (own_setBox (own_setBox O2.out R7.out (by decide) 0 (.int .i64 dep1)) (R7.out.set 0 (.int .i64 dep1)) (by decide) 1 (.slice A7 m1 k7))
            replace R8 := hide (((R8.out.setNe (o := 0) (v := (.int .i64 dep1)) (g2 := wa1.heap.size) (Ne.symm NE.out)).setNe (o := 1) (v := (.slice A7 m1 k7)) (g2 := wa1.heap.size) (Ne.symm NE.out)))
            replace R7 : Hid (RowAt ((wa3.setCell ⟨wa1.heap.size, 0, none⟩ (.int .i64 dep1)).setCell ⟨wa1.heap.size, 1, none⟩ (.slice A7 m1 k7)) (wa1.heap.size) 24 #[.int .i64 dep1, .slice A7 m1 k7]) := hide (by have h := (R7.out.set 0 (.int .i64 dep1)).set 1 (.slice A7 m1 k7); simpa using h)
            replace HQ := hide ((HQ.out.setCell (p := ⟨wa1.heap.size, 0, none⟩) G7.out (.int .i64 dep1)).setCell (p := ⟨wa1.heap.size, 1, none⟩) G7.out (.slice A7 m1 k7))
            clear l7 z7 y7 f7 h7
            generalize ((wa3.setCell ⟨wa1.heap.size, 0, none⟩ (.int .i64 dep1)).setCell ⟨wa1.heap.size, 1, none⟩ (.slice A7 m1 k7)) = wt7 at *
            (try simp only [Act.put, List.getElem_toArray, List.getElem_cons_succ, List.getElem_cons_zero, List.setIfInBounds_toArray, List.set_cons_zero, List.set_cons_succ])
            refine wpAnyH_ready (rs := [7]) (by kernel_rfl) (by simp) ?_
            refine AllReadyH.cons rfl (fun K hK => ?_) AllReadyH.nil
            have l8 := R8.out.lt
            have z8 := row20 R8.out
            have y8 := row21 R8.out
            have f8 := R8.out.frozen 0
            have h8 := R8.out.frozen 1
            go_simp
            refine hK.out _ _ ((HQ.out.setCell (p := ⟨wd.heap.size, 0, none⟩) G8.out _).setCell (p := ⟨wd.heap.size, 1, none⟩) G8.out _) (fun _ => ?_)
            clear hK K
            replace O1 := hide (own_setBox (own_setBox O1.out R8.out (by decide) 0 (.int .i64 dep2)) (R8.out.set 0 (.int .i64 dep2)) (by decide) 1 (.slice A8 m2 k8))
            replace O2 := hide (own_setBox (own_setBox O2.out R8.out (by decide) 0 (.int .i64 dep2)) (R8.out.set 0 (.int .i64 dep2)) (by decide) 1 (.slice A8 m2 k8))
            replace R7 := hide (((R7.out.setNe (o := 0) (v := (.int .i64 dep2)) (g2 := wd.heap.size) NE.out).setNe (o := 1) (v := (.slice A8 m2 k8)) (g2 := wd.heap.size) NE.out))
            replace R8 : Hid (RowAt ((wt7.setCell ⟨wd.heap.size, 0, none⟩ (.int .i64 dep2)).setCell ⟨wd.heap.size, 1, none⟩ (.slice A8 m2 k8)) (wd.heap.size) 24 #[.int .i64 dep2, .slice A8 m2 k8]) := hide (by have h := (R8.out.set 0 (.int .i64 dep2)).set 1 (.slice A8 m2 k8); simpa using h)
            replace HQ := hide ((HQ.out.setCell (p := ⟨wd.heap.size, 0, none⟩) G8.out (.int .i64 dep2)).setCell (p := ⟨wd.heap.size, 1, none⟩) G8.out (.slice A8 m2 k8))
            clear l8 z8 y8 f8 h8
            (try simp only [Act.put, List.getElem_toArray, List.getElem_cons_succ, List.getElem_cons_zero, List.setIfInBounds_toArray, List.set_cons_zero, List.set_cons_succ])
            refine wpAnyH_done (by kernel_rfl) ?_ _
            go_wp2_with fail
            go_meet
            case rel => exact ⟨_, A7, k7, _, A8, k8, rfl, rfl, R7.out, R8.out, O1.out, O2.out, HQ.out⟩
      · go_simp
        refine hK1.out _ _ (HQ.out.alloc HQ.out.size _) (fun _ => ?_)
        clear hK1 K1
        have hb1 : Below wa0.heap.size wa0 (wa0.alloc (.cells #[.int .i64 0, .slice none 0 0] 24)) := (Below.refl _ _).alloc (Nat.le_refl _) _
        have NE := hide (show wa0.heap.size ≠ wd.heap.size from Nat.ne_of_gt R8.out.lt)
        replace R8 := hide (R8.out.below hb1)
        have R7 := hide (RowAt.new wa0 24 #[.int .i64 0, .slice none 0 0])
        have G7 := hide HQ.out.size
        replace HQ := hide (HQ.out.alloc HQ.out.size (.cells #[.int .i64 0, .slice none 0 0] 24))
        clear hb1
        (try simp only [Act.put, List.getElem_toArray, List.getElem_cons_succ, List.getElem_cons_zero, List.setIfInBounds_toArray, List.set_cons_zero, List.set_cons_succ])
        generalize wa0.alloc (.cells #[.int .i64 0, .slice none 0 0] 24) = wa1 at *
        refine wpAnyH_ready (rs := [1]) (by kernel_rfl) (by simp) ?_
        refine (AllReadyH.cons rfl (fun K2 hK2 => ?_) AllReadyH.nil)
        · go_simp
          refine (HO1.out _ (HQ.out)).mono ?_
          rintro e wa2 ⟨A7, k7, rfl, ho7, hb2⟩
          replace R7 := hide (R7.out.below hb2)
          replace R8 := hide (R8.out.below hb2)
          have O1 := hide (ownsRow_base (base' := w2.heap.size) ho7 HQ.out.size)
          replace HQ := hide (HQ.out.trans (hb2.mono HQ.out.size))
          rw [HM1.out] at O1
          rw [HM1.out]
          refine hK2.out _ _ HQ.out (fun _ => ?_)
          clear hK2 K2 ho7 hb2
          (try simp only [Act.put, List.getElem_toArray, List.getElem_cons_succ, List.getElem_cons_zero, List.setIfInBounds_toArray, List.set_cons_zero, List.set_cons_succ])
          refine wpAnyH_ready (rs := [3]) (by kernel_rfl) (by simp) ?_
          refine (AllReadyH.cons rfl (fun K3 hK3 => ?_) AllReadyH.nil)
          · go_simp
            refine (HO2.out _ (HQ.out)).mono ?_
            rintro e wa3 ⟨A8, k8, rfl, ho8, hb3⟩
            replace O1 := hide (own_keepB O1.out hb3)
            replace R7 := hide (R7.out.below hb3)
            replace R8 := hide (R8.out.below hb3)
            have O2 := hide (ownsRow_base (base' := w2.heap.size) ho8 HQ.out.size)
            replace HQ := hide (HQ.out.trans (hb3.mono HQ.out.size))
            rw [HM2.out] at O2
            rw [HM2.out]
            refine hK3.out _ _ HQ.out (fun _ => ?_)
            clear hK3 K3 ho8 hb3
            (try simp only [Act.put, List.getElem_toArray, List.getElem_cons_succ, List.getElem_cons_zero, List.setIfInBounds_toArray, List.set_cons_zero, List.set_cons_succ])
            refine wpAnyH_ready (rs := [6]) (by kernel_rfl) (by simp) ?_
            refine AllReadyH.cons rfl (fun K hK => ?_) AllReadyH.nil
            have l7 := R7.out.lt
            have z7 := row20 R7.out
            have y7 := row21 R7.out
            have f7 := R7.out.frozen 0
            have h7 := R7.out.frozen 1
            go_simp
            refine hK.out _ _ ((HQ.out.setCell (p := ⟨wa0.heap.size, 0, none⟩) G7.out _).setCell (p := ⟨wa0.heap.size, 1, none⟩) G7.out _) (fun _ => ?_)
            clear hK K
            replace O1 := hide (own_setBox (own_setBox O1.out R7.out (by decide) 0 (.int .i64 dep1)) (R7.out.set 0 (.int .i64 dep1)) (by decide) 1 (.slice A7 m1 k7))
            replace O2 := hide (own_setBox (own_setBox O2.out R7.out (by decide) 0 (.int .i64 dep1)) (R7.out.set 0 (.int .i64 dep1)) (by decide) 1 (.slice A7 m1 k7))
            replace R8 := hide (((R8.out.setNe (o := 0) (v := (.int .i64 dep1)) (g2 := wa0.heap.size) (Ne.symm NE.out)).setNe (o := 1) (v := (.slice A7 m1 k7)) (g2 := wa0.heap.size) (Ne.symm NE.out)))
            replace R7 : Hid (RowAt ((wa3.setCell ⟨wa0.heap.size, 0, none⟩ (.int .i64 dep1)).setCell ⟨wa0.heap.size, 1, none⟩ (.slice A7 m1 k7)) (wa0.heap.size) 24 #[.int .i64 dep1, .slice A7 m1 k7]) := hide (by have h := (R7.out.set 0 (.int .i64 dep1)).set 1 (.slice A7 m1 k7); simpa using h)
            replace HQ := hide ((HQ.out.setCell (p := ⟨wa0.heap.size, 0, none⟩) G7.out (.int .i64 dep1)).setCell (p := ⟨wa0.heap.size, 1, none⟩) G7.out (.slice A7 m1 k7))
            clear l7 z7 y7 f7 h7
            generalize ((wa3.setCell ⟨wa0.heap.size, 0, none⟩ (.int .i64 dep1)).setCell ⟨wa0.heap.size, 1, none⟩ (.slice A7 m1 k7)) = wt7 at *
            (try simp only [Act.put, List.getElem_toArray, List.getElem_cons_succ, List.getElem_cons_zero, List.setIfInBounds_toArray, List.set_cons_zero, List.set_cons_succ])
            refine wpAnyH_ready (rs := [7]) (by kernel_rfl) (by simp) ?_
            refine AllReadyH.cons rfl (fun K hK => ?_) AllReadyH.nil
            have l8 := R8.out.lt
            have z8 := row20 R8.out
            have y8 := row21 R8.out
            have f8 := R8.out.frozen 0
            have h8 := R8.out.frozen 1
            go_simp
            refine hK.out _ _ ((HQ.out.setCell (p := ⟨wd.heap.size, 0, none⟩) G8.out _).setCell (p := ⟨wd.heap.size, 1, none⟩) G8.out _) (fun _ => ?_)
            clear hK K
            replace O1 := hide (own_setBox (own_setBox O1.out R8.out (by decide) 0 (.int .i64 dep2)) (R8.out.set 0 (.int .i64 dep2)) (by decide) 1 (.slice A8 m2 k8))
            replace O2 := hide (own_setBox (own_setBox O2.out R8.out (by decide) 0 (.int .i64 dep2)) (R8.out.set 0 (.int .i64 dep2)) (by decide) 1 (.slice A8 m2 k8))
            replace R7 := hide (((R7.out.setNe (o := 0) (v := (.int .i64 dep2)) (g2 := wd.heap.size) NE.out).setNe (o := 1) (v := (.slice A8 m2 k8)) (g2 := wd.heap.size) NE.out))
            replace R8 : Hid (RowAt ((wt7.setCell ⟨wd.heap.size, 0, none⟩ (.int .i64 dep2)).setCell ⟨wd.heap.size, 1, none⟩ (.slice A8 m2 k8)) (wd.heap.size) 24 #[.int .i64 dep2, .slice A8 m2 k8]) := hide (by have h := (R8.out.set 0 (.int .i64 dep2)).set 1 (.slice A8 m2 k8); simpa using h)
            replace HQ := hide ((HQ.out.setCell (p := ⟨wd.heap.size, 0, none⟩) G8.out (.int .i64 dep2)).setCell (p := ⟨wd.heap.size, 1, none⟩) G8.out (.slice A8 m2 k8))
            clear l8 z8 y8 f8 h8
            (try simp only [Act.put, List.getElem_toArray, List.getElem_cons_succ, List.getElem_cons_zero, List.setIfInBounds_toArray, List.set_cons_zero, List.set_cons_succ])
            refine wpAnyH_done (by kernel_rfl) ?_ _
            go_wp2_with fail
            go_meet
            case rel => exact ⟨_, A7, k7, _, A8, k8, rfl, rfl, R7.out, R8.out, O1.out, O2.out, HQ.out⟩
  case rest =>
    rename_i K hK
    refine hK _ _ ?_
    clear hK K
    obtain ⟨w3, hw3⟩ : ∃ w, w = wc := ⟨_, rfl⟩
    subst hw3
    obtain ⟨g7, A7, k7, g8, A8, k8, rfl, rfl, hr7, hr8, ho7, ho8, hb⟩ := hcut
    have R7 := hide hr7
    have R8 := hide hr8
    have O7 := hide (ownsRow_base ho7 HB.out.size)
    have O8 := hide (ownsRow_base ho8 HB.out.size)
    replace R1 := hide (R1.out.below hb)
    replace HB := hide (HB.out.trans (hb.mono HB.out.size))
    clear hr7 hr8 ho7 ho8 hb HO1 HO2 HOWN2 R2 q10 q11 q1l q20 q21 q2l
    have HDA7 := hide (show ∀ w, Below w3.heap.size w3 w → DirAt w w.heap.size A7 k7 L1 from fun w hb => DirAt.of_own (base := W.heap.size) (by rw [HM1.out]; exact own_keepB O7.out hb) HUL1.out)
    have HDA8 := hide (show ∀ w, Below w3.heap.size w3 w → DirAt w w.heap.size A8 k8 L2 from fun w hb => DirAt.of_own (base := W.heap.size) (by rw [HM2.out]; exact own_keepB O8.out hb) HUL2.out)
    obtain ⟨mr, hmr⟩ : ∃ b, mayB dep1 L1 = b := ⟨_, rfl⟩
    obtain ⟨ys, hys⟩ : ∃ y, spansX dep1 L1 = y := ⟨_, rfl⟩
    obtain ⟨fr, hfr⟩ : ∃ b, finerX ys (spansX dep2 L2) = b := ⟨_, rfl⟩
    have HMR := hide hmr
    have HRS := hide (RSpans_any w3.heap.size A7 k7 dep1 L1 w3 (HDA7.out w3 (Below.refl _ _)) (Nat.le_refl _) (by have := HLL1.out; omega) mr ys hmr hys)
    have HCK := hide (fun w (hb : Below w3.heap.size w3 w) => check_any w.heap.size A7 k7 dep1 L1 w (HDA7.out w hb) (Nat.le_refl _) (if mr then 0 else 310) (by rw [hmr]))
    have HSP := hide (fun w (hb : Below w3.heap.size w3 w) => Spans_any w.heap.size A7 k7 dep1 L1 w (HDA7.out w hb) (Nat.le_refl _) ys hys)
    have HFI := hide (fun w (hb : Below w3.heap.size w3 w) => Finer_any A7 A8 k7 k8 dep1 dep2 L1 L2 w (HDA7.out w hb) (HDA8.out w hb) fr (by rw [hys]; exact hfr))
    have HRF := hide (fun w (hb : Below w3.heap.size w3 w) => RFiner_any w.heap.size w.heap.size A7 A8 k7 k8 dep1 dep2 L1 L2 w (HDA7.out w hb) (HDA8.out w hb) (Nat.le_refl _) (Nat.le_refl _) (by have := HLL1.out; omega) (by have := HLL2.out; omega) fr (by rw [hys]; exact hfr))
    rw [HM1.out] at HRS HCK HSP HFI HRF
    rw [HM2.out] at HFI HRF
    have HLY := hide (show ys.length ≤ 4096 from by rw [← hys]; exact span_len dep1 L1)
    clear hmr hys hfr
    have q0 := row20 R7.out
    have q1 := row21 R7.out
    have ql := R7.out.lt
    go_wp2_with fail
    with_reducible refine HRS.out.mono ?_
    rintro e w4 ⟨AY, cY, rfl, hown, hb⟩
    have OY := hide (ownsRow_base (base' := W.heap.size) hown HB.out.size)
    have HB34 := hide hb
    replace R7 := hide (R7.out.below hb)
    replace R8 := hide (R8.out.below hb)
    replace R1 := hide (R1.out.below hb)
    replace HB := hide (HB.out.trans (hb.mono HB.out.size))
    clear hown hb q0 q1 ql HRS
    dsimp only
    have q0 := row20 R7.out
    have q1 := row21 R7.out
    have ql := R7.out.lt
    go_wp2_with fail
    with_reducible refine (HCK.out _ HB34.out).mono ?_
    rintro e w5 ⟨rfl, hb⟩
    replace OY := hide (own_keepB OY.out hb)
    replace HB34 := hide (HB34.out.trans (hb.mono HB34.out.size))
    replace R7 := hide (R7.out.below hb)
    replace R8 := hide (R8.out.below hb)
    replace R1 := hide (R1.out.below hb)
    replace HB := hide (HB.out.trans (hb.mono HB.out.size))
    clear hb q0 q1 ql
    dsimp only
    have HKK := hide (fun w (hb : Below w5.heap.size w5 w) => HB34.out.trans (hb.mono HB34.out.size))
    have p0 := row20 R7.out
    have p1 := row21 R7.out
    have r0 := row20 R8.out
    have r1 := row21 R8.out
    have HS : Hid (∀ w w', Below w.heap.size w w' → (Below w5.heap.size w5 w ∧ w.cell? ⟨g7, 0, none⟩ = some (.int .i64 dep1) ∧ w.cell? ⟨g7, 1, none⟩ = some (.slice A7 m1 k7) ∧ w.cell? ⟨g8, 0, none⟩ = some (.int .i64 dep2) ∧ w.cell? ⟨g8, 1, none⟩ = some (.slice A8 m2 k8)) → (Below w5.heap.size w5 w' ∧ w'.cell? ⟨g7, 0, none⟩ = some (.int .i64 dep1) ∧ w'.cell? ⟨g7, 1, none⟩ = some (.slice A7 m1 k7) ∧ w'.cell? ⟨g8, 0, none⟩ = some (.int .i64 dep2) ∧ w'.cell? ⟨g8, 1, none⟩ = some (.slice A8 m2 k8))) := hide (fun w w' hb h => ⟨h.1.trans (hb.mono h.1.size), kept hb h.2.1, kept hb h.2.2.1, kept hb h.2.2.2.1, kept hb h.2.2.2.2⟩)
    have hS0 : (Below w5.heap.size w5 w5.drew ∧ w5.drew.cell? ⟨g7, 0, none⟩ = some (.int .i64 dep1) ∧ w5.drew.cell? ⟨g7, 1, none⟩ = some (.slice A7 m1 k7) ∧ w5.drew.cell? ⟨g8, 0, none⟩ = some (.int .i64 dep2) ∧ w5.drew.cell? ⟨g8, 1, none⟩ = some (.slice A8 m2 k8)) := ⟨(Below.refl _ _).drew, p0, p1, r0, r1⟩
    have hSB : Below w5.heap.size w5 w5.drew := (Below.refl _ _).drew
    cases mr
    · simp only [Bool.false_eq_true, if_false]
      have hff : (fr != fr) = false := by cases fr <;> rfl
      go_upto_region 6 with (fail)
      refine wp_region_held_drew (S := fun wX => (Below w5.heap.size w5 wX ∧ wX.cell? ⟨g7, 0, none⟩ = some (.int .i64 dep1) ∧ wX.cell? ⟨g7, 1, none⟩ = some (.slice A7 m1 k7) ∧ wX.cell? ⟨g8, 0, none⟩ = some (.int .i64 dep2) ∧ wX.cell? ⟨g8, 1, none⟩ = some (.slice A8 m2 k8))) (by kernel_rfl) (hS0) (fun hHeld => ?_)
      (refine wpAnyH_take (i := 0) (v := ?_) rfl (by kernel_rfl) (by kernel_rfl) (by kernel_rfl) (fun _ _ _ h => h) (Or.inl ⟨by rfl, ?_⟩) (by assumption) ?_; rotate_left; (focus (intro w hSw; (try dsimp only at hSw); obtain ⟨kf0, kf1, kf2, kf3, kf4⟩ := hSw; go_simp; first | done | with_reducible rfl)); (try simp only [Act.put, List.getElem_toArray, List.getElem_cons_succ, List.getElem_cons_zero, List.setIfInBounds_toArray, List.set_cons_zero, List.set_cons_succ]))
      (refine wpAnyH_take (i := 1) (v := ?_) rfl (by kernel_rfl) (by kernel_rfl) (by kernel_rfl) (fun _ _ _ h => h) (Or.inl ⟨by rfl, ?_⟩) (by assumption) ?_; rotate_left; (focus (intro w hSw; (try dsimp only at hSw); obtain ⟨kf0, kf1, kf2, kf3, kf4⟩ := hSw; go_simp; first | done | with_reducible rfl)); (try simp only [Act.put, List.getElem_toArray, List.getElem_cons_succ, List.getElem_cons_zero, List.setIfInBounds_toArray, List.set_cons_zero, List.set_cons_succ]))
      (refine wpAnyH_take (i := 2) (v := ?_) rfl (by kernel_rfl) (by kernel_rfl) (by kernel_rfl) (fun _ _ _ h => h) (Or.inl ⟨by rfl, ?_⟩) (by assumption) ?_; rotate_left; (focus (intro w hSw; (try dsimp only at hSw); obtain ⟨kf0, kf1, kf2, kf3, kf4⟩ := hSw; go_simp; first | done | with_reducible rfl)); (try simp only [Act.put, List.getElem_toArray, List.getElem_cons_succ, List.getElem_cons_zero, List.setIfInBounds_toArray, List.set_cons_zero, List.set_cons_succ]))
      (refine wpAnyH_take (i := 3) (v := ?_) rfl (by kernel_rfl) (by kernel_rfl) (by kernel_rfl) (fun _ _ _ h => h) (Or.inl ⟨by rfl, ?_⟩) (by assumption) ?_; rotate_left; (focus (intro w hSw; (try dsimp only at hSw); obtain ⟨kf0, kf1, kf2, kf3, kf4⟩ := hSw; go_simp; first | done | with_reducible rfl)); (try simp only [Act.put, List.getElem_toArray, List.getElem_cons_succ, List.getElem_cons_zero, List.setIfInBounds_toArray, List.set_cons_zero, List.set_cons_succ]))
      (refine wpAnyH_take (i := 4) (v := ?_) rfl (by kernel_rfl) (by kernel_rfl) (by kernel_rfl) (fun _ _ _ h => h) (Or.inl ⟨by rfl, ?_⟩) (by assumption) ?_; rotate_left; (focus (intro w hSw; (try dsimp only at hSw); obtain ⟨kf0, kf1, kf2, kf3, kf4⟩ := hSw; go_simp; first | done | with_reducible rfl)); (try simp only [Act.put, List.getElem_toArray, List.getElem_cons_succ, List.getElem_cons_zero, List.setIfInBounds_toArray, List.set_cons_zero, List.set_cons_succ]))
      (refine wpAnyH_take (i := 5) (v := ?_) rfl (by kernel_rfl) (by kernel_rfl) (by kernel_rfl) (fun _ _ _ h => h) (Or.inl ⟨by rfl, ?_⟩) (by assumption) ?_; rotate_left; (focus (intro w hSw; (try dsimp only at hSw); obtain ⟨kf0, kf1, kf2, kf3, kf4⟩ := hSw; go_simp; first | done | with_reducible rfl)); (try simp only [Act.put, List.getElem_toArray, List.getElem_cons_succ, List.getElem_cons_zero, List.setIfInBounds_toArray, List.set_cons_zero, List.set_cons_succ]))
      (refine wpAnyH_take (i := 6) (v := ?_) rfl (by kernel_rfl) (by kernel_rfl) (by kernel_rfl) (fun _ _ _ h => h) (Or.inl ⟨by rfl, ?_⟩) (by assumption) ?_; rotate_left; (focus (intro w hSw; (try dsimp only at hSw); obtain ⟨kf0, kf1, kf2, kf3, kf4⟩ := hSw; go_simp; first | done | with_reducible rfl)); (try simp only [Act.put, List.getElem_toArray, List.getElem_cons_succ, List.getElem_cons_zero, List.setIfInBounds_toArray, List.set_cons_zero, List.set_cons_succ]))
      (refine wpAnyH_take (i := 7) (v := ?_) rfl (by kernel_rfl) (by kernel_rfl) (by kernel_rfl) (fun _ _ _ h => h) (Or.inl ⟨by rfl, ?_⟩) (by assumption) ?_; rotate_left; (focus (intro w hSw; (try dsimp only at hSw); obtain ⟨kf0, kf1, kf2, kf3, kf4⟩ := hSw; go_simp; first | done | with_reducible rfl)); (try simp only [Act.put, List.getElem_toArray, List.getElem_cons_succ, List.getElem_cons_zero, List.setIfInBounds_toArray, List.set_cons_zero, List.set_cons_succ]))
      (refine wpAnyH_take (i := 8) (v := ?_) rfl (by kernel_rfl) (by kernel_rfl) (by kernel_rfl) (fun _ _ _ h => h) (Or.inl ⟨by rfl, ?_⟩) (by assumption) ?_; rotate_left; (focus (intro w hSw; (try dsimp only at hSw); obtain ⟨kf0, kf1, kf2, kf3, kf4⟩ := hSw; go_simp; first | done | with_reducible rfl)); (try simp only [Act.put, List.getElem_toArray, List.getElem_cons_succ, List.getElem_cons_zero, List.setIfInBounds_toArray, List.set_cons_zero, List.set_cons_succ]))
      (refine wpAnyH_take (i := 9) (v := ?_) rfl (by kernel_rfl) (by kernel_rfl) (by kernel_rfl) (fun _ _ _ h => h) (Or.inl ⟨by rfl, ?_⟩) (by assumption) ?_; rotate_left; (focus (intro w hSw; (try dsimp only at hSw); obtain ⟨kf0, kf1, kf2, kf3, kf4⟩ := hSw; go_simp; first | done | with_reducible rfl)); (try simp only [Act.put, List.getElem_toArray, List.getElem_cons_succ, List.getElem_cons_zero, List.setIfInBounds_toArray, List.set_cons_zero, List.set_cons_succ]))
      (refine wpAnyH_take (i := 10) (v := ?_) rfl (by kernel_rfl) (by kernel_rfl) (by kernel_rfl) (fun _ _ _ h => h) (Or.inl ⟨by rfl, ?_⟩) (by assumption) ?_; rotate_left; (focus (intro w hSw; (try dsimp only at hSw); obtain ⟨kf0, kf1, kf2, kf3, kf4⟩ := hSw; go_simp; first | done | with_reducible rfl)); (try simp only [Act.put, List.getElem_toArray, List.getElem_cons_succ, List.getElem_cons_zero, List.setIfInBounds_toArray, List.set_cons_zero, List.set_cons_succ]))
      (refine wpAnyH_take (i := 11) (v := ?_) rfl (by kernel_rfl) (by kernel_rfl) (by kernel_rfl) (fun _ _ _ h => h) (Or.inl ⟨by rfl, ?_⟩) (by assumption) ?_; rotate_left; (focus (intro w hSw; (try dsimp only at hSw); obtain ⟨kf0, kf1, kf2, kf3, kf4⟩ := hSw; go_simp; first | done | with_reducible rfl)); (try simp only [Act.put, List.getElem_toArray, List.getElem_cons_succ, List.getElem_cons_zero, List.setIfInBounds_toArray, List.set_cons_zero, List.set_cons_succ]))
      (refine wpAnyH_take (i := 12) (v := ?_) rfl (by kernel_rfl) (by kernel_rfl) (by kernel_rfl) (fun _ _ _ h => h) (Or.inl ⟨by rfl, ?_⟩) (by assumption) ?_; rotate_left; (focus (intro w hSw; (try dsimp only at hSw); obtain ⟨kf0, kf1, kf2, kf3, kf4⟩ := hSw; go_simp; first | done | with_reducible rfl)); (try simp only [Act.put, List.getElem_toArray, List.getElem_cons_succ, List.getElem_cons_zero, List.setIfInBounds_toArray, List.set_cons_zero, List.set_cons_succ]))
      (refine wpAnyH_take (i := 13) (v := ?_) rfl (by kernel_rfl) (by kernel_rfl) (by kernel_rfl) (fun _ _ _ h => h) (Or.inl ⟨by rfl, ?_⟩) (by assumption) ?_; rotate_left; (focus (intro w hSw; (try dsimp only at hSw); obtain ⟨kf0, kf1, kf2, kf3, kf4⟩ := hSw; go_simp; first | done | with_reducible rfl)); (try simp only [Act.put, List.getElem_toArray, List.getElem_cons_succ, List.getElem_cons_zero, List.setIfInBounds_toArray, List.set_cons_zero, List.set_cons_succ]))
      (refine wpAnyH_take (i := 15) (v := ?_) rfl (by kernel_rfl) (by kernel_rfl) (by kernel_rfl) (fun _ _ _ h => h) (Or.inl ⟨by rfl, ?_⟩) (by assumption) ?_; rotate_left; (focus (intro w hSw; (try dsimp only at hSw); obtain ⟨kf0, kf1, kf2, kf3, kf4⟩ := hSw; go_simp; first | done | with_reducible rfl)); (try simp only [Act.put, List.getElem_toArray, List.getElem_cons_succ, List.getElem_cons_zero, List.setIfInBounds_toArray, List.set_cons_zero, List.set_cons_succ]))
      have HSX := hide hS0
      refine wpAnyH_ready (rs := [14]) (by kernel_rfl) (by simp) ?_
      refine (AllReadyH.cons rfl (fun K0 hK0 => ?_) AllReadyH.nil)
      go_simp
      refine (HSP.out _ (HKK.out _ HSX.out.1)).mono ?_
      rintro e w6 ⟨A9, c9, rfl, ho9, hb⟩
      have HO9 := hide ho9
      have HB6 := hide (HSX.out.1.trans (hb.mono HSX.out.1.size))
      replace HSX := hide (HS.out _ _ hb HSX.out)
      refine hK0.out _ _ (HSX.out) (fun _ => ?_)
      clear hK0 K0
      (try simp only [Act.put, List.getElem_toArray, List.getElem_cons_succ, List.getElem_cons_zero, List.setIfInBounds_toArray, List.set_cons_zero, List.set_cons_succ])
      refine wpAnyH_ready (rs := [16]) (by kernel_rfl) (by simp) ?_
      refine (AllReadyH.cons rfl (fun K1 hK1 => ?_) AllReadyH.nil)
      go_simp
      refine (EqualR w6.heap.size w6.heap.size A9 AY c9 cY ys ys w6 (Rd.of_own HO9.out) (Rd.of_own (own_keepB OY.out HB6.out)) (Nat.le_refl _) (Nat.le_refl _) HLY.out HLY.out true (by simp)).mono ?_
      rintro e w7 ⟨rfl, hb2⟩
      replace HSX := hide (HS.out _ _ hb2 HSX.out)
      refine hK1.out _ _ (HSX.out) (fun _ => ?_)
      clear hK1 K1
      (try simp only [Act.put, List.getElem_toArray, List.getElem_cons_succ, List.getElem_cons_zero, List.setIfInBounds_toArray, List.set_cons_zero, List.set_cons_succ])
      (refine wpAnyH_take (i := 17) (v := ?_) rfl (by kernel_rfl) (by kernel_rfl) (by kernel_rfl) (fun _ _ _ h => h) (Or.inl ⟨by rfl, ?_⟩) (by assumption) ?_; rotate_left; (focus (intro w hSw; (try dsimp only at hSw); obtain ⟨kf0, kf1, kf2, kf3, kf4⟩ := hSw; go_simp; first | done | with_reducible rfl)); (try simp only [Act.put, List.getElem_toArray, List.getElem_cons_succ, List.getElem_cons_zero, List.setIfInBounds_toArray, List.set_cons_zero, List.set_cons_succ]))
      (refine wpAnyH_take (i := 18) (v := ?_) rfl (by kernel_rfl) (by kernel_rfl) (by kernel_rfl) (fun _ _ _ h => h) (Or.inl ⟨by rfl, ?_⟩) (by assumption) ?_; rotate_left; (focus (intro w hSw; (try dsimp only at hSw); obtain ⟨kf0, kf1, kf2, kf3, kf4⟩ := hSw; go_simp; first | done | with_reducible rfl)); (try simp only [Act.put, List.getElem_toArray, List.getElem_cons_succ, List.getElem_cons_zero, List.setIfInBounds_toArray, List.set_cons_zero, List.set_cons_succ]))
      (refine wpAnyH_take (i := 19) (v := ?_) rfl (by kernel_rfl) (by kernel_rfl) (by kernel_rfl) (fun _ _ _ h => h) (Or.inl ⟨by rfl, ?_⟩) (by assumption) ?_; rotate_left; (focus (intro w hSw; (try dsimp only at hSw); obtain ⟨kf0, kf1, kf2, kf3, kf4⟩ := hSw; go_simp; first | done | with_reducible rfl)); (try simp only [Act.put, List.getElem_toArray, List.getElem_cons_succ, List.getElem_cons_zero, List.setIfInBounds_toArray, List.set_cons_zero, List.set_cons_succ]))
      (refine wpAnyH_take (i := 20) (v := ?_) rfl (by kernel_rfl) (by kernel_rfl) (by kernel_rfl) (fun _ _ _ h => h) (Or.inl ⟨by rfl, ?_⟩) (by assumption) ?_; rotate_left; (focus (intro w hSw; (try dsimp only at hSw); obtain ⟨kf0, kf1, kf2, kf3, kf4⟩ := hSw; go_simp; first | done | with_reducible rfl)); (try simp only [Act.put, List.getElem_toArray, List.getElem_cons_succ, List.getElem_cons_zero, List.setIfInBounds_toArray, List.set_cons_zero, List.set_cons_succ]))
      (refine wpAnyH_take (i := 21) (v := ?_) rfl (by kernel_rfl) (by kernel_rfl) (by kernel_rfl) (fun _ _ _ h => h) (Or.inl ⟨by rfl, ?_⟩) (by assumption) ?_; rotate_left; (focus (intro w hSw; (try dsimp only at hSw); obtain ⟨kf0, kf1, kf2, kf3, kf4⟩ := hSw; go_simp; first | done | with_reducible rfl)); (try simp only [Act.put, List.getElem_toArray, List.getElem_cons_succ, List.getElem_cons_zero, List.setIfInBounds_toArray, List.set_cons_zero, List.set_cons_succ]))
      (refine wpAnyH_take (i := 23) (v := ?_) rfl (by kernel_rfl) (by kernel_rfl) (by kernel_rfl) (fun _ _ _ h => h) (Or.inl ⟨by rfl, ?_⟩) (by assumption) ?_; rotate_left; (focus (intro w hSw; (try dsimp only at hSw); obtain ⟨kf0, kf1, kf2, kf3, kf4⟩ := hSw; go_simp; first | done | with_reducible rfl)); (try simp only [Act.put, List.getElem_toArray, List.getElem_cons_succ, List.getElem_cons_zero, List.setIfInBounds_toArray, List.set_cons_zero, List.set_cons_succ]))
      (refine wpAnyH_take (i := 24) (v := ?_) rfl (by kernel_rfl) (by kernel_rfl) (by kernel_rfl) (fun _ _ _ h => h) (Or.inl ⟨by rfl, ?_⟩) (by assumption) ?_; rotate_left; (focus (intro w hSw; (try dsimp only at hSw); obtain ⟨kf0, kf1, kf2, kf3, kf4⟩ := hSw; go_simp; first | done | with_reducible rfl)); (try simp only [Act.put, List.getElem_toArray, List.getElem_cons_succ, List.getElem_cons_zero, List.setIfInBounds_toArray, List.set_cons_zero, List.set_cons_succ]))
      refine wpAnyH_ready (rs := [22]) (by kernel_rfl) (by simp) ?_
      refine (AllReadyH.cons rfl (fun K2 hK2 => ?_) AllReadyH.nil)
      go_simp
      refine (HFI.out _ (HKK.out _ HSX.out.1)).mono ?_
      rintro e w8 ⟨rfl, hb3⟩
      replace HSX := hide (HS.out _ _ hb3 HSX.out)
      refine hK2.out _ _ (HSX.out) (fun _ => ?_)
      clear hK2 K2
      (try simp only [Act.put, List.getElem_toArray, List.getElem_cons_succ, List.getElem_cons_zero, List.setIfInBounds_toArray, List.set_cons_zero, List.set_cons_succ])
      refine wpAnyH_ready (rs := [25]) (by kernel_rfl) (by simp) ?_
      refine (AllReadyH.cons rfl (fun K3 hK3 => ?_) AllReadyH.nil)
      go_simp
      refine (HRF.out _ (HKK.out _ HSX.out.1)).mono ?_
      rintro e w9 ⟨rfl, hb4⟩
      replace HSX := hide (HS.out _ _ hb4 HSX.out)
      refine hK3.out _ _ (HSX.out) (fun _ => ?_)
      clear hK3 K3
      (try simp only [Act.put, List.getElem_toArray, List.getElem_cons_succ, List.getElem_cons_zero, List.setIfInBounds_toArray, List.set_cons_zero, List.set_cons_succ])
      (refine wpAnyH_take (i := 26) (v := ?_) rfl (by kernel_rfl) (by kernel_rfl) (by kernel_rfl) (fun _ _ _ h => h) (Or.inl ⟨by rfl, ?_⟩) (by assumption) ?_; rotate_left; (focus (intro w hSw; (try dsimp only at hSw); obtain ⟨kf0, kf1, kf2, kf3, kf4⟩ := hSw; go_simp; first | done | with_reducible rfl)); (try simp only [Act.put, List.getElem_toArray, List.getElem_cons_succ, List.getElem_cons_zero, List.setIfInBounds_toArray, List.set_cons_zero, List.set_cons_succ]))
      (refine wpAnyH_take (i := 27) (v := ?_) rfl (by kernel_rfl) (by kernel_rfl) (by kernel_rfl) (fun _ _ _ h => h) (Or.inl ⟨by rfl, ?_⟩) (by assumption) ?_; rotate_left; (focus (intro w hSw; (try dsimp only at hSw); obtain ⟨kf0, kf1, kf2, kf3, kf4⟩ := hSw; go_simp; first | done | with_reducible rfl)); (try simp only [Act.put, List.getElem_toArray, List.getElem_cons_succ, List.getElem_cons_zero, List.setIfInBounds_toArray, List.set_cons_zero, List.set_cons_succ]))
      refine wpAnyH_done (by kernel_rfl) ?_ _
      replace R7 := hide (R7.out.below HSX.out.1)
      replace R1 := hide (R1.out.below HSX.out.1)
      have HB39 := hide (HB34.out.trans (HSX.out.1.mono HB34.out.size))
      replace HB := hide (HB.out.trans (HSX.out.1.mono HB.out.size))
      clear hS0 hSB HS HSX HKK HSP HFI HRF HCK hb hb2 hb3 hb4 HO9 HB6 hff p0 p1 r0 r1 R8 HB34 OY HDA8
      go_wp2_with fail
      go_loopw [63] (fun iv wr => ∃ i : Nat, i ≤ nH ∧ iv = .int .i64 i ∧ Below w9.heap.size w9 wr) (fun iv _ => nH - (intOf iv).toNat)
      case atStart => exact ⟨0, Nat.zero_le _, rfl, Below.refl _ _⟩
      case round =>
        obtain ⟨i, hi, rfl, hb⟩ := hrel
        have HBN := hide (HB.out.trans (hb.mono HB.out.size))
        have HBL := hide hb
        have G7L := hide (show g7 < wr.heap.size from Nat.lt_of_lt_of_le R7.out.lt hb.size)
        have G1L := hide (show W.heap.size < wr.heap.size from Nat.lt_of_lt_of_le R1.out.lt hb.size)
        have G1W := hide HBN.out.size
        have HW9 := hide hb.size
        have HW3 := hide (show w3.heap.size ≤ wr.heap.size from Nat.le_trans HB39.out.size hb.size)
        have HB3N := hide (HB39.out.trans (hb.mono HB39.out.size))
        replace R7 := hide (R7.out.below hb)
        replace R1 := hide (R1.out.below hb)
        clear hb
        by_cases hlt : i < nH
        · have hix : i < hs.length := by rw [HTX.out]; exact hlt
          have hrd := HT.out.below HBN.out
          rw [← HTX.out] at hrd
          obtain ⟨b, off, hA, hbl, hc⟩ := hrd.elem encW_len hix
          obtain ⟨h, hh⟩ : ∃ h, hs[i] = h := ⟨_, rfl⟩
          have hhu : U64 h := by rw [← hh]; exact HTU.out _ (List.getElem_mem hix)
          rw [hh] at hc
          have d0 := hc 0 _ (by omega) rfl
          simp only [Nat.add_zero, Nat.mul_one] at d0
          subst hA
          have hbl2 : b < wr.heap.size := Nat.lt_of_lt_of_le hbl HBN.out.size
          have hiI : (i : Int) < (nH : Int) := by omega
          clear hc hrd hbl hh hix
          by_cases h8 : i = 8
          · have hd8 : ((i : Int) == 8) = true := by rw [h8]; rfl
            clear h8
            go_upto_region 27 with (fail)
            have q0 := row20 R7.out
            have q1 := row21 R7.out
            have z0 := row20 R1.out
            have z1 := row21 R1.out
            have HS : Hid (∀ w w', Below w.heap.size w w' → (Below wr.heap.size wr w ∧ w.cell? ⟨g7, 0, none⟩ = some (.int .i64 dep1) ∧ w.cell? ⟨g7, 1, none⟩ = some (.slice A7 m1 k7) ∧ w.cell? ⟨W.heap.size, 0, none⟩ = some (.int .i64 dep1) ∧ w.cell? ⟨W.heap.size, 1, none⟩ = some (.slice A1 n1 c1)) → (Below wr.heap.size wr w' ∧ w'.cell? ⟨g7, 0, none⟩ = some (.int .i64 dep1) ∧ w'.cell? ⟨g7, 1, none⟩ = some (.slice A7 m1 k7) ∧ w'.cell? ⟨W.heap.size, 0, none⟩ = some (.int .i64 dep1) ∧ w'.cell? ⟨W.heap.size, 1, none⟩ = some (.slice A1 n1 c1))) := hide (fun w w' hb h => ⟨h.1.trans (hb.mono h.1.size), kept hb h.2.1, kept hb h.2.2.1, kept hb h.2.2.2.1, kept hb h.2.2.2.2⟩)
            have hS0 : (Below wr.heap.size wr wr.drew ∧ wr.drew.cell? ⟨g7, 0, none⟩ = some (.int .i64 dep1) ∧ wr.drew.cell? ⟨g7, 1, none⟩ = some (.slice A7 m1 k7) ∧ wr.drew.cell? ⟨W.heap.size, 0, none⟩ = some (.int .i64 dep1) ∧ wr.drew.cell? ⟨W.heap.size, 1, none⟩ = some (.slice A1 n1 c1)) := ⟨(Below.refl _ _).drew, q0, q1, z0, z1⟩
            have HSX := hide hS0
            refine wp_region_held_drew (S := fun wX => (Below wr.heap.size wr wX ∧ wX.cell? ⟨g7, 0, none⟩ = some (.int .i64 dep1) ∧ wX.cell? ⟨g7, 1, none⟩ = some (.slice A7 m1 k7) ∧ wX.cell? ⟨W.heap.size, 0, none⟩ = some (.int .i64 dep1) ∧ wX.cell? ⟨W.heap.size, 1, none⟩ = some (.slice A1 n1 c1))) (by kernel_rfl) (hS0) (fun hHeld => ?_)
            (refine wpAnyH_take (i := 0) (v := ?_) rfl (by kernel_rfl) (by kernel_rfl) (by kernel_rfl) (fun _ _ _ h => h) (Or.inl ⟨by rfl, ?_⟩) (by assumption) ?_; rotate_left; (focus (intro w hSw; (try dsimp only at hSw); obtain ⟨kf0, kf1, kf2, kf3, kf4⟩ := hSw; go_simp; first | done | with_reducible rfl)); (try simp only [Act.put, List.getElem_toArray, List.getElem_cons_succ, List.getElem_cons_zero, List.setIfInBounds_toArray, List.set_cons_zero, List.set_cons_succ]))
            (refine wpAnyH_take (i := 1) (v := ?_) rfl (by kernel_rfl) (by kernel_rfl) (by kernel_rfl) (fun _ _ _ h => h) (Or.inl ⟨by rfl, ?_⟩) (by assumption) ?_; rotate_left; (focus (intro w hSw; (try dsimp only at hSw); obtain ⟨kf0, kf1, kf2, kf3, kf4⟩ := hSw; go_simp; first | done | with_reducible rfl)); (try simp only [Act.put, List.getElem_toArray, List.getElem_cons_succ, List.getElem_cons_zero, List.setIfInBounds_toArray, List.set_cons_zero, List.set_cons_succ]))
            refine wpAnyH_ready (rs := [2]) (by kernel_rfl) (by simp) ?_
            refine (AllReadyH.cons rfl (fun K0 hK0 => ?_) AllReadyH.nil)
            go_simp
            refine (HOWN1.out _ (HBN.out.trans (HSX.out.1.mono HBN.out.size))).mono ?_
            rintro e w20 ⟨A9, c9, rfl, ho9, hb⟩
            have HO9 := hide ho9
            replace HSX := hide (HS.out _ _ hb HSX.out)
            rw [HM1.out]
            refine hK0.out _ _ (HSX.out) (fun _ => ?_)
            clear hK0 K0
            (try simp only [Act.put, List.getElem_toArray, List.getElem_cons_succ, List.getElem_cons_zero, List.setIfInBounds_toArray, List.set_cons_zero, List.set_cons_succ])
            refine wpAnyH_ready (rs := [3]) (by kernel_rfl) (by simp) ?_
            refine (AllReadyH.cons rfl (fun K1 hK1 => ?_) AllReadyH.nil)
            go_simp
            have HD7 := hide ((HDA7.out w20 (HB3N.out.trans (HSX.out.1.mono HB3N.out.size))).rd)
            have HSD := hide (SameDir_any w20.heap.size w20.heap.size A7 A9 k7 c9 dep1 dep1 L1 L1 w20 HD7.out (Rd.of_own HO9.out) (Nat.le_refl _) (Nat.le_refl _) (by have := HLL1.out; omega) (by have := HLL1.out; omega) true (by simp))
            rw [HM1.out] at HSD
            refine HSD.out.mono ?_
            rintro e w21 ⟨rfl, hb2⟩
            replace HSX := hide (HS.out _ _ hb2 HSX.out)
            refine hK1.out _ _ (HSX.out) (fun _ => ?_)
            clear hK1 K1
            (try simp only [Act.put, List.getElem_toArray, List.getElem_cons_succ, List.getElem_cons_zero, List.setIfInBounds_toArray, List.set_cons_zero, List.set_cons_succ])
            (refine wpAnyH_take (i := 4) (v := ?_) rfl (by kernel_rfl) (by kernel_rfl) (by kernel_rfl) (fun _ _ _ h => h) (Or.inl ⟨by rfl, ?_⟩) (by assumption) ?_; rotate_left; (focus (intro w hSw; (try dsimp only at hSw); obtain ⟨kf0, kf1, kf2, kf3, kf4⟩ := hSw; go_simp; first | done | with_reducible rfl)); (try simp only [Act.put, List.getElem_toArray, List.getElem_cons_succ, List.getElem_cons_zero, List.setIfInBounds_toArray, List.set_cons_zero, List.set_cons_succ]))
            refine wpAnyH_done (by kernel_rfl) ?_ _
            have HF := hide (HBN.out.trans (HSX.out.1.mono HBN.out.size))
            go_wp2_with fail
            go_ret
            exact ⟨rfl, HF.out⟩
          · have hd8 : ((i : Int) == 8) = false := by rw [beq_eq_false_iff_ne]; omega
            clear h8
            have HOF := hide (Of_any wr.heap.size A7 k7 dep1 h L1 wr (HDA7.out wr HB3N.out) (Nat.le_refl _) hhu none (by unfold ofX; rw [HMR.out]; rfl))
            rw [HM1.out] at HOF
            have p0 := row20 R7.out
            have p1 := row21 R7.out
            have pl := R7.out.lt
            go_wp2_with fail
            refine HOF.out.mono ?_
            rintro e w10 ⟨rfl, hb⟩
            dsimp only
            have hba := (Below.refl _ w10).alloc (Nat.le_refl _) (.cells (zR) 33)
            have hbz := (Below.refl _ (w10.alloc (.cells (zR) 33))).alloc (Nat.le_refl _) (.cells zR 33)
            have R14 := hide ((RowAt.new w10 33 (zR)).below hbz)
            have R16 := hide (show RowAt ((w10.alloc (.cells (zR) 33)).alloc (.cells zR 33)) (w10.heap.size + 1) 33 zR from by have h := RowAt.new (w10.alloc (.cells (zR) 33)) 33 zR; rw [World.size_alloc] at h; exact h)
            have hb2 := (hb.trans (hba.mono hb.size)).trans (hbz.mono (Nat.le_trans hb.size hba.size))
            have hg14 : wr.heap.size ≤ w10.heap.size := hb.size
            replace R7 := hide (R7.out.below hb2)
            replace R1 := hide (R1.out.below hb2)
            replace HBN := hide (HBN.out.trans (hb2.mono HBN.out.size))
            replace HBL := hide (HBL.out.trans (hb2.mono HBL.out.size))
            replace HB3N := hide (HB3N.out.trans (hb2.mono HB3N.out.size))
            clear hb hba hbz hb2 HOF p0 p1 pl d0 hbl2
            obtain ⟨g14, hg14e⟩ : ∃ g, w10.heap.size = g := ⟨_, rfl⟩
            rw [hg14e] at R14 R16 hg14
            go_upto_region 15 with (fail)
            (try rw [hg14e])
            clear hg14e
            generalize (w10.alloc (.cells (zR) 33)).alloc (.cells zR 33) = w11 at *
            have hne := fun w => neqR w ⟨(0, 0), 0, 0, 0, 0⟩ ⟨(0, 0), 0, 0, 0, 0⟩ true (by simp)
            obtain ⟨x0', x1, x2, x3, x4, x5⟩ := row6 R16.out
            have xl := R16.out.lt
            obtain ⟨y0, y1, y2, y3, y4, y5⟩ := row6 R14.out
            have yl := R14.out.lt
            dsimp only at hne
            obtain ⟨a, ha⟩ : ∃ a : Int, h % 140 = a := ⟨_, rfl⟩
            have ha0 : 0 ≤ a := by omega
            have ha1 : a < 140 := by omega
            obtain ⟨z, hz⟩ : ∃ a : Int, h % 64 = a := ⟨_, rfl⟩
            have hz0 : 0 ≤ z := by omega
            have hz1 : z < 64 := by omega
            obtain ⟨hu0, hu1⟩ := hhu
            have hta : h.tmod 140 = a := by rw [Int.tmod_eq_emod_of_nonneg hu0]; exact ha
            have htz : h.tmod 64 = z := by rw [Int.tmod_eq_emod_of_nonneg hu0]; exact hz
            have haw : IntKind.i64.wrap a = a := IntWalk.i64_in _ (by omega)
            have haw2 : wrap64 a = a := IntWalk.wrap64_in _ (by omega)
            have haw3 : IntKind.i64.wrap (a - 5) = a - 5 := IntWalk.i64_in _ (by omega)
            obtain ⟨g, hg⟩ : ∃ g : Int, h / 2 ^ z.toNat = g := ⟨_, rfl⟩
            have HGU := hide (show U64 g from by
              rw [← hg]
              refine ⟨Int.ediv_nonneg hu0 (by exact Int.le_of_lt (Int.pow_pos (by omega))), ?_⟩
              exact Int.lt_of_le_of_lt (Int.ediv_le_self _ hu0) hu1)
            obtain ⟨re, hre⟩ : ∃ r, okEnt (a - 5) g = r := ⟨_, rfl⟩
            have HRE := hide hre
            have HNEW := hide (fun w => New_any (a - 5) g HGU.out w _ rfl)
            have HENT := hide (fun w => Entry_any (W := w) (a - 5) g re HGU.out.1 hre)
            rw [hre] at HNEW
            clear hre ha hz
            have R18 := hide (RowAt.new w11 31 #[.int .i64 (a - 5), .int .u64 g])
            have hba := (Below.refl _ w11).alloc (Nat.le_refl _) (.cells #[.int .i64 (a - 5), .int .u64 g] 31)
            replace R7 := hide (R7.out.below hba)
            replace R1 := hide (R1.out.below hba)
            replace HBN := hide (HBN.out.trans (hba.mono HBN.out.size))
            replace HBL := hide (HBL.out.trans (hba.mono HBL.out.size))
            clear hba HB3N
            go_upto_region 20 with (fail)
            clear x0' x1 x2 x3 x4 x5 xl y0 y1 y2 y3 y4 y5 yl
            obtain ⟨g18, hg18⟩ : ∃ g, w11.heap.size = g := ⟨_, rfl⟩
            rw [hg18] at R18
            (try rw [hg18])
            clear hg18
            generalize w11.alloc (.cells #[.int .i64 (a - 5), .int .u64 g] 31) = w14 at *
            have u0 := row20 R18.out
            have u1 := row21 R18.out
            have ul := R18.out.lt
            cases re
            · have HN := HNEW.out w14
              simp only [Bool.false_eq_true, if_false] at HN
              have HN := hide HN
              go_wp2_with fail
              refine HN.out.mono ?_
              rintro e w15 ⟨rfl, hb⟩
              dsimp only
              have hba := (Below.refl _ w15).alloc (Nat.le_refl _) (.cells #[.int .i64 0, .slice none 0 0] 24)
              have R19 := hide (RowAt.new w15 24 #[.int .i64 0, .slice none 0 0])
              have hb2 := hb.trans (hba.mono hb.size)
              replace R18 := hide (R18.out.below hb2)
              replace HBN := hide (HBN.out.trans (hb2.mono HBN.out.size))
              replace HBL := hide (HBL.out.trans (hb2.mono HBL.out.size))
              clear hb hba hb2 u0 u1 ul HN
              go_upto_region 21 with (fail)
              generalize w15.alloc (.cells #[.int .i64 0, .slice none 0 0] 24) = w16 at *
              have u0 := row20 R18.out
              have u1 := row21 R18.out
              have ul := R18.out.lt
              go_wp2_with fail
              refine (HENT.out w16).mono ?_
              rintro e w17 ⟨rfl, hb⟩
              dsimp only
              replace R19 := hide (R19.out.below hb)
              replace HBN := hide (HBN.out.trans (hb.mono HBN.out.size))
              replace HBL := hide (HBL.out.trans (hb.mono HBL.out.size))
              clear hb u0 u1 ul
              have v0 := row20 R19.out
              have v1 := row21 R19.out
              have vl := R19.out.lt
              go_wp2_with fail
              go_roundw
              case rel => exact ⟨i + 1, by omega, by go_num, HBL.out⟩
              case measure => simp [intOf]; omega
            · have HN := HNEW.out w14
              simp only [if_true] at HN
              have HN := hide HN
              go_wp2_with fail
              refine HN.out.mono ?_
              rintro e w15 ⟨A19, c19, rfl, ho, hb⟩
              dsimp only
              have O19 := hide (ownsRow_base (base' := W.heap.size) ho HBN.out.size)
              have hba := (Below.refl _ w15).alloc (Nat.le_refl _) (.cells #[.int .i64 0, .slice A19 1 c19] 24)
              have R19 := hide (RowAt.new w15 24 #[.int .i64 0, .slice A19 1 c19])
              have hb2 := hb.trans (hba.mono hb.size)
              replace O19 := hide (own_keepB O19.out hba)
              replace R18 := hide (R18.out.below hb2)
              replace HBN := hide (HBN.out.trans (hb2.mono HBN.out.size))
              replace HBL := hide (HBL.out.trans (hb2.mono HBL.out.size))
              clear ho hb hba hb2 u0 u1 ul HN
              go_upto_region 21 with (fail)
              generalize w15.alloc (.cells #[.int .i64 0, .slice A19 1 c19] 24) = w16 at *
              have u0 := row20 R18.out
              have u1 := row21 R18.out
              have ul := R18.out.lt
              go_wp2_with fail
              refine (HENT.out w16).mono ?_
              rintro e w17 ⟨rfl, hb⟩
              dsimp only
              replace O19 := hide (own_keepB O19.out hb)
              replace R18 := hide (R18.out.below hb)
              replace R19 := hide (R19.out.below hb)
              replace HBN := hide (HBN.out.trans (hb.mono HBN.out.size))
              replace HBL := hide (HBL.out.trans (hb.mono HBL.out.size))
              clear hb u0 u1 ul
              have u0 := row20 R18.out
              have u1 := row21 R18.out
              have ul := R18.out.lt
              have v0 := row20 R19.out
              have v1 := row21 R19.out
              have vl := R19.out.lt
              have hba := (Below.refl _ w17).alloc (Nat.le_refl _) (.cells #[.int .i64 (a - 5), .int .u64 g] 31)
              have HEQ := hide (show Calls Try.prog 20 #[.slice A19 1 c19, .slice (some ⟨w17.heap.size, 0, none⟩) 1 1] (w17.alloc (.cells #[.int .i64 (a - 5), .int .u64 g] 31)) (fun e Wn => e = .returned (.bool true) ∧ Below (w17.alloc (.cells #[.int .i64 (a - 5), .int .u64 g] 31)).heap.size (w17.alloc (.cells #[.int .i64 (a - 5), .int .u64 g] 31)) Wn) from EqualE _ _ A19 _ c19 1 [(a - 5, g)] [(a - 5, g)] _ (Rd.of_own (own_keepB O19.out hba)) (Rd.new w17 #[.int .i64 (a - 5), .int .u64 g] 31 2 1 rfl) (Nat.le_refl _) (by simp) (by simp) (by simp) true (by simp))
              have HBZ := hide (HBL.out.trans (hba.mono HBL.out.size))
              clear hba
              go_wp2_with fail
              refine HEQ.out.mono ?_
              rintro e w18 ⟨rfl, hb⟩
              dsimp only
              have HBF := hide (HBZ.out.trans (hb.mono HBZ.out.size))
              clear hb
              go_wp2_with fail
              go_roundw
              case rel => exact ⟨i + 1, by omega, by go_num, HBF.out⟩
              case measure => simp [intOf]; omega
        · obtain rfl : i = nH := by omega
          go_upto_region 27 with (fail)
          have q0 := row20 R7.out
          have q1 := row21 R7.out
          have z0 := row20 R1.out
          have z1 := row21 R1.out
          have HS : Hid (∀ w w', Below w.heap.size w w' → (Below wr.heap.size wr w ∧ w.cell? ⟨g7, 0, none⟩ = some (.int .i64 dep1) ∧ w.cell? ⟨g7, 1, none⟩ = some (.slice A7 m1 k7) ∧ w.cell? ⟨W.heap.size, 0, none⟩ = some (.int .i64 dep1) ∧ w.cell? ⟨W.heap.size, 1, none⟩ = some (.slice A1 n1 c1)) → (Below wr.heap.size wr w' ∧ w'.cell? ⟨g7, 0, none⟩ = some (.int .i64 dep1) ∧ w'.cell? ⟨g7, 1, none⟩ = some (.slice A7 m1 k7) ∧ w'.cell? ⟨W.heap.size, 0, none⟩ = some (.int .i64 dep1) ∧ w'.cell? ⟨W.heap.size, 1, none⟩ = some (.slice A1 n1 c1))) := hide (fun w w' hb h => ⟨h.1.trans (hb.mono h.1.size), kept hb h.2.1, kept hb h.2.2.1, kept hb h.2.2.2.1, kept hb h.2.2.2.2⟩)
          have hS0 : (Below wr.heap.size wr wr.drew ∧ wr.drew.cell? ⟨g7, 0, none⟩ = some (.int .i64 dep1) ∧ wr.drew.cell? ⟨g7, 1, none⟩ = some (.slice A7 m1 k7) ∧ wr.drew.cell? ⟨W.heap.size, 0, none⟩ = some (.int .i64 dep1) ∧ wr.drew.cell? ⟨W.heap.size, 1, none⟩ = some (.slice A1 n1 c1)) := ⟨(Below.refl _ _).drew, q0, q1, z0, z1⟩
          have HSX := hide hS0
          refine wp_region_held_drew (S := fun wX => (Below wr.heap.size wr wX ∧ wX.cell? ⟨g7, 0, none⟩ = some (.int .i64 dep1) ∧ wX.cell? ⟨g7, 1, none⟩ = some (.slice A7 m1 k7) ∧ wX.cell? ⟨W.heap.size, 0, none⟩ = some (.int .i64 dep1) ∧ wX.cell? ⟨W.heap.size, 1, none⟩ = some (.slice A1 n1 c1))) (by kernel_rfl) (hS0) (fun hHeld => ?_)
          (refine wpAnyH_take (i := 0) (v := ?_) rfl (by kernel_rfl) (by kernel_rfl) (by kernel_rfl) (fun _ _ _ h => h) (Or.inl ⟨by rfl, ?_⟩) (by assumption) ?_; rotate_left; (focus (intro w hSw; (try dsimp only at hSw); obtain ⟨kf0, kf1, kf2, kf3, kf4⟩ := hSw; go_simp; first | done | with_reducible rfl)); (try simp only [Act.put, List.getElem_toArray, List.getElem_cons_succ, List.getElem_cons_zero, List.setIfInBounds_toArray, List.set_cons_zero, List.set_cons_succ]))
          (refine wpAnyH_take (i := 1) (v := ?_) rfl (by kernel_rfl) (by kernel_rfl) (by kernel_rfl) (fun _ _ _ h => h) (Or.inl ⟨by rfl, ?_⟩) (by assumption) ?_; rotate_left; (focus (intro w hSw; (try dsimp only at hSw); obtain ⟨kf0, kf1, kf2, kf3, kf4⟩ := hSw; go_simp; first | done | with_reducible rfl)); (try simp only [Act.put, List.getElem_toArray, List.getElem_cons_succ, List.getElem_cons_zero, List.setIfInBounds_toArray, List.set_cons_zero, List.set_cons_succ]))
          refine wpAnyH_ready (rs := [2]) (by kernel_rfl) (by simp) ?_
          refine (AllReadyH.cons rfl (fun K0 hK0 => ?_) AllReadyH.nil)
          go_simp
          refine (HOWN1.out _ (HBN.out.trans (HSX.out.1.mono HBN.out.size))).mono ?_
          rintro e w20 ⟨A9, c9, rfl, ho9, hb⟩
          have HO9 := hide ho9
          replace HSX := hide (HS.out _ _ hb HSX.out)
          rw [HM1.out]
          refine hK0.out _ _ (HSX.out) (fun _ => ?_)
          clear hK0 K0
          (try simp only [Act.put, List.getElem_toArray, List.getElem_cons_succ, List.getElem_cons_zero, List.setIfInBounds_toArray, List.set_cons_zero, List.set_cons_succ])
          refine wpAnyH_ready (rs := [3]) (by kernel_rfl) (by simp) ?_
          refine (AllReadyH.cons rfl (fun K1 hK1 => ?_) AllReadyH.nil)
          go_simp
          have HD7 := hide ((HDA7.out w20 (HB3N.out.trans (HSX.out.1.mono HB3N.out.size))).rd)
          have HSD := hide (SameDir_any w20.heap.size w20.heap.size A7 A9 k7 c9 dep1 dep1 L1 L1 w20 HD7.out (Rd.of_own HO9.out) (Nat.le_refl _) (Nat.le_refl _) (by have := HLL1.out; omega) (by have := HLL1.out; omega) true (by simp))
          rw [HM1.out] at HSD
          refine HSD.out.mono ?_
          rintro e w21 ⟨rfl, hb2⟩
          replace HSX := hide (HS.out _ _ hb2 HSX.out)
          refine hK1.out _ _ (HSX.out) (fun _ => ?_)
          clear hK1 K1
          (try simp only [Act.put, List.getElem_toArray, List.getElem_cons_succ, List.getElem_cons_zero, List.setIfInBounds_toArray, List.set_cons_zero, List.set_cons_succ])
          (refine wpAnyH_take (i := 4) (v := ?_) rfl (by kernel_rfl) (by kernel_rfl) (by kernel_rfl) (fun _ _ _ h => h) (Or.inl ⟨by rfl, ?_⟩) (by assumption) ?_; rotate_left; (focus (intro w hSw; (try dsimp only at hSw); obtain ⟨kf0, kf1, kf2, kf3, kf4⟩ := hSw; go_simp; first | done | with_reducible rfl)); (try simp only [Act.put, List.getElem_toArray, List.getElem_cons_succ, List.getElem_cons_zero, List.setIfInBounds_toArray, List.set_cons_zero, List.set_cons_succ]))
          refine wpAnyH_done (by kernel_rfl) ?_ _
          have HF := hide (HBN.out.trans (HSX.out.1.mono HBN.out.size))
          go_wp2_with fail
          go_ret
          exact ⟨rfl, HF.out⟩
    · simp only [if_true]
      have hff : (fr != fr) = false := by cases fr <;> rfl
      go_upto_region 6 with (fail)
      refine wp_region_held_drew (S := fun wX => (Below w5.heap.size w5 wX ∧ wX.cell? ⟨g7, 0, none⟩ = some (.int .i64 dep1) ∧ wX.cell? ⟨g7, 1, none⟩ = some (.slice A7 m1 k7) ∧ wX.cell? ⟨g8, 0, none⟩ = some (.int .i64 dep2) ∧ wX.cell? ⟨g8, 1, none⟩ = some (.slice A8 m2 k8))) (by kernel_rfl) (hS0) (fun hHeld => ?_)
      (refine wpAnyH_take (i := 0) (v := ?_) rfl (by kernel_rfl) (by kernel_rfl) (by kernel_rfl) (fun _ _ _ h => h) (Or.inl ⟨by rfl, ?_⟩) (by assumption) ?_; rotate_left; (focus (intro w hSw; (try dsimp only at hSw); obtain ⟨kf0, kf1, kf2, kf3, kf4⟩ := hSw; go_simp; first | done | with_reducible rfl)); (try simp only [Act.put, List.getElem_toArray, List.getElem_cons_succ, List.getElem_cons_zero, List.setIfInBounds_toArray, List.set_cons_zero, List.set_cons_succ]))
      (refine wpAnyH_take (i := 1) (v := ?_) rfl (by kernel_rfl) (by kernel_rfl) (by kernel_rfl) (fun _ _ _ h => h) (Or.inl ⟨by rfl, ?_⟩) (by assumption) ?_; rotate_left; (focus (intro w hSw; (try dsimp only at hSw); obtain ⟨kf0, kf1, kf2, kf3, kf4⟩ := hSw; go_simp; first | done | with_reducible rfl)); (try simp only [Act.put, List.getElem_toArray, List.getElem_cons_succ, List.getElem_cons_zero, List.setIfInBounds_toArray, List.set_cons_zero, List.set_cons_succ]))
      (refine wpAnyH_take (i := 2) (v := ?_) rfl (by kernel_rfl) (by kernel_rfl) (by kernel_rfl) (fun _ _ _ h => h) (Or.inl ⟨by rfl, ?_⟩) (by assumption) ?_; rotate_left; (focus (intro w hSw; (try dsimp only at hSw); obtain ⟨kf0, kf1, kf2, kf3, kf4⟩ := hSw; go_simp; first | done | with_reducible rfl)); (try simp only [Act.put, List.getElem_toArray, List.getElem_cons_succ, List.getElem_cons_zero, List.setIfInBounds_toArray, List.set_cons_zero, List.set_cons_succ]))
      (refine wpAnyH_take (i := 3) (v := ?_) rfl (by kernel_rfl) (by kernel_rfl) (by kernel_rfl) (fun _ _ _ h => h) (Or.inl ⟨by rfl, ?_⟩) (by assumption) ?_; rotate_left; (focus (intro w hSw; (try dsimp only at hSw); obtain ⟨kf0, kf1, kf2, kf3, kf4⟩ := hSw; go_simp; first | done | with_reducible rfl)); (try simp only [Act.put, List.getElem_toArray, List.getElem_cons_succ, List.getElem_cons_zero, List.setIfInBounds_toArray, List.set_cons_zero, List.set_cons_succ]))
      (refine wpAnyH_take (i := 4) (v := ?_) rfl (by kernel_rfl) (by kernel_rfl) (by kernel_rfl) (fun _ _ _ h => h) (Or.inl ⟨by rfl, ?_⟩) (by assumption) ?_; rotate_left; (focus (intro w hSw; (try dsimp only at hSw); obtain ⟨kf0, kf1, kf2, kf3, kf4⟩ := hSw; go_simp; first | done | with_reducible rfl)); (try simp only [Act.put, List.getElem_toArray, List.getElem_cons_succ, List.getElem_cons_zero, List.setIfInBounds_toArray, List.set_cons_zero, List.set_cons_succ]))
      (refine wpAnyH_take (i := 5) (v := ?_) rfl (by kernel_rfl) (by kernel_rfl) (by kernel_rfl) (fun _ _ _ h => h) (Or.inl ⟨by rfl, ?_⟩) (by assumption) ?_; rotate_left; (focus (intro w hSw; (try dsimp only at hSw); obtain ⟨kf0, kf1, kf2, kf3, kf4⟩ := hSw; go_simp; first | done | with_reducible rfl)); (try simp only [Act.put, List.getElem_toArray, List.getElem_cons_succ, List.getElem_cons_zero, List.setIfInBounds_toArray, List.set_cons_zero, List.set_cons_succ]))
      (refine wpAnyH_take (i := 6) (v := ?_) rfl (by kernel_rfl) (by kernel_rfl) (by kernel_rfl) (fun _ _ _ h => h) (Or.inl ⟨by rfl, ?_⟩) (by assumption) ?_; rotate_left; (focus (intro w hSw; (try dsimp only at hSw); obtain ⟨kf0, kf1, kf2, kf3, kf4⟩ := hSw; go_simp; first | done | with_reducible rfl)); (try simp only [Act.put, List.getElem_toArray, List.getElem_cons_succ, List.getElem_cons_zero, List.setIfInBounds_toArray, List.set_cons_zero, List.set_cons_succ]))
      (refine wpAnyH_take (i := 7) (v := ?_) rfl (by kernel_rfl) (by kernel_rfl) (by kernel_rfl) (fun _ _ _ h => h) (Or.inl ⟨by rfl, ?_⟩) (by assumption) ?_; rotate_left; (focus (intro w hSw; (try dsimp only at hSw); obtain ⟨kf0, kf1, kf2, kf3, kf4⟩ := hSw; go_simp; first | done | with_reducible rfl)); (try simp only [Act.put, List.getElem_toArray, List.getElem_cons_succ, List.getElem_cons_zero, List.setIfInBounds_toArray, List.set_cons_zero, List.set_cons_succ]))
      (refine wpAnyH_take (i := 8) (v := undef) rfl (by kernel_rfl) (by kernel_rfl) (by kernel_rfl) (fun _ _ _ h => h) (Or.inr ⟨by rfl, rfl⟩) (by assumption) ?_; (try simp only [Act.put, List.getElem_toArray, List.getElem_cons_succ, List.getElem_cons_zero, List.setIfInBounds_toArray, List.set_cons_zero, List.set_cons_succ]))
      (refine wpAnyH_take (i := 9) (v := undef) rfl (by kernel_rfl) (by kernel_rfl) (by kernel_rfl) (fun _ _ _ h => h) (Or.inr ⟨by rfl, rfl⟩) (by assumption) ?_; (try simp only [Act.put, List.getElem_toArray, List.getElem_cons_succ, List.getElem_cons_zero, List.setIfInBounds_toArray, List.set_cons_zero, List.set_cons_succ]))
      (refine wpAnyH_take (i := 10) (v := ?_) rfl (by kernel_rfl) (by kernel_rfl) (by kernel_rfl) (fun _ _ _ h => h) (Or.inl ⟨by rfl, ?_⟩) (by assumption) ?_; rotate_left; (focus (intro w hSw; (try dsimp only at hSw); obtain ⟨kf0, kf1, kf2, kf3, kf4⟩ := hSw; go_simp; first | done | with_reducible rfl)); (try simp only [Act.put, List.getElem_toArray, List.getElem_cons_succ, List.getElem_cons_zero, List.setIfInBounds_toArray, List.set_cons_zero, List.set_cons_succ]))
      (refine wpAnyH_take (i := 11) (v := ?_) rfl (by kernel_rfl) (by kernel_rfl) (by kernel_rfl) (fun _ _ _ h => h) (Or.inl ⟨by rfl, ?_⟩) (by assumption) ?_; rotate_left; (focus (intro w hSw; (try dsimp only at hSw); obtain ⟨kf0, kf1, kf2, kf3, kf4⟩ := hSw; go_simp; first | done | with_reducible rfl)); (try simp only [Act.put, List.getElem_toArray, List.getElem_cons_succ, List.getElem_cons_zero, List.setIfInBounds_toArray, List.set_cons_zero, List.set_cons_succ]))
      (refine wpAnyH_take (i := 12) (v := ?_) rfl (by kernel_rfl) (by kernel_rfl) (by kernel_rfl) (fun _ _ _ h => h) (Or.inl ⟨by rfl, ?_⟩) (by assumption) ?_; rotate_left; (focus (intro w hSw; (try dsimp only at hSw); obtain ⟨kf0, kf1, kf2, kf3, kf4⟩ := hSw; go_simp; first | done | with_reducible rfl)); (try simp only [Act.put, List.getElem_toArray, List.getElem_cons_succ, List.getElem_cons_zero, List.setIfInBounds_toArray, List.set_cons_zero, List.set_cons_succ]))
      (refine wpAnyH_take (i := 13) (v := ?_) rfl (by kernel_rfl) (by kernel_rfl) (by kernel_rfl) (fun _ _ _ h => h) (Or.inl ⟨by rfl, ?_⟩) (by assumption) ?_; rotate_left; (focus (intro w hSw; (try dsimp only at hSw); obtain ⟨kf0, kf1, kf2, kf3, kf4⟩ := hSw; go_simp; first | done | with_reducible rfl)); (try simp only [Act.put, List.getElem_toArray, List.getElem_cons_succ, List.getElem_cons_zero, List.setIfInBounds_toArray, List.set_cons_zero, List.set_cons_succ]))
      (refine wpAnyH_take (i := 15) (v := ?_) rfl (by kernel_rfl) (by kernel_rfl) (by kernel_rfl) (fun _ _ _ h => h) (Or.inl ⟨by rfl, ?_⟩) (by assumption) ?_; rotate_left; (focus (intro w hSw; (try dsimp only at hSw); obtain ⟨kf0, kf1, kf2, kf3, kf4⟩ := hSw; go_simp; first | done | with_reducible rfl)); (try simp only [Act.put, List.getElem_toArray, List.getElem_cons_succ, List.getElem_cons_zero, List.setIfInBounds_toArray, List.set_cons_zero, List.set_cons_succ]))
      have HSX := hide hS0
      refine wpAnyH_ready (rs := [14]) (by kernel_rfl) (by simp) ?_
      refine (AllReadyH.cons rfl (fun K0 hK0 => ?_) AllReadyH.nil)
      go_simp
      refine (HSP.out _ (HKK.out _ HSX.out.1)).mono ?_
      rintro e w6 ⟨A9, c9, rfl, ho9, hb⟩
      have HO9 := hide ho9
      have HB6 := hide (HSX.out.1.trans (hb.mono HSX.out.1.size))
      replace HSX := hide (HS.out _ _ hb HSX.out)
      refine hK0.out _ _ (HSX.out) (fun _ => ?_)
      clear hK0 K0
      (try simp only [Act.put, List.getElem_toArray, List.getElem_cons_succ, List.getElem_cons_zero, List.setIfInBounds_toArray, List.set_cons_zero, List.set_cons_succ])
      refine wpAnyH_ready (rs := [16]) (by kernel_rfl) (by simp) ?_
      refine (AllReadyH.cons rfl (fun K1 hK1 => ?_) AllReadyH.nil)
      go_simp
      refine (EqualR w6.heap.size w6.heap.size A9 AY c9 cY ys ys w6 (Rd.of_own HO9.out) (Rd.of_own (own_keepB OY.out HB6.out)) (Nat.le_refl _) (Nat.le_refl _) HLY.out HLY.out true (by simp)).mono ?_
      rintro e w7 ⟨rfl, hb2⟩
      replace HSX := hide (HS.out _ _ hb2 HSX.out)
      refine hK1.out _ _ (HSX.out) (fun _ => ?_)
      clear hK1 K1
      (try simp only [Act.put, List.getElem_toArray, List.getElem_cons_succ, List.getElem_cons_zero, List.setIfInBounds_toArray, List.set_cons_zero, List.set_cons_succ])
      (refine wpAnyH_take (i := 17) (v := ?_) rfl (by kernel_rfl) (by kernel_rfl) (by kernel_rfl) (fun _ _ _ h => h) (Or.inl ⟨by rfl, ?_⟩) (by assumption) ?_; rotate_left; (focus (intro w hSw; (try dsimp only at hSw); obtain ⟨kf0, kf1, kf2, kf3, kf4⟩ := hSw; go_simp; first | done | with_reducible rfl)); (try simp only [Act.put, List.getElem_toArray, List.getElem_cons_succ, List.getElem_cons_zero, List.setIfInBounds_toArray, List.set_cons_zero, List.set_cons_succ]))
      (refine wpAnyH_take (i := 18) (v := ?_) rfl (by kernel_rfl) (by kernel_rfl) (by kernel_rfl) (fun _ _ _ h => h) (Or.inl ⟨by rfl, ?_⟩) (by assumption) ?_; rotate_left; (focus (intro w hSw; (try dsimp only at hSw); obtain ⟨kf0, kf1, kf2, kf3, kf4⟩ := hSw; go_simp; first | done | with_reducible rfl)); (try simp only [Act.put, List.getElem_toArray, List.getElem_cons_succ, List.getElem_cons_zero, List.setIfInBounds_toArray, List.set_cons_zero, List.set_cons_succ]))
      (refine wpAnyH_take (i := 19) (v := ?_) rfl (by kernel_rfl) (by kernel_rfl) (by kernel_rfl) (fun _ _ _ h => h) (Or.inl ⟨by rfl, ?_⟩) (by assumption) ?_; rotate_left; (focus (intro w hSw; (try dsimp only at hSw); obtain ⟨kf0, kf1, kf2, kf3, kf4⟩ := hSw; go_simp; first | done | with_reducible rfl)); (try simp only [Act.put, List.getElem_toArray, List.getElem_cons_succ, List.getElem_cons_zero, List.setIfInBounds_toArray, List.set_cons_zero, List.set_cons_succ]))
      (refine wpAnyH_take (i := 20) (v := ?_) rfl (by kernel_rfl) (by kernel_rfl) (by kernel_rfl) (fun _ _ _ h => h) (Or.inl ⟨by rfl, ?_⟩) (by assumption) ?_; rotate_left; (focus (intro w hSw; (try dsimp only at hSw); obtain ⟨kf0, kf1, kf2, kf3, kf4⟩ := hSw; go_simp; first | done | with_reducible rfl)); (try simp only [Act.put, List.getElem_toArray, List.getElem_cons_succ, List.getElem_cons_zero, List.setIfInBounds_toArray, List.set_cons_zero, List.set_cons_succ]))
      (refine wpAnyH_take (i := 21) (v := ?_) rfl (by kernel_rfl) (by kernel_rfl) (by kernel_rfl) (fun _ _ _ h => h) (Or.inl ⟨by rfl, ?_⟩) (by assumption) ?_; rotate_left; (focus (intro w hSw; (try dsimp only at hSw); obtain ⟨kf0, kf1, kf2, kf3, kf4⟩ := hSw; go_simp; first | done | with_reducible rfl)); (try simp only [Act.put, List.getElem_toArray, List.getElem_cons_succ, List.getElem_cons_zero, List.setIfInBounds_toArray, List.set_cons_zero, List.set_cons_succ]))
      (refine wpAnyH_take (i := 23) (v := ?_) rfl (by kernel_rfl) (by kernel_rfl) (by kernel_rfl) (fun _ _ _ h => h) (Or.inl ⟨by rfl, ?_⟩) (by assumption) ?_; rotate_left; (focus (intro w hSw; (try dsimp only at hSw); obtain ⟨kf0, kf1, kf2, kf3, kf4⟩ := hSw; go_simp; first | done | with_reducible rfl)); (try simp only [Act.put, List.getElem_toArray, List.getElem_cons_succ, List.getElem_cons_zero, List.setIfInBounds_toArray, List.set_cons_zero, List.set_cons_succ]))
      (refine wpAnyH_take (i := 24) (v := ?_) rfl (by kernel_rfl) (by kernel_rfl) (by kernel_rfl) (fun _ _ _ h => h) (Or.inl ⟨by rfl, ?_⟩) (by assumption) ?_; rotate_left; (focus (intro w hSw; (try dsimp only at hSw); obtain ⟨kf0, kf1, kf2, kf3, kf4⟩ := hSw; go_simp; first | done | with_reducible rfl)); (try simp only [Act.put, List.getElem_toArray, List.getElem_cons_succ, List.getElem_cons_zero, List.setIfInBounds_toArray, List.set_cons_zero, List.set_cons_succ]))
      refine wpAnyH_ready (rs := [22]) (by kernel_rfl) (by simp) ?_
      refine (AllReadyH.cons rfl (fun K2 hK2 => ?_) AllReadyH.nil)
      go_simp
      refine (HFI.out _ (HKK.out _ HSX.out.1)).mono ?_
      rintro e w8 ⟨rfl, hb3⟩
      replace HSX := hide (HS.out _ _ hb3 HSX.out)
      refine hK2.out _ _ (HSX.out) (fun _ => ?_)
      clear hK2 K2
      (try simp only [Act.put, List.getElem_toArray, List.getElem_cons_succ, List.getElem_cons_zero, List.setIfInBounds_toArray, List.set_cons_zero, List.set_cons_succ])
      refine wpAnyH_ready (rs := [25]) (by kernel_rfl) (by simp) ?_
      refine (AllReadyH.cons rfl (fun K3 hK3 => ?_) AllReadyH.nil)
      go_simp
      refine (HRF.out _ (HKK.out _ HSX.out.1)).mono ?_
      rintro e w9 ⟨rfl, hb4⟩
      replace HSX := hide (HS.out _ _ hb4 HSX.out)
      refine hK3.out _ _ (HSX.out) (fun _ => ?_)
      clear hK3 K3
      (try simp only [Act.put, List.getElem_toArray, List.getElem_cons_succ, List.getElem_cons_zero, List.setIfInBounds_toArray, List.set_cons_zero, List.set_cons_succ])
      (refine wpAnyH_take (i := 26) (v := ?_) rfl (by kernel_rfl) (by kernel_rfl) (by kernel_rfl) (fun _ _ _ h => h) (Or.inl ⟨by rfl, ?_⟩) (by assumption) ?_; rotate_left; (focus (intro w hSw; (try dsimp only at hSw); obtain ⟨kf0, kf1, kf2, kf3, kf4⟩ := hSw; go_simp; first | done | with_reducible rfl)); (try simp only [Act.put, List.getElem_toArray, List.getElem_cons_succ, List.getElem_cons_zero, List.setIfInBounds_toArray, List.set_cons_zero, List.set_cons_succ]))
      (refine wpAnyH_take (i := 27) (v := ?_) rfl (by kernel_rfl) (by kernel_rfl) (by kernel_rfl) (fun _ _ _ h => h) (Or.inl ⟨by rfl, ?_⟩) (by assumption) ?_; rotate_left; (focus (intro w hSw; (try dsimp only at hSw); obtain ⟨kf0, kf1, kf2, kf3, kf4⟩ := hSw; go_simp; first | done | with_reducible rfl)); (try simp only [Act.put, List.getElem_toArray, List.getElem_cons_succ, List.getElem_cons_zero, List.setIfInBounds_toArray, List.set_cons_zero, List.set_cons_succ]))
      refine wpAnyH_done (by kernel_rfl) ?_ _
      replace R7 := hide (R7.out.below HSX.out.1)
      replace R1 := hide (R1.out.below HSX.out.1)
      have HB39 := hide (HB34.out.trans (HSX.out.1.mono HB34.out.size))
      replace HB := hide (HB.out.trans (HSX.out.1.mono HB.out.size))
      clear hS0 hSB HS HSX HKK HSP HFI HRF HCK hb hb2 hb3 hb4 HO9 HB6 hff p0 p1 r0 r1 R8 HB34 OY HDA8
      go_wp2_with fail
      go_loopw [63] (fun iv wr => ∃ i : Nat, i ≤ nH ∧ iv = .int .i64 i ∧ Below w9.heap.size w9 wr) (fun iv _ => nH - (intOf iv).toNat)
      case atStart => exact ⟨0, Nat.zero_le _, rfl, Below.refl _ _⟩
      case round =>
        obtain ⟨i, hi, rfl, hb⟩ := hrel
        have HBN := hide (HB.out.trans (hb.mono HB.out.size))
        have HBL := hide hb
        have G7L := hide (show g7 < wr.heap.size from Nat.lt_of_lt_of_le R7.out.lt hb.size)
        have G1L := hide (show W.heap.size < wr.heap.size from Nat.lt_of_lt_of_le R1.out.lt hb.size)
        have G1W := hide HBN.out.size
        have HW9 := hide hb.size
        have HW3 := hide (show w3.heap.size ≤ wr.heap.size from Nat.le_trans HB39.out.size hb.size)
        have HB3N := hide (HB39.out.trans (hb.mono HB39.out.size))
        replace R7 := hide (R7.out.below hb)
        replace R1 := hide (R1.out.below hb)
        clear hb
        by_cases hlt : i < nH
        · have hix : i < hs.length := by rw [HTX.out]; exact hlt
          have hrd := HT.out.below HBN.out
          rw [← HTX.out] at hrd
          obtain ⟨b, off, hA, hbl, hc⟩ := hrd.elem encW_len hix
          obtain ⟨h, hh⟩ : ∃ h, hs[i] = h := ⟨_, rfl⟩
          have hhu : U64 h := by rw [← hh]; exact HTU.out _ (List.getElem_mem hix)
          rw [hh] at hc
          have d0 := hc 0 _ (by omega) rfl
          simp only [Nat.add_zero, Nat.mul_one] at d0
          subst hA
          have hbl2 : b < wr.heap.size := Nat.lt_of_lt_of_le hbl HBN.out.size
          have hiI : (i : Int) < (nH : Int) := by omega
          clear hc hrd hbl hh hix
          by_cases h8 : i = 8
          · have hd8 : ((i : Int) == 8) = true := by rw [h8]; rfl
            clear h8
            go_upto_region 27 with (fail)
            have q0 := row20 R7.out
            have q1 := row21 R7.out
            have z0 := row20 R1.out
            have z1 := row21 R1.out
            have HS : Hid (∀ w w', Below w.heap.size w w' → (Below wr.heap.size wr w ∧ w.cell? ⟨g7, 0, none⟩ = some (.int .i64 dep1) ∧ w.cell? ⟨g7, 1, none⟩ = some (.slice A7 m1 k7) ∧ w.cell? ⟨W.heap.size, 0, none⟩ = some (.int .i64 dep1) ∧ w.cell? ⟨W.heap.size, 1, none⟩ = some (.slice A1 n1 c1)) → (Below wr.heap.size wr w' ∧ w'.cell? ⟨g7, 0, none⟩ = some (.int .i64 dep1) ∧ w'.cell? ⟨g7, 1, none⟩ = some (.slice A7 m1 k7) ∧ w'.cell? ⟨W.heap.size, 0, none⟩ = some (.int .i64 dep1) ∧ w'.cell? ⟨W.heap.size, 1, none⟩ = some (.slice A1 n1 c1))) := hide (fun w w' hb h => ⟨h.1.trans (hb.mono h.1.size), kept hb h.2.1, kept hb h.2.2.1, kept hb h.2.2.2.1, kept hb h.2.2.2.2⟩)
            have hS0 : (Below wr.heap.size wr wr.drew ∧ wr.drew.cell? ⟨g7, 0, none⟩ = some (.int .i64 dep1) ∧ wr.drew.cell? ⟨g7, 1, none⟩ = some (.slice A7 m1 k7) ∧ wr.drew.cell? ⟨W.heap.size, 0, none⟩ = some (.int .i64 dep1) ∧ wr.drew.cell? ⟨W.heap.size, 1, none⟩ = some (.slice A1 n1 c1)) := ⟨(Below.refl _ _).drew, q0, q1, z0, z1⟩
            have HSX := hide hS0
            refine wp_region_held_drew (S := fun wX => (Below wr.heap.size wr wX ∧ wX.cell? ⟨g7, 0, none⟩ = some (.int .i64 dep1) ∧ wX.cell? ⟨g7, 1, none⟩ = some (.slice A7 m1 k7) ∧ wX.cell? ⟨W.heap.size, 0, none⟩ = some (.int .i64 dep1) ∧ wX.cell? ⟨W.heap.size, 1, none⟩ = some (.slice A1 n1 c1))) (by kernel_rfl) (hS0) (fun hHeld => ?_)
            (refine wpAnyH_take (i := 0) (v := ?_) rfl (by kernel_rfl) (by kernel_rfl) (by kernel_rfl) (fun _ _ _ h => h) (Or.inl ⟨by rfl, ?_⟩) (by assumption) ?_; rotate_left; (focus (intro w hSw; (try dsimp only at hSw); obtain ⟨kf0, kf1, kf2, kf3, kf4⟩ := hSw; go_simp; first | done | with_reducible rfl)); (try simp only [Act.put, List.getElem_toArray, List.getElem_cons_succ, List.getElem_cons_zero, List.setIfInBounds_toArray, List.set_cons_zero, List.set_cons_succ]))
            (refine wpAnyH_take (i := 1) (v := ?_) rfl (by kernel_rfl) (by kernel_rfl) (by kernel_rfl) (fun _ _ _ h => h) (Or.inl ⟨by rfl, ?_⟩) (by assumption) ?_; rotate_left; (focus (intro w hSw; (try dsimp only at hSw); obtain ⟨kf0, kf1, kf2, kf3, kf4⟩ := hSw; go_simp; first | done | with_reducible rfl)); (try simp only [Act.put, List.getElem_toArray, List.getElem_cons_succ, List.getElem_cons_zero, List.setIfInBounds_toArray, List.set_cons_zero, List.set_cons_succ]))
            refine wpAnyH_ready (rs := [2]) (by kernel_rfl) (by simp) ?_
            refine (AllReadyH.cons rfl (fun K0 hK0 => ?_) AllReadyH.nil)
            go_simp
            refine (HOWN1.out _ (HBN.out.trans (HSX.out.1.mono HBN.out.size))).mono ?_
            rintro e w20 ⟨A9, c9, rfl, ho9, hb⟩
            have HO9 := hide ho9
            replace HSX := hide (HS.out _ _ hb HSX.out)
            rw [HM1.out]
            refine hK0.out _ _ (HSX.out) (fun _ => ?_)
            clear hK0 K0
            (try simp only [Act.put, List.getElem_toArray, List.getElem_cons_succ, List.getElem_cons_zero, List.setIfInBounds_toArray, List.set_cons_zero, List.set_cons_succ])
            refine wpAnyH_ready (rs := [3]) (by kernel_rfl) (by simp) ?_
            refine (AllReadyH.cons rfl (fun K1 hK1 => ?_) AllReadyH.nil)
            go_simp
            have HD7 := hide ((HDA7.out w20 (HB3N.out.trans (HSX.out.1.mono HB3N.out.size))).rd)
            have HSD := hide (SameDir_any w20.heap.size w20.heap.size A7 A9 k7 c9 dep1 dep1 L1 L1 w20 HD7.out (Rd.of_own HO9.out) (Nat.le_refl _) (Nat.le_refl _) (by have := HLL1.out; omega) (by have := HLL1.out; omega) true (by simp))
            rw [HM1.out] at HSD
            refine HSD.out.mono ?_
            rintro e w21 ⟨rfl, hb2⟩
            replace HSX := hide (HS.out _ _ hb2 HSX.out)
            refine hK1.out _ _ (HSX.out) (fun _ => ?_)
            clear hK1 K1
            (try simp only [Act.put, List.getElem_toArray, List.getElem_cons_succ, List.getElem_cons_zero, List.setIfInBounds_toArray, List.set_cons_zero, List.set_cons_succ])
            (refine wpAnyH_take (i := 4) (v := ?_) rfl (by kernel_rfl) (by kernel_rfl) (by kernel_rfl) (fun _ _ _ h => h) (Or.inl ⟨by rfl, ?_⟩) (by assumption) ?_; rotate_left; (focus (intro w hSw; (try dsimp only at hSw); obtain ⟨kf0, kf1, kf2, kf3, kf4⟩ := hSw; go_simp; first | done | with_reducible rfl)); (try simp only [Act.put, List.getElem_toArray, List.getElem_cons_succ, List.getElem_cons_zero, List.setIfInBounds_toArray, List.set_cons_zero, List.set_cons_succ]))
            refine wpAnyH_done (by kernel_rfl) ?_ _
            have HF := hide (HBN.out.trans (HSX.out.1.mono HBN.out.size))
            go_wp2_with fail
            go_ret
            exact ⟨rfl, HF.out⟩
          · have hd8 : ((i : Int) == 8) = false := by rw [beq_eq_false_iff_ne]; omega
            clear h8
            obtain ⟨x0, hx0⟩ := of_is HMR.out hhu
            have HOF := hide (Of_any wr.heap.size A7 k7 dep1 h L1 wr (HDA7.out wr HB3N.out) (Nat.le_refl _) hhu (some x0) hx0)
            rw [HM1.out] at HOF
            have p0 := row20 R7.out
            have p1 := row21 R7.out
            have pl := R7.out.lt
            go_wp2_with fail
            refine HOF.out.mono ?_
            rintro e w10 ⟨rfl, hb⟩
            dsimp only
            have hba := (Below.refl _ w10).alloc (Nat.le_refl _) (.cells (rC x0) 33)
            have hbz := (Below.refl _ (w10.alloc (.cells (rC x0) 33))).alloc (Nat.le_refl _) (.cells zR 33)
            have R14 := hide ((RowAt.new w10 33 (rC x0)).below hbz)
            have R16 := hide (show RowAt ((w10.alloc (.cells (rC x0) 33)).alloc (.cells zR 33)) (w10.heap.size + 1) 33 zR from by have h := RowAt.new (w10.alloc (.cells (rC x0) 33)) 33 zR; rw [World.size_alloc] at h; exact h)
            have hb2 := (hb.trans (hba.mono hb.size)).trans (hbz.mono (Nat.le_trans hb.size hba.size))
            have hg14 : wr.heap.size ≤ w10.heap.size := hb.size
            replace R7 := hide (R7.out.below hb2)
            replace R1 := hide (R1.out.below hb2)
            replace HBN := hide (HBN.out.trans (hb2.mono HBN.out.size))
            replace HBL := hide (HBL.out.trans (hb2.mono HBL.out.size))
            replace HB3N := hide (HB3N.out.trans (hb2.mono HB3N.out.size))
            clear hb hba hbz hb2 HOF p0 p1 pl d0 hbl2
            obtain ⟨g14, hg14e⟩ : ∃ g, w10.heap.size = g := ⟨_, rfl⟩
            rw [hg14e] at R14 R16 hg14
            go_upto_region 15 with (fail)
            (try rw [hg14e])
            clear hg14e
            generalize (w10.alloc (.cells (rC x0) 33)).alloc (.cells zR 33) = w11 at *
            have HROF := hide (ROf_any w11.heap.size A7 k7 dep1 h L1 w11 (HDA7.out w11 HB3N.out) (Nat.le_refl _) (by have := HLL1.out; omega) hhu HMR.out x0 hx0)
            rw [HM1.out] at HROF
            have p0 := row20 R7.out
            have p1 := row21 R7.out
            have pl := R7.out.lt
            go_wp2_with fail
            with_reducible refine HROF.out.mono ?_
            rintro e w12 ⟨rfl, hb⟩
            dsimp only
            replace R7 := hide (R7.out.below hb)
            replace R1 := hide (R1.out.below hb)
            replace R14 := hide (R14.out.below hb)
            replace R16 := hide (R16.out.below hb)
            replace HBN := hide (HBN.out.trans (hb.mono HBN.out.size))
            replace HBL := hide (HBL.out.trans (hb.mono HBL.out.size))
            replace HB3N := hide (HB3N.out.trans (hb.mono HB3N.out.size))
            clear hb HROF p0 p1 pl
            have hg16W : wr.heap.size ≤ g14 + 1 := by omega
            have hn7 := hide (show g7 ≠ g14 + 1 from fun e => by have := G7L.out; omega)
            have hn1 := hide (show W.heap.size ≠ g14 + 1 from fun e => by have := G1L.out; omega)
            have R16n := hide (setR_row (y := ⟨(0, 0), 0, 0, 0, 0⟩) x0 R16.out)
            have R14n := hide ((R14.out.heap (setR_heap w12 (g14 + 1) x0 g14 (by omega))))
            have R7n := hide ((R7.out.heap (setR_heap w12 (g14 + 1) x0 g7 hn7.out)))
            have R1n := hide ((R1.out.heap (setR_heap w12 (g14 + 1) x0 W.heap.size hn1.out)))
            have hset := setR_below w12 (g14 + 1) (g14 + 1) x0 (Nat.le_refl _)
            replace HBN := hide (HBN.out.trans (hset.mono (Nat.le_trans G1W.out hg16W)))
            replace HBL := hide (HBL.out.trans (hset.mono (Nat.le_trans (HW9.out) hg16W)))
            replace HB3N := hide (HB3N.out.trans (hset.mono (Nat.le_trans (HW3.out) hg16W)))
            clear hset
            obtain ⟨x0', x1, x2, x3, x4, x5⟩ := row6 R16.out
            have xl := R16.out.lt
            have xf : ∀ i, w12.frozen? ⟨g14 + 1, i, none⟩ = false := fun i => R16.out.frozen i
            go_upto_region 17 with (fail)
            unfold setR at R16n R14n R7n R1n HBN HBL HB3N
            clear x0' x1 x2 x3 x4 x5 xl xf R16 R14 R7 R1
            generalize (((((w12.setCell ⟨g14 + 1, 0, none⟩ (.int .i64 x0.e.1)).setCell ⟨g14 + 1, 1, none⟩ (.int .u64 x0.e.2)).setCell ⟨g14 + 1, 2, none⟩ (.int .i64 x0.dep)).setCell ⟨g14 + 1, 3, none⟩ (.int .u64 x0.pre)).setCell ⟨g14 + 1, 4, none⟩ (.int .i64 x0.at_)).setCell ⟨g14 + 1, 5, none⟩ (.int .i64 x0.many) = w13 at *
            have R7 := hide R7n.out
            have R1 := hide R1n.out
            clear R7n R1n
            have hne := fun w => neqR w x0 x0 true (by simp)
            obtain ⟨x0', x1, x2, x3, x4, x5⟩ := row6 R16n.out
            have xl := R16n.out.lt
            obtain ⟨y0, y1, y2, y3, y4, y5⟩ := row6 R14n.out
            have yl := R14n.out.lt
            obtain ⟨a, ha⟩ : ∃ a : Int, h % 140 = a := ⟨_, rfl⟩
            have ha0 : 0 ≤ a := by omega
            have ha1 : a < 140 := by omega
            obtain ⟨z, hz⟩ : ∃ a : Int, h % 64 = a := ⟨_, rfl⟩
            have hz0 : 0 ≤ z := by omega
            have hz1 : z < 64 := by omega
            obtain ⟨hu0, hu1⟩ := hhu
            have hta : h.tmod 140 = a := by rw [Int.tmod_eq_emod_of_nonneg hu0]; exact ha
            have htz : h.tmod 64 = z := by rw [Int.tmod_eq_emod_of_nonneg hu0]; exact hz
            have haw : IntKind.i64.wrap a = a := IntWalk.i64_in _ (by omega)
            have haw2 : wrap64 a = a := IntWalk.wrap64_in _ (by omega)
            have haw3 : IntKind.i64.wrap (a - 5) = a - 5 := IntWalk.i64_in _ (by omega)
            obtain ⟨g, hg⟩ : ∃ g : Int, h / 2 ^ z.toNat = g := ⟨_, rfl⟩
            have HGU := hide (show U64 g from by
              rw [← hg]
              refine ⟨Int.ediv_nonneg hu0 (by exact Int.le_of_lt (Int.pow_pos (by omega))), ?_⟩
              exact Int.lt_of_le_of_lt (Int.ediv_le_self _ hu0) hu1)
            obtain ⟨re, hre⟩ : ∃ r, okEnt (a - 5) g = r := ⟨_, rfl⟩
            have HRE := hide hre
            have HNEW := hide (fun w => New_any (a - 5) g HGU.out w _ rfl)
            have HENT := hide (fun w => Entry_any (W := w) (a - 5) g re HGU.out.1 hre)
            rw [hre] at HNEW
            clear hre ha hz
            have R18 := hide (RowAt.new w13 31 #[.int .i64 (a - 5), .int .u64 g])
            have hba := (Below.refl _ w13).alloc (Nat.le_refl _) (.cells #[.int .i64 (a - 5), .int .u64 g] 31)
            replace R7 := hide (R7.out.below hba)
            replace R1 := hide (R1.out.below hba)
            replace HBN := hide (HBN.out.trans (hba.mono HBN.out.size))
            replace HBL := hide (HBL.out.trans (hba.mono HBL.out.size))
            clear hba HB3N
            go_upto_region 20 with (fail)
            clear x0' x1 x2 x3 x4 x5 xl y0 y1 y2 y3 y4 y5 yl
            obtain ⟨g18, hg18⟩ : ∃ g, w13.heap.size = g := ⟨_, rfl⟩
            rw [hg18] at R18
            (try rw [hg18])
            clear hg18
            generalize w13.alloc (.cells #[.int .i64 (a - 5), .int .u64 g] 31) = w14 at *
            have u0 := row20 R18.out
            have u1 := row21 R18.out
            have ul := R18.out.lt
            cases re
            · have HN := HNEW.out w14
              simp only [Bool.false_eq_true, if_false] at HN
              have HN := hide HN
              go_wp2_with fail
              refine HN.out.mono ?_
              rintro e w15 ⟨rfl, hb⟩
              dsimp only
              have hba := (Below.refl _ w15).alloc (Nat.le_refl _) (.cells #[.int .i64 0, .slice none 0 0] 24)
              have R19 := hide (RowAt.new w15 24 #[.int .i64 0, .slice none 0 0])
              have hb2 := hb.trans (hba.mono hb.size)
              replace R18 := hide (R18.out.below hb2)
              replace HBN := hide (HBN.out.trans (hb2.mono HBN.out.size))
              replace HBL := hide (HBL.out.trans (hb2.mono HBL.out.size))
              clear hb hba hb2 u0 u1 ul HN
              go_upto_region 21 with (fail)
              generalize w15.alloc (.cells #[.int .i64 0, .slice none 0 0] 24) = w16 at *
              have u0 := row20 R18.out
              have u1 := row21 R18.out
              have ul := R18.out.lt
              go_wp2_with fail
              refine (HENT.out w16).mono ?_
              rintro e w17 ⟨rfl, hb⟩
              dsimp only
              replace R19 := hide (R19.out.below hb)
              replace HBN := hide (HBN.out.trans (hb.mono HBN.out.size))
              replace HBL := hide (HBL.out.trans (hb.mono HBL.out.size))
              clear hb u0 u1 ul
              have v0 := row20 R19.out
              have v1 := row21 R19.out
              have vl := R19.out.lt
              go_wp2_with fail
              go_roundw
              case rel => exact ⟨i + 1, by omega, by go_num, HBL.out⟩
              case measure => simp [intOf]; omega
            · have HN := HNEW.out w14
              simp only [if_true] at HN
              have HN := hide HN
              go_wp2_with fail
              refine HN.out.mono ?_
              rintro e w15 ⟨A19, c19, rfl, ho, hb⟩
              dsimp only
              have O19 := hide (ownsRow_base (base' := W.heap.size) ho HBN.out.size)
              have hba := (Below.refl _ w15).alloc (Nat.le_refl _) (.cells #[.int .i64 0, .slice A19 1 c19] 24)
              have R19 := hide (RowAt.new w15 24 #[.int .i64 0, .slice A19 1 c19])
              have hb2 := hb.trans (hba.mono hb.size)
              replace O19 := hide (own_keepB O19.out hba)
              replace R18 := hide (R18.out.below hb2)
              replace HBN := hide (HBN.out.trans (hb2.mono HBN.out.size))
              replace HBL := hide (HBL.out.trans (hb2.mono HBL.out.size))
              clear ho hb hba hb2 u0 u1 ul HN
              go_upto_region 21 with (fail)
              generalize w15.alloc (.cells #[.int .i64 0, .slice A19 1 c19] 24) = w16 at *
              have u0 := row20 R18.out
              have u1 := row21 R18.out
              have ul := R18.out.lt
              go_wp2_with fail
              refine (HENT.out w16).mono ?_
              rintro e w17 ⟨rfl, hb⟩
              dsimp only
              replace O19 := hide (own_keepB O19.out hb)
              replace R18 := hide (R18.out.below hb)
              replace R19 := hide (R19.out.below hb)
              replace HBN := hide (HBN.out.trans (hb.mono HBN.out.size))
              replace HBL := hide (HBL.out.trans (hb.mono HBL.out.size))
              clear hb u0 u1 ul
              have u0 := row20 R18.out
              have u1 := row21 R18.out
              have ul := R18.out.lt
              have v0 := row20 R19.out
              have v1 := row21 R19.out
              have vl := R19.out.lt
              have hba := (Below.refl _ w17).alloc (Nat.le_refl _) (.cells #[.int .i64 (a - 5), .int .u64 g] 31)
              have HEQ := hide (show Calls Try.prog 20 #[.slice A19 1 c19, .slice (some ⟨w17.heap.size, 0, none⟩) 1 1] (w17.alloc (.cells #[.int .i64 (a - 5), .int .u64 g] 31)) (fun e Wn => e = .returned (.bool true) ∧ Below (w17.alloc (.cells #[.int .i64 (a - 5), .int .u64 g] 31)).heap.size (w17.alloc (.cells #[.int .i64 (a - 5), .int .u64 g] 31)) Wn) from EqualE _ _ A19 _ c19 1 [(a - 5, g)] [(a - 5, g)] _ (Rd.of_own (own_keepB O19.out hba)) (Rd.new w17 #[.int .i64 (a - 5), .int .u64 g] 31 2 1 rfl) (Nat.le_refl _) (by simp) (by simp) (by simp) true (by simp))
              have HBZ := hide (HBL.out.trans (hba.mono HBL.out.size))
              clear hba
              go_wp2_with fail
              refine HEQ.out.mono ?_
              rintro e w18 ⟨rfl, hb⟩
              dsimp only
              have HBF := hide (HBZ.out.trans (hb.mono HBZ.out.size))
              clear hb
              go_wp2_with fail
              go_roundw
              case rel => exact ⟨i + 1, by omega, by go_num, HBF.out⟩
              case measure => simp [intOf]; omega
        · obtain rfl : i = nH := by omega
          go_upto_region 27 with (fail)
          have q0 := row20 R7.out
          have q1 := row21 R7.out
          have z0 := row20 R1.out
          have z1 := row21 R1.out
          have HS : Hid (∀ w w', Below w.heap.size w w' → (Below wr.heap.size wr w ∧ w.cell? ⟨g7, 0, none⟩ = some (.int .i64 dep1) ∧ w.cell? ⟨g7, 1, none⟩ = some (.slice A7 m1 k7) ∧ w.cell? ⟨W.heap.size, 0, none⟩ = some (.int .i64 dep1) ∧ w.cell? ⟨W.heap.size, 1, none⟩ = some (.slice A1 n1 c1)) → (Below wr.heap.size wr w' ∧ w'.cell? ⟨g7, 0, none⟩ = some (.int .i64 dep1) ∧ w'.cell? ⟨g7, 1, none⟩ = some (.slice A7 m1 k7) ∧ w'.cell? ⟨W.heap.size, 0, none⟩ = some (.int .i64 dep1) ∧ w'.cell? ⟨W.heap.size, 1, none⟩ = some (.slice A1 n1 c1))) := hide (fun w w' hb h => ⟨h.1.trans (hb.mono h.1.size), kept hb h.2.1, kept hb h.2.2.1, kept hb h.2.2.2.1, kept hb h.2.2.2.2⟩)
          have hS0 : (Below wr.heap.size wr wr.drew ∧ wr.drew.cell? ⟨g7, 0, none⟩ = some (.int .i64 dep1) ∧ wr.drew.cell? ⟨g7, 1, none⟩ = some (.slice A7 m1 k7) ∧ wr.drew.cell? ⟨W.heap.size, 0, none⟩ = some (.int .i64 dep1) ∧ wr.drew.cell? ⟨W.heap.size, 1, none⟩ = some (.slice A1 n1 c1)) := ⟨(Below.refl _ _).drew, q0, q1, z0, z1⟩
          have HSX := hide hS0
          refine wp_region_held_drew (S := fun wX => (Below wr.heap.size wr wX ∧ wX.cell? ⟨g7, 0, none⟩ = some (.int .i64 dep1) ∧ wX.cell? ⟨g7, 1, none⟩ = some (.slice A7 m1 k7) ∧ wX.cell? ⟨W.heap.size, 0, none⟩ = some (.int .i64 dep1) ∧ wX.cell? ⟨W.heap.size, 1, none⟩ = some (.slice A1 n1 c1))) (by kernel_rfl) (hS0) (fun hHeld => ?_)
          (refine wpAnyH_take (i := 0) (v := ?_) rfl (by kernel_rfl) (by kernel_rfl) (by kernel_rfl) (fun _ _ _ h => h) (Or.inl ⟨by rfl, ?_⟩) (by assumption) ?_; rotate_left; (focus (intro w hSw; (try dsimp only at hSw); obtain ⟨kf0, kf1, kf2, kf3, kf4⟩ := hSw; go_simp; first | done | with_reducible rfl)); (try simp only [Act.put, List.getElem_toArray, List.getElem_cons_succ, List.getElem_cons_zero, List.setIfInBounds_toArray, List.set_cons_zero, List.set_cons_succ]))
          (refine wpAnyH_take (i := 1) (v := ?_) rfl (by kernel_rfl) (by kernel_rfl) (by kernel_rfl) (fun _ _ _ h => h) (Or.inl ⟨by rfl, ?_⟩) (by assumption) ?_; rotate_left; (focus (intro w hSw; (try dsimp only at hSw); obtain ⟨kf0, kf1, kf2, kf3, kf4⟩ := hSw; go_simp; first | done | with_reducible rfl)); (try simp only [Act.put, List.getElem_toArray, List.getElem_cons_succ, List.getElem_cons_zero, List.setIfInBounds_toArray, List.set_cons_zero, List.set_cons_succ]))
          refine wpAnyH_ready (rs := [2]) (by kernel_rfl) (by simp) ?_
          refine (AllReadyH.cons rfl (fun K0 hK0 => ?_) AllReadyH.nil)
          go_simp
          refine (HOWN1.out _ (HBN.out.trans (HSX.out.1.mono HBN.out.size))).mono ?_
          rintro e w20 ⟨A9, c9, rfl, ho9, hb⟩
          have HO9 := hide ho9
          replace HSX := hide (HS.out _ _ hb HSX.out)
          rw [HM1.out]
          refine hK0.out _ _ (HSX.out) (fun _ => ?_)
          clear hK0 K0
          (try simp only [Act.put, List.getElem_toArray, List.getElem_cons_succ, List.getElem_cons_zero, List.setIfInBounds_toArray, List.set_cons_zero, List.set_cons_succ])
          refine wpAnyH_ready (rs := [3]) (by kernel_rfl) (by simp) ?_
          refine (AllReadyH.cons rfl (fun K1 hK1 => ?_) AllReadyH.nil)
          go_simp
          have HD7 := hide ((HDA7.out w20 (HB3N.out.trans (HSX.out.1.mono HB3N.out.size))).rd)
          have HSD := hide (SameDir_any w20.heap.size w20.heap.size A7 A9 k7 c9 dep1 dep1 L1 L1 w20 HD7.out (Rd.of_own HO9.out) (Nat.le_refl _) (Nat.le_refl _) (by have := HLL1.out; omega) (by have := HLL1.out; omega) true (by simp))
          rw [HM1.out] at HSD
          refine HSD.out.mono ?_
          rintro e w21 ⟨rfl, hb2⟩
          replace HSX := hide (HS.out _ _ hb2 HSX.out)
          refine hK1.out _ _ (HSX.out) (fun _ => ?_)
          clear hK1 K1
          (try simp only [Act.put, List.getElem_toArray, List.getElem_cons_succ, List.getElem_cons_zero, List.setIfInBounds_toArray, List.set_cons_zero, List.set_cons_succ])
          (refine wpAnyH_take (i := 4) (v := ?_) rfl (by kernel_rfl) (by kernel_rfl) (by kernel_rfl) (fun _ _ _ h => h) (Or.inl ⟨by rfl, ?_⟩) (by assumption) ?_; rotate_left; (focus (intro w hSw; (try dsimp only at hSw); obtain ⟨kf0, kf1, kf2, kf3, kf4⟩ := hSw; go_simp; first | done | with_reducible rfl)); (try simp only [Act.put, List.getElem_toArray, List.getElem_cons_succ, List.getElem_cons_zero, List.setIfInBounds_toArray, List.set_cons_zero, List.set_cons_succ]))
          refine wpAnyH_done (by kernel_rfl) ?_ _
          have HF := hide (HBN.out.trans (HSX.out.1.mono HBN.out.size))
          go_wp2_with fail
          go_ret
          exact ⟨rfl, HF.out⟩
end Go.Proofs.Ytjlbnegdiabglaa
