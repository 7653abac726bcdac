/-
  PinsBack, walked.
-/
import Derived.Test.YtopaopfebgonjaaPnn
import Derived.IntWalk
set_option linter.unusedSimpArgs false
set_option linter.unusedVariables false
namespace Go.Proofs.Ytopaopfebgonjaa
open Go Go.RowKit
attribute [local go_sem] via_cell via_frozen

theorem backF_count (e : Int) : ∀ (k : Nat) (l : List Int), (backF e k l).length = l.countP (heldB e)
  | _, [] => rfl
  | k, s :: l => by
    rw [backF, List.length_append, backF_count e (k + 1) l, List.countP_cons]
    by_cases h : heldB e s = true <;> simp [h] <;> omega
theorem backL_count (e : Int) (S : List Int) : (backL e S).length = S.countP (heldB e) := backF_count e 0 S
/-- Pinned: what the plain law wants. -/
theorem pinned_facts {e : Int} {S : List Int} {g b : Int} (ho : pOk e S = true) (hS : ∀ s ∈ S, U64 s) (hb0 : 0 ≤ b) (h0 : 0 ≤ e) (hE : doE e S 1 g b = 0) :
    ∃ j : Nat, g = j ∧ j < S.length ∧ S[j]? = some 0 ∧ b ≤ e ∧ doX e S 1 g b = e ∧ doS e S 1 g b = S.set j (e + 1 - b) ∧ pOk e (S.set j (e + 1 - b)) = true ∧ (∀ s ∈ S.set j (e + 1 - b), U64 s) ∧
      oldB (S.set j (e + 1 - b)) = true ∧ oldE (S.set j (e + 1 - b)) ≤ e - b ∧ 0 ≤ oldE (S.set j (e + 1 - b)) ∧ doE e (S.set j (e + 1 - b)) 2 g 0 = 0 ∧ doX e (S.set j (e + 1 - b)) 2 g 0 = e ∧ doS e (S.set j (e + 1 - b)) 2 g 0 = S ∧
      doE e (S.set j (e + 1 - b)) 1 g 0 = 5 ∧ (backL e (S.set j (e + 1 - b))).length = (backL e S).length + if 0 < b then 1 else 0 := by
  have hE1 : dE e S 1 g b = 0 := by rw [← hE]; unfold doE; rw [if_pos ho]
  have hd : doE e S 1 g b = dE e S 1 g b := by unfold doE; rw [if_pos ho]
  rcases dE_cases e S 1 g b hE1 with ⟨h, _⟩ | ⟨_, h1, h2, h3, h4⟩ | ⟨h, _⟩
  · omega
  · obtain ⟨j, rfl⟩ := Int.eq_ofNat_of_zero_le h1
    have hj : j < S.length := by omega
    rw [Int.toNat_natCast] at h3
    have hq : S[j]? = some S[j] := List.getElem?_eq_getElem hj
    have hz : S[j] = 0 := by
      have := (hS S[j] (List.getElem_mem hj)).1
      rw [List.getD_eq_getElem?_getD, hq] at h3
      simp at h3
      omega
    rw [hz] at hq
    have hpo := pOk_do ho h0 hb0 hE1
    have hdx : dX e 1 = e := by simp [dX]
    have hds : dS e S 1 (j : Int) b = S.set j (e + 1 - b) := by simp [dS]
    rw [hdx, hds] at hpo
    have hU : ∀ s ∈ S.set j (e + 1 - b), U64 s := by
      have h5 := (pOk_out ho).2.2.1
      intro s hs
      rcases List.mem_or_eq_of_mem_set hs with hs | rfl
      · exact hS s hs
      · exact ⟨by omega, by omega⟩
    have hmem : e + 1 - b ∈ S.set j (e + 1 - b) := List.mem_iff_getElem.2 ⟨j, by simpa using hj, by simp⟩
    have hmin : ∃ m, minS (S.set j (e + 1 - b)) = some m := by
      cases h : minS (S.set j (e + 1 - b)) with
      | some m => exact ⟨m, rfl⟩
      | none => have := minS_none.1 h _ hmem; omega
    obtain ⟨m, hm⟩ := hmin
    obtain ⟨m1, m2, m3⟩ := minS_some.1 hm
    have hm4 := m3 _ hmem (by omega)
    have hgd : (S.set j (e + 1 - b)).getD j 0 = e + 1 - b := by rw [List.getD_eq_getElem?_getD, List.getElem?_set]; simp [hj]
    have hE2 : dE e (S.set j (e + 1 - b)) 2 (j : Int) 0 = 0 := by
      unfold dE
      rw [if_neg (by simp; omega), if_neg (by omega), if_neg (by omega), Int.toNat_natCast, hgd, if_neg (by omega)]
    have hE3 : dE e (S.set j (e + 1 - b)) 1 (j : Int) 0 = 5 := by
      unfold dE
      rw [if_neg (by simp; omega), if_neg (by omega), if_pos rfl, Int.toNat_natCast, hgd, if_pos (by omega)]
    have hdo2 : doE e (S.set j (e + 1 - b)) 2 (j : Int) 0 = 0 := by unfold doE; rw [if_pos hpo, hE2]
    refine ⟨j, rfl, hj, hq, h4, by unfold doX; rw [if_pos hE]; simp [dX], by unfold doS; rw [if_pos hE, hds], hpo, hU, by simp [oldB, hm], by simp [oldE, hm]; omega, by simp [oldE, hm]; omega, hdo2, by unfold doX; rw [if_pos hdo2]; rfl, ?_, by unfold doE; rw [if_pos hpo, hE3], ?_⟩
    · unfold doS
      rw [if_pos hdo2]
      have : dS e (S.set j (e + 1 - b)) 2 (j : Int) 0 = (S.set j (e + 1 - b)).set j 0 := by simp [dS]
      rw [this, List.set_set]
      apply List.ext_getElem?
      intro i
      rw [List.getElem?_set]
      split
      · subst_vars
        rw [hq] <;> simp [hj]
      · rfl
    · rw [backL_count, backL_count, List.countP_set (h := hj)]
      have hh : heldB e S[j] = false := by rw [hz]; simp [heldB]
      rw [hh]
      by_cases hb : 0 < b
      · have : heldB e (e + 1 - b) = true := by simp [heldB]; omega
        rw [this]; simp [hb]
      · have : heldB e (e + 1 - b) = false := by simp [heldB]; omega
        rw [this]; simp [hb]
  · omega

set_option maxRecDepth 100000 in
set_option maxHeartbeats 4000000 in
theorem Back_walk (A0 : Option Addr) (c0 n0 : Nat) (e g b : Int) (xs : List Int) (W : World) (h0 : Rd W W.heap.size 1 A0 n0 (Cs encW xs)) (hx0 : xs.length = n0) (hu : ∀ s ∈ xs, U64 s) (hn0 : n0 ≤ c0) (hm0 : c0 ≤ 9223372036854775807) (he : U64 e) (hbu : U64 b) :
    Calls Try.prog 7 #[.agg #[.int .u64 e, .slice A0 n0 c0], .int .i64 g, .int .u64 b] W fun x W' => x = .returned (.bool true) ∧ Below W.heap.size W W' := by
  obtain ⟨m, hm⟩ : ∃ m, min n0 10 = m := ⟨_, rfl⟩
  obtain ⟨S, hS⟩ : ∃ S, xs.take m = S := ⟨_, rfl⟩
  have hm10 : m ≤ 10 := by omega
  have HSL := hide (show S.length = m by rw [← hS, List.length_take]; omega)
  have HU := hide (show ∀ s ∈ S, U64 s from fun s hs => hu s (by rw [← hS] at hs; exact List.mem_of_mem_take hs))
  have HOWN : Hid (∀ w, Below W.heap.size W w → Calls Try.prog 9 #[.agg #[.int .u64 e, .slice A0 n0 c0]] w (LownRes w e m S)) := hide (fun w hb => by
    have h := lown_any A0 c0 n0 e xs w ((h0.below hb).more hb.size) hx0 hn0 hm0 m hm
    rw [hS] at h
    exact h)
  have HW := hide (fun w => wakes_any w)
  have HB := hide (Below.refl W.heap.size W)
  have he0 : 0 ≤ e := he.1
  have HE64 := hide he
  clear hm hS hu h0 he hx0
  go_enter Try.func7, Try.ntmps7
  go_wp2_with fail
  obtain ⟨g3, hg3⟩ : ∃ g, W.heap.size = g := ⟨_, rfl⟩
  have hWg3 : W.heap.size ≤ g3 := by rw [← hg3]; exact HB.out.size
  have hbx : Below W.heap.size W (W.alloc (.cells #[.int .u64 e, .slice A0 n0 c0] 25)) := (Below.refl _ _).alloc (Nat.le_refl _) _
  have hrx := RowAt.new W 25 #[.int .u64 e, .slice A0 n0 c0]
  rw [hg3] at hrx
  replace HB := hide (HB.out.trans (hbx.mono HB.out.size))
  have hs1 : (W.alloc (.cells #[.int .u64 e, .slice A0 n0 c0] 25)).heap.size = g3 + 1 := by rw [World.size_alloc, hg3]
  have R3 := hide hrx
  clear hbx hrx
  generalize W.alloc (.cells #[.int .u64 e, .slice A0 n0 c0] 25) = w2 at *
  (try rw [hg3])
  clear hg3 hs1
  with_reducible refine (HW.out _).mono ?_
  rintro e w3 ⟨rfl, hb⟩
  replace R3 := hide (R3.out.below hb)
  replace HB := hide (HB.out.trans (hb.mono HB.out.size))
  clear hb HW
  have qR3_0 := row20 R3.out
  have qR3_1 := row21 R3.out
  have lR3 := R3.out.lt
  go_wp2_with fail
  clear qR3_0 qR3_1 lR3
  with_reducible refine (HOWN.out _ HB.out).mono ?_
  rintro e w4 ⟨A7, c7, rfl, hc7, hcm7, hrd, hfr, hb⟩
  replace R3 := hide (R3.out.below hb)
  replace HB := hide (HB.out.trans (hb.mono HB.out.size))
  have HA := hide (hrd)
  clear hb hrd hfr
  go_wp2_with fail
  obtain ⟨g7, hg7⟩ : ∃ g, w4.heap.size = g := ⟨_, rfl⟩
  have hWg7 : W.heap.size ≤ g7 := by rw [← hg7]; exact HB.out.size
  have hbx : Below w4.heap.size w4 (w4.alloc (.cells #[.int .u64 e, .slice A7 m c7] 25)) := (Below.refl _ _).alloc (Nat.le_refl _) _
  have hrx := RowAt.new w4 25 #[.int .u64 e, .slice A7 m c7]
  rw [hg7] at hrx
  replace HA := hide ((HA.out.below hbx).more hbx.size)
  replace R3 := hide (R3.out.below hbx)
  replace HB := hide (HB.out.trans (hbx.mono HB.out.size))
  have hs5 : (w4.alloc (.cells #[.int .u64 e, .slice A7 m c7] 25)).heap.size = g7 + 1 := by rw [World.size_alloc, hg7]
  have R7 := hide hrx
  clear hbx hrx
  generalize w4.alloc (.cells #[.int .u64 e, .slice A7 m c7] 25) = w6 at *
  (try rw [hg7])
  clear hg7 hs5
  have hbu0 : 0 ≤ b := hbu.1
  obtain ⟨E1, hE1⟩ : ∃ E, doE e S 1 g b = E := ⟨_, rfl⟩
  obtain ⟨X1, hX1⟩ : ∃ E, doX e S 1 g b = E := ⟨_, rfl⟩
  obtain ⟨Y1, hY1⟩ : ∃ E, doS e S 1 g b = E := ⟨_, rfl⟩
  obtain ⟨m1, hm1⟩ : ∃ E, Y1.length = E := ⟨_, rfl⟩
  have HDO := hide (fun w (hr : Rd w w.heap.size 1 A7 m (Cs encW S)) => Do_any A7 c7 m e S 1 g b w hr HSL.out he0 HU.out hbu0 (by omega) E1 X1 Y1 m1 hE1 hX1 hY1 hm1)
  have HE1 := hide hE1
  have HX1 := hide hX1
  have HY1 := hide hY1
  have HM1 := hide hm1
  clear hE1 hX1 hY1 hm1
  with_reducible refine (HDO.out _ HA.out).mono ?_
  rintro e w7 ⟨A8, c8, rfl, hc8, hcm8, hout, hb⟩
  replace HA := hide ((HA.out.below hb).more hb.size)
  replace R3 := hide (R3.out.below hb)
  replace R7 := hide (R7.out.below hb)
  replace HB := hide (HB.out.trans (hb.mono HB.out.size))
  have HA8 := hide (hout.rd)
  clear hb hout HDO
  by_cases hE0 : E1 = 0
  · skip
    subst hE0
    have hpo : pOk e S = true := by
      have h := HE1.out
      unfold doE at h
      by_cases ho : pOk e S = true
      · exact ho
      · rw [if_neg ho] at h; cases h
    obtain ⟨j, rfl, hj, hq, hbe, hx1, hy1, hpo1, hu1, hob, hoe, hoe0, hd2, hdx2, hds2, hd3, hlen⟩ := pinned_facts hpo HU.out hbu0 he0 HE1.out
    rw [HX1.out] at hx1
    rw [HY1.out] at hy1
    obtain rfl : e = X1 := hx1.symm
    obtain ⟨Z, hZ⟩ : ∃ Z, S.set j (e + 1 - b) = Z := ⟨_, rfl⟩
    rw [hZ] at hy1 hpo1 hu1 hob hoe hoe0 hd2 hdx2 hds2 hd3 hlen
    obtain rfl : Z = Y1 := hy1.symm
    obtain ⟨ae, hae⟩ : ∃ a, oldE Z = a := ⟨_, rfl⟩
    obtain ⟨k8, hk8⟩ : ∃ k, (backL e Z).length = k := ⟨_, rfl⟩
    obtain ⟨k7, hk7⟩ : ∃ k, (backL e S).length = k := ⟨_, rfl⟩
    rw [hk8, hk7] at hlen
    rw [hae] at hoe hoe0
    have hmm : m1 = m := by rw [← HM1.out, ← hZ, List.length_set]; exact HSL.out
    obtain rfl : m = m1 := hmm.symm
    have HOLD := hide (fun w (hr : Rd w w.heap.size 1 A8 m (Cs encW Z)) => Oldest_any A8 c8 m e Z w hr HM1.out he0 hu1 (by omega) ae true (by rw [if_pos hpo1]; exact hae) (by rw [if_pos hpo1]; exact hob))
    have HDO2 := hide (fun w (hr : Rd w w.heap.size 1 A8 m (Cs encW Z)) => Do_any A8 c8 m e Z 2 (j : Int) 0 w hr HM1.out he0 hu1 (by omega) (by omega) 0 e S m hd2 hdx2 hds2 HSL.out)
    have HDO3 := hide (fun w (hr : Rd w w.heap.size 1 A8 m (Cs encW Z)) => Do_any A8 c8 m e Z 1 (j : Int) 0 w hr HM1.out he0 hu1 (by omega) (by omega) 5 0 [] 0 hd3 (by unfold doX; rw [hd3]; rfl) (by unfold doS; rw [hd3]; rfl) rfl)
    have HBK8 := hide (fun w (hr : Rd w w.heap.size 1 A8 m (Cs encW Z)) => Back_any A8 c8 m e Z w hr HM1.out he0 hu1 (by omega) (backL e Z) (by rw [if_pos hpo1]) k8 hk8)
    have HBK7 := hide (fun w (hr : Rd w w.heap.size 1 A7 m (Cs encW S)) => Back_any A7 c7 m e S w hr HSL.out he0 HU.out (by omega) (backL e S) (by rw [if_pos hpo]) k7 hk7)
    have HSAME := hide (fun w A c (h1 : Rd w w.heap.size 1 A m (Cs encW S)) (h2 : Rd w w.heap.size 1 A7 m (Cs encW S)) => same_any A A7 c c7 m m e e S S w h1 h2 HSL.out HSL.out (by omega) (by omega) true (by simp))
    have hk8n : k8 ≤ 11 := by rw [← hk8]; have := backL_length e Z; have := HM1.out; omega
    have hk7n : k7 ≤ 11 := by rw [← hk7]; have := backL_length e S; have := HSL.out; omega
    obtain ⟨qb, hqb⟩ : ∃ q, decide (0 < b) = q := ⟨_, rfl⟩
    have hqk : decide (k7 < k8) = qb := by
      rw [← hqb, decide_eq_decide]
      by_cases hb : 0 < b
      · rw [if_pos hb] at hlen; omega
      · rw [if_neg hb] at hlen; omega
    have u0 : (0 : Int) ≤ e - b := by omega
    have u1 : e - b < 18446744073709551616 := by have := HE64.out; unfold U64 at this; omega
    clear hpo1 hu1 hob hd2 hdx2 hds2 hd3 hlen hk8 hk7 hae hZ hq hpo HE1 HX1 HY1
    go_wp2_with fail
    obtain ⟨g8, hg8⟩ : ∃ g, w7.heap.size = g := ⟨_, rfl⟩
    have hWg8 : W.heap.size ≤ g8 := by rw [← hg8]; exact HB.out.size
    have hbx : Below w7.heap.size w7 (w7.alloc (.cells #[.int .u64 e, .slice A8 m c8] 25)) := (Below.refl _ _).alloc (Nat.le_refl _) _
    have hrx := RowAt.new w7 25 #[.int .u64 e, .slice A8 m c8]
    rw [hg8] at hrx
    replace HA := hide ((HA.out.below hbx).more hbx.size)
    replace HA8 := hide ((HA8.out.below hbx).more hbx.size)
    replace R3 := hide (R3.out.below hbx)
    replace R7 := hide (R7.out.below hbx)
    replace HB := hide (HB.out.trans (hbx.mono HB.out.size))
    have hs8 : (w7.alloc (.cells #[.int .u64 e, .slice A8 m c8] 25)).heap.size = g8 + 1 := by rw [World.size_alloc, hg8]
    have R8 := hide hrx
    clear hbx hrx
    generalize w7.alloc (.cells #[.int .u64 e, .slice A8 m c8] 25) = w9 at *
    (try rw [hg8])
    clear hg8 hs8
    with_reducible refine (HOLD.out _ HA8.out).mono ?_
    rintro e w10 ⟨rfl, hb⟩
    replace HA := hide ((HA.out.below hb).more hb.size)
    replace HA8 := hide ((HA8.out.below hb).more hb.size)
    replace R3 := hide (R3.out.below hb)
    replace R7 := hide (R7.out.below hb)
    replace R8 := hide (R8.out.below hb)
    replace HB := hide (HB.out.trans (hb.mono HB.out.size))
    clear hb HOLD
    have qR8_0 := row20 R8.out
    have qR8_1 := row21 R8.out
    have lR8 := R8.out.lt
    go_wp2_with fail
    clear qR8_0 qR8_1 lR8
    with_reducible refine (HDO2.out _ HA8.out).mono ?_
    rintro e w11 ⟨A12, c12, rfl, hc12, hcm12, hout, hb⟩
    replace HA := hide ((HA.out.below hb).more hb.size)
    replace HA8 := hide ((HA8.out.below hb).more hb.size)
    replace R3 := hide (R3.out.below hb)
    replace R7 := hide (R7.out.below hb)
    replace R8 := hide (R8.out.below hb)
    replace HB := hide (HB.out.trans (hb.mono HB.out.size))
    have HA12 := hide (hout.rd)
    clear hb hout HDO2
    have qR8_0 := row20 R8.out
    have qR8_1 := row21 R8.out
    have lR8 := R8.out.lt
    go_wp2_with fail
    clear qR8_0 qR8_1 lR8
    obtain ⟨g12, hg12⟩ : ∃ g, w11.heap.size = g := ⟨_, rfl⟩
    have hWg12 : W.heap.size ≤ g12 := by rw [← hg12]; exact HB.out.size
    have hbx : Below w11.heap.size w11 (w11.alloc (.cells #[.int .u64 e, .slice A12 m c12] 25)) := (Below.refl _ _).alloc (Nat.le_refl _) _
    have hrx := RowAt.new w11 25 #[.int .u64 e, .slice A12 m c12]
    rw [hg12] at hrx
    replace HA := hide ((HA.out.below hbx).more hbx.size)
    replace HA8 := hide ((HA8.out.below hbx).more hbx.size)
    replace HA12 := hide ((HA12.out.below hbx).more hbx.size)
    replace R3 := hide (R3.out.below hbx)
    replace R7 := hide (R7.out.below hbx)
    replace R8 := hide (R8.out.below hbx)
    replace HB := hide (HB.out.trans (hbx.mono HB.out.size))
    have hs12 : (w11.alloc (.cells #[.int .u64 e, .slice A12 m c12] 25)).heap.size = g12 + 1 := by rw [World.size_alloc, hg12]
    have R12 := hide hrx
    clear hbx hrx
    generalize w11.alloc (.cells #[.int .u64 e, .slice A12 m c12] 25) = w13 at *
    (try rw [hg12])
    clear hg12 hs12
    with_reducible refine (HDO3.out _ HA8.out).mono ?_
    rintro e w14 ⟨A13, c13, rfl, hc13, hcm13, hout, hb⟩
    replace HA := hide ((HA.out.below hb).more hb.size)
    replace HA8 := hide ((HA8.out.below hb).more hb.size)
    replace HA12 := hide ((HA12.out.below hb).more hb.size)
    replace R3 := hide (R3.out.below hb)
    replace R7 := hide (R7.out.below hb)
    replace R8 := hide (R8.out.below hb)
    replace R12 := hide (R12.out.below hb)
    replace HB := hide (HB.out.trans (hb.mono HB.out.size))
    clear hb hout HDO3
    go_wp2_with fail
    obtain ⟨g13, hg13⟩ : ∃ g, w14.heap.size = g := ⟨_, rfl⟩
    have hWg13 : W.heap.size ≤ g13 := by rw [← hg13]; exact HB.out.size
    have hbx : Below w14.heap.size w14 (w14.alloc (.cells #[.int .u64 0, .slice A13 0 c13] 25)) := (Below.refl _ _).alloc (Nat.le_refl _) _
    have hrx := RowAt.new w14 25 #[.int .u64 0, .slice A13 0 c13]
    rw [hg13] at hrx
    replace HA := hide ((HA.out.below hbx).more hbx.size)
    replace HA8 := hide ((HA8.out.below hbx).more hbx.size)
    replace HA12 := hide ((HA12.out.below hbx).more hbx.size)
    replace R3 := hide (R3.out.below hbx)
    replace R7 := hide (R7.out.below hbx)
    replace R8 := hide (R8.out.below hbx)
    replace R12 := hide (R12.out.below hbx)
    replace HB := hide (HB.out.trans (hbx.mono HB.out.size))
    have hs15 : (w14.alloc (.cells #[.int .u64 0, .slice A13 0 c13] 25)).heap.size = g13 + 1 := by rw [World.size_alloc, hg13]
    clear hbx hrx
    generalize w14.alloc (.cells #[.int .u64 0, .slice A13 0 c13] 25) = w16 at *
    (try rw [hg13])
    clear hg13 hs15
    have QS : Hid (∀ w, Below w16.heap.size w16 w → Calls Try.prog 21 #[.agg #[.int .u64 e, .slice A12 m c12], .agg #[.int .u64 e, .slice A7 m c7]] w fun e W' => e = .returned (.bool true) ∧ Below w.heap.size w W') := hide (fun w hb => HSAME.out w A12 c12 ((HA12.out.below hb).more hb.size) ((HA.out.below hb).more hb.size))
    have QB8 : Hid (∀ w, Below w16.heap.size w16 w → Calls Try.prog 25 #[.agg #[.int .u64 e, .slice A8 m c8]] w fun e W' => ∃ A' c', e = .returned (.slice A' k8 c') ∧ Below w.heap.size w W') := hide (fun w hb => (HBK8.out w ((HA8.out.below hb).more hb.size)).mono fun e W' ⟨A', c', e1, _, _, _, e5⟩ => ⟨A', c', e1, e5⟩)
    have QB7 : Hid (∀ w, Below w16.heap.size w16 w → Calls Try.prog 25 #[.agg #[.int .u64 e, .slice A7 m c7]] w fun e W' => ∃ A' c', e = .returned (.slice A' k7 c') ∧ Below w.heap.size w W') := hide (fun w hb => (HBK7.out w ((HA.out.below hb).more hb.size)).mono fun e W' ⟨A', c', e1, _, _, _, e5⟩ => ⟨A', c', e1, e5⟩)
    have hwr : IntKind.u64.wrap (e - b) = e - b := IntWalk.u64_in _ (by omega)
    have qR7_0 := row20 R7.out
    have qR7_1 := row21 R7.out
    have lR7 := R7.out.lt
    have qR8_0 := row20 R8.out
    have qR8_1 := row21 R8.out
    have lR8 := R8.out.lt
    have qR12_0 := row20 R12.out
    have qR12_1 := row21 R12.out
    have lR12 := R12.out.lt
    have HS : Hid (∀ w w', (Below w16.heap.size w16 w ∧ w.cell? ⟨g7, 0, none⟩ = some (.int .u64 e) ∧ w.cell? ⟨g7, 1, none⟩ = some (.slice A7 m c7) ∧ w.cell? ⟨g8, 0, none⟩ = some (.int .u64 e) ∧ w.cell? ⟨g8, 1, none⟩ = some (.slice A8 m c8) ∧ w.cell? ⟨g12, 0, none⟩ = some (.int .u64 e) ∧ w.cell? ⟨g12, 1, none⟩ = some (.slice A12 m c12)) → Below w.heap.size w w' → (Below w16.heap.size w16 w' ∧ w'.cell? ⟨g7, 0, none⟩ = some (.int .u64 e) ∧ w'.cell? ⟨g7, 1, none⟩ = some (.slice A7 m c7) ∧ w'.cell? ⟨g8, 0, none⟩ = some (.int .u64 e) ∧ w'.cell? ⟨g8, 1, none⟩ = some (.slice A8 m c8) ∧ w'.cell? ⟨g12, 0, none⟩ = some (.int .u64 e) ∧ w'.cell? ⟨g12, 1, none⟩ = some (.slice A12 m c12))) := hide (fun w w' h hb => ⟨h.1.trans (hb.mono h.1.size), kept hb h.2.1, kept hb h.2.2.1, kept hb h.2.2.2.1, kept hb h.2.2.2.2.1, kept hb h.2.2.2.2.2.1, kept hb h.2.2.2.2.2.2⟩)
    go_wp2_with fail
    have hbd0 : Below w16.heap.size w16 w16.drew := (Below.refl _ _).drew
    go_region_held3 (fun wX => Below w16.heap.size w16 wX ∧ wX.cell? ⟨g7, 0, none⟩ = some (.int .u64 e) ∧ wX.cell? ⟨g7, 1, none⟩ = some (.slice A7 m c7) ∧ wX.cell? ⟨g8, 0, none⟩ = some (.int .u64 e) ∧ wX.cell? ⟨g8, 1, none⟩ = some (.slice A8 m c8) ∧ wX.cell? ⟨g12, 0, none⟩ = some (.int .u64 e) ∧ wX.cell? ⟨g12, 1, none⟩ = some (.slice A12 m c12))
      (first | exact HS.out _ _ ‹_› hb | exact ⟨hbd0, qR7_0, qR7_1, qR8_0, qR8_1, qR12_0, qR12_1⟩ | go_keep)
      (first
        | (go_at_call 21; with_reducible refine (QS.out _ (And.left ‹Below w16.heap.size w16 _ ∧ _›)).mono ?_; rintro e wq ⟨rfl, hb⟩)
        | (go_at_call 25; with_reducible refine (QB8.out _ (And.left ‹Below w16.heap.size w16 _ ∧ _›)).mono ?_; rintro e wq ⟨Ab8, cb8, rfl, hb⟩)
        | (go_at_call 25; with_reducible refine (QB7.out _ (And.left ‹Below w16.heap.size w16 _ ∧ _›)).mono ?_; rintro e wq ⟨Ab7, cb7, rfl, hb⟩))
    have hbd := And.left ‹Below w16.heap.size w16 _ ∧ _›
    clear qR7_0 qR7_1 lR7 qR8_0 qR8_1 lR8 qR12_0 qR12_1 lR12 HS
    go_wp2_with fail
    go_ret
    exact ⟨rfl, HB.out.trans (hbd.mono HB.out.size)⟩
  · skip
    have hmz : m1 = 0 := by
      rw [← HM1.out, ← HY1.out]
      unfold doS
      rw [HE1.out, if_neg hE0]; rfl
    subst hmz
    have hE0' : (E1 != 0) = true := by simpa using hE0
    clear hE0
    go_wp2_with fail
    obtain ⟨g8, hg8⟩ : ∃ g, w7.heap.size = g := ⟨_, rfl⟩
    have hWg8 : W.heap.size ≤ g8 := by rw [← hg8]; exact HB.out.size
    have hbx : Below w7.heap.size w7 (w7.alloc (.cells #[.int .u64 X1, .slice A8 0 c8] 25)) := (Below.refl _ _).alloc (Nat.le_refl _) _
    have hrx := RowAt.new w7 25 #[.int .u64 X1, .slice A8 0 c8]
    rw [hg8] at hrx
    replace HA := hide ((HA.out.below hbx).more hbx.size)
    replace HA8 := hide ((HA8.out.below hbx).more hbx.size)
    replace R3 := hide (R3.out.below hbx)
    replace R7 := hide (R7.out.below hbx)
    replace HB := hide (HB.out.trans (hbx.mono HB.out.size))
    have hs8 : (w7.alloc (.cells #[.int .u64 X1, .slice A8 0 c8] 25)).heap.size = g8 + 1 := by rw [World.size_alloc, hg8]
    have R8 := hide hrx
    clear hbx hrx
    generalize w7.alloc (.cells #[.int .u64 X1, .slice A8 0 c8] 25) = w9 at *
    (try rw [hg8])
    clear hg8 hs8
    go_ret
    exact ⟨rfl, HB.out⟩
end Go.Proofs.Ytopaopfebgonjaa
