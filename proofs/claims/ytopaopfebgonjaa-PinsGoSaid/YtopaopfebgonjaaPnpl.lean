/-
  Pins, plainly: who holds it back pins no more; what holds while a goroutine pins.
-/
import Derived.Test.YtopaopfebgonjaaPnp
set_option linter.unusedSimpArgs false
set_option linter.unusedVariables false
namespace Go.Proofs.Ytopaopfebgonjaa
open Go Go.RowKit

/-- Some pin no more. -/
def unp : List Int → List Int → List Int
  | S, [] => S
  | S, g :: l => unp (S.set g.toNat 0) l
theorem unp_length : ∀ (S l : List Int), (unp S l).length = S.length
  | S, [] => rfl
  | S, g :: l => by rw [unp, unp_length, List.length_set]
theorem unp_append : ∀ (S l m : List Int), unp S (l ++ m) = unp (unp S l) m
  | S, [], m => rfl
  | S, g :: l, m => by rw [List.cons_append, unp, unp, unp_append]
theorem unp_get : ∀ (S l : List Int) (k : Nat), (∀ g ∈ l, 0 ≤ g) → (unp S l)[k]? = if (k : Int) ∈ l then (S[k]?).map (fun _ => 0) else S[k]?
  | S, [], k, _ => by simp [unp]
  | S, g :: l, k, hl => by
    rw [unp, unp_get _ l k (fun x hx => hl x (by simp [hx]))]
    have hg := hl g (by simp)
    by_cases hk : (k : Int) = g
    · have : g.toNat = k := by omega
      rw [this]
      by_cases hkl : k < S.length
      · by_cases hm : (k : Int) ∈ l
        · simp [hm, hk, hkl]
        · simp [hm, hk, hkl]
      · have h1 : S[k]? = none := List.getElem?_eq_none (by omega)
        have h2 : (S.set k 0)[k]? = none := List.getElem?_eq_none (by simp; omega)
        rw [h1, h2]; simp
    · have hne : g.toNat ≠ k := by omega
      rw [List.getElem?_set_ne hne]
      simp [hk]
/-- The places of those that hold it back rise. -/
theorem backF_rise (e : Int) : ∀ (k : Nat) (l : List Int), (backF e k l).Pairwise (· < ·) ∧ ∀ g ∈ backF e k l, (k : Int) ≤ g
  | k, [] => by simp [backF]
  | k, s :: l => by
    obtain ⟨h1, h2⟩ := backF_rise e (k + 1) l
    rw [backF]
    by_cases h : heldB e s = true
    · rw [if_pos h]
      refine ⟨List.pairwise_cons.2 ⟨fun g hg => ?_, h1⟩, fun g hg => ?_⟩
      · have := h2 g hg; omega
      · rcases List.mem_cons.1 hg with rfl | hg
        · exact Int.le_refl _
        · have := h2 g hg; omega
    · rw [if_neg h]
      exact ⟨h1, fun g hg => by have := h2 g hg; omega⟩
theorem unp_nonneg {S l : List Int} (hS : ∀ s ∈ S, 0 ≤ s) : ∀ s ∈ unp S l, 0 ≤ s := by
  induction l generalizing S with
  | nil => exact hS
  | cons g l ih =>
    rw [unp]
    refine ih (fun s hs => ?_)
    rcases List.mem_or_eq_of_mem_set hs with hs | rfl
    · exact hS s hs
    · omega
theorem unp_le {S l : List Int} {m : Int} (hm : 0 ≤ m) (hS : ∀ s ∈ S, s ≤ m) : ∀ s ∈ unp S l, s ≤ m := by
  induction l generalizing S with
  | nil => exact hS
  | cons g l ih =>
    rw [unp]
    exact ih (mem_set_le hS hm)
theorem unp_ok {e : Int} {S l : List Int} (h0 : 0 ≤ e) (ho : pOk e S = true) : pOk e (unp S l) = true := by
  obtain ⟨h1, h2, h3, h4⟩ := pOk_out ho
  exact pOk_mk ⟨by rw [unp_length]; exact h1, by rw [unp_length]; exact h2, h3, unp_le (by omega) h4⟩
theorem take_step {S : List Int} {e : Int} {j : Nat} (hj : j < (backL e S).length) : unp S ((backL e S).take (j + 1)) = (unp S ((backL e S).take j)).set ((backL e S)[j]).toNat 0 := by
  rw [List.take_succ_eq_append_getElem hj, unp_append]
  rfl
/-- One more pins no more. -/
theorem unp_step {e : Int} {S : List Int} {j : Nat} (ho : pOk e S = true) (h0 : 0 ≤ e) (hj : j < (backL e S).length) :
    dE e (unp S ((backL e S).take j)) 2 (backL e S)[j] 0 = 0 ∧ dS e (unp S ((backL e S).take j)) 2 (backL e S)[j] 0 = unp S ((backL e S).take (j + 1)) := by
  obtain ⟨i, hi, hgi, hh⟩ := backL_mem.1 (List.getElem_mem hj)
  have hrise := (backF_rise e 0 S).1
  have hpos : ∀ g ∈ (backL e S).take j, 0 ≤ g := fun g hg => by
    have := (backF_rise e 0 S).2 g (List.mem_of_mem_take hg); omega
  have hnot : ((i : Nat) : Int) ∉ (backL e S).take j := by
    intro hm
    obtain ⟨a, ha, hga⟩ := List.mem_iff_getElem.1 hm
    rw [List.length_take] at ha
    rw [List.getElem_take] at hga
    have h1 := List.pairwise_iff_getElem.1 hrise a j (by show a < (backL e S).length; omega) hj (by omega)
    have h2 : (backF e 0 S)[a]'(by show a < (backL e S).length; omega) = (i : Int) := hga
    have h3 : (backF e 0 S)[j]'hj = (i : Int) := hgi
    omega
  have hget : (unp S ((backL e S).take j))[i]? = some S[i] := by
    rw [unp_get _ _ _ hpos, if_neg hnot, List.getElem?_eq_getElem hi]
  have hgd : (unp S ((backL e S).take j)).getD i 0 = S[i] := by rw [List.getD_eq_getElem?_getD, hget]; rfl
  have hp : 0 < S[i] := by simp [heldB] at hh; exact hh.1
  refine ⟨?_, ?_⟩
  · rw [hgi]
    unfold dE
    rw [if_neg (by rw [unp_length]; omega), if_neg (by omega), if_neg (by omega), Int.toNat_natCast, hgd, if_neg (by omega)]
  · rw [take_step hj]
    simp [dS]
/-- Then nobody holds it back. -/
theorem unp_back {e : Int} {S : List Int} (h0 : 0 ≤ e) : backL e (unp S (backL e S)) = [] := by
  have hpos : ∀ g ∈ backL e S, 0 ≤ g := fun g hg => by
    have := (backF_rise e 0 S).2 g hg; omega
  rw [backL_nil, List.any_eq_false]
  intro s hs hh
  obtain ⟨i, hi, rfl⟩ := List.mem_iff_getElem.1 hs
  have hget := unp_get S (backL e S) i hpos
  rw [List.getElem?_eq_getElem hi] at hget
  have hi' : i < S.length := by rw [← unp_length S (backL e S)]; exact hi
  rw [List.getElem?_eq_getElem hi'] at hget
  by_cases hm : (i : Int) ∈ backL e S
  · rw [if_pos hm] at hget
    injection hget with hget
    rw [hget] at hh
    simp [heldB] at hh
  · rw [if_neg hm] at hget
    injection hget with hget
    rw [hget] at hh
    exact hm (backL_mem.2 ⟨i, hi', rfl, hh⟩)

/-- While a goroutine pins: the epoch is the one that was, or the next one; its slot is as it was. -/
structure HoldSt (then_ : Int) (j : Nat) (X : Int) (Y : List Int) : Prop where
  ok : pOk X Y = true
  pos : ∀ s ∈ Y, 0 ≤ s
  lo : then_ ≤ X
  hi : X ≤ then_ + 1
  slot : Y[j]? = some (then_ + 1)
theorem HoldSt.step {t : Int} {j : Nat} {X : Int} {Y : List Int} (h : HoldSt t j X Y) (ht : 0 ≤ t) (k g b : Int) (hb : 0 ≤ b) (hg : k = 3 ∨ g ≠ j) (hE : dE X Y k g b = 0) : HoldSt t j (dX X k) (dS X Y k g b) := by
  have h1 := h.lo
  have h2 := h.hi
  refine ⟨pOk_do h.ok (by omega) hb hE, dS_nonneg h.pos hE (by omega), ?_, ?_, ?_⟩
  · unfold dX; split <;> omega
  · rcases dE_cases X Y k g b hE with ⟨rfl, h3, _⟩ | ⟨rfl, _⟩ | ⟨rfl, _⟩
    · rw [List.any_eq_false] at h3
      have h4 := h3 _ (List.mem_of_getElem? h.slot)
      simp [heldB] at h4
      simp [dX]; omega
    · simp [dX]; omega
    · simp [dX]; omega
  · rcases dE_cases X Y k g b hE with ⟨rfl, _⟩ | ⟨rfl, h3, _⟩ | ⟨rfl, h3, _⟩
    · simp [dS]; exact h.slot
    · simp only [dS]
      simp only [if_true, if_neg (show ¬ (1 : Int) = 3 by omega)]; rw [List.getElem?_set_ne (by omega)]; exact h.slot
    · simp only [dS]
      simp only [if_neg (show ¬ (2 : Int) = 3 by omega), if_neg (show ¬ (2 : Int) = 1 by omega)]; rw [List.getElem?_set_ne (by omega)]; exact h.slot
theorem HoldSt.old {t : Int} {j : Nat} {X : Int} {Y : List Int} (h : HoldSt t j X Y) (ht : 0 ≤ t) : oldB Y = true ∧ oldE Y ≤ t := by
  have hmem := List.mem_of_getElem? h.slot
  cases hm : minS Y with
  | none => have := minS_none.1 hm _ hmem; omega
  | some m =>
    have := (minS_some.1 hm).2.2 _ hmem (by omega)
    exact ⟨by simp [oldB, hm], by simp [oldE, hm]; omega⟩
end Go.Proofs.Ytopaopfebgonjaa
