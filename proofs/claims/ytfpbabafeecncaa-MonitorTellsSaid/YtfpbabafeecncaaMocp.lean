/-
  Bad touches are kept; good ones change nothing: in plain Lean.
-/
import Derived.Test.YtfpbabafeecncaaMov
set_option linter.unusedSimpArgs false
set_option linter.unusedVariables false
namespace Go.Proofs.Ytfpbabafeecncaa
open Go Go.RowKit

theorem does_parts {m : Mon} {tk : List Ent} {w : Wt} {x : Mon × List Ent} (hd : doesM m tk w = .ok x) : (1 ≤ w.1 ∧ w.1 < 9) ∧ goerM m w.2.1 = true ∧ (askedB w.1 = true → entB w.2.2 = true) ∧ deedM m tk w = .ok x := by
  unfold doesM at hd
  split at hd
  · cases hd
  · rename_i h1
    split at hd
    · cases hd
    · rename_i h2
      split at hd
      · cases hd
      · rename_i h3
        refine ⟨by omega, by simpa using h2, fun ha => ?_, hd⟩
        rcases Bool.eq_false_or_eq_true (entB w.2.2) with h4 | h4
        · exact h4
        · exact absurd ⟨ha, h4⟩ h3
theorem touch_step {m : Mon} {tk : List Ent} {w : Wt} {x : Mon × List Ent} (hk : w.1 = 4 ∨ w.1 = 5) (hd : deedM m tk w = .ok x) : x.1 = touchM m w := by
  unfold deedM at hd
  dsimp only at hd
  rw [if_neg (by omega), if_neg (by omega), if_neg (by omega), if_pos hk] at hd
  split at hd
  · injection hd with hd; subst hd; rfl
  · cases hd
theorem getM_bad (m : Mon) (g : Nat) (e : Ent) : (getM m g e).bad = m.bad := by unfold getM; split <;> rfl
theorem other_bad {m : Mon} {tk : List Ent} {w : Wt} {x : Mon × List Ent} (hk : ¬ (w.1 = 4 ∨ w.1 = 5)) (hd : deedM m tk w = .ok x) : x.1.bad = m.bad := by
  unfold deedM at hd
  dsimp only at hd
  by_cases k1 : w.1 = 1
  · rw [if_pos k1] at hd
    split at hd
    · cases hd
    · injection hd with hd; subst hd; rfl
  rw [if_neg k1] at hd
  by_cases k2 : w.1 = 2
  · rw [if_pos k2] at hd
    split at hd
    · injection hd with hd; subst hd; rfl
    · cases hd
  rw [if_neg k2] at hd
  by_cases k3 : w.1 = 3
  · rw [if_pos k3] at hd
    split at hd
    · injection hd with hd; subst hd; exact getM_bad _ _ _
    · cases hd
  rw [if_neg k3, if_neg hk] at hd
  by_cases k6 : w.1 = 6
  · rw [if_pos k6] at hd
    split at hd
    · split at hd
      · injection hd with hd; subst hd; exact getM_bad _ _ _
      · cases hd
    · cases hd
  rw [if_neg k6] at hd
  by_cases k7 : w.1 = 7
  · rw [if_pos k7] at hd
    split at hd
    · injection hd with hd; subst hd; rfl
    · cases hd
  rw [if_neg k7] at hd
  split at hd
  · injection hd with hd; subst hd; rfl
  · cases hd
/-- What one thing done comes to, where the monitor may be. -/
structure StepM (m : Mon) (w : Wt) (n : Mon) : Prop where
  ok : OkM n
  good : (w.1 = 4 ∨ w.1 = 5) → GoodM m w = true → n = m
  bad : (w.1 = 4 ∨ w.1 = 5) → GoodM m w = false → m.bad.length < 16 → n.bad = m.bad ++ [w]
  full : (w.1 = 4 ∨ w.1 = 5) → m.bad.length = 16 → n = m
  other : ¬ (w.1 = 4 ∨ w.1 = 5) → n.bad = m.bad
  pre : m.bad.length ≤ n.bad.length ∧ n.bad.take m.bad.length = m.bad
theorem step_of {m : Mon} {w : Wt} {x : Mon × List Ent} (ho : OkM m) (hd : DoM m w = .ok x) : StepM m w x.1 := by
  have hd : doesM m [] w = .ok x := by
    unfold DoM okR at hd
    rw [if_pos (ok_iff.2 ho)] at hd
    exact hd
  obtain ⟨hk, hg, he, hx⟩ := does_parts hd
  have hgood : (w.1 = 4 ∨ w.1 = 5) → GoodM m w = goodM m w := fun h => by
    unfold GoodM
    rw [hg, ok_iff.2 ho]
    rcases h with h | h <;> simp [h]
  refine ⟨ok_does ho hd, fun h hG => ?_, fun h hG hl => ?_, fun h hl => ?_, fun h => other_bad h hx, ?_⟩
  · rw [touch_step h hx]
    unfold touchM
    rw [if_neg (by rw [← hgood h, hG]; simp)]
  · rw [touch_step h hx]
    unfold touchM
    rw [if_pos ⟨by rw [← hgood h, hG], hl⟩]
  · rw [touch_step h hx]
    unfold touchM
    rw [if_neg (by omega)]
  · by_cases h : w.1 = 4 ∨ w.1 = 5
    · rw [touch_step h hx]
      unfold touchM
      split
      · exact ⟨by simp, by simp⟩
      · exact ⟨Nat.le_refl _, by simp⟩
    · rw [other_bad h hx]
      exact ⟨Nat.le_refl _, by simp⟩
theorem sameM_refl (m : Mon) : sameM m m = true := by
  unfold sameM
  simp
theorem okM_unpinned {m : Mon} (h : OkM m) {g : Nat} (hg : g < m.pin.length) (hp : m.pin.getD g false = false) : m.has.getD g [] = [] := by
  have h1 := h.rows g hg
  rw [hp] at h1
  cases hx : m.has.getD g [] with
  | nil => rfl
  | cons e l =>
    rw [hx] at h1
    exact absurd (rowB_pin h1 (by simp)) (by simp)
end Go.Proofs.Ytfpbabafeecncaa
