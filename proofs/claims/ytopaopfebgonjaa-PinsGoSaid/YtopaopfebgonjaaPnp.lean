/-
  Pins, plainly: which may be, who holds the epoch back, the least pinned one, what an op comes to.
-/
import Derived.Test.YtopaopfebgonjaaLib
set_option linter.unusedSimpArgs false
set_option linter.unusedVariables false
namespace Go.Proofs.Ytopaopfebgonjaa
open Go Go.RowKit

def pOk (e : Int) (S : List Int) : Bool := decide (1 ≤ S.length) && (decide (S.length ≤ 8) && (decide (e ≤ 4611686018427387904) && S.all fun s => decide (s ≤ e + 1)))
theorem pOk_out {e : Int} {S : List Int} (h : pOk e S = true) : 1 ≤ S.length ∧ S.length ≤ 8 ∧ e ≤ 4611686018427387904 ∧ ∀ s ∈ S, s ≤ e + 1 := by
  simpa [pOk] using h
theorem pOk_mk {e : Int} {S : List Int} (h : 1 ≤ S.length ∧ S.length ≤ 8 ∧ e ≤ 4611686018427387904 ∧ ∀ s ∈ S, s ≤ e + 1) : pOk e S = true := by
  simpa [pOk] using h
/-- Does the slot hold the epoch back? -/
def heldB (e s : Int) : Bool := decide (0 < s) && decide (s - 1 < e)
def backF (e : Int) : Nat → List Int → List Int
  | _, [] => []
  | k, s :: l => (if heldB e s = true then [(k : Int)] else []) ++ backF e (k + 1) l
def backL (e : Int) (S : List Int) : List Int := backF e 0 S
theorem backF_append (e : Int) : ∀ (k : Nat) (l m : List Int), backF e k (l ++ m) = backF e k l ++ backF e (k + l.length) m
  | k, [], m => by simp [backF]
  | k, s :: l, m => by
    simp only [List.cons_append, backF, List.append_assoc, backF_append e (k + 1) l m, List.length_cons]
    rw [show k + 1 + l.length = k + (l.length + 1) by omega]
theorem backL_snoc (e : Int) (S : List Int) (k : Nat) (hk : k < S.length) : backL e (S.take (k + 1)) = backL e (S.take k) ++ if heldB e S[k] = true then [(k : Int)] else [] := by
  unfold backL
  rw [List.take_succ_eq_append_getElem hk, backF_append]
  simp [backF, List.length_take, Nat.min_eq_left (Nat.le_of_lt hk)]
theorem backF_length (e : Int) : ∀ (k : Nat) (l : List Int), (backF e k l).length ≤ l.length
  | _, [] => by simp [backF]
  | k, s :: l => by
    have := backF_length e (k + 1) l
    simp only [backF, List.length_append, List.length_cons]
    split <;> simp <;> omega
theorem backL_length (e : Int) (S : List Int) : (backL e S).length ≤ S.length := backF_length e 0 S
theorem backF_mem (e : Int) : ∀ (k : Nat) (l : List Int) (g : Int), g ∈ backF e k l ↔ ∃ j, ∃ h : j < l.length, g = ((k + j : Nat) : Int) ∧ heldB e l[j] = true
  | k, [], g => by simp [backF]
  | k, s :: l, g => by
    rw [backF, List.mem_append, backF_mem e (k + 1) l g]
    constructor
    · rintro (h | ⟨j, hj, rfl, hh⟩)
      · by_cases hs : heldB e s = true
        · simp [hs] at h; exact ⟨0, by simp, by simpa using h, by simpa using hs⟩
        · simp [hs] at h
      · exact ⟨j + 1, by simpa using hj, by omega, by simpa using hh⟩
    · rintro ⟨j, hj, rfl, hh⟩
      cases j with
      | zero => left; simp at hh; simp [hh]
      | succ j => right; exact ⟨j, by simpa using hj, by omega, by simpa using hh⟩
theorem backL_mem {e : Int} {S : List Int} {g : Int} : g ∈ backL e S ↔ ∃ j, ∃ h : j < S.length, g = (j : Int) ∧ heldB e S[j] = true := by
  unfold backL; rw [backF_mem]; simp
theorem backL_nil {e : Int} {S : List Int} : backL e S = [] ↔ S.any (heldB e) = false := by
  constructor
  · intro h
    rw [List.any_eq_false]
    intro s hs
    obtain ⟨j, hj, rfl⟩ := List.mem_iff_getElem.1 hs
    intro hh
    have : (j : Int) ∈ backL e S := backL_mem.2 ⟨j, hj, rfl, hh⟩
    rw [h] at this; simp at this
  · intro h
    rw [List.any_eq_false] at h
    rw [List.eq_nil_iff_forall_not_mem]
    intro g hg
    obtain ⟨j, hj, rfl, hh⟩ := backL_mem.1 hg
    exact h _ (List.getElem_mem hj) hh

/-- The least slot that pins, one less; none. -/
def minS : List Int → Option Int
  | [] => none
  | s :: l => match minS l with
    | none => if 0 < s then some s else none
    | some m => if 0 < s ∧ s ≤ m then some s else some m
theorem minS_none {S : List Int} : minS S = none ↔ ∀ s ∈ S, s ≤ 0 := by
  induction S with
  | nil => simp [minS]
  | cons s l ih =>
    simp only [minS]
    cases h : minS l with
    | none =>
      by_cases hs : 0 < s
      · dsimp only
        rw [if_pos hs]
        constructor
        · intro hh; cases hh
        · intro hh; have := hh s (by simp); omega
      · dsimp only
        rw [if_neg hs]
        refine ⟨fun _ x hx => ?_, fun _ => rfl⟩
        rcases List.mem_cons.1 hx with rfl | hx
        · omega
        · exact ih.1 h x hx
    | some m =>
      have : ¬ ∀ s ∈ l, s ≤ 0 := fun hh => by rw [ih.2 hh] at h; cases h
      refine ⟨fun hh => ?_, fun hh => absurd (fun x hx => hh x (by simp [hx])) this⟩
      dsimp only at hh
      split at hh <;> cases hh
theorem minS_some {S : List Int} {m : Int} : minS S = some m ↔ m ∈ S ∧ 0 < m ∧ ∀ x ∈ S, 0 < x → m ≤ x := by
  induction S generalizing m with
  | nil => simp [minS]
  | cons s l ih =>
    simp only [minS]
    cases h : minS l with
    | none =>
      have hn := minS_none.1 h
      by_cases hs : 0 < s
      · simp only [hs, if_true, Option.some.injEq]
        constructor
        · rintro rfl
          refine ⟨by simp, hs, fun x hx h0 => ?_⟩
          rcases List.mem_cons.1 hx with rfl | hx
          · omega
          · have := hn x hx; omega
        · rintro ⟨h1, h2, h3⟩
          rcases List.mem_cons.1 h1 with rfl | h1
          · rfl
          · have := hn m h1; omega
      · simp only [hs, if_false]
        constructor
        · intro h; cases h
        · rintro ⟨h1, h2, h3⟩
          rcases List.mem_cons.1 h1 with rfl | h1
          · omega
          · have := hn m h1; omega
    | some q =>
      obtain ⟨hq1, hq2, hq3⟩ := ih.1 h
      by_cases hs : 0 < s ∧ s ≤ q
      · simp only [hs, and_self, if_true, Option.some.injEq]
        constructor
        · rintro rfl
          refine ⟨by simp, hs.1, fun x hx h0 => ?_⟩
          rcases List.mem_cons.1 hx with rfl | hx
          · omega
          · have := hq3 x hx h0; omega
        · rintro ⟨h1, h2, h3⟩
          have h4 := h3 s (by simp) hs.1
          rcases List.mem_cons.1 h1 with rfl | h1
          · rfl
          · have := hq3 m h1 h2; omega
      · simp only [if_neg hs]
        simp only [Option.some.injEq]
        constructor
        · rintro rfl
          refine ⟨by simp [hq1], hq2, fun x hx h0 => ?_⟩
          rcases List.mem_cons.1 hx with rfl | hx
          · omega
          · exact hq3 x hx h0
        · rintro ⟨h1, h2, h3⟩
          have h4 := h3 q (by simp [hq1]) hq2
          rcases List.mem_cons.1 h1 with rfl | h1
          · omega
          · have := hq3 m h1 h2; omega
theorem minS_snoc (S : List Int) (s : Int) : minS (S ++ [s]) = match minS S with | none => if 0 < s then some s else none | some m => if 0 < s ∧ s < m then some s else some m := by
  cases h : minS S with
  | none =>
    have hn := minS_none.1 h
    by_cases hs : 0 < s
    · simp only [hs, if_true]
      rw [minS_some]
      refine ⟨by simp, hs, fun x hx h0 => ?_⟩
      rcases List.mem_append.1 hx with hx | hx
      · have := hn x hx; omega
      · simp at hx; omega
    · simp only [hs, if_false]
      rw [minS_none]
      intro x hx
      rcases List.mem_append.1 hx with hx | hx
      · exact hn x hx
      · simp at hx; omega
  | some m =>
    obtain ⟨h1, h2, h3⟩ := minS_some.1 h
    by_cases hs : 0 < s ∧ s < m
    · simp only [hs, and_self, if_true]
      rw [minS_some]
      refine ⟨by simp, hs.1, fun x hx h0 => ?_⟩
      rcases List.mem_append.1 hx with hx | hx
      · have := h3 x hx h0; omega
      · simp at hx; omega
    · simp only [if_neg hs]
      rw [minS_some]
      refine ⟨by simp [h1], h2, fun x hx h0 => ?_⟩
      rcases List.mem_append.1 hx with hx | hx
      · exact h3 x hx h0
      · simp at hx; subst hx; omega
/-- The epoch that is the least one pinned. -/
def oldE (S : List Int) : Int := match minS S with | none => 0 | some m => m - 1
def oldB (S : List Int) : Bool := (minS S).isSome

/-- The error of an op over pins that may be. -/
def dE (e : Int) (S : List Int) (k g b : Int) : Int :=
  if k < 1 ∨ 3 < k ∨ (k ≠ 3 ∧ (g < 0 ∨ (S.length : Int) ≤ g)) then 2
  else if k = 3 then (if S.any (heldB e) = true then 231 else if e = 4611686018427387904 then 6 else 0)
  else if k = 1 then (if 0 < S.getD g.toNat 0 then 5 else if e < b then 4 else 0)
  else (if S.getD g.toNat 0 = 0 then 4 else 0)
/-- The epoch, and the slots, behind it. -/
def dX (e : Int) (k : Int) : Int := if k = 3 then e + 1 else e
def dS (e : Int) (S : List Int) (k g b : Int) : List Int := if k = 3 then S else if k = 1 then S.set g.toNat (e + 1 - b) else S.set g.toNat 0
theorem dS_length (e : Int) (S : List Int) (k g b : Int) : (dS e S k g b).length = S.length := by
  unfold dS
  split
  · rfl
  · split <;> simp
/-- With the error of pins that may not be. -/
def doE (e : Int) (S : List Int) (k g b : Int) : Int := if pOk e S = true then dE e S k g b else 230
def doX (e : Int) (S : List Int) (k g b : Int) : Int := if doE e S k g b = 0 then dX e k else 0
def doS (e : Int) (S : List Int) (k g b : Int) : List Int := if doE e S k g b = 0 then dS e S k g b else []
theorem doS_length (e : Int) (S : List Int) (k g b : Int) : (doS e S k g b).length ≤ S.length := by
  unfold doS; split
  · rw [dS_length]; exact Nat.le_refl _
  · simp
theorem dE_cases (e : Int) (S : List Int) (k g b : Int) (h : dE e S k g b = 0) : (k = 3 ∧ S.any (heldB e) = false ∧ e ≠ 4611686018427387904) ∨
    (k = 1 ∧ 0 ≤ g ∧ g < S.length ∧ S.getD g.toNat 0 ≤ 0 ∧ b ≤ e) ∨ (k = 2 ∧ 0 ≤ g ∧ g < S.length ∧ S.getD g.toNat 0 ≠ 0) := by
  unfold dE at h
  split at h
  · cases h
  · rename_i h1
    split at h
    · split at h
      · cases h
      · split at h
        · cases h
        · left; refine ⟨by assumption, by simpa using ‹¬ S.any (heldB e) = true›, by assumption⟩
    · split at h
      · split at h
        · cases h
        · split at h
          · cases h
          · right; left; refine ⟨by assumption, by omega, by omega, by omega, by omega⟩
      · split at h
        · cases h
        · right; right; refine ⟨by omega, by omega, by omega, by assumption⟩
theorem mem_set_le {S : List Int} {k : Nat} {v m : Int} (h : ∀ s ∈ S, s ≤ m) (hv : v ≤ m) : ∀ s ∈ S.set k v, s ≤ m := by
  intro s hs
  rcases List.mem_or_eq_of_mem_set hs with hs | rfl
  · exact h s hs
  · exact hv
theorem pOk_do {e : Int} {S : List Int} {k g b : Int} (ho : pOk e S = true) (he : 0 ≤ e) (hb : 0 ≤ b) (h : dE e S k g b = 0) : pOk (dX e k) (dS e S k g b) = true := by
  obtain ⟨h1, h2, h3, h4⟩ := pOk_out ho
  rcases dE_cases e S k g b h with ⟨rfl, h5, h6⟩ | ⟨rfl, h5, h6, h7, h8⟩ | ⟨rfl, h5, h6, h7⟩
  · exact pOk_mk ⟨by simpa [dS] using h1, by simpa [dS] using h2, by simp [dX]; omega, fun s hs => by simp [dS] at hs; have := h4 s hs; simp [dX]; omega⟩
  · refine pOk_mk ⟨by simpa [dS] using h1, by simpa [dS] using h2, by simpa [dX] using h3, ?_⟩
    simp only [dS, dX]
    exact mem_set_le h4 (by omega)
  · refine pOk_mk ⟨by simpa [dS] using h1, by simpa [dS] using h2, by simpa [dX] using h3, ?_⟩
    simp only [dS, dX]
    exact mem_set_le h4 (by omega)
theorem dS_nonneg {e : Int} {S : List Int} {k g b : Int} (hS : ∀ s ∈ S, 0 ≤ s) (h : dE e S k g b = 0) (he : 0 ≤ e) : ∀ s ∈ dS e S k g b, 0 ≤ s := by
  rcases dE_cases e S k g b h with ⟨rfl, h5, h6⟩ | ⟨rfl, h5, h6, h7, h8⟩ | ⟨rfl, h5, h6, h7⟩
  · simpa [dS] using hS
  · intro s hs
    simp [dS] at hs
    rcases List.mem_or_eq_of_mem_set hs with hs | rfl
    · exact hS s hs
    · omega
  · intro s hs
    simp [dS] at hs
    rcases List.mem_or_eq_of_mem_set hs with hs | rfl
    · exact hS s hs
    · omega
/-- Ops one behind the other: the pins, and how many were passed over; none: one is no op at all. -/
def runP : Int → List Int → Int → List (Int × Int × Int) → Option (Int × List Int × Int)
  | e, S, n, [] => some (e, S, n)
  | e, S, n, o :: l =>
    if dE e S o.1 o.2.1 o.2.2 = 0 then runP (dX e o.1) (dS e S o.1 o.2.1 o.2.2) n l
    else if dE e S o.1 o.2.1 o.2.2 = 2 then none else runP e S (n + 1) l
theorem runP_append : ∀ (e : Int) (S : List Int) (n : Int) (l m : List (Int × Int × Int)), runP e S n (l ++ m) = (runP e S n l).bind fun r => runP r.1 r.2.1 r.2.2 m
  | e, S, n, [], m => by simp [runP]
  | e, S, n, o :: l, m => by
    simp only [List.cons_append, runP]
    split
    · exact runP_append _ _ _ l m
    · split
      · rfl
      · exact runP_append _ _ _ l m
theorem runP_length : ∀ (e : Int) (S : List Int) (n : Int) (l : List (Int × Int × Int)) (r), runP e S n l = some r → r.2.1.length = S.length
  | e, S, n, [], r, h => by simp [runP] at h; subst h; rfl
  | e, S, n, o :: l, r, h => by
    simp only [runP] at h
    split at h
    · rw [runP_length _ _ _ l r h, dS_length]
    · split at h
      · cases h
      · exact runP_length _ _ _ l r h
theorem runP_ok : ∀ (e : Int) (S : List Int) (n : Int) (l : List (Int × Int × Int)) (r), 0 ≤ e → (∀ s ∈ S, 0 ≤ s) → (∀ o ∈ l, 0 ≤ o.2.2) → pOk e S = true → runP e S n l = some r → pOk r.1 r.2.1 = true ∧ 0 ≤ r.1 ∧ ∀ s ∈ r.2.1, 0 ≤ s
  | e, S, n, [], r, he, hS, hl, ho, h => by simp [runP] at h; subst h; exact ⟨ho, he, hS⟩
  | e, S, n, o :: l, r, he, hS, hl, ho, h => by
    simp only [runP] at h
    split at h
    · rename_i h0
      exact runP_ok _ _ _ l r (by unfold dX; split <;> omega) (dS_nonneg hS h0 he) (fun o ho => hl o (by simp [ho])) (pOk_do ho he (hl o (by simp)) h0) h
    · split at h
      · cases h
      · exact runP_ok _ _ _ l r he hS (fun o ho => hl o (by simp [ho])) ho h
theorem runP_n : ∀ (e : Int) (S : List Int) (n : Int) (l : List (Int × Int × Int)) (r), runP e S n l = some r → n ≤ r.2.2 ∧ r.2.2 ≤ n + l.length
  | e, S, n, [], r, h => by simp [runP] at h; subst h; simp
  | e, S, n, o :: l, r, h => by
    simp only [runP] at h
    split at h
    · have := runP_n _ _ _ l r h; simp; omega
    · split at h
      · cases h
      · have := runP_n _ _ _ l r h; simp; omega
end Go.Proofs.Ytopaopfebgonjaa
