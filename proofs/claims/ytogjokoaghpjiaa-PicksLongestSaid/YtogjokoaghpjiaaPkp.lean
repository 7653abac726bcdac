/-
  Picks, plainly: who can, turns, waits, who is hungry, laps, shares.
-/
import Derived.Test.YtogjokoaghpjiaaMem
set_option linter.unusedSimpArgs false
set_option linter.unusedVariables false
namespace Go.Proofs.Ytogjokoaghpjiaa
open Go Go.RowKit

/-- A turn: who could step, who did. -/
abbrev Tn := List Int × Int

/-- Rising, above a least one, below n. -/
def risesB (n : Int) : Int → List Int → Bool
  | _, [] => true
  | last, g :: l => decide (last < g) && decide (g < n) && risesB n g l
def canB (n : Int) (l : List Int) : Bool := !l.isEmpty && risesB n (-1) l
theorem risesB_all {n last : Int} {l : List Int} (h : risesB n last l = true) : ∀ g ∈ l, last < g ∧ g < n := by
  induction l generalizing last with
  | nil => simp
  | cons a l ih =>
    simp only [risesB, Bool.and_eq_true, decide_eq_true_eq] at h
    intro g hg
    rcases List.mem_cons.1 hg with rfl | hg
    · exact h.1
    · have := ih h.2 g hg; omega
theorem risesB_snoc (n last : Int) (l : List Int) (g : Int) : risesB n last (l ++ [g]) = (risesB n last l && decide ((l.getLastD last) < g) && decide (g < n)) := by
  induction l generalizing last with
  | nil => simp [risesB]
  | cons a l ih =>
    simp only [List.cons_append, risesB, ih, List.getLastD_cons]
    rw [Bool.and_assoc, Bool.and_assoc, Bool.and_assoc, Bool.and_assoc, Bool.and_assoc]
theorem risesB_prefix {n last : Int} {l m : List Int} (h : risesB n last (l ++ m) = true) : risesB n last l = true := by
  induction l generalizing last with
  | nil => rfl
  | cons a l ih =>
    simp only [List.cons_append, risesB, Bool.and_eq_true] at h ⊢
    exact ⟨h.1, ih h.2⟩
theorem canB_ne {n : Int} {l : List Int} (h : canB n l = true) : l ≠ [] := by
  unfold canB at h
  intro e; subst e; cases h
theorem canB_all {n : Int} {l : List Int} (h : canB n l = true) : ∀ g ∈ l, 0 ≤ g ∧ g < n := fun g hg => by
  unfold canB at h
  simp only [Bool.and_eq_true] at h
  have := risesB_all h.2 g hg
  omega

/-- Turns of n goroutines. -/
def turnB (n : Int) (t : Tn) : Bool := canB n t.1 && t.1.contains t.2
def rightB (n : Int) (l : List Tn) : Bool := decide (1 ≤ n) && decide (n ≤ 8) && l.all (turnB n)
def starvesB (t : Tn) (g : Int) : Bool := decide (t.2 ≠ g) && t.1.contains g
/-- The wait of a goroutine behind turns; the longest wait that there was. -/
def step1 (g : Int) (w : Nat) (t : Tn) : Nat := if starvesB t g then w + 1 else 0
def waitX (l : List Tn) (g : Int) : Nat := l.foldl (step1 g) 0
theorem waitX_snoc (l : List Tn) (t : Tn) (g : Int) : waitX (l ++ [t]) g = if starvesB t g then waitX l g + 1 else 0 := by simp [waitX, step1]
def mostX : List Tn → Int → Nat := fun l g => (l.foldl (fun (p : Nat × Nat) t => (max p.1 (step1 g p.2 t), step1 g p.2 t)) (0, 0)).1
theorem most_fold (l : List Tn) (g : Int) : l.foldl (fun (p : Nat × Nat) t => (max p.1 (step1 g p.2 t), step1 g p.2 t)) (0, 0) = (mostX l g, waitX l g) := by
  have h : ∀ (l : List Tn) (a b : Nat), (l.foldl (fun (p : Nat × Nat) t => (max p.1 (step1 g p.2 t), step1 g p.2 t)) (a, b)).2 = l.foldl (step1 g) b := by
    intro l
    induction l with
    | nil => intro a b; rfl
    | cons t l ih => intro a b; exact ih _ _
  exact Prod.ext rfl (h l 0 0)
theorem mostX_snoc (l : List Tn) (t : Tn) (g : Int) : mostX (l ++ [t]) g = max (mostX l g) (waitX (l ++ [t]) g) := by
  have h := most_fold l g
  unfold mostX at h ⊢
  rw [List.foldl_append, h, waitX_snoc]
  rfl
/-- Some prefix's wait is w or more just if the longest one is. -/
theorem mostX_ge (l : List Tn) (g : Int) (w : Nat) (hw : 1 ≤ w) : w ≤ mostX l g ↔ ∃ i, i ≤ l.length ∧ w ≤ waitX (l.take i) g := by
  induction hn : l.length generalizing l with
  | zero =>
    obtain rfl := List.eq_nil_of_length_eq_zero hn
    constructor
    · intro h; exact ⟨0, by omega, h⟩
    · rintro ⟨i, hi, h⟩
      simp at h
      exact h
  | succ n ih =>
    obtain ⟨l0, a, rfl⟩ : ∃ l0 a, l = l0 ++ [a] := by
      rcases List.eq_nil_or_concat l with rfl | ⟨l0, a, rfl⟩
      · simp at hn
      · exact ⟨l0, a, by simp⟩
    have hl0 : l0.length = n := by simp at hn; exact hn
    have ih := ih l0 hl0
    rw [mostX_snoc]
    constructor
    · intro h
      rcases Nat.le_total (mostX l0 g) (waitX (l0 ++ [a]) g) with h2 | h2
      · rw [Nat.max_eq_right h2] at h
        exact ⟨n + 1, Nat.le_refl _, by rw [List.take_of_length_le (by simp [hl0])]; exact h⟩
      · rw [Nat.max_eq_left h2] at h
        obtain ⟨i, hi, h3⟩ := ih.1 h
        exact ⟨i, by omega, by rw [List.take_append_of_le_length (by omega)]; exact h3⟩
    · rintro ⟨i, hi, h⟩
      by_cases hin : i ≤ n
      · rw [List.take_append_of_le_length (by omega)] at h
        exact Nat.le_trans (ih.2 ⟨i, hin, h⟩) (Nat.le_max_left _ _)
      · rw [List.take_of_length_le (by simp; omega)] at h
        exact Nat.le_trans h (Nat.le_max_right _ _)
/-- The numbers 0 .. n - 1. -/
def upTo (n : Nat) : List Int := (List.range n).map (fun (k : Nat) => (k : Int))
def hungryX (n : Nat) (l : List Tn) (w : Int) : List Int := if w < 1 then [] else (upTo n).filter (fun g => decide (w ≤ mostX l g))
def leastX (n : Nat) (l : List Tn) : Nat := 1 + ((upTo n).map (mostX l)).foldl max 0
/-- A lap, or more: who could step all the while was chosen. -/
def lapB (n : Nat) (l : List Tn) : Bool := (upTo n).all (fun g => !(l.all (fun t => t.1.contains g)) || l.any (fun t => t.2 == g))
/-- How often each was chosen. -/
def sharesX (n : Nat) (l : List Tn) : List Int := (upTo n).map (fun g => ((l.filter (fun t => t.2 == g)).length : Int))
/-- Who waits longest, the first one of them. -/
def nextX (l : List Tn) (can : List Int) : Int := match can with
  | [] => 0
  | g :: _ => can.foldl (fun b x => if waitX l b < waitX l x then x else b) g
/-- Who is chosen by a pick. -/
def chooseX (can : List Int) (pick : Int) : Int := can.getD ((pick % (can.length : Int)).toNat) 0
theorem upTo_length (n : Nat) : (upTo n).length = n := by simp [upTo]
theorem upTo_get (n k : Nat) (hk : k < n) : (upTo n)[k]? = some (k : Int) := by simp [upTo, hk]
theorem sharesX_length (n : Nat) (l : List Tn) : (sharesX n l).length = n := by simp [sharesX, upTo]
/-- Who could step all the while, in a part of turns, and was not chosen. -/
def keepsB (t : Tn) (g : Int) : Bool := t.1.contains g && (g != t.2)
def segLeft : List Tn → List Int
  | [] => []
  | t :: l => t.1.filter (fun g => (t :: l).all (fun u => keepsB u g))
theorem segLeft_one (t : Tn) : segLeft [t] = t.1.filter (keepsB t) := by
  show t.1.filter (fun g => [t].all (fun u => keepsB u g)) = _
  congr 1
  funext g
  simp
theorem segLeft_snoc (s : Tn) (l : List Tn) (t : Tn) : segLeft ((s :: l) ++ [t]) = (segLeft (s :: l)).filter (keepsB t) := by
  show s.1.filter (fun g => (s :: (l ++ [t])).all (fun u => keepsB u g)) = (s.1.filter (fun g => (s :: l).all (fun u => keepsB u g))).filter (keepsB t)
  rw [List.filter_filter]
  congr 1
  funext g
  rw [← List.cons_append, List.all_append, Bool.and_comm]
  simp
theorem mem_segLeft {s : Tn} {l : List Tn} {g : Int} : g ∈ segLeft (s :: l) ↔ ∀ u ∈ s :: l, u.1.contains g = true ∧ g ≠ u.2 := by
  unfold segLeft
  rw [List.mem_filter, List.all_eq_true]
  constructor
  · rintro ⟨_, h⟩ u hu
    have := h u hu
    simp only [keepsB, Bool.and_eq_true, bne_iff_ne] at this
    exact this
  · intro h
    refine ⟨by simpa using (h s (by simp)).1, fun u hu => ?_⟩
    simp only [keepsB, Bool.and_eq_true, bne_iff_ne]
    exact h u hu
/-- A part is a lap, or more, just if nobody is left. -/
theorem lap_left {n : Nat} {s : Tn} {l : List Tn} (hr : ∀ t ∈ s :: l, ∀ g ∈ t.1, 0 ≤ g ∧ g < n) : lapB n (s :: l) = (segLeft (s :: l)).isEmpty := by
  rw [Bool.eq_iff_iff, List.isEmpty_iff, List.eq_nil_iff_forall_not_mem]
  unfold lapB
  rw [List.all_eq_true]
  constructor
  · intro h g hg
    rw [mem_segLeft] at hg
    have hs := hr s (by simp) g (by simpa using (hg s (by simp)).1)
    have h1 := h g (by
      unfold upTo
      rw [List.mem_map]
      exact ⟨g.toNat, by rw [List.mem_range]; omega, by omega⟩)
    simp only [Bool.or_eq_true, Bool.not_eq_true', List.any_eq_true, beq_iff_eq] at h1
    rcases h1 with h1 | ⟨u, hu, hug⟩
    · rw [List.all_eq_false] at h1
      obtain ⟨u, hu, h2⟩ := h1
      exact h2 (hg u hu).1
    · exact (hg u hu).2 hug.symm
  · intro h g hg
    simp only [Bool.or_eq_true, Bool.not_eq_true', List.any_eq_true, beq_iff_eq]
    by_cases hall : (s :: l).all (fun t => t.1.contains g) = true
    · right
      by_cases hex : ∃ u ∈ s :: l, u.2 = g
      · obtain ⟨u, hu, e⟩ := hex; exact ⟨u, hu, e⟩
      · exfalso
        apply h g
        rw [mem_segLeft]
        intro u hu
        rw [List.all_eq_true] at hall
        exact ⟨hall u hu, fun e => hex ⟨u, hu, e.symm⟩⟩
    · left; simpa using hall
/-- How many laps: the program's way (who is left), the reference's way (the part since the last one). -/
def lapsGo (n : Nat) : List Tn → List Tn → Nat
  | _, [] => 0
  | seg, t :: l => if lapB n (seg ++ [t]) then 1 + lapsGo n [] l else lapsGo n (seg ++ [t]) l
def lapsX (n : Nat) (l : List Tn) : Nat := lapsGo n [] l
end Go.Proofs.Ytogjokoaghpjiaa
