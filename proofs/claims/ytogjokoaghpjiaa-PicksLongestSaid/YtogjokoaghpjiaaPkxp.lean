/-
  Plain laws: a part of turns lets nobody be hungry who is not; laps are no longer than the least w; shares add up.
-/
import Derived.Test.YtogjokoaghpjiaaPkw
set_option linter.unusedSimpArgs false
set_option linter.unusedVariables false
namespace Go.Proofs.Ytogjokoaghpjiaa
open Go Go.RowKit

theorem step1_mono (g : Int) (t : Tn) {a b : Nat} (h : a ≤ b) : step1 g a t ≤ step1 g b t := by
  unfold step1; split <;> omega
theorem wait_mono (g : Int) : ∀ (l : List Tn) {a b : Nat}, a ≤ b → l.foldl (step1 g) a ≤ l.foldl (step1 g) b
  | [], _, _, h => h
  | t :: l, _, _, h => wait_mono g l (step1_mono g t h)
theorem waitX_part (a s : List Tn) (g : Int) : waitX s g ≤ waitX (a ++ s) g := by
  unfold waitX
  rw [List.foldl_append]
  exact wait_mono g s (Nat.zero_le _)
/-- Who is left of a part has waited all the part long. -/
theorem waitX_seg (a s : List Tn) (g : Int) (h : ∀ t ∈ s, starvesB t g = true) : s.length ≤ waitX (a ++ s) g := by
  induction hn : s.length generalizing s with
  | zero => exact Nat.zero_le _
  | succ n ih =>
    obtain ⟨l0, x, rfl⟩ : ∃ l0 x, s = l0 ++ [x] := by
      rcases List.eq_nil_or_concat s with rfl | ⟨l0, x, rfl⟩
      · simp at hn
      · exact ⟨l0, x, by simp⟩
    have hl0 : l0.length = n := by simp at hn; exact hn
    have := ih l0 (fun t ht => h t (by simp [ht])) hl0
    rw [← List.append_assoc, waitX_snoc, h x (by simp), if_pos rfl]
    omega
theorem mostX_wait (l a b : List Tn) (h : l = a ++ b) (g : Int) : waitX a g ≤ mostX l g := by
  rcases Nat.eq_zero_or_pos (waitX a g) with h0 | h0
  · omega
  · refine (mostX_ge l g _ h0).2 ⟨a.length, by rw [h]; simp, ?_⟩
    rw [h, List.take_left]
    exact Nat.le_refl _
theorem mostX_part (a s b : List Tn) (g : Int) : mostX s g ≤ mostX (a ++ s ++ b) g := by
  rcases Nat.eq_zero_or_pos (mostX s g) with h0 | h0
  · omega
  · obtain ⟨i, hi, h1⟩ := (mostX_ge s g _ h0).1 (Nat.le_refl _)
    refine Nat.le_trans h1 (Nat.le_trans (waitX_part a (s.take i) g) (mostX_wait _ _ (s.drop i ++ b) ?_ g))
    rw [List.append_assoc, List.append_assoc, ← List.append_assoc (s.take i), List.take_append_drop]
theorem foldl_max_le (l : List Nat) (a M : Nat) (ha : a ≤ M) (h : ∀ x ∈ l, x ≤ M) : l.foldl max a ≤ M := by
  rcases foldl_max_mem l a with e | e
  · omega
  · exact h _ e
theorem leastX_part (n : Nat) (a s b : List Tn) : leastX n s ≤ leastX n (a ++ s ++ b) := by
  obtain ⟨M, hM, hall, _⟩ := leastX_fold n (a ++ s ++ b)
  rw [hM]
  unfold leastX
  have := foldl_max_le ((upTo n).map (mostX s)) 0 M (Nat.zero_le _) (fun x hx => by
    obtain ⟨g, hg, rfl⟩ := List.mem_map.1 hx
    exact Nat.le_trans (mostX_part a s b g) (hall g hg))
  omega
theorem keeps_starves {t : Tn} {g : Int} (h : t.1.contains g = true ∧ g ≠ t.2) : starvesB t g = true := by
  unfold starvesB
  rw [h.1]
  simp
  exact fun e => h.2 e.symm
/-- Who is left: some lap's part is no longer than the longest wait. -/
theorem part_len (n M : Nat) (a s b : List Tn) (hr : ∀ t ∈ s, ∀ g ∈ t.1, 0 ≤ g ∧ g < n) (hM : ∀ g ∈ upTo n, mostX (a ++ s ++ b) g ≤ M) (hs : segLeft s ≠ []) : s.length ≤ M := by
  cases s with
  | nil => simp
  | cons t s =>
    obtain ⟨g, hg⟩ := List.exists_mem_of_ne_nil _ hs
    rw [mem_segLeft] at hg
    have h1 := hr t (by simp) g (by simpa using (hg t (by simp)).1)
    have h2 := waitX_seg a (t :: s) g (fun u hu => keeps_starves (hg u hu))
    have h3 := mostX_wait (a ++ (t :: s) ++ b) (a ++ (t :: s)) b rfl g
    have h4 := hM g (by unfold upTo; rw [List.mem_map]; exact ⟨g.toNat, by rw [List.mem_range]; omega, by omega⟩)
    omega
theorem laps_cover (n M : Nat) : ∀ (l a s : List Tn), (∀ t ∈ s ++ l, ∀ g ∈ t.1, 0 ≤ g ∧ g < n) → (∀ g ∈ upTo n, mostX (a ++ s ++ l) g ≤ M) → (s ≠ [] → segLeft s ≠ []) → s.length + l.length ≤ lapsGo n s l * (M + 1) + M
  | [], a, s, hr, hM, hs => by
    cases s with
    | nil => simp
    | cons t s =>
      have := part_len n M a (t :: s) [] (fun u hu => hr u (by simp at hu ⊢; exact hu)) hM (hs (by simp))
      simp only [List.length_nil]
      omega
  | t :: l, a, s, hr, hM, hs => by
    have hlap : lapB n (s ++ [t]) = (segLeft (s ++ [t])).isEmpty := by
      cases s with
      | nil => exact lap_left (fun u hu => hr u (by simp at hu; simp [hu]))
      | cons x s => exact lap_left (fun u hu => hr u (by simp at hu ⊢; rcases hu with h | h | h <;> simp [h]))
    have hsl : s.length ≤ M := by
      cases s with
      | nil => simp
      | cons x s => exact part_len n M a (x :: s) (t :: l) (fun u hu => hr u (by simp at hu ⊢; rcases hu with h | h <;> simp [h])) hM (hs (by simp))
    unfold lapsGo
    rw [hlap]
    split
    · have ih := laps_cover n M l (a ++ s ++ [t]) [] (fun u hu => hr u (by simp at hu ⊢; simp [hu])) (fun g hg => by
        have := hM g hg
        rw [show a ++ s ++ [t] ++ [] ++ l = a ++ s ++ t :: l from by simp]; exact this) (fun h => absurd rfl h)
      simp only [List.length_nil, List.length_cons] at ih ⊢
      rw [Nat.add_mul]
      omega
    · rename_i hne
      have ih := laps_cover n M l a (s ++ [t]) (fun u hu => hr u (by simpa using hu)) (fun g hg => by
        have := hM g hg
        rw [show a ++ (s ++ [t]) ++ l = a ++ s ++ t :: l from by simp]; exact this) (fun _ h => hne (by rw [h]; rfl))
      simp only [List.length_append, List.length_cons, List.length_nil] at ih ⊢
      omega
/-- No more turns than laps and one more part allow. -/
theorem laps_many (n : Nat) (l : List Tn) (w : Nat) (hr : ∀ t ∈ l, ∀ g ∈ t.1, 0 ≤ g ∧ g < n) (hw : leastX n l ≤ w) : l.length ≤ lapsX n l * w + (w - 1) := by
  obtain ⟨M, hM, hall, _⟩ := leastX_fold n l
  have h := laps_cover n M l [] [] (by simpa using hr) (by simpa using hall) (fun h => absurd rfl h)
  simp only [List.length_nil, Nat.zero_add] at h
  unfold lapsX
  have h2 : lapsGo n [] l * (M + 1) ≤ lapsGo n [] l * w := Nat.mul_le_mul_left _ (by omega)
  omega
theorem sum_set (l : List Int) (k : Nat) (x : Int) (h : l[k]? = some x) : (l.set k (x + 1)).sum = l.sum + 1 := by
  induction l generalizing k with
  | nil => simp at h
  | cons y l ih =>
    cases k with
    | zero => simp at h; subst h; simp; omega
    | succ k => simp at h ⊢; rw [ih k h]; omega
theorem shares_sum (n : Nat) (l : List Tn) (h : ∀ t ∈ l, 0 ≤ t.2 ∧ t.2 < n) : (sharesX n l).sum = l.length := by
  induction hn : l.length generalizing l with
  | zero =>
    obtain rfl := List.eq_nil_of_length_eq_zero hn
    rw [sharesX_nil]
    clear h hn
    induction n with
    | zero => rfl
    | succ n ih => rw [List.replicate_succ, List.sum_cons, ih]; rfl
  | succ m ih =>
    obtain ⟨l0, a, rfl⟩ : ∃ l0 a, l = l0 ++ [a] := by
      rcases List.eq_nil_or_concat l with rfl | ⟨l0, a, rfl⟩
      · simp at hn
      · exact ⟨l0, a, by simp⟩
    have hl0 : l0.length = m := by simp at hn; exact hn
    have ih := ih l0 (fun t ht => h t (by simp [ht])) hl0
    obtain ⟨h1, h2⟩ := h a (by simp)
    obtain ⟨k, hk⟩ := Int.eq_ofNat_of_zero_le h1
    have hkn : k < n := by omega
    rw [sharesX_snoc n l0 a k hkn hk, sum_set _ _ _ (sharesX_at n l0 k hkn), ih]
    omega
theorem right_range {n : Nat} {l : List Tn} (h : l.all (turnB n) = true) : (∀ t ∈ l, ∀ g ∈ t.1, 0 ≤ g ∧ g < n) ∧ ∀ t ∈ l, 0 ≤ t.2 ∧ t.2 < n := by
  rw [List.all_eq_true] at h
  refine ⟨fun t ht g hg => ?_, fun t ht => ?_⟩
  · have h1 := h t ht
    unfold turnB at h1
    simp only [Bool.and_eq_true] at h1
    exact canB_all h1.1 g hg
  · have h1 := h t ht
    unfold turnB at h1
    simp only [Bool.and_eq_true] at h1
    exact canB_all h1.1 _ (by simpa using h1.2)
end Go.Proofs.Ytogjokoaghpjiaa
