/-
  ArenaOnce, plainly: entries that were taken are of elder generations, or of slabs that are not free; entries that were given back are of elder ones.
-/
import Derived.Test.YtejhknboiacgeaaAre
import Derived.Test.YtejhknboiacgeaaArs
set_option linter.unusedSimpArgs false
set_option linter.unusedVariables false
namespace Go.Proofs.Ytejhknboiacgeaa
open Go Go.RowKit

abbrev Sl := Int × Int
structure Inv (xs : List Sl) (T G : Sl → Bool) : Prop where
  ok : arOk xs = true
  nn : ∀ s ∈ xs, 0 ≤ s.2
  t : ∀ e, T e = true → ∃ k : Nat, e.1 = (k : Int) ∧ k < xs.length ∧ (e.2 < (xs.getD k (0, 0)).2 ∨ (e.2 = (xs.getD k (0, 0)).2 ∧ (xs.getD k (0, 0)).1 ≠ 0))
  g : ∀ e, G e = true → ∃ k : Nat, e.1 = (k : Int) ∧ k < xs.length ∧ e.2 < (xs.getD k (0, 0)).2
theorem ents_at {xs : List Sl} {tag : Int} {e : Sl} (h : e ∈ ents xs tag) : ∃ k : Nat, e.1 = (k : Int) ∧ k < xs.length ∧ xs.getD k (0, 0) = (tag, e.2) := by
  obtain ⟨h0, h1, h2⟩ := ents_mem h
  refine ⟨e.1.toNat, by omega, by omega, ?_⟩
  rw [List.getD_eq_getElem?_getD, h2]; rfl
theorem getD_mem {xs : List Sl} {k : Nat} (hk : k < xs.length) : xs.getD k (0, 0) ∈ xs := by
  rw [List.getD_eq_getElem?_getD, List.getElem?_eq_getElem hk]
  exact List.getElem_mem hk
theorem getD_set {xs : List Sl} {j k : Nat} {s : Sl} (hk : k < xs.length) : (xs.set j s).getD k (0, 0) = if j = k then s else xs.getD k (0, 0) := by
  rw [List.getD_eq_getElem?_getD, List.getD_eq_getElem?_getD, List.getElem?_set]
  by_cases h : j = k
  · subst h; simp [hk]
  · simp [h]
/-- An entry of an arena fits. -/
theorem ents_w {xs : List Sl} {T G : Sl → Bool} (h : Inv xs T G) {tag : Int} {e : Sl} (he : e ∈ ents xs tag) : EnW e ∧ 0 ≤ e.2 ∧ e.2 ≤ 1099511627775 := by
  obtain ⟨k, h1, h2, h3⟩ := ents_at he
  have hs := slabOk_out (arOk_at h.ok h2)
  have hn := h.nn _ (getD_mem h2)
  rw [h3] at hs hn
  obtain ⟨_, hl, _⟩ := arOk_out h.ok
  dsimp only at hs hn
  refine ⟨⟨?_, ?_⟩, hn, hs.2.2⟩
  · rw [h1]; simp [Lit.wf, IntKind.min, IntKind.max, IntKind.signed, IntKind.bits]; omega
  · simp [Lit.wf, IntKind.min, IntKind.max, IntKind.signed, IntKind.bits]; omega
theorem Inv.set {xs : List Sl} {T G : Sl → Bool} (h : Inv xs T G) {j : Nat} (hj : j < xs.length) {s : Sl} (hs : slabOk s = true) (hn : 0 ≤ s.2)
    (hT : (xs.getD j (0, 0)).2 < s.2 ∨ ((xs.getD j (0, 0)).2 = s.2 ∧ s.1 ≠ 0)) : Inv (xs.set j s) T G := by
  refine ⟨arOk_set h.ok j s hs, fun x hx => ?_, fun e he => ?_, fun e he => ?_⟩
  · rcases List.mem_or_eq_of_mem_set hx with hx | rfl
    · exact h.nn x hx
    · exact hn
  · obtain ⟨k, h1, h2, h3⟩ := h.t e he
    refine ⟨k, h1, by rw [List.length_set]; exact h2, ?_⟩
    rw [getD_set h2]
    by_cases hjk : j = k
    · subst hjk
      rw [if_pos rfl]
      rcases hT with hT | ⟨hT, hz⟩
      · left; rcases h3 with h3 | h3 <;> omega
      · rcases h3 with h3 | h3
        · left; omega
        · right; exact ⟨by omega, hz⟩
    · rw [if_neg hjk]; exact h3
  · obtain ⟨k, h1, h2, h3⟩ := h.g e he
    refine ⟨k, h1, by rw [List.length_set]; exact h2, ?_⟩
    rw [getD_set h2]
    by_cases hjk : j = k
    · subst hjk
      rw [if_pos rfl]
      rcases hT with hT | ⟨hT, hz⟩ <;> omega
    · rw [if_neg hjk]; exact h3
theorem inv_take {xs : List Sl} {T G : Sl → Bool} (h : Inv xs T G) {e : Sl} {r : List Sl} (he : ents xs 0 = e :: r) : T e = false ∧ G e = false ∧ Inv (tk xs 1) (addG T e) G := by
  obtain ⟨k, h1, h2, h3⟩ := ents_at (show e ∈ ents xs 0 by rw [he]; simp)
  have hw := ents_w h (show e ∈ ents xs 0 by rw [he]; simp)
  have htk : tk xs 1 = xs.set k (1, e.2) := by
    unfold tk
    rw [he]
    simp [put1, h1]
  have hI : Inv (xs.set k (1, e.2)) T G := h.set h2 (slabOk_mk (by omega) (by omega) hw.2.2) hw.2.1 (.inr ⟨by rw [h3], show (1 : Int) ≠ 0 by decide⟩)
  refine ⟨?_, ?_, ?_⟩
  · rw [Bool.eq_false_iff]
    intro ht
    obtain ⟨j, a1, a2, a3⟩ := h.t e ht
    obtain rfl : j = k := by omega
    rw [h3] at a3
    rcases a3 with a3 | a3
    · simp at a3
    · exact a3.2 rfl
  · rw [Bool.eq_false_iff]
    intro ht
    obtain ⟨j, a1, a2, a3⟩ := h.g e ht
    obtain rfl : j = k := by omega
    rw [h3] at a3
    simp at a3
  · rw [htk]
    refine ⟨hI.ok, hI.nn, fun x hx => ?_, hI.g⟩
    unfold addG at hx
    rw [Bool.or_eq_true, decide_eq_true_eq] at hx
    rcases hx with rfl | hx
    · refine ⟨k, h1, by rw [List.length_set]; exact h2, .inr ?_⟩
      rw [getD_set h2, if_pos rfl]
      exact ⟨rfl, show (1 : Int) ≠ 0 by decide⟩
    · exact hI.t x hx
theorem meant_ents {xs : List Sl} {tag : Int} {e : Sl} (he : e ∈ ents xs tag) : meantB xs e = true ∧ tagOf xs e = tag := by
  obtain ⟨k, h1, h2, h3⟩ := ents_at he
  unfold meantB tagOf
  rw [h1, Int.toNat_natCast, h3]
  simp; omega
theorem inv_ret {xs : List Sl} {T G : Sl → Bool} (h : Inv xs T G) {e : Sl} (he : e ∈ ents xs 1) : retS xs [e] = some (put1 2 xs e) ∧ Inv (put1 2 xs e) T G := by
  obtain ⟨k, h1, h2, h3⟩ := ents_at he
  have hw := ents_w h he
  obtain ⟨m1, m2⟩ := meant_ents he
  refine ⟨by simp only [retS]; rw [if_pos ⟨m1, m2⟩], ?_⟩
  unfold put1
  rw [h1, Int.toNat_natCast]
  exact h.set h2 (slabOk_mk (by omega) (by omega) hw.2.2) hw.2.1 (.inr ⟨by rw [h3], show (2 : Int) ≠ 0 by decide⟩)
theorem inv_giv {xs : List Sl} {T G : Sl → Bool} (h : Inv xs T G) {e : Sl} {tag : Int} (ht : tag ≠ 0) (he : e ∈ ents xs tag) :
    (e.2 < 1099511627775 → givS xs [e] = .ok (xs.set e.1.toNat (0, e.2 + 1)) ∧ Inv (xs.set e.1.toNat (0, e.2 + 1)) T (addG G e)) ∧ (¬ e.2 < 1099511627775 → givS xs [e] = .error 6 ∧ e.2 = 1099511627775) := by
  obtain ⟨k, h1, h2, h3⟩ := ents_at he
  have hw := ents_w h he
  obtain ⟨m1, m2⟩ := meant_ents he
  have ht2 : tagOf xs e ≠ 0 := by rw [m2]; exact ht
  refine ⟨fun hlt => ⟨by simp only [givS]; rw [if_pos ⟨m1, ht2⟩, if_pos hlt], ?_⟩, fun hlt => ⟨by simp only [givS]; rw [if_pos ⟨m1, ht2⟩, if_neg hlt], by omega⟩⟩
  rw [h1, Int.toNat_natCast]
  have hI : Inv (xs.set k (0, e.2 + 1)) T G := h.set h2 (slabOk_mk (by omega) (by omega) (by omega)) (by dsimp only; omega) (.inl (by rw [h3]; dsimp only; omega))
  refine ⟨hI.ok, hI.nn, hI.t, fun x hx => ?_⟩
  unfold addG at hx
  rw [Bool.or_eq_true, decide_eq_true_eq] at hx
  rcases hx with rfl | hx
  · refine ⟨k, h1, by rw [List.length_set]; exact h2, ?_⟩
    rw [getD_set h2, if_pos rfl]
    dsimp only; omega
  · exact hI.g x hx
theorem inv_tag {xs : List Sl} {T G : Sl → Bool} (h : Inv xs T G) {e : Sl} (he : G e = true) : meantB xs e = false := by
  obtain ⟨k, h1, h2, h3⟩ := h.g e he
  unfold meantB
  rw [h1, Int.toNat_natCast, Bool.and_eq_false_iff]
  right
  rw [decide_eq_false_iff_not]
  omega
theorem ents_all : ∀ (xs : List Sl) (i : Nat), (∀ s ∈ xs, slabOk s = true) → (entsF 0 i xs).length + (entsF 1 i xs).length + (entsF 2 i xs).length = xs.length
  | [], _, _ => rfl
  | s :: xs, i, h => by
    have ih := ents_all xs (i + 1) (fun x hx => h x (by simp [hx]))
    obtain ⟨h0, h2, _⟩ := slabOk_out (h s (by simp))
    simp only [entsF, List.length_cons]
    have : s.1 = 0 ∨ s.1 = 1 ∨ s.1 = 2 := by omega
    rcases this with h1 | h1 | h1 <;> simp [h1] <;> omega
theorem counts_sum {xs : List Sl} (h : arOk xs = true) : cn xs 0 + cn xs 1 + cn xs 2 = xs.length := by
  have := ents_all xs 0 (arOk_out h).2.2
  unfold cn ents
  rw [if_pos h, if_pos h, if_pos h]
  omega
theorem inv_start {xs : List Sl} (h : arOk xs = true) (hn : ∀ s ∈ xs, 0 ≤ s.2) : Inv xs (fun _ => false) (fun _ => false) := ⟨h, hn, (fun _ h => by cases h), (fun _ h => by cases h)⟩
end Go.Proofs.Ytejhknboiacgeaa
