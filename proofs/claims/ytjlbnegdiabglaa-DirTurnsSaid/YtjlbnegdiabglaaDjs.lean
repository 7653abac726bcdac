/-
  A directory split, plainly: its tables are the same but for the one.
-/
import Derived.Test.YtjlbnegdiabglaaDjp
set_option linter.unusedSimpArgs false
set_option linter.unusedVariables false
namespace Go.Proofs.Ytjlbnegdiabglaa
open Go Go.RowKit

/-- Runs written out. -/
def laid (rs : List Rn) : List En := rs.flatMap (fun r => List.replicate r.many r.e)
theorem laid_cons (r : Rn) (rs : List Rn) : laid (r :: rs) = List.replicate r.many r.e ++ laid rs := by simp [laid]
theorem laid_append (a b : List Rn) : laid (a ++ b) = laid a ++ laid b := by simp [laid]
/-- Runs that stand one behind the other, no two neighbours alike. -/
def Chain : Nat → List Rn → Prop
  | _, [] => True
  | k, r :: rs => r.at_ = k ∧ 1 ≤ r.many ∧ (∀ q ∈ rs.head?, q.e ≠ r.e) ∧ Chain (k + r.many) rs
theorem laid_head : ∀ {k : Nat} {rs : List Rn}, Chain k rs → (laid rs).head? = rs.head?.map (fun r => r.e)
  | _, [], _ => rfl
  | _, r :: rs, h => by
    obtain ⟨m, hm⟩ : ∃ m, r.many = m + 1 := ⟨r.many - 1, by have := h.2.1; omega⟩
    rw [laid_cons, hm, List.replicate_succ]
    rfl
theorem lead_rep (e : En) (l : List En) (h : ∀ x ∈ l.head?, x ≠ e) : ∀ m, lead e (List.replicate m e ++ l) = m
  | 0 => by
    cases l with
    | nil => rfl
    | cons x l =>
      have : x ≠ e := h x rfl
      simp [lead, this]
  | m + 1 => by
    rw [List.replicate_succ, List.cons_append]
    show (if e = e then lead e (List.replicate m e ++ l) + 1 else 0) = m + 1
    rw [if_pos rfl, lead_rep e l h m]
theorem runsAt_chain : ∀ (rs : List Rn) (k : Nat), Chain k rs → runsAt k (laid rs) = rs
  | [], k, _ => rfl
  | r :: rs, k, h => by
    obtain ⟨h1, h2, h3, h4⟩ := h
    obtain ⟨m, hm⟩ : ∃ m, r.many = m + 1 := ⟨r.many - 1, by omega⟩
    have hh := laid_head h4
    have hl : lead r.e (List.replicate m r.e ++ laid rs) = m := lead_rep _ _ (by
      intro x hx
      rw [hh] at hx
      obtain ⟨q, hq, rfl⟩ := Option.map_eq_some_iff.1 (Option.mem_def.1 hx)
      exact h3 q (Option.mem_def.2 hq)) m
    rw [laid_cons, hm, List.replicate_succ, List.cons_append, runsAt_cons, hl]
    have hd : (List.replicate m r.e ++ laid rs).drop m = laid rs := by
      rw [List.drop_append_of_le_length (by simp), List.drop_eq_nil_of_le (by simp), List.nil_append]
    rw [hd, ← hm, runsAt_chain rs _ h4, ← h1]
theorem chain_runs : ∀ (f : Nat) (l : List En) (k : Nat), l.length ≤ f → Chain k (runsAt k l) ∧ laid (runsAt k l) = l
  | _, [], k, _ => ⟨trivial, rfl⟩
  | 0, x :: l, k, h => by simp at h
  | f + 1, e :: l, k, h => by
    have hle := lead_le e l
    have hk := lead_take e l
    have hn := lead_next e l
    obtain ⟨i1, i2⟩ := chain_runs f (l.drop (lead e l)) (k + (lead e l + 1)) (by rw [List.length_drop]; simp only [List.length_cons] at h; omega)
    rw [runsAt_cons]
    refine ⟨⟨rfl, by simp, ?_, i1⟩, ?_⟩
    · intro q hq
      have hh := laid_head i1
      rw [i2, Option.mem_def.1 hq] at hh
      exact hn q.e (Option.mem_def.2 hh)
    · rw [laid_cons, i2]
      show List.replicate (lead e l + 1) e ++ l.drop (lead e l) = e :: l
      rw [List.replicate_succ, List.cons_append, ← hk, List.take_append_drop]
theorem runs_chain (es : List En) : Chain 0 (runs es) ∧ laid (runs es) = es := chain_runs es.length es 0 (Nat.le_refl _)
theorem chain_place : ∀ (pre : List Rn) (k : Nat) (r : Rn) (post : List Rn), Chain k (pre ++ r :: post) → r.at_ = k + (laid pre).length
  | [], k, r, post, h => by simp [laid]; exact h.1
  | x :: pre, k, r, post, h => by
    have := chain_place pre (k + x.many) r post h.2.2.2
    rw [laid_cons, List.length_append, List.length_replicate]
    omega
theorem chain_swap {low high : En} (hne : low ≠ high) {r : Rn} {half : Nat} (hm : r.many = 2 * half) (h1 : 1 ≤ half) : ∀ (pre : List Rn) (k : Nat) (post : List Rn), Chain k (pre ++ r :: post) → (∀ x ∈ pre, x.e ≠ low) → (∀ x ∈ post, x.e ≠ high) →
    Chain k (pre ++ ⟨r.at_, half, low⟩ :: ⟨r.at_ + half, half, high⟩ :: post)
  | [], k, post, h, _, hp => by
    obtain ⟨a1, a2, a3, a4⟩ := h
    refine ⟨a1, h1, ?_, by rw [a1], h1, ?_, ?_⟩
    · intro q hq
      obtain rfl : _ = q := Option.some.inj (Option.mem_def.1 hq)
      exact Ne.symm hne
    · intro q hq
      exact hp q (List.mem_of_mem_head? hq)
    · show Chain (k + half + half) post
      rw [show k + half + half = k + r.many by omega]
      exact a4
  | x :: pre, k, post, h, hl, hp => by
    obtain ⟨a1, a2, a3, a4⟩ := h
    refine ⟨a1, a2, ?_, chain_swap hne hm h1 pre _ post a4 (fun y hy => hl y (List.mem_cons_of_mem _ hy)) hp⟩
    intro q hq
    cases pre with
    | nil =>
      obtain rfl : _ = q := Option.some.inj (Option.mem_def.1 hq)
      exact Ne.symm (hl x (List.mem_cons_self ..))
    | cons y pre => exact a3 q hq
theorem spl_get (low high : En) (f half : Nat) (es : List En) (hf : f + half + half ≤ es.length) : ∀ i, i ≤ half → ∀ j, (spl low high f half i es)[j]? = if f ≤ j ∧ j < f + i then some low else if f + half ≤ j ∧ j < f + half + i then some high else es[j]?
  | 0, _, j => by
    rw [if_neg (by omega), if_neg (by omega)]
    rfl
  | i + 1, hi, j => by
    unfold spl
    have ih := spl_get low high f half es hf i (by omega) j
    have hl := spl_length low high f half i es
    rw [List.getElem?_set, List.getElem?_set, List.length_set, hl, ih]
    by_cases a : f + half + i = j
    · rw [if_pos a, if_pos (by omega), if_neg (by omega), if_pos (by omega)]
    · rw [if_neg a]
      by_cases b : f + i = j
      · rw [if_pos b, if_pos (by omega), if_pos (by omega)]
      · rw [if_neg b]
        by_cases c : f ≤ j ∧ j < f + i
        · rw [if_pos c, if_pos (by omega)]
        · rw [if_neg c, if_neg (show ¬ (f ≤ j ∧ j < f + (i + 1)) by omega)]
          by_cases d : f + half ≤ j ∧ j < f + half + i
          · rw [if_pos d, if_pos (by omega)]
          · rw [if_neg d, if_neg (by omega)]
theorem spl_parts (low high e : En) (half : Nat) (A B : List En) : spl low high A.length half half (A ++ (List.replicate (2 * half) e ++ B)) = A ++ (List.replicate half low ++ (List.replicate half high ++ B)) := by
  apply List.ext_getElem?
  intro j
  rw [spl_get _ _ _ _ _ (by simp; omega) half (Nat.le_refl _) j]
  by_cases h1 : j < A.length
  · rw [if_neg (by omega), if_neg (by omega), List.getElem?_append_left h1, List.getElem?_append_left h1]
  · obtain ⟨i, rfl⟩ : ∃ i, j = A.length + i := ⟨j - A.length, by omega⟩
    have ap : ∀ X : List En, (A ++ X)[A.length + i]? = X[i]? := fun X => by
      rw [List.getElem?_append_right (by omega), Nat.add_sub_cancel_left]
    rw [ap, ap]
    by_cases h2 : i < half
    · rw [if_pos (by omega), List.getElem?_append_left (l₁ := List.replicate half low) (by simpa using h2), List.getElem?_replicate, if_pos h2]
    · rw [if_neg (by omega), List.getElem?_append_right (l₁ := List.replicate half low) (by simp; omega), List.length_replicate]
      by_cases h3 : i < 2 * half
      · rw [if_pos (by omega), List.getElem?_append_left (l₁ := List.replicate half high) (by simp; omega), List.getElem?_replicate, if_pos (by omega)]
      · rw [if_neg (by omega), List.getElem?_append_right (l₁ := List.replicate (2 * half) e) (by simp; omega), List.getElem?_append_right (l₁ := List.replicate half high) (by simp; omega), List.length_replicate, List.length_replicate]
        congr 1
        omega
theorem runs_spl {es : List En} {pre post : List Rn} {r : Rn} {low high : En} {half : Nat} (h : runs es = pre ++ r :: post) (hm : r.many = 2 * half) (h1 : 1 ≤ half) (hne : low ≠ high) (hl : ∀ x ∈ es, x ≠ low) (hh : ∀ x ∈ es, x ≠ high) :
    runs (spl low high r.at_ half half es) = pre ++ ⟨r.at_, half, low⟩ :: ⟨r.at_ + half, half, high⟩ :: post := by
  obtain ⟨c1, c2⟩ := runs_chain es
  rw [h] at c1 c2
  have hp := chain_place pre 0 r post c1
  rw [Nat.zero_add] at hp
  have e1 : spl low high r.at_ half half es = laid (pre ++ ⟨r.at_, half, low⟩ :: ⟨r.at_ + half, half, high⟩ :: post) := by
    rw [hp, ← c2, laid_append, laid_append, laid_cons, laid_cons, laid_cons, hm]
    exact spl_parts _ _ _ _ _ _
  unfold runs
  rw [e1]
  exact runsAt_chain _ _ (chain_swap hne hm h1 pre 0 post c1 (fun x hx => hl _ (runs_ent (by rw [h]; exact List.mem_append_left _ hx))) (fun x hx => hh _ (runs_ent (by rw [h]; exact List.mem_append_right _ (List.mem_cons_of_mem _ hx)))))
end Go.Proofs.Ytjlbnegdiabglaa
