/-
  Limbos, in plain Lean: what the steps make of what waits, and that what comes may be.
-/
import Derived.Test.YthnpcmigphpolaaDoorLip
set_option linter.unusedSimpArgs false
set_option linter.unusedVariables false
namespace Go.Proofs.YthnpcmigphpolaaDoor
open Go Go.RowKit

theorem rowN_ne {E a b : Nat} (ha : a < 3) (hb : b < 3) (h : a ≠ b) : rowN E a ≠ rowN E b := by
  unfold rowN; omega
theorem rowN_next (E a : Nat) (ha : a < 2) : rowN (E + 1) (a + 1) = rowN E a := by
  unfold rowN; congr 1; omega
theorem rowN_next0 (E : Nat) : rowN (E + 1) 0 = rowN E 2 := by
  unfold rowN; omega
theorem upd_same (r : Nat → List Ent) (k : Nat) (x : List Ent) : upd r k x k = x := by simp [upd]
theorem upd_ne (r : Nat → List Ent) {k j : Nat} (x : List Ent) (h : j ≠ k) : upd r k x j = r j := by simp [upd, h]
theorem at_upd (l : Lim) (a b : Nat) (x : List Ent) (ha : a < 3) (hb : b < 3) : (Lim.mk l.E (upd l.r (rowN l.E a) x)).at b = if b = a then x else l.at b := by
  unfold Lim.at
  by_cases h : b = a
  · subst h; simp [upd]
  · rw [if_neg h]; exact upd_ne _ _ (rowN_ne hb ha h)
theorem each_ret {l l' : Lim} {e : Ent} (h : doRet l e = .ok l') : l'.each = l.each ++ [(0, e)] ∧ l'.E = l.E ∧ entB e = true ∧ hasB (l.r 0) e.1 = false ∧ hasB (l.r 1) e.1 = false ∧ hasB (l.r 2) e.1 = false := by
  unfold doRet at h
  split at h
  · cases h
  · rename_i h1
    split at h
    · cases h
    · rename_i h2
      injection h with h
      subst h
      simp only [Bool.or_eq_true, not_or, Bool.not_eq_true] at h2
      refine ⟨?_, rfl, by simpa using h1, h2.1, h2.2.1, h2.2.2⟩
      unfold Lim.each
      rw [at_upd l 0 2 _ (by omega) (by omega), at_upd l 0 1 _ (by omega) (by omega), at_upd l 0 0 _ (by omega) (by omega)]
      simp [tag]
theorem each_adv {l l' : Lim} (h : doAdv l = .ok l') : l'.each = l.each.map (fun p => (p.1 + 1, p.2)) ∧ l'.E = l.E + 1 ∧ l.E < LAST ∧ l.at 2 = [] := by
  unfold doAdv at h
  split at h
  · cases h
  · rename_i h1
    have h1 : l.at 2 = [] := by simpa using h1
    split at h
    · rename_i h2
      injection h with h
      subst h
      refine ⟨?_, rfl, h2, h1⟩
      have e2 : (Lim.mk (l.E + 1) l.r).at 2 = l.at 1 := by unfold Lim.at; rw [rowN_next l.E 1 (by omega)]
      have e1 : (Lim.mk (l.E + 1) l.r).at 1 = l.at 0 := by unfold Lim.at; rw [rowN_next l.E 0 (by omega)]
      have e0 : (Lim.mk (l.E + 1) l.r).at 0 = [] := by unfold Lim.at; rw [rowN_next0]; exact h1
      unfold Lim.each
      rw [e2, e1, e0, h1]
      simp [tag, Function.comp_def]
    · cases h
theorem each_take {l l' : Lim} {e : Ent} (h : doTake l = .ok (l', e)) : l.each = (2, e) :: l'.each ∧ l'.E = l.E ∧ l.at 2 = e :: l'.at 2 := by
  unfold doTake at h
  split at h
  · cases h
  · rename_i x rest hx
    injection h with h
    injection h with h1 h2
    subst h1; subst h2
    have e2 := at_upd l 2 2 rest (by omega) (by omega)
    have e1 := at_upd l 2 1 rest (by omega) (by omega)
    have e0 := at_upd l 2 0 rest (by omega) (by omega)
    rw [if_pos rfl] at e2
    rw [if_neg (by omega)] at e1 e0
    refine ⟨?_, rfl, by rw [e2, hx]⟩
    unfold Lim.each
    rw [e2, e1, e0, hx]
    simp [tag]
theorem each_drain (l : Lim) : l.each = tag 2 (l.at 2) ++ (drain l).each ∧ (drain l).E = l.E ∧ (drain l).at 2 = [] := by
  have e2 := at_upd l 2 2 [] (by omega) (by omega)
  have e1 := at_upd l 2 1 [] (by omega) (by omega)
  have e0 := at_upd l 2 0 [] (by omega) (by omega)
  rw [if_pos rfl] at e2
  rw [if_neg (by omega)] at e1 e0
  refine ⟨?_, rfl, e2⟩
  unfold drain Lim.each
  rw [e2, e1, e0]
  simp [tag]
theorem okP_shift (E : Nat) (l : List (Nat × Ent)) (met : List Int) (h : okP E l met = true) : okP (E + 1) (l.map (fun p => (p.1 + 1, p.2))) met = true := by
  induction l generalizing met with
  | nil => rfl
  | cons p l ih =>
    rw [okP] at h
    rw [List.map_cons, okP]
    simp only [Bool.and_eq_true, decide_eq_true_eq] at h ⊢
    exact ⟨⟨by omega, h.1.2⟩, ih _ h.2⟩
theorem okP_less {E : Nat} {l : List (Nat × Ent)} {met met' : List Int} (hm : ∀ x ∈ met', x ∈ met) (h : okP E l met = true) : okP E l met' = true := by
  induction l generalizing met met' with
  | nil => rfl
  | cons p l ih =>
    rw [okP] at h ⊢
    simp only [Bool.and_eq_true, decide_eq_true_eq, Bool.not_eq_true', List.contains_eq_mem, decide_eq_false_iff_not] at h ⊢
    refine ⟨⟨h.1.1, h.1.2.1, fun hx => h.1.2.2 (hm _ hx)⟩, ih (fun x hx => ?_) h.2⟩
    rcases List.mem_cons.1 hx with rfl | hx
    · simp
    · simp [hm x hx]
theorem ok_out {l : Lim} (h : l.ok = true) : l.E ≤ LAST ∧ okP l.E l.each [] = true := by
  unfold Lim.ok at h; simpa using h
theorem ok_mk {l : Lim} (h1 : l.E ≤ LAST) (h2 : okP l.E l.each [] = true) : l.ok = true := by
  unfold Lim.ok; simp [h1, h2]
theorem mem_each {l : Lim} {p : Nat × Ent} (h : p ∈ l.each) : ∃ a, a < 3 ∧ p.1 = a ∧ p.2 ∈ l.at a := by
  unfold Lim.each tag at h
  simp only [List.mem_append, List.mem_map] at h
  rcases h with ⟨e, he, rfl⟩ | ⟨e, he, rfl⟩ | ⟨e, he, rfl⟩
  · exact ⟨2, by omega, rfl, he⟩
  · exact ⟨1, by omega, rfl, he⟩
  · exact ⟨0, by omega, rfl, he⟩
theorem hasB_false {l : List Ent} {s : Int} (h : hasB l s = false) : ∀ e ∈ l, e.1 ≠ s := by
  intro e he hs
  have : hasB l s = true := List.any_eq_true.2 ⟨e, he, by simpa using hs⟩
  rw [this] at h; cases h
theorem at_row {l : Lim} (a : Nat) : l.at a = l.r 0 ∨ l.at a = l.r 1 ∨ l.at a = l.r 2 := by
  unfold Lim.at
  have := rowN_lt l.E a
  generalize rowN l.E a = k at *
  match k, this with
  | 0, _ => simp
  | 1, _ => simp
  | 2, _ => simp
theorem ret_apart {l l' : Lim} {e : Ent} (h : doRet l e = .ok l') : ∀ p ∈ l.each, p.2.1 ≠ e.1 := by
  obtain ⟨_, _, _, h0, h1, h2⟩ := each_ret h
  intro p hp
  obtain ⟨a, _, _, hm⟩ := mem_each hp
  rcases at_row (l := l) a with hr | hr | hr <;> rw [hr] at hm
  · exact hasB_false h0 _ hm
  · exact hasB_false h1 _ hm
  · exact hasB_false h2 _ hm
theorem ok_ret {l l' : Lim} {e : Ent} (hok : l.ok = true) (h : doRet l e = .ok l') : l'.ok = true := by
  obtain ⟨h1, h2⟩ := ok_out hok
  obtain ⟨he, hE, hen, _⟩ := each_ret h
  refine ok_mk (by omega) ?_
  rw [he, hE, okP_snoc, h2, hen]
  simp only [Bool.true_and, Bool.and_eq_true, decide_eq_true_eq, Bool.not_eq_true', List.contains_eq_mem, decide_eq_false_iff_not]
  refine ⟨Nat.zero_le _, fun hm => ?_⟩
  unfold metOf at hm
  obtain ⟨p, hp, hpe⟩ := List.mem_map.1 (List.mem_reverse.1 hm)
  exact ret_apart h p hp hpe
theorem ok_adv {l l' : Lim} (hok : l.ok = true) (h : doAdv l = .ok l') : l'.ok = true := by
  obtain ⟨h1, h2⟩ := ok_out hok
  obtain ⟨he, hE, hlt, _⟩ := each_adv h
  refine ok_mk (by omega) ?_
  rw [he, hE]
  exact okP_shift _ _ _ h2
theorem okP_tail {E : Nat} {a b : List (Nat × Ent)} (h : okP E (a ++ b) [] = true) : okP E b [] = true := by
  rw [okP_append] at h
  simp only [Bool.and_eq_true] at h
  exact okP_less (fun x hx => by simp at hx) h.2
theorem ok_take {l l' : Lim} {e : Ent} (hok : l.ok = true) (h : doTake l = .ok (l', e)) : l'.ok = true := by
  obtain ⟨h1, h2⟩ := ok_out hok
  obtain ⟨he, hE, _⟩ := each_take h
  refine ok_mk (by omega) ?_
  rw [hE]
  exact okP_tail (a := [(2, e)]) (by rw [← show l.each = [(2, e)] ++ l'.each from he]; exact h2)
theorem ok_drain {l : Lim} (hok : l.ok = true) : (drain l).ok = true := by
  obtain ⟨h1, h2⟩ := ok_out hok
  obtain ⟨he, hE, _⟩ := each_drain l
  refine ok_mk (by omega) ?_
  rw [hE]
  exact okP_tail (by rw [← he]; exact h2)
theorem held_ret {l l' : Lim} {e : Ent} (h : doRet l e = .ok l') : l'.held = l.held ++ [e] := by
  rw [← each_held, (each_ret h).1, List.map_append, each_held]; rfl
theorem held_adv {l l' : Lim} (h : doAdv l = .ok l') : l'.held = l.held := by
  rw [← each_held, (each_adv h).1, List.map_map, ← each_held]; rfl
theorem held_take {l l' : Lim} {e : Ent} (h : doTake l = .ok (l', e)) : l.held = e :: l'.held := by
  rw [← each_held, (each_take h).1, List.map_cons, each_held]
theorem held_drain (l : Lim) : l.held = l.at 2 ++ (drain l).held := by
  rw [← each_held, (each_drain l).1, List.map_append, tag_snd, each_held]
theorem ok_held_len {l : Lim} (h : l.ok = true) : l.held.length ≤ 128 := by
  rw [← each_held, List.length_map]; exact okP_len (ok_out h).2
theorem at_len {l : Lim} (h : l.ok = true) (a : Nat) : (l.at a).length ≤ 128 := by
  have h1 := ok_held_len h
  unfold Lim.held at h1
  rw [List.length_append, List.length_append] at h1
  have h0 : l.at a = l.at 0 ∨ l.at a = l.at 1 ∨ l.at a = l.at 2 := by
    unfold Lim.at
    have : rowN l.E a = rowN l.E 0 ∨ rowN l.E a = rowN l.E 1 ∨ rowN l.E a = rowN l.E 2 := by unfold rowN; omega
    rcases this with h | h | h <;> rw [h] <;> simp
  rcases h0 with h | h | h <;> rw [h] <;> omega
theorem row_len {l : Lim} (h : l.ok = true) {k : Nat} (hk : k < 3) : (l.r k).length ≤ 128 := by
  have : ∃ a, rowN l.E a = k := by
    unfold rowN
    have h3 := Nat.mod_lt l.E (show 0 < 3 by omega)
    refine ⟨(l.E + 3 - k) % 3, ?_⟩
    omega
  obtain ⟨a, ha⟩ := this
  have := at_len h a
  unfold Lim.at at this
  rwa [ha] at this
theorem ok_at {l : Lim} (h : l.ok = true) {a : Nat} (ha : a < 3) (hn : l.at a ≠ []) : a ≤ l.E := by
  obtain ⟨e, rest, he⟩ := List.exists_cons_of_ne_nil hn
  have hm : (a, e) ∈ l.each := by
    unfold Lim.each tag
    have : e ∈ l.at a := by rw [he]; simp
    match a, ha with
    | 0, _ => simp [this]
    | 1, _ => simp [this]
    | 2, _ => simp [this]
  exact (okP_mem (ok_out h).2 _ hm).1
theorem whenP_le {l : Lim} (h : l.ok = true) {s : Int} {a : Nat} (hw : whenP l.each s = some a) : a ≤ l.E := by
  have key : ∀ x : List (Nat × Ent), (∀ p ∈ x, p.1 ≤ l.E) → whenP x s = some a → a ≤ l.E := by
    intro x
    induction x with
    | nil => intro _ h; cases h
    | cons p x ih =>
      intro hp h
      rw [whenP] at h
      split at h
      · injection h with h; rw [← h]; exact hp p (by simp)
      · exact ih (fun q hq => hp q (by simp [hq])) h
  exact key _ (fun p hp => (okP_mem (ok_out h).2 p hp).1) hw
end Go.Proofs.YthnpcmigphpolaaDoor
