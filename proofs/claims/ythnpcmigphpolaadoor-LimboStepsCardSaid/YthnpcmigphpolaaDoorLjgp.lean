/-
  Limbos, in plain Lean: since when what waits does.
-/
import Derived.Test.YthnpcmigphpolaaDoorLjf
set_option linter.unusedSimpArgs false
set_option linter.unusedVariables false
namespace Go.Proofs.YthnpcmigphpolaaDoor
open Go Go.RowKit

theorem lim0_ok : lim0.ok = true := by decide +kernel
theorem whenR_zero (s : Int) : whenR lim0 s = (0, false) := by
  unfold whenR
  rw [lim0_ok, if_pos rfl]
  rfl
theorem whenR_ret {l l' : Lim} {e : Ent} (hok : l.ok = true) (h : doRet l e = .ok l') : whenR l' e.1 = ((l.E : Int), true) := by
  unfold whenR
  rw [ok_ret hok h, if_pos rfl, (each_ret h).1, whenP_append_none (ret_apart h), (each_ret h).2.1]
  simp [whenP]
theorem whenR_head {l : Lim} {x : Ent} {r : List Ent} (hok : l.ok = true) (h : l.at 2 = x :: r) : whenR l x.1 = ((l.E : Int) - 2, true) := by
  unfold whenR
  rw [hok, if_pos rfl]
  unfold Lim.each
  rw [h]
  simp [tag, whenP]
theorem whenP_at {L : List (Nat × Ent)} (hn : (L.map (fun p => p.2.1)).Nodup) {k : Nat} (hk : k < L.length) : whenP L L[k].2.1 = some L[k].1 := by
  induction L generalizing k with
  | nil => simp at hk
  | cons p L ih =>
    rw [List.map_cons, List.nodup_cons] at hn
    cases k with
    | zero => simp [whenP]
    | succ k =>
      have hk' : k < L.length := by simpa using hk
      rw [List.getElem_cons_succ, whenP, if_neg (fun e => hn.1 ?_)]
      · exact ih hn.2 hk'
      · rw [e]; exact List.mem_map.2 ⟨L[k], List.getElem_mem hk', rfl⟩
/-- What the k-th one that waits says. -/
theorem when_kth {l : Lim} (hok : l.ok = true) {k : Nat} (hk : k < l.held.length) : ∃ a : Nat, a ≤ 2 ∧ a ≤ l.E ∧ whenR l (l.held.getD k (0, 0)).1 = ((l.E : Int) - (a : Int), true) ∧ decide (a = 2) = decide (k < (l.at 2).length) := by
  have hlen : l.each.length = l.held.length := by rw [← each_held, List.length_map]
  have hk' : k < l.each.length := by omega
  have h1 := whenP_at (okP_nodup (ok_out hok).2) hk'
  have h2 : l.held.getD k (0, 0) = l.each[k].2 := by
    rw [List.getD_eq_getElem?_getD, ← each_held, List.getElem?_map, List.getElem?_eq_getElem hk']; rfl
  obtain ⟨a, ha, hpa, _⟩ := mem_each (List.getElem_mem hk')
  have hE := (okP_mem (ok_out hok).2 _ (List.getElem_mem hk')).1
  refine ⟨l.each[k].1, by omega, hE, ?_, ?_⟩
  · unfold whenR
    rw [hok, if_pos rfl, h2, h1]
  · have hs : l.each = tag 2 (l.at 2) ++ (tag 1 (l.at 1) ++ tag 0 (l.at 0)) := rfl
    have hq : l.each[k]? = some l.each[k] := List.getElem?_eq_getElem hk'
    generalize l.each[k] = pp at hq ⊢
    by_cases h : k < (l.at 2).length
    · have : pp.1 = 2 := by
        rw [hs, List.getElem?_append_left (by rw [tag_len]; exact h)] at hq
        obtain ⟨e, he⟩ : ∃ e, (tag 2 (l.at 2))[k]? = some (2, e) := by
          unfold tag; rw [List.getElem?_map, List.getElem?_eq_getElem h]; exact ⟨_, rfl⟩
        rw [he] at hq
        injection hq with hq
        have := congrArg Prod.fst hq
        simpa using this.symm
      simp [this, h]
    · have : pp.1 ≠ 2 := by
        rw [hs, List.getElem?_append_right (by rw [tag_len]; omega)] at hq
        have hm := List.mem_of_getElem? hq
        intro e2
        rcases List.mem_append.1 hm with hm | hm
        · unfold tag at hm
          obtain ⟨e, _, he⟩ := List.mem_map.1 hm
          have := congrArg Prod.fst he
          simp only at this
          have h3 : (1 : Nat) = pp.1 := this
          omega
        · unfold tag at hm
          obtain ⟨e, _, he⟩ := List.mem_map.1 hm
          have := congrArg Prod.fst he
          simp only at this
          have h3 : (0 : Nat) = pp.1 := this
          omega
      simp [this, h]
theorem held_drn (l : Lim) {i : Nat} (h : i < (l.at 2).length) : (drn l i).held = (l.at 2).getD i (0, 0) :: (drn l (i + 1)).held := held_take (drn_take l i h)
theorem drn_head (l : Lim) {i : Nat} (h : i < (l.at 2).length) : ∃ r, (drn l i).at 2 = (l.at 2).getD i (0, 0) :: r := by
  rw [drn_at, List.drop_eq_getElem_cons h]
  have hg : (l.at 2).getD i (0, 0) = (l.at 2)[i] := by rw [List.getD_eq_getElem?_getD, List.getElem?_eq_getElem h]; rfl
  rw [hg]
  exact ⟨_, rfl⟩
end Go.Proofs.YthnpcmigphpolaaDoor
