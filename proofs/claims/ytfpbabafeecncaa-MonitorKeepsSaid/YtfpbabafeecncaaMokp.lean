/-
  What somebody has got is meant, as long as slabs are given back only where that is safe: in plain Lean.
-/
import Derived.Test.YtfpbabafeecncaaMocp
set_option linter.unusedSimpArgs false
set_option linter.unusedVariables false
namespace Go.Proofs.Ytfpbabafeecncaa
open Go Go.RowKit

structure KInv (m : Mon) (G S : Nat) : Prop where
  ok : OkM m
  pins : m.pin.length = G
  slabs : m.sl.length = S
  held : ∀ g e, e ∈ rowM m g → meantB m.sl e = true ∧ tagOf m.sl e ≠ 0
theorem set_meant {ss : List Ent} {i : Nat} {t gen : Int} (hi : i < ss.length) (hg : (ss.getD i (0, 0)).2 = gen) {e : Ent} (h : meantB ss e = true) : meantB (ss.set i (t, gen)) e = true ∧ tagOf (ss.set i (t, gen)) e = if e.1.toNat = i then t else tagOf ss e := by
  obtain ⟨k, hk, hkl, hge⟩ := meantB_out h
  have ek : e.1.toNat = k := by omega
  constructor
  · unfold meantB
    rw [ek, getD_setN _ _ _ _ _ hi, List.length_set]
    simp only [Bool.and_eq_true, decide_eq_true_eq]
    refine ⟨by omega, ?_⟩
    split
    · rename_i e2; subst e2; rw [← hge, hg]
    · exact hge
  · unfold tagOf
    rw [ek, getD_setN _ _ _ _ _ hi]
    split <;> rfl
theorem row_set {m : Mon} {g : Nat} {l : List Ent} {s : List Ent} {p : List Bool} {b : List Wt} (hg : g < m.has.length) (j : Nat) : rowM ⟨s, p, m.has.set g l, b⟩ j = if j = g then l else rowM m j := by
  unfold rowM
  exact getD_setN _ _ _ _ _ hg
theorem getM_sl (m : Mon) (g : Nat) (e : Ent) : (getM m g e).sl = m.sl ∧ (getM m g e).pin = m.pin := by unfold getM; split <;> exact ⟨rfl, rfl⟩
theorem getM_row {m : Mon} {g : Nat} {e : Ent} (hg : g < m.has.length) {j : Nat} {x : Ent} (hx : x ∈ rowM (getM m g e) j) : x ∈ rowM m j ∨ x = e := by
  unfold getM at hx
  split at hx
  · exact .inl hx
  · rw [row_set hg] at hx
    split at hx
    · rename_i e1; subst e1
      rcases List.mem_append.1 hx with h | h
      · exact .inl h
      · exact .inr (List.mem_singleton.1 h)
    · exact .inl hx
theorem getM_has {m : Mon} {g : Nat} {e : Ent} (hg : g < m.has.length) : e ∈ rowM (getM m g e) g := by
  unfold getM
  split
  · rename_i h; exact hasE_iff.1 h
  · rw [row_set hg, if_pos rfl]; simp
theorem hold_mem {e : Ent} : ∀ (l : List (List Ent)) (i : Nat) (g : Nat), g < l.length → hasE (l.getD g []) e = true → ((i + g : Nat) : Int) ∈ holdersGo e i l
  | [], i, g, hg, h => by simp at hg
  | q :: l, i, g, hg, h => by
    unfold holdersGo
    cases g with
    | zero =>
      have h : hasE q e = true := by simpa using h
      rw [if_pos h]; simp
    | succ g =>
      have h1 := hold_mem l (i + 1) g (by simpa using hg) (by simpa using h)
      rw [show i + 1 + g = i + (g + 1) from by omega] at h1
      split
      · exact List.mem_cons_of_mem _ h1
      · exact h1
theorem has_row {m : Mon} {g : Nat} {e : Ent} (h : e ∈ rowM m g) : g < m.has.length := by
  rcases Nat.lt_or_ge g m.has.length with h1 | h1
  · exact h1
  · unfold rowM at h
    rw [List.getD_eq_getElem?_getD, List.getElem?_eq_none h1] at h
    cases h
theorem hold_row {m : Mon} {g : Nat} {e : Ent} (h : e ∈ rowM m g) : (g : Int) ∈ holdM m e := by
  have := hold_mem m.has 0 g (has_row h) (by unfold rowM at h; exact hasE_iff.2 h)
  rw [Nat.zero_add] at this
  exact this
theorem safe_out {m : Mon} {e : Ent} (h : SafeM m e = true) : holdM m e = [] := by
  unfold SafeM at h
  simp only [Bool.and_eq_true, decide_eq_true_eq] at h
  exact h.2.1
/-- What follows for everything that somebody has. -/
theorem keep_good {m : Mon} {G S : Nat} (h : KInv m G S) {g : Nat} {e : Ent} (he : e ∈ rowM m g) : GoodM m (4, (g : Int), e) = true ∧ (g : Int) ∈ HoldM m e ∧ SafeM m e = false := by
  have hg : g < m.pin.length := by have := has_row he; have := h.ok.has; omega
  obtain ⟨hm, ht⟩ := h.held g e he
  have hok := ok_iff.2 h.ok
  have hh := hold_row he
  have hp : m.pin.getD g false = true := rowB_pin (h.ok.rows g hg) (by intro hn; unfold rowM at he; rw [hn] at he; cases he)
  refine ⟨?_, by unfold HoldM; rw [if_pos hok]; exact hh, ?_⟩
  · have hmet : metB m e = true := by unfold metB; rw [h.ok.ar, hm]; rfl
    have htag : tagM m e = 1 ∨ tagM m e = 2 := by
      unfold tagM
      rw [if_pos hmet]
      obtain ⟨k, hk, hkl, hge⟩ := meantB_out hm
      have h3 := slabOk_out (arOk_at h.ok.ar hkl)
      have ek : tagOf m.sl e = (m.sl.getD k (0, 0)).1 := by unfold tagOf; rw [hk]; rfl
      rw [ek] at ht ⊢
      omega
    unfold GoodM goodM goerM pinM
    rw [hok, hmet]
    have h1 : ((g : Int)).toNat = g := by omega
    dsimp only
    rw [h1, hp, hasE_iff.2 he]
    have h2 : decide ((g : Int) < (m.pin.length : Int)) = true := by simp; omega
    rw [h2]
    rcases htag with h3 | h3 <;> rw [h3] <;> simp
  · unfold SafeM
    have : holdM m e ≠ [] := by intro hn; rw [hn] at hh; cases hh
    simp [this]
theorem held_slab {m : Mon} {G S : Nat} (h : KInv m G S) {i : Nat} {t gen : Int} (hi : i < m.sl.length) (hg : (m.sl.getD i (0, 0)).2 = gen) (ht : t ≠ 0) (g : Nat) (e : Ent) (he : e ∈ rowM m g) : meantB (m.sl.set i (t, gen)) e = true ∧ tagOf (m.sl.set i (t, gen)) e ≠ 0 := by
  obtain ⟨h1, h2⟩ := h.held g e he
  obtain ⟨h3, h4⟩ := set_meant (t := t) hi hg h1
  refine ⟨h3, ?_⟩
  rw [h4]
  split
  · exact ht
  · exact h2
theorem keep_step {m : Mon} {G S : Nat} {w : Wt} {x : Mon × List Ent} (h : KInv m G S) (hm : meantB m.sl w.2.2 = true) (h3 : w.1 = 3 → tagOf m.sl w.2.2 ≠ 0) (h8 : w.1 = 8 → SafeM m w.2.2 = true) (hd : DoM m w = .ok x) : KInv x.1 G S ∧ (w.1 = 6 → ∃ e, x.2 = [e] ∧ e ∈ rowM x.1 w.2.1.toNat) := by
  have hd : doesM m [] w = .ok x := by
    unfold DoM okR at hd
    rw [if_pos (ok_iff.2 h.ok)] at hd
    exact hd
  have hok := ok_does h.ok hd
  obtain ⟨hk, hg, he, hx⟩ := does_parts hd
  obtain ⟨g0, g1, g2⟩ := goerM_out hg
  have g3 : w.2.1.toNat < m.has.length := by have := h.ok.has; omega
  unfold deedM at hx
  dsimp only at hx
  by_cases k1 : w.1 = 1
  · rw [if_pos k1] at hx
    split at hx
    · cases hx
    · injection hx with hx; subst hx
      exact ⟨⟨hok, by simpa using h.pins, h.slabs, h.held⟩, fun h6 => by omega⟩
  rw [if_neg k1] at hx
  by_cases k2 : w.1 = 2
  · rw [if_pos k2] at hx
    split at hx
    · injection hx with hx; subst hx
      refine ⟨⟨hok, by simpa using h.pins, h.slabs, fun j e he => ?_⟩, fun h6 => by omega⟩
      rw [row_set g3] at he
      split at he
      · cases he
      · exact h.held j e he
    · cases hx
  rw [if_neg k2] at hx
  by_cases k3 : w.1 = 3
  · rw [if_pos k3] at hx
    split at hx
    · injection hx with hx; subst hx
      refine ⟨⟨hok, by rw [(getM_sl _ _ _).2]; exact h.pins, by rw [(getM_sl _ _ _).1]; exact h.slabs, fun j e he => ?_⟩, fun h6 => by omega⟩
      show meantB (getM m w.2.1.toNat w.2.2).sl e = true ∧ tagOf (getM m w.2.1.toNat w.2.2).sl e ≠ 0
      rw [(getM_sl _ _ _).1]
      rcases getM_row g3 he with he | rfl
      · exact h.held j e he
      · exact ⟨hm, h3 k3⟩
    · cases hx
  rw [if_neg k3] at hx
  by_cases k4 : w.1 = 4 ∨ w.1 = 5
  · rw [if_pos k4] at hx
    split at hx
    · injection hx with hx; subst hx
      refine ⟨⟨hok, ?_, ?_, fun j e he => ?_⟩, fun h6 => by omega⟩
      · show (touchM m w).pin.length = G
        unfold touchM; split <;> exact h.pins
      · show (touchM m w).sl.length = S
        unfold touchM; split <;> exact h.slabs
      · have he2 : e ∈ rowM m j := by
          have he3 : e ∈ rowM (touchM m w) j := he
          unfold touchM at he3; split at he3 <;> exact he3
        have := h.held j e he2
        show meantB (touchM m w).sl e = true ∧ tagOf (touchM m w).sl e ≠ 0
        unfold touchM; split <;> exact this
    · cases hx
  rw [if_neg k4] at hx
  by_cases k6 : w.1 = 6
  · rw [if_pos k6] at hx
    split at hx
    · split at hx
      · rename_i ht
        injection hx with hx; subst hx
        obtain ⟨ho, e0, r, h1, h2, h4, h5⟩ := tk_one ht
        have hmem := ents_mem (ss := m.sl) (tag := 0) (e := e0) (by rw [h1]; simp)
        have hil : e0.1.toNat < m.sl.length := by omega
        have hget : m.sl.getD e0.1.toNat (0, 0) = (0, e0.2) := by rw [List.getD_eq_getElem?_getD, hmem.2.2]; rfl
        have hsl : tkA m.sl 1 = m.sl.set e0.1.toNat (1, e0.2) := h2
        rw [h4]
        have e00 : ([e0] : List Ent).getD 0 (0, 0) = e0 := rfl
        rw [e00]
        refine ⟨⟨by rw [h4, e00] at hok; exact hok, by rw [(getM_sl _ _ _).2]; exact h.pins, by rw [(getM_sl _ _ _).1]; show (tkA m.sl 1).length = S; rw [hsl, List.length_set]; exact h.slabs, fun j e he => ?_⟩, fun _ => ⟨e0, by simp, getM_has (m := ⟨tkA m.sl 1, m.pin, m.has, m.bad⟩) g3⟩⟩
        show meantB (getM ⟨tkA m.sl 1, m.pin, m.has, m.bad⟩ w.2.1.toNat e0).sl e = true ∧ tagOf (getM ⟨tkA m.sl 1, m.pin, m.has, m.bad⟩ w.2.1.toNat e0).sl e ≠ 0
        rw [(getM_sl _ _ _).1]
        show meantB (tkA m.sl 1) e = true ∧ tagOf (tkA m.sl 1) e ≠ 0
        rw [hsl]
        rcases getM_row (m := ⟨tkA m.sl 1, m.pin, m.has, m.bad⟩) g3 he with he | rfl
        · exact held_slab h hil (by rw [hget]) (by omega) j e he
        · have hm0 : meantB m.sl e = true := by
            unfold meantB
            rw [hget]
            simp only [Bool.and_eq_true, decide_eq_true_eq]
            exact ⟨⟨hmem.1, hmem.2.1⟩, trivial⟩
          obtain ⟨h6, h7⟩ := set_meant (t := 1) (gen := e.2) hil (by rw [hget]) hm0
          exact ⟨h6, by rw [h7, if_pos rfl]; omega⟩
      · cases hx
    · cases hx
  rw [if_neg k6] at hx
  by_cases k7 : w.1 = 7
  · rw [if_pos k7] at hx
    split at hx
    · rename_i hr
      injection hx with hx; subst hx
      obtain ⟨ho, hmm, _, hA⟩ := rt_one hr
      obtain ⟨k, hkk, hkl, hge⟩ := meantB_out hmm
      have ek : w.2.2.1.toNat = k := by omega
      have hsl : rtA m.sl [w.2.2] = m.sl.set k (2, w.2.2.2) := by rw [hA]; unfold put1; rw [ek]
      refine ⟨⟨hok, h.pins, by show (rtA m.sl [w.2.2]).length = S; rw [hsl, List.length_set]; exact h.slabs, fun j e he => ?_⟩, fun h6 => by omega⟩
      show meantB (rtA m.sl [w.2.2]) e = true ∧ tagOf (rtA m.sl [w.2.2]) e ≠ 0
      rw [hsl]
      exact held_slab h hkl hge (by omega) j e he
    · cases hx
  rw [if_neg k7] at hx
  split at hx
  · rename_i hr
    injection hx with hx; subst hx
    obtain ⟨ho, hmm, _, _, hA⟩ := gv_one hr
    obtain ⟨k, hkk, hkl, hge⟩ := meantB_out hmm
    have ek : w.2.2.1.toNat = k := by omega
    have hk8 : w.1 = 8 := by omega
    have hsafe := safe_out (h8 hk8)
    refine ⟨⟨hok, h.pins, by show (gvA m.sl [w.2.2]).length = S; rw [hA, List.length_set]; exact h.slabs, fun j e he => ?_⟩, fun h6 => by omega⟩
    show meantB (gvA m.sl [w.2.2]) e = true ∧ tagOf (gvA m.sl [w.2.2]) e ≠ 0
    have he : e ∈ rowM m j := he
    obtain ⟨hme, hte⟩ := h.held j e he
    have hne : e.1.toNat ≠ k := by
      intro hek
      obtain ⟨k', hk', hkl', hge'⟩ := meantB_out hme
      have e1 : k' = k := by omega
      subst e1
      have : e = w.2.2 := Prod.ext (by omega) (by rw [← hge', hge])
      subst this
      have := hold_row he
      rw [hsafe] at this
      cases this
    rw [hA, ek]
    constructor
    · unfold meantB at hme ⊢
      rw [getD_setN _ _ _ _ _ hkl, if_neg hne, List.length_set]; exact hme
    · unfold tagOf at hte ⊢
      rw [getD_setN _ _ _ _ _ hkl, if_neg hne]; exact hte
  · cases hx
end Go.Proofs.Ytfpbabafeecncaa
