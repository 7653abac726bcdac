/-
  If each asks but for mutexes greater than all that it has, there is no ring, and someone can step: plainly.
-/
import Derived.Test.YtlelpnahillioaaMup
set_option linter.unusedSimpArgs false
set_option linter.unusedVariables false
namespace Go.Proofs.Ytlelpnahillioaa
open Go Go.RowKit

theorem RightM.once_lt {l : Ml} (h : RightM l) {i j : Nat} (hij : i < j) (hj : j < l.length) {g : Int} (h1 : g ∈ (mAt l i).2) (h2 : g ∈ (mAt l j).2) : False := by
  have hi : i < l.length := by omega
  have e : l = l.take i ++ (mAt l i :: l.drop (i + 1)) := by
    rw [mAt_get hi]
    exact (List.take_append_drop i l).symm.trans (by rw [List.drop_eq_getElem_cons hi])
  have hf : flatQ l = flatQ (l.take i) ++ ((mAt l i).2 ++ flatQ (l.drop (i + 1))) := by
    have : flatQ l = flatQ (l.take i ++ (mAt l i :: l.drop (i + 1))) := by rw [← e]
    rw [this]; simp [flatQ]
  have hn := h.nodup
  rw [hf] at hn
  have h3 := (List.nodup_append.1 (List.nodup_append.1 hn).2.1).2.2
  refine h3 g h1 g ?_ rfl
  refine mem_flatQ.2 ⟨mAt l j, ?_, h2⟩
  rw [mAt_get hj]
  have : l[j] = (l.drop (i + 1))[j - (i + 1)]'(by rw [List.length_drop]; omega) := by
    rw [List.getElem_drop]; congr 1; omega
  rw [this]
  exact List.getElem_mem _
theorem RightM.once {l : Ml} (h : RightM l) {i j : Nat} (hi : i < l.length) (hj : j < l.length) {g : Int} (h1 : g ∈ (mAt l i).2) (h2 : g ∈ (mAt l j).2) : i = j := by
  rcases Nat.lt_trichotomy i j with h3 | h3 | h3
  · exact (h.once_lt h3 hj h1 h2).elim
  · exact h3
  · exact (h.once_lt h3 hi h2 h1).elim
/-- Who waits has only mutexes less than the one it waits for. -/
def Ord (l : Ml) : Prop := ∀ (g : Int) (k j : Nat), k < l.length → j < l.length → g ∈ (mAt l k).2 → (mAt l j).1 = g + 1 → j < k
theorem RightM.owner2 {l : Ml} (h : RightM l) {g : Int} (hw : 0 ≤ waitsX l g) : ∃ j : Nat, j < l.length ∧ waitsX l g = (j : Int) ∧ g ∈ (mAt l j).2 ∧ 1 ≤ (mAt l j).1 ∧ (mAt l j).1 ≤ 8 := by
  rcases waitsX_cases l g with ⟨h1, _⟩ | ⟨j, h1, h2, h3, _⟩
  · omega
  · have hm := h.all _ (mAt_mem h1)
    refine ⟨j, h1, h2, h3, ?_, hm.hi⟩
    have := hm.lo
    by_cases hz : (mAt l j).1 = 0
    · rw [hm.none hz] at h3; simp at h3
    · omega
theorem ringGo_none {l : Ml} (h : RightM l) (ho : Ord l) (first : Int) : ∀ (n : Nat) (at_ : Int) (out : List Int), (0 ≤ waitsX l at_ → 0 ≤ waitsX l first ∧ waitsX l first ≤ waitsX l at_) → ringGo l first n at_ out = none := by
  intro n
  induction n with
  | zero => intro at_ out _; rfl
  | succ n ih =>
    intro at_ out hq
    unfold ringGo
    by_cases hw : waitsX l at_ < 0
    · rw [if_pos hw]
    · rw [if_neg hw]
      obtain ⟨j, hj, he, hm, h1, h8⟩ := h.owner2 (g := at_) (by omega)
      obtain ⟨hf0, hf1⟩ := hq (by omega)
      obtain ⟨k1, hk1, hke, hkm, _, _⟩ := h.owner2 hf0
      rw [he, Int.toNat_natCast]
      rw [if_neg (fun e => ?_)]
      · refine ih _ _ (fun hn => ⟨hf0, ?_⟩)
        obtain ⟨k2, hk2, hke2, hkm2, _, _⟩ := h.owner2 hn
        have := ho ((mAt l j).1 - 1) k2 j hk2 hj hkm2 (by omega)
        omega
      · have := ho first k1 j hk1 hj hkm (by omega)
        omega
theorem noRing {l : Ml} (h : RightM l) (ho : Ord l) : ringX l = [] := by
  have hat : ∀ first, ringAt l first = none := fun first => ringGo_none h ho first 8 first [] (fun hw => ⟨hw, by omega⟩)
  have : ∀ n first, ringFrom l n first = [] := by
    intro n
    induction n with
    | zero => intro first; rfl
    | succ n ih => intro first; unfold ringFrom; rw [hat]; exact ih _
  exact this 8 0
theorem someCan {l : Ml} (h : RightM l) (ho : Ord l) : ∃ g : Nat, g < 8 ∧ waitsX l g < 0 := by
  apply Classical.byContradiction
  intro hno
  have hall : ∀ g : Nat, g < 8 → 0 ≤ waitsX l g := fun g hg => by
    rcases Int.lt_or_le (waitsX l g) 0 with h1 | h1
    · exact absurd ⟨g, hg, h1⟩ hno
    · exact h1
  have key : ∀ n : Nat, ∃ g : Nat, g < 8 ∧ (n : Int) ≤ waitsX l g := by
    intro n
    induction n with
    | zero => exact ⟨0, by omega, hall 0 (by omega)⟩
    | succ n ih =>
      obtain ⟨g, hg, hn⟩ := ih
      obtain ⟨j, hj, he, hm, h1, h8⟩ := h.owner2 (hall g hg)
      obtain ⟨o, ho2⟩ := Int.eq_ofNat_of_zero_le (show 0 ≤ (mAt l j).1 - 1 by omega)
      have ho8 : o < 8 := by omega
      obtain ⟨k2, hk2, hke2, hkm2, _, _⟩ := h.owner2 (hall o ho8)
      have := ho (o : Int) k2 j hk2 hj hkm2 (by omega)
      exact ⟨o, ho8, by omega⟩
  obtain ⟨g, hg, hn⟩ := key l.length
  rcases waitsX_cases l (g : Int) with ⟨h1, _⟩ | ⟨j, h1, h2, _⟩
  · have := hall g hg; omega
  · omega
/-- The greatest one that a goroutine has stands last. -/
theorem hasGo_last (g : Int) (l : Ml) : ∀ j : Nat, j < l.length → (mAt l j).1 = g + 1 → hasGo g 0 l ≠ [] ∧ (j : Int) ≤ (hasGo g 0 l).getD ((hasGo g 0 l).length - 1) 0 := by
  induction hn : l.length generalizing l with
  | zero => intro j hj; omega
  | succ n ih =>
    obtain ⟨l0, m, rfl⟩ : ∃ l0 m, l = l0 ++ [m] := by
      rcases List.eq_nil_or_concat l with rfl | ⟨l0, a, rfl⟩
      · simp at hn
      · exact ⟨l0, a, by simp⟩
    have hl0 : l0.length = n := by simp at hn; exact hn
    intro j hj hw
    rw [hasGo_snoc]
    by_cases hm : m.1 = g + 1
    · rw [if_pos hm]
      refine ⟨by simp, ?_⟩
      have : ((hasGo g 0 l0 ++ [(l0.length : Int)]).getD ((hasGo g 0 l0 ++ [(l0.length : Int)]).length - 1) 0) = (l0.length : Int) := by
        rw [List.length_append, List.getD_eq_getElem?_getD, List.getElem?_append_right (by simp)]
        simp
      rw [this]
      omega
    · rw [if_neg hm]
      have hjl : j < n := by
        rcases Nat.lt_or_ge j n with h | h
        · exact h
        · exfalso
          have : j = l0.length := by omega
          apply hm
          rw [← hw, this]
          simp [mAt]
      refine ih l0 hl0 j hjl ?_
      rw [← hw]
      unfold mAt
      rw [List.getD_eq_getElem?_getD, List.getD_eq_getElem?_getD, List.getElem?_append_left (by omega)]
/-- A deed keeps that. -/
theorem ord_ask {l : Ml} (h : RightM l) (ho : Ord l) {w g : Int} {l2 : Ml} {b : Bool} (ha : askX l w g = .ok (l2, b)) (hlast : ∀ j : Nat, j < l.length → (mAt l j).1 = g + 1 → (j : Int) < w) : Ord l2 := by
  unfold askX at ha
  split at ha
  · cases ha
  rename_i h1
  simp only [Bool.not_eq_true', Bool.not_eq_false, Bool.and_eq_true, decide_eq_true_eq] at h1
  obtain ⟨⟨h0, hw⟩, hg⟩ := h1
  have hk : w.toNat < l.length := by omega
  split at ha
  · cases ha
  rename_i h2
  have hnw : g ∉ flatQ l := waitsX_neg.1 (by omega)
  split at ha
  · injection ha with ha
    injection ha with ha _
    subst ha
    intro g2 k j hk2 hj2 hq hwho
    rw [List.length_set] at hk2 hj2
    rw [mAt_set hk] at hq hwho
    have hq2 : g2 ∈ (mAt l k).2 := by
      split at hq
      · rename_i e; rw [e]; exact hq
      · exact hq
    split at hwho
    · exfalso
      have e : g2 = g := by have hwho : g + 1 = g2 + 1 := hwho; omega
      subst e
      exact hnw (mem_flatQ.2 ⟨_, mAt_mem hk2, hq2⟩)
    · exact ho g2 k j hk2 hj2 hq2 hwho
  · injection ha with ha
    injection ha with ha _
    subst ha
    intro g2 k j hk2 hj2 hq hwho
    rw [List.length_set] at hk2 hj2
    rw [mAt_set hk] at hq hwho
    have hwho2 : (mAt l j).1 = g2 + 1 := by
      split at hwho
      · rename_i e; rw [e]; exact hwho
      · exact hwho
    split at hq
    · rename_i e
      subst e
      rcases List.mem_append.1 hq with hq | hq
      · exact ho g2 _ j hk2 hj2 hq hwho2
      · rw [List.mem_singleton] at hq
        subst hq
        have := hlast j hj2 hwho2
        omega
    · exact ho g2 k j hk2 hj2 hq hwho2
theorem ord_leave {l : Ml} (h : RightM l) (ho : Ord l) {w g : Int} {l2 : Ml} {n : Int} (ha : leaveX l w g = .ok (l2, n)) : Ord l2 := by
  unfold leaveX at ha
  split at ha
  · cases ha
  rename_i h1
  simp only [Bool.not_eq_true', Bool.not_eq_false, Bool.and_eq_true, decide_eq_true_eq] at h1
  obtain ⟨⟨h0, hw⟩, hg⟩ := h1
  have hk : w.toNat < l.length := by omega
  split at ha
  · cases ha
  have hm := h.all _ (mAt_mem hk)
  split at ha
  · injection ha with ha
    injection ha with ha _
    subst ha
    intro g2 k j hk2 hj2 hq hwho
    rw [List.length_set] at hk2 hj2
    rw [mAt_set hk] at hq hwho
    split at hq
    · simp at hq
    · split at hwho
      · exfalso
        have := (h.all _ (mAt_mem hk2)).goers g2 hq
        have hwho : (0 : Int) = g2 + 1 := hwho
        omega
      · exact ho g2 k j hk2 hj2 hq hwho
  · rename_i x q hq0
    injection ha with ha
    injection ha with ha _
    subst ha
    intro g2 k j hk2 hj2 hq hwho
    rw [List.length_set] at hk2 hj2
    rw [mAt_set hk] at hq hwho
    have hq2 : g2 ∈ (mAt l k).2 := by
      split at hq
      · rename_i e; rw [e, hq0]; exact List.mem_cons_of_mem _ hq
      · exact hq
    split at hwho
    · exfalso
      have e : g2 = x := by have hwho : x + 1 = g2 + 1 := hwho; omega
      subst e
      have hx : g2 ∈ (mAt l w.toNat).2 := by rw [hq0]; simp
      have hkw := h.once hk2 hk hq2 hx
      subst hkw
      rw [if_pos rfl] at hq
      obtain ⟨A, C, e1, _⟩ := flat_set hk (0, [])
      have hn := h.nodup
      rw [e1, hq0] at hn
      exact (List.nodup_cons.1 (List.nodup_append.1 (List.nodup_append.1 hn).2.1).1).1 hq
    · exact ho g2 k j hk2 hj2 hq2 hwho
theorem ord_play {l : Ml} (h : RightM l) (ho : Ord l) {d : Dd} {l2 : Ml} {n m : Nat} (hp : playX l [d] n = .ok (l2, m)) (hlast : d.1 = false → ∀ j : Nat, j < l.length → (mAt l j).1 = d.2.1 + 1 → (j : Int) < d.2.2) : Ord l2 := by
  unfold playX at hp
  split at hp
  · unfold playX at hp; injection hp with hp; injection hp with hp _; subst hp; exact ho
  · split at hp
    · rename_i l3 hd
      unfold playX at hp
      injection hp with hp
      injection hp with hp _
      subst hp
      unfold doX at hd
      split at hd
      · cases hl : leaveX l d.2.2 d.2.1 with
        | error e => rw [hl] at hd; cases hd
        | ok x => rw [hl] at hd; injection hd with hd; subst hd; exact ord_leave h ho hl
      · rename_i hf
        cases hl : askX l d.2.2 d.2.1 with
        | error e => rw [hl] at hd; cases hd
        | ok x => rw [hl] at hd; injection hd with hd; subst hd; exact ord_ask h ho hl (hlast (by simpa using hf))
    · cases hp
theorem ord_new (n : Nat) : Ord (List.replicate n (0, [])) := by
  intro g k j hk hj hq
  have : mAt (List.replicate n ((0 : Int), ([] : List Int))) k = (0, []) := by
    rw [mAt_get hk]; simp
  rw [this] at hq
  simp at hq
theorem playX_err1 {l : Ml} {d : Dd} {n : Nat} {e : Int} (hd : goerB d.2.1 = true) (hw : 0 ≤ d.2.2 ∧ d.2.2 < l.length) (hp : playX l [d] n = .error e) : e = 4 ∨ e = 151 := by
  unfold playX at hp
  split at hp
  · unfold playX at hp; cases hp
  · split at hp
    · unfold playX at hp; cases hp
    · rename_i e2 hdo
      injection hp with hp
      subst hp
      unfold doX at hdo
      have hb : (!(decide (0 ≤ d.2.2) && decide (d.2.2 < l.length) && goerB d.2.1)) = false := by
        rw [hd, decide_eq_true hw.1, decide_eq_true hw.2]; rfl
      split at hdo
      · cases hl : leaveX l d.2.2 d.2.1 with
        | ok x => rw [hl] at hdo; cases hdo
        | error e3 =>
          rw [hl] at hdo
          injection hdo with hdo
          subst hdo
          unfold leaveX at hl
          rw [hb] at hl
          simp only [Bool.false_eq_true, if_false] at hl
          split at hl
          · injection hl with hl; exact .inl hl.symm
          · split at hl <;> cases hl
      · cases hl : askX l d.2.2 d.2.1 with
        | ok x => rw [hl] at hdo; cases hdo
        | error e3 =>
          rw [hl] at hdo
          injection hdo with hdo
          subst hdo
          unfold askX at hl
          rw [hb] at hl
          simp only [Bool.false_eq_true, if_false] at hl
          split at hl
          · injection hl with hl; exact .inr hl.symm
          · split at hl <;> cases hl
end Go.Proofs.Ytlelpnahillioaa
