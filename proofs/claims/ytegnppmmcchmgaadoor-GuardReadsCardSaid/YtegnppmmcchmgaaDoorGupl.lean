/-
  Sections, in plain Lean: a look is good just if its steps are clear.
-/
import Derived.Test.YtegnppmmcchmgaaDoorGuk
set_option linter.unusedSimpArgs false
set_option linter.unusedVariables false
namespace Go.Proofs.YtegnppmmcchmgaaDoor
open Go Go.RowKit

theorem chk_sec {a : Int} {l : List Sec} (ha0 : 0 ≤ a) (h : chk a l = true) : ∀ s ∈ l, a < s.1 ∧ s.1 ≤ MAX ∧ (s.2 = 0 ∨ (s.1 < s.2 ∧ s.2 ≤ MAX)) := by
  induction l generalizing a with
  | nil => intro s hs; cases hs
  | cons t r ih =>
    obtain ⟨h0, h1, h2, h3, h4⟩ := chk_cons ha0 h
    intro s hs
    rcases List.mem_cons.1 hs with rfl | hs
    · exact ⟨h1, h2, h3.imp And.left id⟩
    · rcases h3 with ⟨_, rfl⟩ | h3
      · cases hs
      · have := ih h0 h4 s hs
        exact ⟨by omega, this.2⟩
theorem edg_sorted {a : Int} {l : List Sec} (ha0 : 0 ≤ a) (h : chk a l = true) : (edg l).Pairwise (· < ·) := by
  induction l generalizing a with
  | nil => exact List.Pairwise.nil
  | cons t r ih =>
    obtain ⟨c0, c1, c2, c3, c4⟩ := chk_cons ha0 h
    rw [edg_cons]
    unfold edgS
    rcases c3 with ⟨hz, rfl⟩ | c3
    · rw [if_pos hz]; simp [edg]
    · rw [if_neg (by omega)]
      have hg := edg_gt c0 c4
      simp only [List.cons_append, List.nil_append, List.pairwise_cons, List.mem_cons]
      exact ⟨fun e he => by rcases he with rfl | he; exact c3.1; have := hg e he; omega, hg, ih c0 c4⟩
theorem find_least {L : List Int} (hs : L.Pairwise (· < ·)) {a e : Int} (h : L.find? (fun e => decide (a < e)) = some e) : ∀ e' ∈ L, a < e' → e ≤ e' := by
  induction L with
  | nil => cases h
  | cons x r ih =>
    rw [List.pairwise_cons] at hs
    intro e' he' ha
    rw [List.find?_cons] at h
    by_cases hx : a < x
    · simp [hx] at h
      subst h
      rcases List.mem_cons.1 he' with rfl | he'
      · exact Int.le_refl _
      · have := hs.1 e' he'; omega
    · simp [hx] at h
      rcases List.mem_cons.1 he' with rfl | he'
      · exact absurd ha hx
      · exact ih hs.2 (by simpa using h) e' he' ha
theorem nxt_open {l : List Sec} (h : chk 0 l = true) {a : Int} (ha : a ≤ MAX) : nxt l a = a ↔ ∀ s ∈ l, opnS s a = false := by
  refine ⟨fun hn s hs => ?_, nxt_clear⟩
  rw [Bool.eq_false_iff]
  intro ho
  unfold opnS at ho
  simp only [Bool.and_eq_true, decide_eq_true_eq, Bool.or_eq_true, beq_iff_eq] at ho
  rcases ho.2 with hz | hz
  · have := nxt_never (Int.le_refl 0) h hs ho.1 hz
    omega
  · have h1 := nxt_jump (Int.le_refl 0) h hs ho.1 hz
    have h2 := chk_le (Int.le_refl 0) h
    have h3 := nxt_ge h2 (h2 s hs)
    omega
theorem mem_edg {l : List Sec} {e : Int} : e ∈ edg l ↔ ∃ s ∈ l, e ∈ edgS s := by unfold edg; rw [List.mem_flatMap]
/-- Clear: no section is open at its first step, and no edge comes behind it. -/
theorem clr_iff {l : List Sec} (h : chk 0 l = true) {a b : Int} (hab : a ≤ b) : clr l a b = true ↔ (∀ s ∈ l, opnS s a = false) ∧ ∀ e ∈ edg l, a < e → b < e := by
  have hs := chk_sec (Int.le_refl 0) h
  unfold clr
  rw [List.all_eq_true]
  constructor
  · intro hc
    refine ⟨fun s hm => ?_, fun e he hae => ?_⟩
    · have h1 := hc s hm
      have h2 := hs s hm
      rw [Bool.eq_false_iff]
      intro ho
      unfold opnS at ho
      simp only [Bool.and_eq_true, Bool.or_eq_true, decide_eq_true_eq, beq_iff_eq, bne_iff_ne, ne_eq] at h1 ho
      omega
    · obtain ⟨s, hm, hes⟩ := mem_edg.1 he
      have h1 := hc s hm
      have h2 := hs s hm
      simp only [Bool.and_eq_true, Bool.or_eq_true, decide_eq_true_eq, bne_iff_ne, ne_eq] at h1
      unfold edgS at hes
      split at hes
      · simp at hes; omega
      · simp at hes; rcases hes with rfl | rfl <;> omega
  · rintro ⟨ho, he⟩ s hm
    have h1 := ho s hm
    have h2 := he s.1 (mem_edg.2 ⟨s, hm, by unfold edgS; split <;> simp⟩)
    unfold opnS at h1
    simp only [Bool.and_eq_false_iff, Bool.or_eq_false_iff, decide_eq_false_iff_not, beq_eq_false_iff_ne, ne_eq] at h1
    simp only [Bool.and_eq_true, Bool.or_eq_true, decide_eq_true_eq, bne_iff_ne, ne_eq]
    omega
theorem lookB_out {a b : Int} (h : lookB a b = true) : 0 ≤ a ∧ a ≤ MAX ∧ 0 ≤ b ∧ b ≤ MAX ∧ a ≤ b := by
  unfold lookB stepB at h
  simp only [Bool.and_eq_true, decide_eq_true_eq] at h
  exact ⟨h.1.1.1, h.1.1.2, h.1.2.1, h.1.2.2, h.2⟩
theorem clearB_clr {l : List Sec} (h : chk 0 l = true) {a b : Int} (hl : lookB a b = true) : clearB l a b = clr l a b := by
  obtain ⟨h0, h1, _, h2, h3⟩ := lookB_out hl
  unfold clearB
  rw [h, hl, Bool.true_and, Bool.true_and, Bool.eq_iff_iff, clr_iff h h3, ← nxt_open h h1]
  rw [Bool.and_eq_true, decide_eq_true_eq, decide_eq_true_eq]
  refine and_congr_right fun hn => ?_
  unfold spn
  rw [if_neg (by omega), hn]
  dsimp only
  have hso := edg_sorted (Int.le_refl 0) h
  constructor
  · intro hm e he hae
    split at hm
    · rename_i x hx
      have := find_least hso hx e he hae
      omega
    · rename_i hx
      rw [List.find?_eq_none] at hx
      have := hx e he
      simp at this
      omega
  · intro he
    split
    · rename_i x hx
      have h1 := List.find?_some hx
      have h2 := he x (List.mem_of_find?_eq_some hx) (by simpa using h1)
      omega
    · rfl
theorem clr_cons (s : Sec) (r : List Sec) (a b : Int) : clr (s :: r) a b = (((s.2 != 0 && decide (s.2 ≤ a)) || decide (b < s.1)) && clr r a b) := by simp [clr]
theorem clr_ahead {z : Int} {l : List Sec} (hz0 : 0 ≤ z) (h : chk z l = true) {a b : Int} (hb : b ≤ z) : clr l a b = true := by
  have hs := chk_sec hz0 h
  unfold clr
  rw [List.all_eq_true]
  intro s hm
  have := hs s hm
  simp only [Bool.or_eq_true, decide_eq_true_eq]
  right; omega
/-- The counter is even, and the same: clear. -/
theorem clr_cnt {z : Int} {l : List Sec} (hz0 : 0 ≤ z) (h : chk z l = true) {a b : Int} (hab : a ≤ b) : clr l a b = true ↔ cnt l a % 2 = 0 ∧ cnt l a = cnt l b := by
  induction l generalizing z with
  | nil => simp [clr, cnt]
  | cons s r ih =>
    obtain ⟨c0, c1, c2, c3, c4⟩ := chk_cons hz0 h
    rw [clr_cons, cnt_cons, cnt_cons, Bool.and_eq_true]
    simp only [Bool.and_eq_true, Bool.or_eq_true, decide_eq_true_eq, bne_iff_ne, ne_eq]
    unfold cntS
    rcases c3 with ⟨hz, rfl⟩ | c3
    · simp only [clr, cnt, hz, List.all_nil, List.map_nil, List.sum_nil, and_true, ne_eq, not_true_eq_false, false_and, if_false, false_or, Nat.add_zero]
      (repeat' split) <;> omega
    · by_cases h1 : s.1 ≤ a
      · by_cases h2 : s.2 ≤ a
        · have := ih c0 c4
          rw [if_pos h1, if_pos ⟨by omega, h2⟩, if_pos (by omega), if_pos ⟨by omega, by omega⟩]
          constructor
          · rintro ⟨_, hr⟩
            have := this.1 hr
            omega
          · intro hr
            exact ⟨.inl ⟨by omega, h2⟩, this.2 (by omega)⟩
        · have hza := cnt_zero c0 c4 (at_ := a) (by omega)
          rw [if_pos h1, if_neg (by omega), hza]
          constructor
          · rintro ⟨hs, _⟩; omega
          · intro hr; omega
      · have hza := cnt_zero c0 c4 (at_ := a) (by omega)
        rw [if_neg h1, if_neg (by omega), hza]
        by_cases hb : b < s.1
        · have hzb := cnt_zero c0 c4 (at_ := b) (by omega)
          have hcl := clr_ahead c0 c4 (a := a) (b := b) (by omega)
          rw [if_neg (by omega), if_neg (by omega), hzb]
          exact ⟨fun _ => ⟨rfl, rfl⟩, fun _ => ⟨.inr hb, hcl⟩⟩
        · rw [if_pos (c := s.1 ≤ b) (by omega)]
          constructor
          · rintro ⟨hs, _⟩; omega
          · rintro ⟨_, hr⟩; omega
/-- THE LAW: a look is good just if its steps are clear. -/
theorem tell_law {l : List Sec} (h : chk 0 l = true) {a b : Int} (hl : lookB a b = true) : goodB (cnt l a : Int) (cnt l b : Int) = clearB l a b := by
  rw [clearB_clr h hl, Bool.eq_iff_iff, clr_cnt (Int.le_refl 0) h (lookB_out hl).2.2.2.2]
  unfold goodB oddB
  simp only [Bool.and_eq_true, Bool.not_eq_true', decide_eq_false_iff_not, decide_eq_true_eq]
  omega
end Go.Proofs.YtegnppmmcchmgaaDoor
