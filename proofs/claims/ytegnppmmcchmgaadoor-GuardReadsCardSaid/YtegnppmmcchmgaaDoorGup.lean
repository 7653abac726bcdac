/-
  Sections, in plain Lean: whether they are right, where the counter counts, what it is at a step, which steps are clear.
-/
import Derived.Test.YtegnppmmcchmgaaDoorGua
set_option linter.unusedSimpArgs false
set_option linter.unusedVariables false
namespace Go.Proofs.YtegnppmmcchmgaaDoor
open Go Go.RowKit

abbrev Sec := Int × Int
/-- The last step. -/
abbrev MAX : Int := 1073741824
/-- Is this section wrong, behind a? lst: it is the last. -/
def badS (lst : Bool) (a : Int) (s : Sec) : Bool := (decide (s.1 ≤ a) || decide (MAX < s.1)) || (!((s.2 == 0) && lst) && (decide (s.2 ≤ s.1) || decide (MAX < s.2)))
/-- Are these right, all behind a? -/
def chk : Int → List Sec → Bool
  | _, [] => true
  | a, s :: r => !badS r.isEmpty a s && chk s.2 r
def stepB (n : Int) : Bool := decide (0 ≤ n) && decide (n ≤ MAX)
def lookB (a b : Int) : Bool := stepB a && stepB b && decide (a ≤ b)
/-- Where the counter counts. -/
def edgS (s : Sec) : List Int := if s.2 = 0 then [s.1] else [s.1, s.2]
def edg (l : List Sec) : List Int := l.flatMap edgS
/-- The counter at a step. -/
def cntS (s : Sec) (at_ : Int) : Nat := (if s.1 ≤ at_ then 1 else 0) + (if s.2 ≠ 0 ∧ s.2 ≤ at_ then 1 else 0)
def cnt (l : List Sec) (at_ : Int) : Nat := (l.map fun s => cntS s at_).sum
/-- As the program counts: up to the first one that is beyond. -/
def cntE (l : List Int) (at_ : Int) : Nat := (l.takeWhile fun e => decide (e ≤ at_)).length
/-- The first clear step from one on. -/
def nxt : List Sec → Int → Int
  | [], at_ => at_
  | s :: r, at_ => if s.1 ≤ at_ then (if s.2 = 0 then MAX + 1 else if at_ < s.2 then nxt r s.2 else nxt r at_) else nxt r at_
/-- Is a section open at a step? -/
def opnS (s : Sec) (n : Int) : Bool := decide (s.1 ≤ n) && (s.2 == 0 || decide (n < s.2))
def opn (l : List Sec) (n : Int) : Bool := l.any fun s => opnS s n
/-- Are all steps of a look clear? -/
def clr (l : List Sec) (a b : Int) : Bool := l.all fun s => (s.2 != 0 && decide (s.2 ≤ a)) || decide (b < s.1)
def spn (l : List Sec) (a b : Int) : Int × Int :=
  if b < nxt l a then (0, 0) else (nxt l a, match (edg l).find? (fun e => decide (nxt l a < e)) with | some e => min b (e - 1) | none => b)
def clearB (l : List Sec) (a b : Int) : Bool := chk 0 l && (lookB a b && (decide (nxt l a = a) && decide ((spn l a b).2 = b)))

/-- What a section that is right says. -/
theorem badS_out {lst : Bool} {a : Int} {s : Sec} (h : badS lst a s = false) : a < s.1 ∧ s.1 ≤ MAX ∧ ((s.2 = 0 ∧ lst = true) ∨ (s.1 < s.2 ∧ s.2 ≤ MAX)) := by
  unfold badS at h
  simp only [Bool.or_eq_false_iff, decide_eq_false_iff_not, Bool.and_eq_false_iff, Bool.not_eq_false', Bool.and_eq_true, beq_iff_eq] at h
  obtain ⟨⟨h1, h2⟩, h3⟩ := h
  refine ⟨by omega, by omega, ?_⟩
  rcases h3 with h3 | h3
  · exact .inl h3
  · exact .inr (by omega)
theorem chk_cons {a : Int} {s : Sec} {r : List Sec} (ha0 : 0 ≤ a) (h : chk a (s :: r) = true) : 0 ≤ s.2 ∧ a < s.1 ∧ s.1 ≤ MAX ∧ ((s.2 = 0 ∧ r = []) ∨ (s.1 < s.2 ∧ s.2 ≤ MAX)) ∧ chk s.2 r = true := by
  unfold chk at h
  rw [Bool.and_eq_true] at h
  obtain ⟨h1, h2⟩ := h
  obtain ⟨a1, a2, a3⟩ := badS_out (by simpa using h1)
  exact ⟨by omega, a1, a2, a3.imp (fun h => ⟨h.1, by simpa using h.2⟩) id, h2⟩
theorem chk_gt {a : Int} {l : List Sec} (ha0 : 0 ≤ a) (h : chk a l = true) : ∀ s ∈ l, a < s.1 := by
  induction l generalizing a with
  | nil => intro s hs; cases hs
  | cons t r ih =>
    obtain ⟨h0, h1, h2, h3, h4⟩ := chk_cons ha0 h
    intro s hs
    rcases List.mem_cons.1 hs with rfl | hs
    · exact h1
    · rcases h3 with ⟨_, rfl⟩ | h3
      · cases hs
      · have := ih h0 h4 s hs; omega
/-- A step in a section: the first clear one from it on is the one from its end on. -/
theorem nxt_jump {a : Int} {l : List Sec} (ha0 : 0 ≤ a) (h : chk a l = true) {s : Sec} (hs : s ∈ l) {at_ : Int} (h1 : s.1 ≤ at_) (h2 : at_ < s.2) : nxt l at_ = nxt l s.2 := by
  induction l generalizing a with
  | nil => cases hs
  | cons t r ih =>
    obtain ⟨c0, c1, c2, c3, c4⟩ := chk_cons ha0 h
    rcases List.mem_cons.1 hs with rfl | hs
    · have hz : ¬ s.2 = 0 := by rcases c3 with ⟨hz, _⟩ | c3 <;> omega
      simp only [nxt]
      rw [if_pos h1, if_neg hz, if_pos h2, if_pos (by omega), if_neg hz, if_neg (by omega)]
    · rcases c3 with ⟨_, rfl⟩ | c3
      · cases hs
      · have hgt := chk_gt c0 c4 s hs
        have hz : ¬ t.2 = 0 := by omega
        simp only [nxt]
        rw [if_pos (by omega), if_neg hz, if_neg (by omega), if_pos (by omega), if_neg hz, if_neg (by omega)]
        exact ih c0 c4 hs
theorem nxt_never {a : Int} {l : List Sec} (ha0 : 0 ≤ a) (h : chk a l = true) {s : Sec} (hs : s ∈ l) {at_ : Int} (h1 : s.1 ≤ at_) (h2 : s.2 = 0) : nxt l at_ = MAX + 1 := by
  induction l generalizing a with
  | nil => cases hs
  | cons t r ih =>
    obtain ⟨c0, c1, c2, c3, c4⟩ := chk_cons ha0 h
    rcases List.mem_cons.1 hs with rfl | hs
    · simp only [nxt]
      rw [if_pos h1, if_pos h2]
    · rcases c3 with ⟨_, rfl⟩ | c3
      · cases hs
      · have hgt := chk_gt c0 c4 s hs
        simp only [nxt]
        rw [if_pos (by omega), if_neg (by omega), if_neg (by omega)]
        exact ih c0 c4 hs
theorem nxt_clear {l : List Sec} {at_ : Int} (h : ∀ s ∈ l, opnS s at_ = false) : nxt l at_ = at_ := by
  induction l with
  | nil => rfl
  | cons t r ih =>
    have ht := h t (by simp)
    unfold opnS at ht
    simp only [Bool.and_eq_false_iff, decide_eq_false_iff_not, Bool.or_eq_false_iff, beq_eq_false_iff_ne] at ht
    have hr := ih (fun s hs => h s (by simp [hs]))
    unfold nxt
    by_cases h1 : t.1 ≤ at_
    · rcases ht with ht | ht
      · exact absurd h1 ht
      · rw [if_pos h1, if_neg ht.1, if_neg ht.2]; exact hr
    · rw [if_neg h1]; exact hr
/-- All that comes behind a. -/
theorem edg_gt {a : Int} {l : List Sec} (ha0 : 0 ≤ a) (h : chk a l = true) : ∀ e ∈ edg l, a < e := by
  induction l generalizing a with
  | nil => intro e he; cases he
  | cons t r ih =>
    obtain ⟨c0, c1, c2, c3, c4⟩ := chk_cons ha0 h
    intro e he
    unfold edg at he
    rw [List.flatMap_cons, List.mem_append] at he
    rcases he with he | he
    · unfold edgS at he
      split at he
      · simp at he; omega
      · rcases c3 with c3 | c3
        · omega
        · simp at he; rcases he with rfl | rfl <;> omega
    · rcases c3 with ⟨_, rfl⟩ | c3
      · cases he
      · have := ih c0 c4 e he; omega
theorem edg_cons (s : Sec) (r : List Sec) : edg (s :: r) = edgS s ++ edg r := by simp [edg]
theorem edg_len (l : List Sec) : (edg l).length ≤ 2 * l.length := by
  induction l with
  | nil => simp [edg]
  | cons s r ih => rw [edg_cons, List.length_append, List.length_cons]; unfold edgS; split <;> simp <;> omega
/-- Nothing has begun. -/
theorem cnt_zero {a : Int} {l : List Sec} (ha0 : 0 ≤ a) (h : chk a l = true) {at_ : Int} (ha : at_ ≤ a) : cnt l at_ = 0 := by
  induction l generalizing a with
  | nil => rfl
  | cons t r ih =>
    obtain ⟨c0, c1, c2, c3, c4⟩ := chk_cons ha0 h
    unfold cnt
    rw [List.map_cons, List.sum_cons]
    have h1 : cntS t at_ = 0 := by
      unfold cntS
      rw [if_neg (by omega), if_neg (by omega)]
    rcases c3 with ⟨_, rfl⟩ | c3
    · simp [h1]
    · have h2 := ih c0 c4 (by omega)
      unfold cnt at h2
      rw [h1, h2]
theorem cntE_zero {l : List Int} {at_ : Int} (h : ∀ e ∈ l, at_ < e) : cntE l at_ = 0 := by
  cases l with
  | nil => rfl
  | cons e r => unfold cntE; rw [List.takeWhile_cons, if_neg (by have := h e (by simp); simp; omega)]; rfl
theorem cntE_cons (e : Int) (l : List Int) (at_ : Int) : cntE (e :: l) at_ = if e ≤ at_ then cntE l at_ + 1 else 0 := by
  unfold cntE
  rw [List.takeWhile_cons]
  by_cases h : e ≤ at_ <;> simp [h]
theorem cnt_cons (s : Sec) (r : List Sec) (at_ : Int) : cnt (s :: r) at_ = cntS s at_ + cnt r at_ := by simp [cnt]
theorem cntE_right {a : Int} {l : List Sec} (ha0 : 0 ≤ a) (h : chk a l = true) (at_ : Int) : cntE (edg l) at_ = cnt l at_ := by
  induction l generalizing a with
  | nil => rfl
  | cons t r ih =>
    obtain ⟨c0, c1, c2, c3, c4⟩ := chk_cons ha0 h
    rw [edg_cons, cnt_cons]
    unfold edgS cntS
    rcases c3 with ⟨hz, rfl⟩ | c3
    · rw [if_pos hz]
      simp only [edg, cnt, List.flatMap_nil, List.append_nil, List.map_nil, List.sum_nil]
      rw [cntE_cons, if_neg (c := t.2 ≠ 0 ∧ _) (by omega)]
      simp [cntE]
    · have ih := ih c0 c4
      rw [if_neg (by omega), List.cons_append, List.cons_append, List.nil_append, cntE_cons, cntE_cons, ih]
      by_cases h1 : t.1 ≤ at_
      · by_cases h2 : t.2 ≤ at_
        · rw [if_pos h1, if_pos h2, if_pos h1, if_pos ⟨by omega, h2⟩]; omega
        · rw [if_pos h1, if_neg h2, if_pos h1, if_neg (by omega), cnt_zero c0 c4 (by omega)]
      · rw [if_neg h1, if_neg h1, if_neg (by omega), cnt_zero c0 c4 (by omega)]
theorem cnt_le (l : List Sec) (at_ : Int) : cnt l at_ ≤ 2 * l.length := by
  induction l with
  | nil => simp [cnt]
  | cons s r ih => rw [cnt_cons, List.length_cons]; unfold cntS; split <;> split <;> omega
theorem cnt_mono (l : List Sec) {a b : Int} (h : a ≤ b) : cnt l a ≤ cnt l b := by
  induction l with
  | nil => simp [cnt]
  | cons s r ih =>
    rw [cnt_cons, cnt_cons]
    have : cntS s a ≤ cntS s b := by unfold cntS; (repeat' split) <;> omega
    omega
end Go.Proofs.YtegnppmmcchmgaaDoor
