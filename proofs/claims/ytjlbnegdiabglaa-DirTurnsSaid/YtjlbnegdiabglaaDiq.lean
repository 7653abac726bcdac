/-
  The reference's spans, plainly: they are the runs, if these may be tables'.
-/
import Derived.Test.YtjlbnegdiabglaaDip
set_option linter.unusedSimpArgs false
set_option linter.unusedVariables false
namespace Go.Proofs.Ytjlbnegdiabglaa
open Go Go.RowKit

def condB (es : List En) (k q : Nat) : Bool := decide (k % 2 ^ q = 0) && decide (k + 2 ^ q ≤ es.length) && spannedB es k (2 ^ q)
/-- The greatest power that serves, of those below n; -1: none. -/
def bestK (es : List En) (k : Nat) : Nat → Int
  | 0 => -1
  | n + 1 => if condB es k n then (n : Int) else bestK es k n
theorem bestK_none {es : List En} {k : Nat} : ∀ n, (∀ q, q < n → condB es k q = false) → bestK es k n = -1
  | 0, _ => rfl
  | n + 1, h => by
    unfold bestK
    rw [if_neg (by rw [h n (by omega)]; exact Bool.false_ne_true)]
    exact bestK_none n (fun q hq => h q (by omega))
theorem bestK_some {es : List En} {k q : Nat} : ∀ n, q < n → condB es k q = true → (∀ p, p < n → condB es k p = true → p = q) → bestK es k n = (q : Int)
  | 0, h, _, _ => by omega
  | n + 1, h, hc, hu => by
    unfold bestK
    by_cases hn : condB es k n = true
    · rw [if_pos hn, hu n (by omega) hn]
    · rw [if_neg hn]
      refine bestK_some n ?_ hc (fun p hp => hu p (by omega))
      rcases Nat.lt_or_ge q n with h1 | h1
      · exact h1
      · have : q = n := by omega
        subst this
        exact absurd hc hn
theorem mem_slabs (es : List En) : ∀ (f k : Nat), es.length - k ≤ f → k ≤ es.length → ∀ x, x ∈ slabsOf (runsAt k (es.drop k)) ↔ ∃ j, k ≤ j ∧ j < es.length ∧ (es.getD j (0, 0)).1 = x
  | 0, k, hf, hk, x => by
    rw [List.drop_eq_nil_of_le (by omega), runsAt_nil]
    simp only [slabsOf, List.map_nil, List.not_mem_nil, false_iff]
    rintro ⟨j, h1, h2, _⟩
    omega
  | f + 1, k, hf, hk, x => by
    rcases Nat.lt_or_ge k es.length with hlt | hge
    · rw [runsAt_drop es hlt]
      have hfit : k + lenAt es k ≤ es.length := run_fits es hlt
      have ih := mem_slabs es f (k + lenAt es k) (by unfold lenAt; omega) hfit x
      unfold lenAt at ih hfit
      simp only [slabsOf, List.map_cons, List.mem_cons] at ih ⊢
      rw [ih]
      constructor
      · rintro (h | ⟨j, h1, h2, h3⟩)
        · exact ⟨k, Nat.le_refl _, hlt, h.symm⟩
        · exact ⟨j, by omega, h2, h3⟩
      · rintro ⟨j, h1, h2, h3⟩
        rcases Nat.lt_or_ge j (k + (lead (es.getD k (0, 0)) (es.drop (k + 1)) + 1)) with h4 | h4
        · left; rw [← h3, run_same es hlt h1 h4]
        · exact .inr ⟨j, h4, h2, h3⟩
    · rw [List.drop_eq_nil_of_le hge, runsAt_nil]
      simp only [slabsOf, List.map_nil, List.not_mem_nil, false_iff]
      rintro ⟨j, h1, h2, _⟩
      omega
/-- May the run at a place be a table's, and stands its slab nowhere behind it? -/
def headOk (es : List En) (k : Nat) : Prop := (lenAt es k &&& (lenAt es k - 1) = 0 ∧ k % lenAt es k = 0) ∧ ∀ j, k + lenAt es k ≤ j → j < es.length → (es.getD j (0, 0)).1 ≠ (es.getD k (0, 0)).1
theorem best_run {es : List En} {k dep : Nat} (hd : es.length = 2 ^ dep) (h5 : dep ≤ 5) (hk : k < es.length) (hb : ∀ i j, i < k → k ≤ j → j < es.length → (es.getD i (0, 0)).1 ≠ (es.getD j (0, 0)).1) :
    (headOk es k → bestK es k (dep + 1) = (Nat.log2 (lenAt es k) : Nat) ∧ 2 ^ Nat.log2 (lenAt es k) = lenAt es k) ∧ (¬ headOk es k → bestK es k (dep + 1) = -1) := by
  have hfit : k + lenAt es k ≤ es.length := run_fits es hk
  have hpos : 1 ≤ lenAt es k := by unfold lenAt; omega
  have h32 : es.length ≤ 32 := by
    rw [hd]
    exact Nat.le_trans (Nat.pow_le_pow_right (by omega) h5) (by decide)
  have hcond : ∀ q, condB es k q = true ↔ (k % 2 ^ q = 0 ∧ 2 ^ q = lenAt es k) ∧ ∀ j, k + lenAt es k ≤ j → j < es.length → (es.getD j (0, 0)).1 ≠ (es.getD k (0, 0)).1 := fun q => by
    unfold condB
    rw [Bool.and_eq_true, Bool.and_eq_true, decide_eq_true_eq, decide_eq_true_eq]
    constructor
    · rintro ⟨⟨h1, h2⟩, h3⟩
      have := (spanned_run hk hb (Nat.one_le_two_pow) h2).1 h3
      exact ⟨⟨h1, this.1⟩, this.2⟩
    · rintro ⟨⟨h1, h2⟩, h3⟩
      refine ⟨⟨h1, by rw [h2]; exact hfit⟩, (spanned_run hk hb (Nat.one_le_two_pow) (by rw [h2]; exact hfit)).2 ⟨h2, h3⟩⟩
  refine ⟨fun h => ?_, fun h => ?_⟩
  · obtain ⟨⟨h1, h2⟩, h3⟩ := h
    have hp := (pow_small32 hpos (by omega)).1 h1
    have hq : Nat.log2 (lenAt es k) < dep + 1 := by
      rcases Nat.lt_or_ge (Nat.log2 (lenAt es k)) (dep + 1) with h | h
      · exact h
      · exfalso
        have h4 : 2 ^ (dep + 1) ≤ 2 ^ Nat.log2 (lenAt es k) := Nat.pow_le_pow_right (by omega) h
        rw [hp, Nat.pow_succ] at h4
        have h6 : 1 ≤ 2 ^ dep := Nat.one_le_two_pow
        omega
    refine ⟨bestK_some (dep + 1) hq ((hcond _).2 ⟨⟨by rw [hp]; exact h2, hp⟩, h3⟩) (fun p hp2 hc => ?_), hp⟩
    have h4 := ((hcond p).1 hc).1.2
    rw [← hp] at h4
    exact Nat.pow_right_inj (by decide : 1 < 2) |>.1 h4
  · refine bestK_none _ (fun q _ => ?_)
    rw [← Bool.not_eq_true, hcond]
    rintro ⟨⟨h1, h2⟩, h3⟩
    refine h ⟨⟨?_, by rw [← h2]; exact h1⟩, h3⟩
    rw [pow_small32 hpos (by omega), ← h2, Nat.log2_two_pow]
/-- The reference's spans from a place on; none: it is no directory of tables. -/
def refGo (dep : Nat) (es : List En) : Nat → Nat → Option (List Rn)
  | 0, _ => some []
  | f + 1, k => if k < es.length then (if bestK es k (dep + 1) < 0 then none else (refGo dep es f (k + 2 ^ (bestK es k (dep + 1)).toNat)).map (fun l => ⟨k, 2 ^ (bestK es k (dep + 1)).toNat, es.getD k (0, 0)⟩ :: l)) else some []
def runsOk (rs : List Rn) : Bool := rs.all okRun && decide ((slabsOf rs).Nodup)
theorem ref_runs {es : List En} {dep : Nat} (hd : es.length = 2 ^ dep) (h5 : dep ≤ 5) : ∀ (f k : Nat), es.length - k ≤ f → k ≤ es.length → (∀ i j, i < k → k ≤ j → j < es.length → (es.getD i (0, 0)).1 ≠ (es.getD j (0, 0)).1) →
    refGo dep es f k = if runsOk (runsAt k (es.drop k)) then some (runsAt k (es.drop k)) else none
  | 0, k, hf, hk, _ => by
    rw [List.drop_eq_nil_of_le (by omega), runsAt_nil]; rfl
  | f + 1, k, hf, hk, hb => by
    unfold refGo
    rcases Nat.lt_or_ge k es.length with hlt | hge
    case inr => rw [if_neg (by omega), List.drop_eq_nil_of_le hge, runsAt_nil]; rfl
    rw [if_pos hlt]
    have hfit : k + lenAt es k ≤ es.length := run_fits es hlt
    have hpos : 1 ≤ lenAt es k := by unfold lenAt; omega
    have hmem := mem_slabs es es.length (k + lenAt es k) (by omega) hfit
    obtain ⟨hB1, hB2⟩ := best_run hd h5 hlt hb
    obtain ⟨b, hbb⟩ : ∃ b : Bool, (b = true ↔ headOk es k) := ⟨@decide _ (Classical.propDecidable _), @decide_eq_true_iff _ (Classical.propDecidable _)⟩
    have hsplit : runsAt k (es.drop k) = ⟨k, lenAt es k, es.getD k (0, 0)⟩ :: runsAt (k + lenAt es k) (es.drop (k + lenAt es k)) := runsAt_drop es hlt
    have hok : runsOk (runsAt k (es.drop k)) = (b && runsOk (runsAt (k + lenAt es k) (es.drop (k + lenAt es k)))) := by
      rw [hsplit]
      have hns : (es.getD k (0, 0)).1 ∉ slabsOf (runsAt (k + lenAt es k) (es.drop (k + lenAt es k))) ↔ ∀ j, k + lenAt es k ≤ j → j < es.length → (es.getD j (0, 0)).1 ≠ (es.getD k (0, 0)).1 := by
        rw [hmem]
        exact ⟨fun h j h1 h2 h3 => h ⟨j, h1, h2, h3⟩, fun h ⟨j, h1, h2, h3⟩ => h j h1 h2 h3⟩
      rw [Bool.eq_iff_iff, Bool.and_eq_true, hbb]
      unfold runsOk headOk
      simp only [List.all_cons, Bool.and_eq_true, decide_eq_true_eq, slabsOf, List.map_cons, List.nodup_cons] at hns ⊢
      rw [hns]
      unfold okRun
      simp only [Bool.and_eq_true, decide_eq_true_eq]
      constructor
      · rintro ⟨⟨h1, h2⟩, h3, h4⟩; exact ⟨⟨h1, h3⟩, h2, decide_eq_true h4⟩
      · rintro ⟨⟨h1, h3⟩, h2, h4⟩; exact ⟨⟨h1, h2⟩, h3, of_decide_eq_true h4⟩
    rw [hok]
    by_cases hh : headOk es k
    · obtain ⟨e1, e2⟩ := hB1 hh
      rw [if_neg (by rw [e1]; omega), e1, Int.toNat_natCast, e2, hbb.2 hh, Bool.true_and, hsplit,
        ref_runs hd h5 f (k + lenAt es k) (by omega) hfit (fun i j h1 h2 h3 => by
          rcases Nat.lt_or_ge i k with h4 | h4
          · exact hb i j h4 (by omega) h3
          · rw [run_same es hlt h4 h1]
            exact fun e => hh.2 j h2 h3 e.symm)]
      split <;> rfl
    · rw [if_pos (by rw [hB2 hh]; decide), show b = false from by rw [← Bool.not_eq_true, hbb]; exact hh]; rfl
theorem ref_whole {es : List En} {dep : Nat} (hd : es.length = 2 ^ dep) (h5 : dep ≤ 5) : refGo dep es es.length 0 = if runsOk (runs es) then some (runs es) else none := by
  have h := ref_runs hd h5 es.length 0 (by omega) (Nat.zero_le _) (fun i j h _ _ => absurd h (Nat.not_lt_zero _))
  rw [List.drop_zero] at h
  exact h
end Go.Proofs.Ytjlbnegdiabglaa
