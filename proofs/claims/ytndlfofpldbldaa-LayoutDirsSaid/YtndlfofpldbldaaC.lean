/-
  Contracts of the functions that the layout's words are made by: top, flat, padded, Grow, Concat, TableWords, DirWords, At, Has.
-/
import Derived.Test.YtndlfofpldbldaaB
namespace Go.Proofs.Ytndlfofpldbldaa
open Go Go.RowKit
attribute [local go_sem] via_cell via_frozen
set_option linter.unusedSimpArgs false
set_option linter.unusedVariables false

set_option maxHeartbeats 400000 in
theorem in_any (n m : Int) (W : World) (r : Bool) (hr : decide (0 ≤ n ∧ n ≤ m) = r) :
    Calls Try.prog 55 #[.int .i64 n, .int .i64 m] W fun e W' => e = .returned (.bool r) ∧ W = W' := by
  subst hr
  by_cases h0 : 0 ≤ n
  all_goals
    go_enter Try.func55, Try.ntmps55
    go_wp2
    go_ret
    refine ⟨ret_bool ?_, rfl⟩
    rw [Bool.eq_iff_iff]; simp; try omega

/-- The numbers of a table that are asked. -/
def flatB (d p c l : Int) : Bool := decide ((0 ≤ d ∧ d ≤ 5) ∧ p / 2 ^ d.toNat = 0 ∧ (0 ≤ c ∧ c ≤ 14) ∧ (0 ≤ l ∧ l ≤ 14))

set_option maxHeartbeats 400000 in
theorem flat_any (X : Array Value) (d p c l : Int) (W : World) (r : Bool) (hr : flatB d p c l = r) (hp : 0 ≤ p) (hp2 : p < 18446744073709551616)
    (h1 : X[1]? = some (.int .i64 d)) (h2 : X[2]? = some (.int .u64 p)) (h3 : X[3]? = some (.int .i64 c)) (h4 : X[4]? = some (.int .i64 l)) :
    Calls Try.prog 39 #[.agg X] W fun e W' => e = .returned (.bool r) ∧ Below W.heap.size W W' := by
  obtain ⟨b1, hb1⟩ : ∃ b, decide (0 ≤ d ∧ d ≤ 5) = b := ⟨_, rfl⟩
  obtain ⟨b3, hb3⟩ : ∃ b, decide (0 ≤ c ∧ c ≤ 14) = b := ⟨_, rfl⟩
  obtain ⟨b4, hb4⟩ : ∃ b, decide (0 ≤ l ∧ l ≤ 14) = b := ⟨_, rfl⟩
  have H1 := hide hb1
  have H3 := hide hb3
  have H4 := hide hb4
  have HR := hide hr
  have hq := hide hp2
  clear hb1 hb3 hb4 hp2 hr
  cases b1
  · go_enter Try.func39, Try.ntmps39
    go_wp2_with (go_at_call 55; (with_reducible refine (in_any _ _ _ _ H1.out).mono ?_); rintro e w1 ⟨rfl, rfl⟩)
    go_ret
    refine ⟨ret_bool ?_, by go_grown⟩
    rw [← HR.out, eq_comm]
    have := H1.out
    simp [flatB] at this ⊢; omega
  · have ⟨ha, hb⟩ : 0 ≤ d ∧ d ≤ 5 := by have := H1.out; simpa using this
    by_cases hp0 : p / 2 ^ d.toNat = 0
    · cases b3
      · go_enter Try.func39, Try.ntmps39
        go_wp2_with (first | (go_at_call 55; (with_reducible refine (in_any _ _ _ _ H1.out).mono ?_); rintro e w1 ⟨rfl, rfl⟩) | (go_at_call 55; (with_reducible refine (in_any _ _ _ _ H3.out).mono ?_); rintro e w1 ⟨rfl, rfl⟩))
        go_ret
        refine ⟨ret_bool ?_, by go_grown⟩
        rw [← HR.out, eq_comm]
        have := H3.out
        simp [flatB] at this ⊢; omega
      · cases b4
        all_goals
          go_enter Try.func39, Try.ntmps39
          go_wp2_with (first | (go_at_call 55; (with_reducible refine (in_any _ _ _ _ H1.out).mono ?_); rintro e w1 ⟨rfl, rfl⟩) | (go_at_call 55; (with_reducible refine (in_any _ _ _ _ H3.out).mono ?_); rintro e w1 ⟨rfl, rfl⟩) | (go_at_call 55; (with_reducible refine (in_any _ _ _ _ H4.out).mono ?_); rintro e w1 ⟨rfl, rfl⟩))
          go_ret
          refine ⟨ret_bool ?_, by go_grown⟩
          rw [← HR.out, eq_comm]
          have h3' := H3.out
          have h4' := H4.out
          simp [flatB, ha, hb, hp0] at h3' h4' ⊢; omega
    · go_enter Try.func39, Try.ntmps39
      go_wp2_with (go_at_call 55; (with_reducible refine (in_any _ _ _ _ H1.out).mono ?_); rintro e w1 ⟨rfl, rfl⟩)
      go_ret
      refine ⟨ret_bool ?_, by go_grown⟩
      rw [← HR.out, eq_comm]
      simp [flatB, hp0]

def topZ (h bits : Int) : Int := h / 2 / 2 ^ (63 - bits).toNat

set_option maxHeartbeats 400000 in
theorem top_any (h bits : Int) (W : World) (h0 : 0 ≤ h) (h1 : h < 18446744073709551616) (hb : 0 ≤ bits) (hb2 : bits ≤ 63) :
    Calls Try.prog 38 #[.int .u64 h, .int .i64 bits] W fun e W' => e = .returned (.int .u64 (topZ h bits)) ∧ W = W' := by
  have H := hide h1
  clear h1
  go_enter Try.func38, Try.ntmps38
  go_wp2
  go_ret
  exact ⟨rfl, rfl⟩

end Go.Proofs.Ytndlfofpldbldaa
