/-
  honeycombref16: Table.
-/
import Derived.Test.YtndlfofpldbldaaC
import Derived.Test.YtndlfofpldbldaaA
set_option linter.unusedSimpArgs false
set_option linter.unusedVariables false
namespace Go.Proofs.Ytndlfofpldbldaa
open Go Go.RowKit
attribute [local go_sem] via_cell via_frozen

def rtabB (d p c l : Int) : Bool := decide (0 ≤ d ∧ d ≤ 5 ∧ p < 2 ^ d.toNat ∧ 0 ≤ c ∧ c ≤ 14 ∧ 0 ≤ l ∧ l ≤ 14)

set_option maxHeartbeats 1000000 in
theorem RTable_any (X : Array Value) (d p c l : Int) (W : World) (r : Bool) (hr : rtabB d p c l = r)
    (h1 : X[1]? = some (.int .i64 d)) (h2 : X[2]? = some (.int .u64 p)) (h3 : X[3]? = some (.int .i64 c)) (h4 : X[4]? = some (.int .i64 l)) :
    Calls Try.prog 21 #[.agg X] W fun e W' => e = .returned (.bool r) ∧ Below W.heap.size W W' := by
  have HR := hide hr
  clear hr
  by_cases a1 : 0 ≤ d
  · obtain ⟨n, rfl⟩ := Int.eq_ofNat_of_zero_le a1
    by_cases a2 : (n : Int) ≤ 5
    · have HP := fun W => power_any W n (by omega)
      have HPh := hide HP
      clear HP
      obtain ⟨q, hq⟩ : ∃ q : Int, ((2 ^ n : Nat) : Int) = q := ⟨_, rfl⟩
      rw [hq] at HPh
      have HQ := hide hq
      clear hq
      cases e3 : decide (p < q)
      all_goals cases e4 : decide (0 ≤ c)
      all_goals cases e5 : decide (c ≤ 14)
      all_goals cases e6 : decide (0 ≤ l)
      all_goals cases e7 : decide (l ≤ 14)
      all_goals
        go_enter Try.func21, Try.ntmps21
        go_wp2_with fail
        refine wp_region_via (by kernel_rfl) (by kernel_rfl) ?_
        repeat (go_big_quiet_step ((go_at_call 37; exact via_of_same (HPh.out _))))
        refine via_out fun w1 hb1 => ?_
        go_wp2
        go_ret
        refine ⟨ret_bool ?_, ((Below.refl _ _).alloc (Nat.le_refl _) _).trans (hb1.mono (by simp))⟩
        rw [← HR.out]
        have hqq : (2 : Int) ^ n = q := by have := HQ.out; simpa using this
        simp only [decide_eq_false_iff_not, decide_eq_true_eq] at e3 e4 e5 e6 e7
        unfold rtabB
        rw [Int.toNat_natCast, hqq]
        first
          | (rw [eq_comm, decide_eq_false_iff_not]; omega)
          | (rw [eq_comm, decide_eq_true_iff]; omega)
    · have b2 : decide ((n : Int) ≤ 5) = false := by simpa using a2
      go_enter Try.func21, Try.ntmps21
      go_wp2_with fail
      refine wp_region_via (by kernel_rfl) (by kernel_rfl) ?_
      repeat (go_big_quiet_step (fail))
      refine via_out fun w1 hb1 => ?_
      go_wp2
      go_ret
      refine ⟨ret_bool ?_, ((Below.refl _ _).alloc (Nat.le_refl _) _).trans (hb1.mono (by simp))⟩
      rw [← HR.out]
      unfold rtabB
      rw [eq_comm, decide_eq_false_iff_not]; omega
  · have b1 : decide (0 ≤ d) = false := by simpa using a1
    go_enter Try.func21, Try.ntmps21
    go_wp2_with fail
    refine wp_region_via (by kernel_rfl) (by kernel_rfl) ?_
    repeat (go_big_quiet_step (fail))
    refine via_out fun w1 hb1 => ?_
    go_wp2
    go_ret
    refine ⟨ret_bool ?_, ((Below.refl _ _).alloc (Nat.le_refl _) _).trans (hb1.mono (by simp))⟩
    rw [← HR.out]
    unfold rtabB
    rw [eq_comm, decide_eq_false_iff_not]; omega
end Go.Proofs.Ytndlfofpldbldaa
