/-
  Counters: odd ones, one more, good looks; steps, looks.
-/
import Derived.Test.YtegnppmmcchmgaaDoorGup
set_option linter.unusedSimpArgs false
set_option linter.unusedVariables false
namespace Go.Proofs.YtegnppmmcchmgaaDoor
open Go Go.RowKit
attribute [local go_sem] via_cell via_frozen

theorem and_one (n : Int) (h : U64 n) : bits .and .u64 n 1 = n % 2 := by
  unfold U64 at h
  obtain ⟨m, rfl⟩ := Int.eq_ofNat_of_zero_le h.1
  have h1 := u64_and_nat m 1 (by omega) (by omega)
  rw [Nat.and_one_is_mod] at h1
  simpa using h1
def oddB (n : Int) : Bool := decide (n % 2 = 1)
theorem odd_any (n : Int) (h : U64 n) (W : World) : Calls Tryd.prog 29 #[.int .u64 n] W fun e W' => e = .returned (.bool (oddB n)) ∧ W = W' := by
  have ha := and_one n h
  have HF := hide (show (n % 2 == 1) = oddB n from by unfold oddB; rw [Bool.eq_iff_iff]; simp)
  go_enter Tryd.func29, Tryd.ntmps29
  go_wp2_with fail
  go_ret
  exact ⟨ret_bool HF.out, rfl⟩
/-- One more, if it is such as it has to be; else what is wrong. -/
def moreV (n : Int) (is : Bool) : Int × Int := if n < 9223372036854775808 ∧ oddB n = is then (n + 1, 0) else (0, 161)
abbrev pairU (v : Int × Int) : Value := .tuple #[.int .u64 v.1, .int .i64 v.2]
abbrev pairI (v : Int × Int) : Value := .tuple #[.int .i64 v.1, .int .i64 v.2]
theorem ret_pairU {a b : Int × Int} (h : a = b) : Ending.returned (pairU a) = .returned (pairU b) := by rw [h]
theorem more_any (n : Int) (is : Bool) (h : U64 n) (W : World) : Calls Tryd.prog 28 #[.int .u64 n, .bool is] W fun e W' => e = .returned (pairU (moreV n is)) ∧ W = W' := by
  have HC := hide (odd_any n h)
  have h0 : 0 ≤ n := h.1
  have h1 : n < 18446744073709551616 := h.2
  obtain ⟨o, ho⟩ : ∃ o, oddB n = o := ⟨_, rfl⟩
  have HO := hide ho
  rw [ho] at HC
  clear ho h
  by_cases hn : n < 9223372036854775808
  · have hs : n / 9223372036854775808 = 0 := by omega
    have HN := hide hn
    by_cases hi : o = is
    · subst hi
      have HF := hide (show ((n + 1, 0) : Int × Int) = moreV n o from by unfold moreV; rw [if_pos ⟨HN.out, HO.out⟩])
      have hw : n + 1 < 18446744073709551616 := by omega
      clear hn
      cases o <;>
      · go_enter Tryd.func28, Tryd.ntmps28
        go_wp2_with fail
        with_reducible refine (HC.out _).mono ?_
        rintro e w1 ⟨rfl, rfl⟩
        go_wp2_with fail
        go_ret2
        exact ⟨ret_pairU HF.out, rfl⟩
    · have HF := hide (show ((0, 161) : Int × Int) = moreV n is from by unfold moreV; rw [if_neg (by rw [HO.out]; exact fun h => hi h.2)])
      clear hn
      cases o <;> cases is <;> first
        | exact absurd rfl hi
        | (clear hi
           go_enter Tryd.func28, Tryd.ntmps28
           go_wp2_with fail
           with_reducible refine (HC.out _).mono ?_
           rintro e w1 ⟨rfl, rfl⟩
           go_wp2_with fail
           go_ret2
           exact ⟨ret_pairU HF.out, rfl⟩)
  · have hs : n / 9223372036854775808 = 1 := by omega
    have HF := hide (show ((0, 161) : Int × Int) = moreV n is from by unfold moreV; rw [if_neg (fun h => hn h.1)])
    clear hn
    go_enter Tryd.func28, Tryd.ntmps28
    go_wp2_with fail
    go_ret2
    exact ⟨ret_pairU HF.out, rfl⟩
theorem open_any (n : Int) (h : U64 n) (W : World) : Calls Tryd.prog 9 #[.int .u64 n] W fun e W' => e = .returned (pairU (moreV n false)) ∧ W = W' := by
  have HC := hide (more_any n false h)
  go_enter Tryd.func9, Tryd.ntmps9
  go_wp2_with fail
  with_reducible refine (HC.out _).mono ?_
  rintro e w1 ⟨rfl, rfl⟩
  go_wp2_with fail
  go_ret2
  exact ⟨rfl, rfl⟩
theorem close_any (n : Int) (h : U64 n) (W : World) : Calls Tryd.prog 10 #[.int .u64 n] W fun e W' => e = .returned (pairU (moreV n true)) ∧ W = W' := by
  have HC := hide (more_any n true h)
  go_enter Tryd.func10, Tryd.ntmps10
  go_wp2_with fail
  with_reducible refine (HC.out _).mono ?_
  rintro e w1 ⟨rfl, rfl⟩
  go_wp2_with fail
  go_ret2
  exact ⟨rfl, rfl⟩
/-- Nothing was written between two looks. -/
def goodB (a b : Int) : Bool := !oddB a && decide (a = b)
theorem good_any (a b : Int) (h : U64 a) (W : World) : Calls Tryd.prog 11 #[.int .u64 a, .int .u64 b] W fun e W' => e = .returned (.bool (goodB a b)) ∧ W = W' := by
  have HC := hide (odd_any a h)
  obtain ⟨o, ho⟩ : ∃ o, oddB a = o := ⟨_, rfl⟩
  have HF := hide (show ((!o) && (a == b)) = goodB a b from by unfold goodB; rw [ho]; congr 1)
  rw [ho] at HC
  clear ho h
  cases o
  · rw [Bool.not_false, Bool.true_and] at HF
    go_enter Tryd.func11, Tryd.ntmps11
    go_wp2_with fail
    with_reducible refine (HC.out _).mono ?_
    rintro e w1 ⟨rfl, rfl⟩
    go_wp2_with fail
    go_ret
    exact ⟨ret_bool HF.out, rfl⟩
  · rw [Bool.not_true, Bool.false_and] at HF
    go_enter Tryd.func11, Tryd.ntmps11
    go_wp2_with fail
    with_reducible refine (HC.out _).mono ?_
    rintro e w1 ⟨rfl, rfl⟩
    go_wp2_with fail
    go_ret
    exact ⟨ret_bool HF.out, rfl⟩
theorem step_any (n : Int) (W : World) : Calls Tryd.prog 30 #[.int .i64 n] W fun e W' => e = .returned (.bool (stepB n)) ∧ W = W' := by
  by_cases h : 0 ≤ n
  · have HF := hide (show decide (n ≤ 1073741824) = stepB n from by unfold stepB; simp [h])
    go_enter Tryd.func30, Tryd.ntmps30
    go_wp2_with fail
    go_ret
    exact ⟨ret_bool HF.out, rfl⟩
  · have HF := hide (show false = stepB n from by unfold stepB; simp [h])
    go_enter Tryd.func30, Tryd.ntmps30
    go_wp2_with fail
    go_ret
    exact ⟨ret_bool HF.out, rfl⟩
theorem look_any (a b : Int) (W : World) : Calls Tryd.prog 33 #[.int .i64 a, .int .i64 b] W fun e W' => e = .returned (.bool (lookB a b)) ∧ W = W' := by
  have HA := hide (step_any a)
  have HB := hide (step_any b)
  obtain ⟨x, hx⟩ : ∃ x, stepB a = x := ⟨_, rfl⟩
  obtain ⟨y, hy⟩ : ∃ y, stepB b = y := ⟨_, rfl⟩
  have HF := hide (show (x && y && decide (a ≤ b)) = lookB a b from by unfold lookB; rw [hx, hy])
  rw [hx] at HA
  rw [hy] at HB
  clear hx hy
  cases x
  · go_enter Tryd.func33, Tryd.ntmps33
    go_wp2_with fail
    with_reducible refine (HA.out _).mono ?_
    rintro e w1 ⟨rfl, rfl⟩
    go_wp2_with fail
    go_ret
    exact ⟨ret_bool (by rw [← HF.out]; simp), rfl⟩
  · cases y <;>
    · go_enter Tryd.func33, Tryd.ntmps33
      go_wp2_with fail
      with_reducible refine (HA.out _).mono ?_
      rintro e w1 ⟨rfl, rfl⟩
      go_wp2_with fail
      with_reducible refine (HB.out _).mono ?_
      rintro e w1 ⟨rfl, rfl⟩
      go_wp2_with fail
      go_ret
      exact ⟨ret_bool (by rw [← HF.out]; simp), rfl⟩
theorem rstep_any (n : Int) (W : World) : Calls Tryd.prog 18 #[.int .i64 n] W fun e W' => e = .returned (.bool (stepB n)) ∧ W = W' := by
  by_cases h : 0 ≤ n
  · have HF := hide (show decide (n ≤ 1073741824) = stepB n from by unfold stepB; simp [h])
    go_enter Tryd.func18, Tryd.ntmps18
    go_wp2_with fail
    go_ret
    exact ⟨ret_bool HF.out, rfl⟩
  · have HF := hide (show false = stepB n from by unfold stepB; simp [h])
    go_enter Tryd.func18, Tryd.ntmps18
    go_wp2_with fail
    go_ret
    exact ⟨ret_bool HF.out, rfl⟩
theorem rlook_any (a b : Int) (W : World) : Calls Tryd.prog 22 #[.int .i64 a, .int .i64 b] W fun e W' => e = .returned (.bool (lookB a b)) ∧ W = W' := by
  have HA := hide (rstep_any a)
  have HB := hide (rstep_any b)
  obtain ⟨x, hx⟩ : ∃ x, stepB a = x := ⟨_, rfl⟩
  obtain ⟨y, hy⟩ : ∃ y, stepB b = y := ⟨_, rfl⟩
  have HF := hide (show (x && y && decide (a ≤ b)) = lookB a b from by unfold lookB; rw [hx, hy])
  rw [hx] at HA
  rw [hy] at HB
  clear hx hy
  cases x
  · go_enter Tryd.func22, Tryd.ntmps22
    go_wp2_with fail
    with_reducible refine (HA.out _).mono ?_
    rintro e w1 ⟨rfl, rfl⟩
    go_wp2_with fail
    go_ret
    exact ⟨ret_bool (by rw [← HF.out]; simp), rfl⟩
  · cases y <;>
    · go_enter Tryd.func22, Tryd.ntmps22
      go_wp2_with fail
      with_reducible refine (HA.out _).mono ?_
      rintro e w1 ⟨rfl, rfl⟩
      go_wp2_with fail
      with_reducible refine (HB.out _).mono ?_
      rintro e w1 ⟨rfl, rfl⟩
      go_wp2_with fail
      go_ret
      exact ⟨ret_bool (by rw [← HF.out]; simp), rfl⟩
end Go.Proofs.YtegnppmmcchmgaaDoor
