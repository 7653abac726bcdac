/-
  The reference's: are these cells; why an access is none; the same words; one cell changed; an access.
-/
import Derived.Test.YtadgihmokmfejaaCep
import Derived.Laws.NewBlocks
import Derived.Laws.OwnMore
set_option linter.unusedSimpArgs false
set_option linter.unusedVariables false
namespace Go.Proofs.Ytadgihmokmfejaa
open Go Go.RowKit
attribute [local go_sem] via_cell via_frozen

/-- An access as a value. -/
abbrev accV (a : Acc) : Value := .agg #[.int .i64 a.1, .int .i64 a.2.1, .int .i64 a.2.2.1, .int .u64 a.2.2.2.1, .int .u64 a.2.2.2.2]

theorem right_any (A : Option Addr) (c n : Nat) (W : World) (r : Bool) (hr : decide (1 ≤ n ∧ n ≤ 8192) = r) :
    Calls Try.prog 12 #[.slice A n c] W fun e W' => e = .returned (.bool r) ∧ W = W' := by
  by_cases h1 : 1 ≤ n
  · by_cases h2 : n ≤ 8192
    · have hi1 : ((1 : Int) ≤ n) := by omega
      have hi2 : ((n : Int) ≤ 8192) := by omega
      obtain rfl : true = r := by rw [← hr]; simp [h1, h2]
      go_enter Try.func12, Try.ntmps12
      go_wp2
      go_ret
      exact ⟨rfl, rfl⟩
    · have hi1 : ((1 : Int) ≤ n) := by omega
      have hi2 : ¬ ((n : Int) ≤ 8192) := by omega
      obtain rfl : false = r := by rw [← hr]; simp [h2]
      go_enter Try.func12, Try.ntmps12
      go_wp2
      go_ret
      exact ⟨rfl, rfl⟩
  · have hi1 : ¬ ((1 : Int) ≤ n) := by omega
    obtain rfl : false = r := by rw [← hr]; simp [h1]
    go_enter Try.func12, Try.ntmps12
    go_wp2
    go_ret
    exact ⟨rfl, rfl⟩

theorem why_any (A : Option Addr) (c n : Nat) (wh kd at_ ol nw : Int) (W : World) (r : Int) (hr : why n (wh, kd, at_, ol, nw) = r) :
    Calls Try.prog 15 #[.slice A n c, .agg #[.int .i64 wh, .int .i64 kd, .int .i64 at_, .int .u64 ol, .int .u64 nw]] W fun e W' => e = .returned (.int .i64 r) ∧ Below W.heap.size W W' := by
  have hbn : Below W.heap.size W (W.alloc (.cells #[.int .i64 wh, .int .i64 kd, .int .i64 at_, .int .u64 ol, .int .u64 nw] 37)) := (Below.refl _ _).alloc (Nat.le_refl _) _
  have HB := hide hbn
  have HR := hide hr
  clear hbn hr
  obtain ⟨q, hq⟩ : ∃ q, decide (1 ≤ n ∧ n ≤ 8192) = q := ⟨_, rfl⟩
  have HC := hide (fun w => right_any A c n w q hq)
  by_cases h0 : n < 1
  · skip
    obtain rfl : false = q := by rw [← hq]; simp; omega
    clear hq
    have hv : why n (wh, kd, at_, ol, nw) = 120 := by unfold why; dsimp only; rw [if_pos (by omega)]
    obtain rfl := hv.symm.trans HR.out
    clear hv
    go_enter Try.func15, Try.ntmps15
    go_wp2_with fail
    with_reducible refine (HC.out _).mono ?_
    rintro e w1 ⟨rfl, rfl⟩
    go_wp2_with fail
    go_ret
    exact ⟨rfl, HB.out⟩
  · skip
    by_cases h1 : 8192 < n
    · skip
      obtain rfl : false = q := by rw [← hq]; simp; omega
      clear hq
      have hv : why n (wh, kd, at_, ol, nw) = 120 := by unfold why; dsimp only; rw [if_pos (by omega)]
      obtain rfl := hv.symm.trans HR.out
      clear hv
      go_enter Try.func15, Try.ntmps15
      go_wp2_with fail
      with_reducible refine (HC.out _).mono ?_
      rintro e w1 ⟨rfl, rfl⟩
      go_wp2_with fail
      go_ret
      exact ⟨rfl, HB.out⟩
    · skip
      by_cases h2 : kd < 1
      · skip
        obtain rfl : true = q := by rw [← hq]; simp; omega
        clear hq
        have hv : why n (wh, kd, at_, ol, nw) = 121 := by unfold why; dsimp only; rw [if_neg (by omega), if_pos (by omega)]
        obtain rfl := hv.symm.trans HR.out
        clear hv
        go_enter Try.func15, Try.ntmps15
        go_wp2_with fail
        with_reducible refine (HC.out _).mono ?_
        rintro e w1 ⟨rfl, rfl⟩
        go_wp2_with fail
        go_ret
        exact ⟨rfl, HB.out⟩
      · skip
        by_cases h3 : 4 < kd
        · skip
          obtain rfl : true = q := by rw [← hq]; simp; omega
          clear hq
          have hv : why n (wh, kd, at_, ol, nw) = 121 := by unfold why; dsimp only; rw [if_neg (by omega), if_pos (by omega)]
          obtain rfl := hv.symm.trans HR.out
          clear hv
          have p2 : 1 ≤ kd := by omega
          go_enter Try.func15, Try.ntmps15
          go_wp2_with fail
          with_reducible refine (HC.out _).mono ?_
          rintro e w1 ⟨rfl, rfl⟩
          go_wp2_with fail
          go_ret
          exact ⟨rfl, HB.out⟩
        · skip
          by_cases h4 : wh < 0
          · skip
            obtain rfl : true = q := by rw [← hq]; simp; omega
            clear hq
            have hv : why n (wh, kd, at_, ol, nw) = 121 := by unfold why; dsimp only; rw [if_neg (by omega), if_pos (by omega)]
            obtain rfl := hv.symm.trans HR.out
            clear hv
            have p2 : 1 ≤ kd := by omega
            have p3 : kd ≤ 4 := by omega
            go_enter Try.func15, Try.ntmps15
            go_wp2_with fail
            with_reducible refine (HC.out _).mono ?_
            rintro e w1 ⟨rfl, rfl⟩
            go_wp2_with fail
            go_ret
            exact ⟨rfl, HB.out⟩
          · skip
            by_cases h5 : 7 < wh
            · skip
              obtain rfl : true = q := by rw [← hq]; simp; omega
              clear hq
              have hv : why n (wh, kd, at_, ol, nw) = 121 := by unfold why; dsimp only; rw [if_neg (by omega), if_pos (by omega)]
              obtain rfl := hv.symm.trans HR.out
              clear hv
              have p2 : 1 ≤ kd := by omega
              have p3 : kd ≤ 4 := by omega
              have p4 : 0 ≤ wh := by omega
              go_enter Try.func15, Try.ntmps15
              go_wp2_with fail
              with_reducible refine (HC.out _).mono ?_
              rintro e w1 ⟨rfl, rfl⟩
              go_wp2_with fail
              go_ret
              exact ⟨rfl, HB.out⟩
            · skip
              by_cases h6 : at_ < 0
              · skip
                obtain rfl : true = q := by rw [← hq]; simp; omega
                clear hq
                have hv : why n (wh, kd, at_, ol, nw) = 2 := by unfold why; dsimp only; rw [if_neg (by omega), if_neg (by omega), if_pos (by omega)]
                obtain rfl := hv.symm.trans HR.out
                clear hv
                have p2 : 1 ≤ kd := by omega
                have p3 : kd ≤ 4 := by omega
                have p4 : 0 ≤ wh := by omega
                have p5 : wh ≤ 7 := by omega
                go_enter Try.func15, Try.ntmps15
                go_wp2_with fail
                with_reducible refine (HC.out _).mono ?_
                rintro e w1 ⟨rfl, rfl⟩
                go_wp2_with fail
                go_ret
                exact ⟨rfl, HB.out⟩
              · skip
                by_cases h7 : (n : Int) ≤ at_
                · skip
                  obtain rfl : true = q := by rw [← hq]; simp; omega
                  clear hq
                  have hv : why n (wh, kd, at_, ol, nw) = 2 := by unfold why; dsimp only; rw [if_neg (by omega), if_neg (by omega), if_pos (by omega)]
                  obtain rfl := hv.symm.trans HR.out
                  clear hv
                  have p2 : 1 ≤ kd := by omega
                  have p3 : kd ≤ 4 := by omega
                  have p4 : 0 ≤ wh := by omega
                  have p5 : wh ≤ 7 := by omega
                  have p6 : 0 ≤ at_ := by omega
                  go_enter Try.func15, Try.ntmps15
                  go_wp2_with fail
                  with_reducible refine (HC.out _).mono ?_
                  rintro e w1 ⟨rfl, rfl⟩
                  go_wp2_with fail
                  go_ret
                  exact ⟨rfl, HB.out⟩
                · skip
                  obtain rfl : true = q := by rw [← hq]; simp; omega
                  clear hq
                  have hv : why n (wh, kd, at_, ol, nw) = 0 := by unfold why; dsimp only; rw [if_neg (by omega), if_neg (by omega), if_neg (by omega)]
                  obtain rfl := hv.symm.trans HR.out
                  clear hv
                  have p2 : 1 ≤ kd := by omega
                  have p3 : kd ≤ 4 := by omega
                  have p4 : 0 ≤ wh := by omega
                  have p5 : wh ≤ 7 := by omega
                  have p6 : 0 ≤ at_ := by omega
                  have p7 : at_ < (n : Int) := by omega
                  go_enter Try.func15, Try.ntmps15
                  go_wp2_with fail
                  with_reducible refine (HC.out _).mono ?_
                  rintro e w1 ⟨rfl, rfl⟩
                  go_wp2_with fail
                  go_ret
                  exact ⟨rfl, HB.out⟩
end Go.Proofs.Ytadgihmokmfejaa
