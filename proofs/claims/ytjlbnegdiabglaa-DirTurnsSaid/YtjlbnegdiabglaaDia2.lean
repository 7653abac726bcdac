import Derived.Test.YtjlbnegdiabglaaDia
/-
  honeycombref16: Top; a table is the same as itself.
-/
set_option linter.unusedSimpArgs false
set_option linter.unusedVariables false
namespace Go.Proofs.Ytjlbnegdiabglaa
open Go Go.RowKit

theorem RTop_any (h bits : Int) (W : World) (h0 : 0 ≤ h) (h1 : h < 18446744073709551616) (hb : 0 ≤ bits) (hb2 : bits ≤ 63) :
    Calls Try.prog 46 #[.int .u64 h, .int .i64 bits] W fun e W' => e = .returned (.int .u64 (topZ h bits)) ∧ W = W' := by
  have H1 := hide h1
  clear h1
  go_enter Try.func46, Try.ntmps46
  go_wp2_with fail
  go_loop [0, 7] (fun v i => ∃ k : Nat, k ≤ 64 - bits.toNat ∧ i = .int .i64 k ∧ v = .int .u64 (h / ((2 ^ k : Nat) : Int))) (fun _ i => 64 - bits.toNat - (intOf i).toNat)
  case atStart => exact ⟨0, Nat.zero_le _, rfl, by simp⟩
  case round =>
    obtain ⟨k, hk, rfl, rfl⟩ := hrel
    have hp : (1 : Nat) ≤ 2 ^ k := Nat.one_le_two_pow
    have hq0 : 0 ≤ h / ((2 ^ k : Nat) : Int) := Int.ediv_nonneg h0 (by omega)
    have hqh : h / ((2 ^ k : Nat) : Int) ≤ h := Int.ediv_le_self _ h0
    have HS := hide (show h / ((2 ^ (k + 1) : Nat) : Int) = h / ((2 ^ k : Nat) : Int) / 2 by
      rw [Int.ediv_ediv_of_nonneg (by omega), Nat.pow_succ, Int.natCast_mul]
      rfl)
    have HE : Hid (k = 64 - bits.toNat → h / ((2 ^ k : Nat) : Int) = topZ h bits) := hide (by
      intro e
      unfold topZ
      rw [Int.ediv_ediv_of_nonneg (by omega)]
      have e2 : k = (63 - bits).toNat + 1 := by omega
      rw [e2, Nat.pow_succ]
      congr 1
      have : ((2 ^ (63 - bits).toNat : Nat) : Int) = (2 : Int) ^ (63 - bits).toNat := by simp
      omega)
    generalize h / ((2 ^ k : Nat) : Int) = q at *
    clear hp
    by_cases hlt : k < 64 - bits.toNat
    · go_wp2_with fail
      go_round
      case rel => exact ⟨k + 1, by omega, by go_num, by have := H1.out; rw [HS.out, Int.tdiv_eq_ediv_of_nonneg hq0, IntWalk.u64_in _ (by omega)]⟩
      case measure => simp [intOf]; omega
    · go_wp2_with fail
      go_ret
      exact ⟨ret_int (HE.out (by omega)), rfl⟩

end Go.Proofs.Ytjlbnegdiabglaa
