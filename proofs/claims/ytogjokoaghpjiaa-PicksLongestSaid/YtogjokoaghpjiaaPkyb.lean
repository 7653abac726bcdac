/-
  An int's place in a slice of whatever length.
-/
import Derived.Test.YtogjokoaghpjiaaPkx
set_option linter.unusedSimpArgs false
set_option linter.unusedVariables false
namespace Go.Proofs.Ytogjokoaghpjiaa
open Go Go.RowKit
attribute [local go_sem] via_cell via_frozen

theorem index_big (B : Nat) (A : Option Addr) (c m : Nat) (xs : List Int) (g : Int) (W : World) (h : Rd W B 1 A m (Cs encI xs)) (hx : xs.length = m) (hm : (m : Int) ≤ 9223372036854775807) (hB : B ≤ W.heap.size) (r : Bool) (hr : xs.contains g = r) :
    Calls Try.prog 34 #[.slice A m c, .int .i64 g] W fun e W' => ∃ i : Int, e = .returned (.int .i64 i) ∧ decide (0 ≤ i) = r ∧ W = W' := by
  have HX := hide hx
  have HR := hide hr
  have H := hide h
  clear h hx hr
  go_enter Try.func34, Try.ntmps34
  go_wp2_with fail
  go_loopw [8] (fun i wr => ∃ k : Nat, k ≤ m ∧ i = .int .i64 k ∧ (xs.take k).contains g = false ∧ wr = W) (fun i _ => m - (intOf i).toNat)
  case atStart => exact ⟨0, Nat.zero_le _, rfl, rfl, rfl⟩
  case round =>
    obtain ⟨k, hk, rfl, hno, rfl⟩ := hrel
    have HN := hide hno
    clear hno
    by_cases hlt : k < m
    · have hlx : k < xs.length := by rw [HX.out]; exact hlt
      obtain ⟨b, o, rfl, hb, d0⟩ := H.out.numE HX.out hlx
      have hbl : b < wr.heap.size := Nat.lt_of_lt_of_le hb hB
      have hkm : (k : Int) < (m : Int) := by omega
      have HT := hide (show xs.take (k + 1) = xs.take k ++ [xs[k]] from List.take_succ_eq_append_getElem hlx)
      have HM := hide (List.getElem_mem hlx)
      generalize xs[k] = x at *
      clear hb
      by_cases hxg : g = x
      · have hd : (g == x) = true := by simpa using hxg
        have HF := hide (show true = r by rw [← HR.out]; subst hxg; simpa using HM.out)
        clear hxg
        go_wp2_with fail
        go_ret
        exact ⟨_, rfl, by rw [← HF.out]; simp, rfl⟩
      · have hd : (g == x) = false := by simpa using hxg
        have HNX := hide (show (xs.take (k + 1)).contains g = false by
          rw [HT.out]
          have h := HN.out
          simp at h ⊢
          exact ⟨h, hxg⟩)
        clear hxg
        go_wp2_with fail
        go_roundw
        case rel => exact ⟨k + 1, by omega, by go_num, HNX.out, by trivial⟩
        case measure => simp [intOf]; omega
    · go_wp2_with fail
      go_ret
      have h := HN.out
      rw [List.take_of_length_le (by rw [HX.out]; omega), HR.out] at h
      exact ⟨_, rfl, by rw [h]; rfl, rfl⟩
theorem contains_big (B : Nat) (A : Option Addr) (c m : Nat) (xs : List Int) (g : Int) (W : World) (h : Rd W B 1 A m (Cs encI xs)) (hx : xs.length = m) (hm : (m : Int) ≤ 9223372036854775807) (hB : B ≤ W.heap.size) (r : Bool) (hr : xs.contains g = r) :
    Calls Try.prog 15 #[.slice A m c, .int .i64 g] W fun e W' => e = .returned (.bool r) ∧ W = W' := by
  have HI := hide (index_big B A c m xs g W h hx hm hB r hr)
  clear h hx hr
  go_enter Try.func15, Try.ntmps15
  go_wp2_with fail
  with_reducible refine HI.out.mono ?_
  rintro e w1 ⟨i, rfl, hi, rfl⟩
  have HII := hide hi
  clear hi
  go_wp2_with fail
  go_ret
  exact ⟨ret_bool HII.out, rfl⟩
end Go.Proofs.Ytogjokoaghpjiaa
