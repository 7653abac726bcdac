/-
  The reader of a table's words (next, number), slices.ContainsFunc.
-/
import Derived.Test.YtndlfofpldbldaaI
import Derived.Test.YtndlfofpldbldaaB
set_option linter.unusedSimpArgs false
set_option linter.unusedVariables false
namespace Go.Proofs.Ytndlfofpldbldaa
open Go Go.RowKit

theorem next_ok (g b off n c m : Nat) (w : World) (hc : w.cell? ⟨g, 39, none⟩ = some (.slice (some ⟨b, off, none⟩) n c)) (hf : w.frozen? ⟨g, 39, none⟩ = false) (h1 : m ≤ n) (h2 : n ≤ c) (h3 : m < c) (h4 : n ≤ 4096) :
    Calls Try.prog 44 #[.pointer (some ⟨g, 0, none⟩), .int .i64 (m : Int)] w fun e w' => e = .returned (.slice (some ⟨b, off, none⟩) m m) ∧ w' = w.setCell ⟨g, 39, none⟩ (.slice (some ⟨b, off + m, none⟩) (n - m) (c - m)) := by
  have hle : (m : Int) ≤ (n : Int) := by omega
  have hle2 : (m : Int) ≤ (c : Int) := by omega
  have hle3 : (n : Int) ≤ (c : Int) := by omega
  go_enter Try.func44, Try.ntmps44
  go_wp2_with fail
  refine (need_ok _).mono ?_
  rintro e w1 ⟨rfl, rfl⟩
  dsimp only
  go_wp2
  go_ret
  exact ⟨rfl, rfl⟩

theorem number_ok (x : Int) (W : World) (h0 : 0 ≤ x) (h1 : x ≤ 14) :
    Calls Try.prog 46 #[.int .u64 x, .int .i64 14] W fun e w' => e = .returned (.int .i64 x) ∧ W = w' := by
  go_enter Try.func46, Try.ntmps46
  go_wp2_with fail
  refine (need_ok _).mono ?_
  rintro e w1 ⟨rfl, rfl⟩
  dsimp only
  have e1 : (x + 9223372036854775808) % 18446744073709551616 - 9223372036854775808 = x := by omega
  go_wp2
  go_ret
  exact ⟨by simp [wrap64, e1], rfl⟩

theorem number_no (x : Int) (W : World) (h1 : 14 < x) :
    Calls Try.prog 46 #[.int .u64 x, .int .i64 14] W fun e w' => e = .panicked wrongX ∧ W = w' := by
  have hd : decide (x ≤ 14) = false := by simp; omega
  go_enter Try.func46, Try.ntmps46
  go_wp2_with fail
  refine (need_no _).mono ?_
  rintro e w1 ⟨rfl, rfl⟩
  dsimp only
  go_wp2
  exact ⟨rfl, rfl, rfl⟩

/-- The closure: is a word not nought? -/
theorem nz_any (x : Int) (W : World) (r : Bool) (hr : decide (x ≠ 0) = r) : Calls Try.prog 48 #[.int .u64 x] W fun e w' => e = .returned (.bool r) ∧ W = w' := by
  go_enter Try.func48, Try.ntmps48
  go_wp2
  go_ret
  exact ⟨ret_bool (by rw [← hr]; cases h : (x != 0) <;> simp_all), rfl⟩

theorem IndexNz (B : Nat) (A : Option Addr) (c : Nat) (xs : List Int) (W : World) (h1 : Rd W B 1 A xs.length (Cs encW xs)) (hB1 : B ≤ W.heap.size) (hl1 : xs.length ≤ 4096) :
    Calls Try.prog 58 #[.slice A xs.length c, .func (.func 48) #[] #[]] W fun e W' => ∃ i : Int, e = .returned (.int .i64 i) ∧ decide (0 ≤ i) = xs.any (fun x => decide (x ≠ 0)) ∧ Below W.heap.size W W' := by
  go_enter Try.func58, Try.ntmps58
  go_wp2_with fail
  go_loopw [8] (fun i wr => ∃ k : Nat, k ≤ xs.length ∧ i = .int .i64 k ∧ (xs.take k).any (fun x => decide (x ≠ 0)) = false ∧ Below W.heap.size W wr) (fun i _ => xs.length - (intOf i).toNat)
  case atStart => exact ⟨0, Nat.zero_le _, rfl, rfl, Below.refl _ _⟩
  case round =>
    obtain ⟨k, hk, rfl, hpre, hbw⟩ := hrel
    have HP := hide hpre
    clear hpre
    by_cases hlt : k < xs.length
    · obtain ⟨b1, o1, rfl, hb1, hc1⟩ := (h1.below (hbw.mono hB1)).elem encW_len hlt
      have hd10 := hc1 0 _ (by omega) rfl
      simp only [Nat.mul_one, Nat.add_zero] at hd10
      clear hc1
      generalize hx : xs[k] = x at *
      have HX := hide hx
      clear hx
      obtain ⟨r, hr⟩ : ∃ r, decide (x ≠ 0) = r := ⟨_, rfl⟩
      have HR := hide hr
      cases r
      · go_wp2_with (go_at_call 48; refine (nz_any x _ _ HR.out).mono ?_; rintro e w1 ⟨rfl, rfl⟩)
        go_roundw
        case rel => exact ⟨k + 1, by omega, by go_num, by rw [List.take_succ_eq_append_getElem hlt, List.any_append, HP.out, HX.out]; simpa using HR.out, hbw⟩
        case measure => simp [intOf]; omega
      · go_wp2_with (go_at_call 48; refine (nz_any x _ _ HR.out).mono ?_; rintro e w1 ⟨rfl, rfl⟩)
        go_ret
        refine ⟨_, rfl, ?_, hbw⟩
        have h2 : xs.any (fun x => decide (x ≠ 0)) = true := by
          rw [List.any_eq_true]
          exact ⟨xs[k], List.getElem_mem hlt, by rw [HX.out]; exact HR.out⟩
        rw [h2]; simp
    · go_wp2_with fail
      go_ret
      refine ⟨_, rfl, ?_, hbw⟩
      have h := HP.out
      rw [List.take_of_length_le (by omega)] at h
      rw [h]; simp

theorem ContainsNz (B : Nat) (A : Option Addr) (c : Nat) (xs : List Int) (W : World) (h1 : Rd W B 1 A xs.length (Cs encW xs)) (hB1 : B ≤ W.heap.size) (hl1 : xs.length ≤ 4096) (r : Bool) (hr : xs.any (fun x => decide (x ≠ 0)) = r) :
    Calls Try.prog 47 #[.slice A xs.length c, .func (.func 48) #[] #[]] W fun e W' => e = .returned (.bool r) ∧ Below W.heap.size W W' := by
  have HC := hide (IndexNz B A c xs W h1 hB1 hl1)
  go_enter Try.func47, Try.ntmps47
  go_wp2_with (go_at_call 58; refine HC.out.mono ?_; rintro e w1 ⟨i, rfl, hi, hb⟩; have HI := hide hi; clear hi)
  go_ret
  exact ⟨ret_bool (by rw [← hr, ← HI.out]), hb⟩

end Go.Proofs.Ytndlfofpldbldaa
