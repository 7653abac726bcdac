/-
  Slices of ints: cloned, compared.
-/
import Derived.Test.YtogjokoaghpjiaaProg
import Derived.Test.YtogjokoaghpjiaaMore
set_option linter.unusedSimpArgs false
set_option linter.unusedVariables false
namespace Go.Proofs.Ytogjokoaghpjiaa
open Go Go.RowKit
attribute [local go_sem] via_cell via_frozen

def encI (x : Int) : List Value := [.int .i64 x]
theorem encI_len : ∀ x, (encI x).length = 1 := fun _ => rfl
theorem encI_one : ∀ x, ∀ u ∈ encI x, u.oneCell' = true := by intro x u hu; simp [encI] at hu; subst hu; rfl
theorem elI : ElemOk Try.prog 22 3 1 8 (.int .i64 0) := ⟨Try.underlying22, by kernel_rfl, rfl, by omega, by omega, by intro u hu; simp [Value.cells] at hu; subst hu; rfl⟩

set_option maxHeartbeats 400000 in
theorem CloneI (B : Nat) (A : Option Addr) (n c : Nat) (xs : List Value) (W : World) (hr : Rd W B 1 A n xs) (hB : B ≤ W.heap.size) (h1 : ∀ u ∈ xs, u.oneCell' = true) (hb : n ≤ 4096) :
    Calls Try.prog 10 #[.slice A n c] W fun e W' => ∃ v, e = .returned v ∧ W'.ownsRow W.heap.size 3 1 v n xs ∧ Below W.heap.size W W' := by
  cases A with
  | none =>
    obtain rfl := rd_none hr
    obtain rfl := hr.nil
    have hn := fun w => Lib.run_eql_slice_nil (P := Try.prog) w 22 3 none 0 c 0 0 Try.underlying22
    go_enter Try.func10, Try.ntmps10
    go_wp2
    go_ret
    exact ⟨_, rfl, World.ownsRow_nil _ _ _ _, Below.refl _ _⟩
  | some a =>
    have hn := fun w => Lib.run_eql_slice_nil (P := Try.prog) w 22 3 (some a) n c 0 0 Try.underlying22
    have hown := World.ownsRow_lit (base := W.heap.size) (e := 3) (size := 1) W #[] 0 (Nat.le_refl _) (by simp [maxLen]) rfl
    go_enter Try.func10, Try.ntmps10
    go_wp2_with (at_builtin; refine wpList_app elI rfl _ _ rfl rfl hown rfl (hr.alloc hB _) h1 (by omega) (by simp) ?_; intro v1 w1 hown1 hb1 _ _)
    go_ret
    exact ⟨v1, rfl, by simpa using hown1, ((Below.refl _ _).alloc (Nat.le_refl _) _).trans hb1⟩

set_option maxHeartbeats 1000000 in
theorem EqualI (B1 B2 : Nat) (A1 A2 : Option Addr) (c1 c2 : Nat) (xs ys : List (Int)) (W : World) (h1 : Rd W B1 1 A1 xs.length (Cs encI xs)) (h2 : Rd W B2 1 A2 ys.length (Cs encI ys)) (hB1 : B1 ≤ W.heap.size) (hB2 : B2 ≤ W.heap.size)
    (hl1 : xs.length ≤ 4096) (hl2 : ys.length ≤ 4096) (r : Bool) (hr : decide (xs = ys) = r) :
    Calls Try.prog 16 #[.slice A1 xs.length c1, .slice A2 ys.length c2] W fun e W' => e = .returned (.bool r) ∧ Below W.heap.size W W' := by
  subst hr
  by_cases hlen : xs.length = ys.length
  · have ht : ((xs.length : Int) != (ys.length : Int)) = false := by rw [bne_eq_false_iff_eq]; omega
    have HL := hide hlen
    clear hlen
    go_enter Try.func16, Try.ntmps16
    go_wp2_with fail
    go_loopw [13] (fun i wr => ∃ k : Nat, k ≤ xs.length ∧ i = .int .i64 k ∧ xs.take k = ys.take k ∧ Below W.heap.size W wr) (fun i _ => xs.length - (intOf i).toNat)
    case atStart => exact ⟨0, Nat.zero_le _, rfl, rfl, Below.refl _ _⟩
    case round =>
      obtain ⟨k, hk, rfl, hpre, hbw⟩ := hrel
      have HP := hide hpre
      clear hpre
      by_cases hlt : k < xs.length
      · have hlt2 : k < ys.length := by have := HL.out; omega
        obtain ⟨b1, o1, rfl, hb1, hc1⟩ := (h1.below (hbw.mono hB1)).elem encI_len hlt
        obtain ⟨b2, o2, rfl, hb2, hc2⟩ := (h2.below (hbw.mono hB2)).elem encI_len hlt2
        have hd10 := hc1 0 _ (by omega) rfl
        have hd20 := hc2 0 _ (by omega) rfl
        simp only [Nat.mul_one, Nat.add_zero] at hd10 hd20
        clear hc1 hc2
        have hi2 : (k : Int) < (ys.length : Int) := by omega
        generalize hx : xs[k] = x at *
        generalize hy : ys[k] = y at *
        have HX := hide hx
        have HY := hide hy
        clear hx hy
        by_cases hxy : x = y
        · subst hxy
          have hne : (x != x) = false := by simp
          go_wp2_with fail
          go_quiet (fail)
          go_wp2_with fail
          go_roundw
          case rel => exact ⟨k + 1, by omega, by go_num, by rw [List.take_succ_eq_append_getElem hlt, List.take_succ_eq_append_getElem hlt2, HP.out, HX.out, HY.out], hbw.trans ⟨rfl, rfl, rfl, Nat.le_refl _, fun _ _ => rfl⟩⟩
          case measure => simp [intOf]; omega
        · have hne : (x != y) = true := by simpa using hxy
          go_wp2_with fail
          go_quiet (fail)
          go_wp2_with fail
          go_ret
          exact ⟨ret_bool (by rw [eq_comm, decide_eq_false_iff_not]; intro h; apply hxy; rw [← HX.out, ← HY.out]; simp [h]), hbw.trans ⟨rfl, rfl, rfl, Nat.le_refl _, fun _ _ => rfl⟩⟩
      · go_wp2_with fail
        go_ret
        have he : xs = ys := by have h := HP.out; rw [List.take_of_length_le (by omega), List.take_of_length_le (by have := HL.out; omega)] at h; exact h
        exact ⟨ret_bool (by rw [eq_comm, decide_eq_true_iff]; exact he), hbw⟩
  · have ht : ((xs.length : Int) != (ys.length : Int)) = true := by rw [bne_iff_ne]; omega
    go_enter Try.func16, Try.ntmps16
    go_wp2
    go_ret
    exact ⟨ret_bool (by rw [eq_comm, decide_eq_false_iff_not]; intro h; exact hlen (by rw [h])), Below.refl _ _⟩

end Go.Proofs.Ytogjokoaghpjiaa
