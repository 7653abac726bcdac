/-
  Rows of reaches: read, compared.
-/
import Derived.Test.YtjlbnegdiabglaaDip
import Derived.BigQuiet
set_option linter.unusedSimpArgs false
set_option linter.unusedVariables false
namespace Go.Proofs.Ytjlbnegdiabglaa
open Go Go.RowKit
attribute [local go_sem] via_cell via_frozen

def encR (x : Rc) : List Value := [.int .i64 x.e.1, .int .u64 x.e.2, .int .i64 x.dep, .int .u64 x.pre, .int .i64 x.at_, .int .i64 x.many]
theorem encR_len : ∀ x, (encR x).length = 6 := fun _ => rfl
theorem encR_one : ∀ x, ∀ u ∈ encR x, u.oneCell' = true := by intro x u hu; simp [encR] at hu; rcases hu with rfl | rfl | rfl | rfl | rfl | rfl <;> rfl
theorem elR : ElemOk Try.prog 28 33 6 48 (.agg #[.int .i64 0, .int .u64 0, .int .i64 0, .int .u64 0, .int .i64 0, .int .i64 0]) := ⟨Try.underlying28, by kernel_rfl, rfl, by omega, by omega, by intro u hu; simp [Value.cells] at hu; rcases hu with rfl | rfl | rfl | rfl | rfl | rfl <;> rfl⟩
abbrev rC (x : Rc) : Array Value := #[.int .i64 x.e.1, .int .u64 x.e.2, .int .i64 x.dep, .int .u64 x.pre, .int .i64 x.at_, .int .i64 x.many]
theorem neqR (w : World) (x y : Rc) (r : Bool) (hr : decide (x = y) = r) :
    (binOp .neq 33 (.agg #[.int .i64 x.e.1, .int .u64 x.e.2, .int .i64 x.dep, .int .u64 x.pre, .int .i64 x.at_, .int .i64 x.many]) (.agg #[.int .i64 y.e.1, .int .u64 y.e.2, .int .i64 y.dep, .int .u64 y.pre, .int .i64 y.at_, .int .i64 y.many])).run Try.prog w = .ok (.bool (!r)) w := by
  obtain ⟨⟨a1, a2⟩, a3, a4, a5, a6⟩ := x
  obtain ⟨⟨b1, b2⟩, b3, b4, b5, b6⟩ := y
  simp only [binOp]
  simp [Op.equal, Op.maxDepth, go_sem, run_equalIn_struct]
  subst hr
  by_cases h1 : a1 = b1 <;> by_cases h2 : a2 = b2 <;> by_cases h3 : a3 = b3 <;> by_cases h4 : a4 = b4 <;> by_cases h5 : a5 = b5 <;> by_cases h6 : a6 = b6 <;> simp [h1, h2, h3, h4, h5, h6]

set_option maxHeartbeats 1000000 in
theorem EqualR (B1 B2 : Nat) (A1 A2 : Option Addr) (c1 c2 : Nat) (xs ys : List (Rc)) (W : World) (h1 : Rd W B1 6 A1 xs.length (Cs encR xs)) (h2 : Rd W B2 6 A2 ys.length (Cs encR ys)) (hB1 : B1 ≤ W.heap.size) (hB2 : B2 ≤ W.heap.size)
    (hl1 : xs.length ≤ 4096) (hl2 : ys.length ≤ 4096) (r : Bool) (hr : decide (xs = ys) = r) :
    Calls Try.prog 14 #[.slice A1 xs.length c1, .slice A2 ys.length c2] W fun e W' => e = .returned (.bool r) ∧ Below W.heap.size W W' := by
  subst hr
  by_cases hlen : xs.length = ys.length
  · have ht : ((xs.length : Int) != (ys.length : Int)) = false := by rw [bne_eq_false_iff_eq]; omega
    have HL := hide hlen
    clear hlen
    go_enter Try.func14, Try.ntmps14
    go_wp2_with fail
    go_loopw [13] (fun i wr => ∃ k : Nat, k ≤ xs.length ∧ i = .int .i64 k ∧ xs.take k = ys.take k ∧ Below W.heap.size W wr) (fun i _ => xs.length - (intOf i).toNat)
    case atStart => exact ⟨0, Nat.zero_le _, rfl, rfl, Below.refl _ _⟩
    case round =>
      obtain ⟨k, hk, rfl, hpre, hbw⟩ := hrel
      have HP := hide hpre
      clear hpre
      by_cases hlt : k < xs.length
      · have hlt2 : k < ys.length := by have := HL.out; omega
        obtain ⟨b1, o1, rfl, hb1, hc1⟩ := (h1.below (hbw.mono hB1)).elem encR_len hlt
        obtain ⟨b2, o2, rfl, hb2, hc2⟩ := (h2.below (hbw.mono hB2)).elem encR_len hlt2
        have hd10 := hc1 0 _ (by omega) rfl
        have hd11 := hc1 1 _ (by omega) rfl
        have hd12 := hc1 2 _ (by omega) rfl
        have hd13 := hc1 3 _ (by omega) rfl
        have hd14 := hc1 4 _ (by omega) rfl
        have hd15 := hc1 5 _ (by omega) rfl
        have hd20 := hc2 0 _ (by omega) rfl
        have hd21 := hc2 1 _ (by omega) rfl
        have hd22 := hc2 2 _ (by omega) rfl
        have hd23 := hc2 3 _ (by omega) rfl
        have hd24 := hc2 4 _ (by omega) rfl
        have hd25 := hc2 5 _ (by omega) rfl
        simp only [Nat.add_zero] at hd10 hd20
        clear hc1 hc2
        have hi2 : (k : Int) < (ys.length : Int) := by omega
        generalize hx : xs[k] = x at *
        generalize hy : ys[k] = y at *
        have HX := hide hx
        have HY := hide hy
        clear hx hy
        by_cases hxy : x = y
        · subst hxy
          have hne := fun w => neqR w x x true (by simp)
          go_wp2_with fail
          go_quiet (fail)
          go_wp2_with fail
          go_roundw
          case rel => exact ⟨k + 1, by omega, by go_num, by rw [List.take_succ_eq_append_getElem hlt, List.take_succ_eq_append_getElem hlt2, HP.out, HX.out, HY.out], hbw.trans ⟨rfl, rfl, rfl, Nat.le_refl _, fun _ _ => rfl⟩⟩
          case measure => simp [intOf]; omega
        · have hne := fun w => neqR w x y false (by simpa using hxy)
          go_wp2_with fail
          go_quiet (fail)
          go_wp2_with fail
          go_ret
          exact ⟨ret_bool (by rw [eq_comm, decide_eq_false_iff_not]; intro h; apply hxy; rw [← HX.out, ← HY.out]; simp [h]), hbw.trans ⟨rfl, rfl, rfl, Nat.le_refl _, fun _ _ => rfl⟩⟩
      · go_wp2_with fail
        go_ret
        have he : xs = ys := by have h := HP.out; rw [List.take_of_length_le (by omega), List.take_of_length_le (by have := HL.out; omega)] at h; exact h
        exact ⟨ret_bool (by rw [eq_comm, decide_eq_true_iff]; exact he), hbw⟩
  · have ht : ((xs.length : Int) != (ys.length : Int)) = true := by rw [bne_iff_ne]; omega
    go_enter Try.func14, Try.ntmps14
    go_wp2
    go_ret
    exact ⟨ret_bool (by rw [eq_comm, decide_eq_false_iff_not]; intro h; exact hlen (by rw [h])), Below.refl _ _⟩

end Go.Proofs.Ytjlbnegdiabglaa
