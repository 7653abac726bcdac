/-
  Contracts of the functions that the layout's words are made by: padded, Grow, Concat, TableWords, DirWords, At, Has.
-/
import Derived.Test.YtndlfofpldbldaaC
namespace Go.Proofs.Ytndlfofpldbldaa
open Go Go.RowKit
attribute [local go_sem] via_cell via_frozen
set_option linter.unusedSimpArgs false
set_option linter.unusedVariables false

set_option maxHeartbeats 400000 in
theorem padded_any (A : Option Addr) (n c : Nat) (xs : List Value) (W : World) (base : Nat) (hown : W.ownsRow base 34 1 (.slice A n c) n xs) (hb : n ≤ 40) (hbase : base ≤ W.heap.size) :
    Calls Try.prog 40 #[.slice A n c] W fun e W' => ∃ v, e = .returned v ∧ W'.ownsRow base 34 1 v 40 (xs ++ List.replicate (40 - n) (.int .u64 0)) ∧ Below base W W' := by
  have hk := hide hbase
  clear hbase
  go_enter Try.func40, Try.ntmps40
  go_wp2_with (at_builtin; refine wpList_appmake elW Try.underlying3 rfl _ _ rfl rfl hown (m := 40 - n) (congrArg (Value.int .i64) (by omega)) (by omega) hk.out ?_; intro v1 w1 hown1 hb1 _ _)
  go_ret
  refine ⟨v1, rfl, ?_, hb1⟩
  rw [zeroCells_one _ rfl, show n + (40 - n) = 40 from by omega] at hown1
  exact hown1

set_option maxHeartbeats 400000 in
theorem GrowW (n : Nat) (W : World) (hn : n ≤ 4096) :
    Calls Try.prog 56 #[.slice none 0 0, .int .i64 (n : Int)] W fun e W' => ∃ v, e = .returned v ∧ W'.ownsRow W.heap.size 34 1 v 0 [] ∧ Below W.heap.size W W' := by
  have hown := World.ownsRow_nil W W.heap.size 34 1
  by_cases h0 : n = 0
  · subst h0
    go_enter Try.func56, Try.ntmps56
    go_wp2
    go_ret
    exact ⟨_, rfl, hown, Below.refl _ _⟩
  · have hpos : (0 : Int) < (n : Int) := by omega
    clear h0
    go_enter Try.func56, Try.ntmps56
    go_wp2_with (at_builtin; refine wpList_appmake elW Try.underlying3 rfl _ _ rfl rfl hown (m := n) rfl (by omega) (Nat.le_refl _) ?_; intro v1 w1 hown1 hb1 _ _; obtain ⟨g, cap, rfl, _, _⟩ := hown1.form (by omega))
    go_ret
    refine ⟨_, rfl, ?_, hb1⟩
    have := ownsRow_cut (k := 0) hown1 (by omega)
    simpa using this

/-- A slice among the slices that are laid end to end. -/
structure Part where
  A : Option Addr
  n : Nat
  c : Nat
  xs : List Value
def sumN (l : List Part) : Nat := (l.map (·.n)).sum
def flatX (l : List Part) : List Value := l.flatMap (·.xs)
def encP (p : Part) : List Value := [.slice p.A p.n p.c]
theorem encP_len : ∀ x, (encP x).length = 1 := fun _ => rfl
theorem sumN_app (a b : List Part) : sumN (a ++ b) = sumN a + sumN b := by simp only [sumN, List.map_append, List.sum_append]
theorem sumN_succ (l : List Part) (k : Nat) (h : k < l.length) : sumN (l.take (k + 1)) = sumN (l.take k) + (l[k]).n := by
  rw [List.take_succ_eq_append_getElem h, sumN_app]
  simp only [sumN, List.map_cons, List.map_nil, List.sum_cons, List.sum_nil, Nat.add_zero]
theorem flatX_succ (l : List Part) (k : Nat) (h : k < l.length) : flatX (l.take (k + 1)) = flatX (l.take k) ++ (l[k]).xs := by
  rw [List.take_succ_eq_append_getElem h]
  simp only [flatX, List.flatMap_append, List.flatMap_cons, List.flatMap_nil, List.append_nil]
theorem sumN_le (l : List Part) (k : Nat) : sumN (l.take k) ≤ sumN l := by
  have h := sumN_app (l.take k) (l.drop k)
  rw [List.take_append_drop] at h
  omega

set_option maxHeartbeats 1000000 in
theorem ConcatW (B : Nat) (A : Option Addr) (c : Nat) (l : List Part) (W : World) (h : Rd W B 1 A l.length (Cs encP l)) (hp : ∀ p ∈ l, Rd W B 1 p.A p.n p.xs) (h1 : ∀ p ∈ l, ∀ u ∈ p.xs, u.oneCell' = true)
    (hB : B ≤ W.heap.size) (hl : l.length ≤ 4096) (hs : sumN l ≤ 4096) :
    Calls Try.prog 41 #[.slice A l.length c] W fun e W' => ∃ v, e = .returned v ∧ W'.ownsRow W.heap.size 34 1 v (sumN l) (flatX l) ∧ Below W.heap.size W W' := by
  have HP := hide hp
  have H1 := hide h1
  clear hp h1
  go_enter Try.func41, Try.ntmps41
  go_wp2_with fail
  go_loop [3, 11] (fun s i => ∃ k : Nat, k ≤ l.length ∧ i = .int .i64 k ∧ s = .int .i64 (sumN (l.take k))) (fun _ i => l.length - (intOf i).toNat)
  case atStart => exact ⟨0, Nat.zero_le _, rfl, rfl⟩
  case round =>
    obtain ⟨k, hk, rfl, rfl⟩ := hrel
    by_cases hlt : k < l.length
    · obtain ⟨b, off, rfl, hb, hc⟩ := h.elem encP_len hlt
      have hd := hc 0 _ (by omega) rfl
      simp only [Nat.mul_one, Nat.add_zero] at hd
      clear hc
      have hs1 := hide (sumN_succ l k hlt)
      have hs2 := sumN_le l (k + 1)
      rw [hs1.out] at hs2
      go_wp2_with fail
      go_round
      case rel => exact ⟨k + 1, by omega, by go_num, by rw [hs1.out]; go_num⟩
      case measure => simp [intOf]; omega
    · obtain rfl : k = l.length := by omega
      rw [List.take_length]
      go_wp2_with (go_at_call 56; refine (GrowW _ _ hs).mono ?_; rintro e w1 ⟨v0, rfl, hown0, hb0⟩)
      go_loopw [6, 27] (fun v i wr => ∃ k : Nat, k ≤ l.length ∧ i = .int .i64 k ∧ wr.ownsRow W.heap.size 34 1 v (sumN (l.take k)) (flatX (l.take k)) ∧ Below W.heap.size W wr) (fun _ i _ => l.length - (intOf i).toNat)
      case atStart => exact ⟨0, Nat.zero_le _, rfl, hown0, hb0⟩
      case round =>
        obtain ⟨k, hk, rfl, hown, hbw⟩ := hrel
        by_cases hlt : k < l.length
        · obtain ⟨b, off, rfl, hb, hc⟩ := (h.below (hbw.mono hB)).elem encP_len hlt
          have hd := hc 0 _ (by omega) rfl
          simp only [Nat.mul_one, Nat.add_zero] at hd
          clear hc
          have hm : l[k] ∈ l := List.getElem_mem hlt
          have hs1 := hide (sumN_succ l k hlt)
          have hs2 := sumN_le l (k + 1)
          rw [hs1.out] at hs2
          go_wp2_with (at_builtin; refine wpList_app elW rfl _ _ rfl rfl hown rfl ((HP.out _ hm).below (hbw.mono hB)) (H1.out _ hm) (by omega) hbw.size ?_; intro v1 w1 hown1 hb1 _ _)
          go_roundw
          case rel => exact ⟨k + 1, by omega, by go_num, by rw [hs1.out, flatX_succ l k hlt]; exact hown1, hbw.trans hb1⟩
          case measure => simp [intOf]; omega
        · obtain rfl : k = l.length := by omega
          rw [List.take_length] at hown
          go_wp2_with fail
          go_ret
          exact ⟨_, rfl, hown, hbw⟩
end Go.Proofs.Ytndlfofpldbldaa
