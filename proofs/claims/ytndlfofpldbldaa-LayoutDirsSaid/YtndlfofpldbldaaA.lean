/-
  Contracts of the functions on cells and entries: Cell, Of, Pack, Unpack, of the program and of the reference.
-/
import Derived.Test.YtndlfofpldbldaaProg
import Derived.Test.YtndlfofpldbldaaLib
namespace Go.Proofs.Ytndlfofpldbldaa
open Go Go.RowKit
attribute [local go_sem] via_cell via_frozen
set_option linter.unusedSimpArgs false
set_option linter.unusedVariables false

theorem or_add (a b : Nat) (ha : a < 65536) : a ||| (b * 65536) = a + 65536 * b := by
  rw [Nat.or_comm, show b * 65536 = 2 ^ 16 * b from by omega, ← Nat.two_pow_add_eq_or_of_lt (by simpa using ha)]
  omega

theorem bits_or_add (s g : Int) (h0 : 0 ≤ s) (h1 : s < 65536) (h2 : 0 ≤ g) (h3 : g < 281474976710656) : bits BinOp.or IntKind.u64 s (g * 65536) = s + 65536 * g := by
  obtain ⟨a, rfl⟩ := Int.eq_ofNat_of_zero_le h0
  obtain ⟨b, rfl⟩ := Int.eq_ofNat_of_zero_le h2
  rw [show ((b : Int) * 65536) = ((b * 65536 : Nat) : Int) from by omega, u64_or_nat a (b * 65536) (by omega) (by omega), or_add a b (by omega)]
  omega

theorem bits_and_low (w : Int) (h0 : 0 ≤ w) (h1 : w < 18446744073709551616) : bits BinOp.and IntKind.u64 w 65535 = w % 65536 := by
  obtain ⟨a, rfl⟩ := Int.eq_ofNat_of_zero_le h0
  have := u64_and_nat a 65535 (by omega) (by omega)
  rw [show ((65535 : Nat) : Int) = 65535 from rfl] at this
  rw [this, show (65535 : Nat) = 2 ^ 16 - 1 from rfl, Nat.and_two_pow_sub_one_eq_mod]
  omega

/-- A slab and a generation that an entry may have. -/
def okEnt (s g : Int) : Bool := decide (0 ≤ s ∧ s < 128 ∧ g < 1099511627776)
theorem okEnt_mk {s g : Int} (h0 : 0 ≤ s) (h1 : s < 128) (h2 : g < 1099511627776) : okEnt s g = true := by simp [okEnt, h0, h1, h2]
theorem okEnt_out {s g : Int} (h : okEnt s g = true) : 0 ≤ s ∧ s < 128 ∧ g < 1099511627776 := by simpa [okEnt] using h
theorem okEnt_no {s g : Int} (h : okEnt s g = false) : ¬ (0 ≤ s ∧ s < 128 ∧ g < 1099511627776) := by simpa [okEnt] using h
def okSlab (s : Int) : Bool := decide (0 ≤ s ∧ s < 128)

section
variable (W : World)

set_option maxHeartbeats 400000 in
theorem Cell_ok (s w : Int) (h0 : 0 ≤ s) (h1 : s < 128) (h2 : 0 ≤ w) (h3 : w < 40) :
    Calls Try.prog 10 #[.int .i64 s, .int .i64 w] W fun e W' => e = .returned (.tuple #[.int .i64 (16 + s * 40 + w), .int .i64 0]) ∧ W = W' := by
  go_enter Try.func10, Try.ntmps10
  go_wp2
  go_ret2
  exact ⟨rfl, rfl⟩

set_option maxHeartbeats 400000 in
theorem Cell_no (s w : Int) (h : ¬ (0 ≤ s ∧ s < 128 ∧ 0 ≤ w ∧ w < 40)) :
    Calls Try.prog 10 #[.int .i64 s, .int .i64 w] W fun e W' => e = .returned (.tuple #[.int .i64 0, .int .i64 2]) ∧ W = W' := by
  go_enter Try.func10, Try.ntmps10
  go_wp2
  all_goals try (exfalso; omega)
  all_goals go_ret2
  all_goals exact ⟨rfl, rfl⟩

set_option maxHeartbeats 400000 in
theorem Slab_any (s : Int) (r : Bool) (hr : okSlab s = r) :
    Calls Try.prog 11 #[.int .i64 s] W fun e W' => e = .returned (.bool r) ∧ W = W' := by
  subst hr
  by_cases h0 : 0 ≤ s
  all_goals
    go_enter Try.func11, Try.ntmps11
    go_wp2
    go_ret
    simp [okSlab]
    try omega

set_option maxHeartbeats 400000 in
theorem RCell_any (s w : Int) (h0 : 0 ≤ s) (h1 : s < 128) (h2 : 0 ≤ w) (h3 : w < 40) :
    Calls Try.prog 12 #[.int .i64 s, .int .i64 w] W fun e W' => e = .returned (.int .i64 (16 + 40 * s + w)) ∧ W = W' := by
  go_enter Try.func12, Try.ntmps12
  go_wp2
  go_ret
  exact ⟨rfl, rfl⟩

set_option maxHeartbeats 400000 in
theorem Of_ok (c : Int) (h0 : 16 ≤ c) (h1 : c < 5136) :
    Calls Try.prog 13 #[.int .i64 c] W fun e W' => e = .returned (.tuple #[.int .i64 ((c - 16) / 40), .int .i64 ((c - 16) % 40), .int .i64 0]) ∧ W = W' := by
  go_enter Try.func13, Try.ntmps13
  go_wp2
  go_ret3
  exact ⟨rfl, rfl⟩

set_option maxHeartbeats 400000 in
theorem Of_no (c : Int) (hlo : -9223372036854775808 ≤ c) (hhi : c ≤ 9223372036854775807) (h : ¬ (16 ≤ c ∧ c < 5136)) :
    Calls Try.prog 13 #[.int .i64 c] W fun e W' => e = .returned (.tuple #[.int .i64 0, .int .i64 0, .int .i64 2]) ∧ W = W' := by
  by_cases hc : c < 16
  · go_enter Try.func13, Try.ntmps13
    go_wp2
    go_ret3
    exact ⟨rfl, rfl⟩
  · have h5 : 5136 ≤ c := by omega
    clear h hlo
    go_enter Try.func13, Try.ntmps13
    go_wp2
    go_ret3
    exact ⟨rfl, rfl⟩

set_option maxHeartbeats 400000 in
theorem Pack_ok (s g : Int) (h0 : 0 ≤ s) (h1 : s < 128) (h2 : 0 ≤ g) (h3 : g < 1099511627776) :
    Calls Try.prog 14 #[.agg #[.int .i64 s, .int .u64 g]] W fun e W' => e = .returned (.tuple #[.int .u64 (s + 1 + 65536 * g), .int .i64 0]) ∧ Below W.heap.size W W' := by
  have hg : (g / 1099511627776 != 0) = false := by rw [bne_eq_false_iff_eq]; omega
  go_enter Try.func14, Try.ntmps14
  go_wp2
  go_ret2
  refine ⟨?_, by go_grown⟩
  simp [bits_or_add (s + 1) g (by omega) (by omega) (by omega) (by omega)]

set_option maxHeartbeats 400000 in
theorem Pack_no (s g : Int) (h2 : 0 ≤ g) (hg : g < 18446744073709551616) (h : ¬ (0 ≤ s ∧ s < 128 ∧ g < 1099511627776)) :
    Calls Try.prog 14 #[.agg #[.int .i64 s, .int .u64 g]] W fun e W' => e = .returned (.tuple #[.int .u64 0, .int .i64 262]) ∧ Below W.heap.size W W' := by
  have hg : 0 ≤ s → s < 128 → (g / 1099511627776 != 0) = true := by intro a b; rw [bne_iff_ne]; omega
  by_cases h0 : 0 ≤ s
  · by_cases h1 : s < 128
    · have hg' := hg h0 h1
      clear hg
      go_enter Try.func14, Try.ntmps14
      go_wp2
      go_ret2
      exact ⟨rfl, by go_grown⟩
    · clear hg
      go_enter Try.func14, Try.ntmps14
      go_wp2
      go_ret2
      exact ⟨rfl, by go_grown⟩
  · clear hg
    go_enter Try.func14, Try.ntmps14
    go_wp2
    go_ret2
    exact ⟨rfl, by go_grown⟩

set_option maxHeartbeats 400000 in
theorem power_any (n : Nat) (hn : n ≤ 63) :
    Calls Try.prog 37 #[.int .i64 (n : Int)] W fun e W' => e = .returned (.int .u64 ((2 ^ n : Nat) : Int)) ∧ W = W' := by
  go_enter Try.func37, Try.ntmps37
  go_wp2
  go_loop [3, 5] (fun o i => ∃ k : Nat, k ≤ n ∧ i = .int .i64 k ∧ o = .int .u64 ((2 ^ k : Nat) : Int)) (fun _ i => n - (intOf i).toNat)
  case atStart => exact ⟨0, Nat.zero_le _, rfl, rfl⟩
  case round =>
    obtain ⟨k, hk, rfl, rfl⟩ := hrel
    have hp : (2 : Nat) ^ k ≤ 2 ^ 63 := Nat.pow_le_pow_right (by omega) (by omega)
    by_cases hlt : k < n
    · have hp' : (2 : Nat) ^ (k + 1) ≤ 2 ^ 63 := Nat.pow_le_pow_right (by omega) (by omega)
      have H := hide (show ((2 : Nat) ^ (k + 1) : Nat) = 2 * 2 ^ k from by omega)
      have hb : (2 : Nat) ^ k ≤ 4611686018427387904 := by omega
      clear hp hp'
      generalize hq : (2 : Nat) ^ k = q at *
      clear hq
      go_wp2
      go_round
      case rel => exact ⟨k + 1, by omega, by go_num, by rw [H.out]; go_num⟩
      case measure => simp [intOf]; omega
    · obtain rfl : k = n := by omega
      clear hp
      go_wp2
      go_ret
      exact ⟨rfl, rfl⟩

theorem power40 : Calls Try.prog 37 #[.int .i64 40] W fun e W' => e = .returned (.int .u64 1099511627776) ∧ W = W' := power_any W 40 (by omega)

set_option maxHeartbeats 400000 in
theorem Entry_any (s g : Int) (r : Bool) (h2 : 0 ≤ g) (hr : okEnt s g = r) :
    Calls Try.prog 15 #[.agg #[.int .i64 s, .int .u64 g]] W fun e W' => e = .returned (.bool r) ∧ Below W.heap.size W W' := by
  subst hr
  obtain ⟨b, hb⟩ : ∃ b, okSlab s = b := ⟨_, rfl⟩
  have Hb := hide hb
  clear hb
  cases b
  all_goals
    go_enter Try.func15, Try.ntmps15
    go_wp2_with fail
    refine wp_region_via (by kernel_rfl) (by kernel_rfl) ?_
    repeat (go_big_quiet_step ((first | (go_at_call 11; exact via_of_same (Slab_any _ s _ Hb.out)) | (go_at_call 37; exact via_of_same (power40 _)))))
    refine via_out fun w1 hb1 => ?_
    go_wp2
    go_ret
    refine ⟨?_, ?_⟩
    · have h := Hb.out; exact ret_bool (by rw [Bool.eq_iff_iff]; simp [okEnt, okSlab] at h ⊢; omega)
    · exact ((Below.refl _ _).alloc (Nat.le_refl _) _).trans (hb1.mono (by simp))

set_option maxHeartbeats 400000 in
theorem RPack_any (s g : Int) (h0 : 0 ≤ s) (h1 : s < 128) (h2 : 0 ≤ g) (h3 : g < 1099511627776) :
    Calls Try.prog 16 #[.agg #[.int .i64 s, .int .u64 g]] W fun e W' => e = .returned (.int .u64 (s + 1 + 65536 * g)) ∧ Below W.heap.size W W' := by
  go_enter Try.func16, Try.ntmps16
  go_wp2
  go_ret
  exact ⟨rfl, by go_grown⟩

set_option maxHeartbeats 400000 in
theorem Unpack_ok (w : Int) (h0 : 0 ≤ w) (h1 : w < 18446744073709551616) (h : okEnt (w % 65536 - 1) (w / 65536) = true) :
    Calls Try.prog 17 #[.int .u64 w] W fun e W' => e = .returned (.tuple #[.agg #[.int .i64 (w % 65536 - 1), .int .u64 (w / 65536)], .int .i64 0]) ∧ Below W.heap.size W W' := by
  obtain ⟨a, b, c⟩ := okEnt_out h
  have hb := bits_and_low w h0 h1
  have he : (w % 65536 - 1 + 1 + 65536 * (w / 65536) != w) = false := by rw [bne_eq_false_iff_eq]; omega
  clear h
  go_enter Try.func17, Try.ntmps17
  go_wp2_with (go_at_call 14; refine (Pack_ok _ _ _ (by omega) (by omega) (by omega) (by omega)).mono ?_; rintro e w1 ⟨rfl, hb1⟩; obtain ⟨hc1, hf1, hz1⟩ := bfacts hb1; (try simp only [World.size_alloc, World.size_drew] at hc1 hf1 hz1))
  have e0 : w1.cell? ⟨W.heap.size, 0, none⟩ = some (.int .i64 0) := by simp [hc1, go_sem]
  have e1 : w1.cell? ⟨W.heap.size, 1, none⟩ = some (.int .u64 0) := by simp [hc1, go_sem]
  refine bodyPost_ret (v := .tuple #[.agg #[.int .i64 (w % 65536 - 1), .int .u64 (w / 65536)], .int .i64 0]) (by simp [results, Try.results17, go_sem, e0, e1]) rfl ⟨rfl, ?_⟩
  exact (((((Below.refl _ _).alloc (Nat.le_refl _) _).alloc (by simp) _).trans (hb1.mono (by simp; omega))).setCell (Nat.le_refl _) _).setCell (Nat.le_refl _) _

set_option maxHeartbeats 400000 in
theorem Unpack_no (w : Int) (h0 : 0 ≤ w) (h1 : w < 18446744073709551616) (h : okEnt (w % 65536 - 1) (w / 65536) = false) :
    Calls Try.prog 17 #[.int .u64 w] W fun e W' => e = .returned (.tuple #[.agg #[.int .i64 0, .int .u64 0], .int .i64 262]) ∧ Below W.heap.size W W' := by
  have H := hide (okEnt_no h)
  have hb := bits_and_low w h0 h1
  clear h
  go_enter Try.func17, Try.ntmps17
  go_wp2_with (go_at_call 14; refine (Pack_no _ _ _ (by omega) (by omega) H.out).mono ?_; rintro e w1 ⟨rfl, hb1⟩; obtain ⟨hc1, hf1, hz1⟩ := bfacts hb1; (try simp only [World.size_alloc, World.size_drew] at hc1 hf1 hz1))
  have e0 : w1.cell? ⟨W.heap.size, 0, none⟩ = some (.int .i64 0) := by simp [hc1, go_sem]
  have e1 : w1.cell? ⟨W.heap.size, 1, none⟩ = some (.int .u64 0) := by simp [hc1, go_sem]
  refine bodyPost_ret (v := .tuple #[.agg #[.int .i64 0, .int .u64 0], .int .i64 262]) (by simp [results, Try.results17, go_sem, e0, e1]) rfl ⟨rfl, ?_⟩
  exact (((((Below.refl _ _).alloc (Nat.le_refl _) _).alloc (by simp) _).trans (hb1.mono (by simp; omega))).setCell (Nat.le_refl _) _).setCell (Nat.le_refl _) _

set_option maxHeartbeats 400000 in
theorem RUnpack_any (w : Int) (r : Bool) (h0 : 0 ≤ w) (h1 : w < 18446744073709551616) (h : okEnt (w % 65536 - 1) (w / 65536) = r) :
    Calls Try.prog 18 #[.int .u64 w] W fun e W' => e = .returned (.tuple #[.agg #[.int .i64 (w % 65536 - 1), .int .u64 (w / 65536)], .bool r]) ∧ Below W.heap.size W W' := by
  have H := hide h
  clear h
  go_enter Try.func18, Try.ntmps18
  go_wp2_with fail
  go_region_with (go_at_call 15; refine (Entry_any _ _ _ r (by omega) H.out).mono ?_; rintro e w1 ⟨rfl, hb1⟩; obtain ⟨hc1, hf1, hz1⟩ := bfacts hb1; (try simp only [World.size_alloc, World.size_drew] at hc1 hf1 hz1))
  all_goals go_wp2
  all_goals
    have e0 : w1.cell? ⟨W.heap.size, 0, none⟩ = some (.int .i64 0) := by simp [hc1, go_sem]
    have e1 : w1.cell? ⟨W.heap.size, 1, none⟩ = some (.int .u64 0) := by simp [hc1, go_sem]
    refine bodyPost_ret (v := .tuple #[.agg #[.int .i64 (w % 65536 - 1), .int .u64 (w / 65536)], .bool r]) (by simp [results, Try.results18, go_sem, e0, e1]) rfl ⟨rfl, ?_⟩
    exact (((((Below.refl _ _).alloc (Nat.le_refl _) _).alloc (by simp) _).drew.trans (hb1.mono (by simp; omega))).setCell (Nat.le_refl _) _).setCell (Nat.le_refl _) _
end
end Go.Proofs.Ytndlfofpldbldaa
