/-
  The law LayoutBack, walked.
-/
import Derived.Test.YtndlfofpldbldaaH
namespace Go.Proofs.Ytndlfofpldbldaa
open Go Go.RowKit
attribute [local go_sem] via_cell via_frozen
set_option linter.unusedSimpArgs false
set_option linter.unusedVariables false

theorem eqE (w : World) (x y : Int × Int) (r : Bool) (hr : decide (x = y) = r) :
    (binOp .eql 36 (.agg #[.int .i64 x.1, .int .u64 x.2]) (.agg #[.int .i64 y.1, .int .u64 y.2])).run Try.prog w = .ok (.bool r) w := by
  obtain ⟨a, b⟩ := x
  obtain ⟨c, d⟩ := y
  simp only [binOp]
  simp [Op.equal, Op.maxDepth, go_sem, run_equalIn_struct]
  subst hr
  by_cases h1 : a = c <;> by_cases h2 : b = d <;> simp [h1, h2]

theorem Of_cell (slab word : Int) (W : World) (h0 : 0 ≤ slab) (h1 : slab < 128) (h2 : 0 ≤ word) (h3 : word < 40) :
    Calls Try.prog 13 #[.int .i64 (16 + slab * 40 + word)] W fun e W' => e = .returned (.tuple #[.int .i64 slab, .int .i64 word, .int .i64 0]) ∧ W = W' := by
  have h := Of_ok W (16 + slab * 40 + word) (by omega) (by omega)
  rw [show (16 + slab * 40 + word - 16) / 40 = slab by omega, show (16 + slab * 40 + word - 16) % 40 = word by omega] at h
  exact h
theorem Cell_of (c : Int) (W : World) (h0 : 16 ≤ c) (h1 : c < 5136) :
    Calls Try.prog 10 #[.int .i64 ((c - 16) / 40), .int .i64 ((c - 16) % 40)] W fun e W' => e = .returned (.tuple #[.int .i64 c, .int .i64 0]) ∧ W = W' := by
  have h := Cell_ok W ((c - 16) / 40) ((c - 16) % 40) (by omega) (by omega) (by omega) (by omega)
  rw [show 16 + (c - 16) / 40 * 40 + (c - 16) % 40 = c by omega] at h
  exact h
theorem Unpack_of (s g : Int) (W : World) (h0 : 0 ≤ s) (h1 : s < 128) (h2 : 0 ≤ g) (h3 : g < 1099511627776) :
    Calls Try.prog 17 #[.int .u64 (s + 1 + 65536 * g)] W fun e W' => e = .returned (.tuple #[.agg #[.int .i64 s, .int .u64 g], .int .i64 0]) ∧ Below W.heap.size W W' := by
  have e1 : (s + 1 + 65536 * g) % 65536 - 1 = s := by omega
  have e2 : (s + 1 + 65536 * g) / 65536 = g := by omega
  have h := Unpack_ok W (s + 1 + 65536 * g) (by omega) (by omega) (by rw [e1, e2]; exact okEnt_mk h0 h1 h3)
  rw [e1, e2] at h
  exact h
theorem eqE_same (s g : Int) (w : World) : (binOp .eql 36 (.agg #[.int .i64 s, .int .u64 g]) (.agg #[.int .i64 s, .int .u64 g])).run Try.prog w = .ok (.bool true) w := eqE w (s, g) (s, g) true (by simp)

set_option maxRecDepth 100000 in
set_option maxHeartbeats 4000000 in
theorem Back_walk (slab word s g : Int) (W : World) (hs0 : -9223372036854775808 ≤ slab) (hs1 : slab ≤ 9223372036854775807) (hw0 : -9223372036854775808 ≤ word) (hw1 : word ≤ 9223372036854775807) (hg : U64 g) :
    Calls Try.prog 4 #[.int .i64 slab, .int .i64 word, .agg #[.int .i64 s, .int .u64 g]] W fun e W' => e = .returned (.bool true) ∧ Below W.heap.size W W' := by
  have HG := hide hg.2
  have HW := hide (fun w => wakes_any w)
  have hcase1 : (slab < 0 ∨ 128 ≤ slab ∨ word < 0 ∨ 40 ≤ word) ∨ (0 ≤ slab ∧ slab < 127 ∧ 0 ≤ word ∧ word < 40) ∨ (slab = 127 ∧ 0 ≤ word ∧ word < 40) := by omega
  have hb : ∃ b, okEnt s g = b := ⟨_, rfl⟩
  obtain ⟨b, hb⟩ := hb
  have HO := hide hb
  have HS := hide (And.intro hs0 hs1)
  have HW0 := hide hw0
  have HW1 := hide hw1
  have heq := eqE_same s g
  have hg0 := hg.1
  clear hg hb hs0 hs1 hw0 hw1
  have hent : (b = false ∧ Hid (¬ (0 ≤ s ∧ s < 128 ∧ g < 1099511627776))) ∨ (b = true ∧ 0 ≤ s ∧ s < 128 ∧ g < 1099511627776) := by
    cases b
    · exact .inl ⟨rfl, okEnt_no HO.out⟩
    · exact .inr ⟨rfl, okEnt_out HO.out⟩
  clear HO
  by_cases hof : 16 ≤ word ∧ word < 5136
  all_goals
    rcases hcase1 with h | ⟨h1, h2, h3, h4⟩ | ⟨rfl, h3, h4⟩
    all_goals
      rcases hent with ⟨rfl, HE⟩ | ⟨rfl, he1, he2, he3⟩
      all_goals
        go_enter Try.func4, Try.ntmps4
        go_wp2_with fail
        refine (HW.out _).mono ?_
        rintro e w1 ⟨rfl, hb1⟩
        have e0 : w1.cell? ⟨W.heap.size, 0, none⟩ = some (.int .i64 s) := by rw [hb1.cell (by simp)]; simp
        have e1 : w1.cell? ⟨W.heap.size, 1, none⟩ = some (.int .u64 g) := by rw [hb1.cell (by simp)]; simp
        have hz := hb1.size
        simp only [World.size_alloc] at hz
        have HB1 := hide (((Below.refl W.heap.size W).alloc (Nat.le_refl _) _).trans (hb1.mono (by simp)))
        clear hb1
        go_wp2_with (first
          | (go_at_call 10; (with_reducible refine (Cell_of word _ (by omega) (by omega)).mono ?_); rintro e w2 ⟨rfl, rfl⟩)
          | (go_at_call 10; (with_reducible refine (Cell_ok _ _ _ (by omega) (by omega) (by omega) (by omega)).mono ?_); rintro e w2 ⟨rfl, rfl⟩)
          | (go_at_call 10; (with_reducible refine (Cell_no _ _ _ (by omega)).mono ?_); rintro e w2 ⟨rfl, rfl⟩)
          | (go_at_call 13; (with_reducible refine (Of_cell _ _ _ (by omega) (by omega) (by omega) (by omega)).mono ?_); rintro e w2 ⟨rfl, rfl⟩)
          | (go_at_call 13; (with_reducible refine (Of_ok _ _ (by omega) (by omega)).mono ?_); rintro e w2 ⟨rfl, rfl⟩)
          | (go_at_call 13; (with_reducible refine (Of_no _ _ HW0.out HW1.out (by omega)).mono ?_); rintro e w2 ⟨rfl, rfl⟩)
          | (go_at_call 14; (with_reducible refine (Pack_no _ s g hg0 HG.out HE.out).mono ?_); rintro e w3 ⟨rfl, hb3⟩)
          | (go_at_call 14; (with_reducible refine (Pack_ok _ s g (by omega) (by omega) (by omega) (by omega)).mono ?_); rintro e w3 ⟨rfl, hb3⟩; have f0 := kept hb3 e0; have f1 := kept hb3 e1; have hz3 := hb3.size)
          | (go_at_call 17; (with_reducible refine (Unpack_of s g _ (by omega) (by omega) (by omega) (by omega)).mono ?_); rintro e w4 ⟨rfl, hb4⟩; have k0 := kept hb4 f0; have k1 := kept hb4 f1; have hz4 := hb4.size; have hz5 : W.heap.size < w4.heap.size := by omega))
        go_ret
        refine ⟨by first | rfl | exact ret_bool (by simp; omega), ?_⟩
        have hB3 := HB1.out.trans (hb3.mono (by omega))
        first
          | exact hB3
          | (have hB4 := hB3.trans (hb4.mono (by omega)); have hz6 := hB4.size; go_grown)
end Go.Proofs.Ytndlfofpldbldaa
