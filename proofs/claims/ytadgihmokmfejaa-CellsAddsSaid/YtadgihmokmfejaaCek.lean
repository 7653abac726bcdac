/-
  The program's: cells of their own; an access.
-/
import Derived.Test.YtadgihmokmfejaaCeh
set_option linter.unusedSimpArgs false
set_option linter.unusedVariables false
namespace Go.Proofs.Ytadgihmokmfejaa
open Go Go.RowKit
attribute [local go_sem] via_cell via_frozen

/-- Words in a block of their own. -/
def OwnW (W : World) (n : Nat) (X : List Int) (x : Ending) (W' : World) : Prop := ∃ g, x = .returned (.slice (some ⟨g, 0, none⟩) n n) ∧ RowAt W' g 31 (Cs encW X).toArray ∧ W.heap.size ≤ g ∧ Below W.heap.size W W'

set_option maxHeartbeats 1000000 in
theorem pown_any (A : Option Addr) (c n : Nat) (X : List Int) (W : World) (h : Rd W W.heap.size 1 A n (Cs encW X)) (hx : X.length = n) (hn : 1 ≤ n) (hl : n ≤ 8192) :
    Calls Try.prog 39 #[.slice A n c] W (OwnW W n X) := by
  obtain ⟨i0, hi0, hz0, hz1, hz2⟩ := info_parts elW.info
  have hmk := fun w => run_make_rowN (P := Try.prog) 22 31 i0 _ Try.underlying22 hi0 hz0 .i64 .i64 n n (Nat.le_refl _) (by rw [hz2]; omega) (by omega) w
  rw [hz1, Nat.mul_one] at hmk
  clear hi0 hz0 hz1 hz2
  obtain ⟨M, hM⟩ : ∃ M, madeCells (Value.int .u64 0).cells n = M := ⟨_, rfl⟩
  have hM2 : madeCells #[.int .u64 0] n = M := by rw [← hM]; rfl
  have hMs : M.size = n := by rw [← hM]; simp [madeCells]
  have HH := hide h
  have HX := hide hx
  clear h hx
  go_enter Try.func39, Try.ntmps39
  go_wp2_with (refine wpList_copyRow rfl _ _ 22 22 rfl 31 1 Try.underlying22 (by kernel_rfl) W.heap.size n n c W.heap.size A rfl rfl (by omega) M 31 (RowAt.new W 31 M) (Cs encW X) (HH.out.alloc (Nat.le_refl _) _) (by rw [HH.out.1, hMs, Nat.mul_one]) (Cs_one_cell encW_one _) ?_; intro w2 hrow hp)
  go_ret
  exact ⟨W.heap.size, rfl, hrow, Nat.le_refl _, ((Below.refl _ _).alloc (Nat.le_refl _) _).trans hp.below⟩

theorem why_ok {n : Nat} {wh kd at_ ol nw : Int} (h : why n (wh, kd, at_, ol, nw) = 0) : 1 ≤ n ∧ n ≤ 8192 ∧ 1 ≤ kd ∧ kd ≤ 4 ∧ 0 ≤ wh ∧ wh ≤ 7 ∧ 0 ≤ at_ ∧ at_ < n := by
  unfold why at h
  dsimp only at h
  split at h
  · cases h
  · split at h
    · cases h
    · split at h
      · cases h
      · omega
end Go.Proofs.Ytadgihmokmfejaa
