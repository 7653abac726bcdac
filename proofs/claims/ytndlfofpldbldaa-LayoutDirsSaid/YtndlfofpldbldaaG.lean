/-
  The contract of Has, and that the layer does something (wakes).
-/
import Derived.Test.YtndlfofpldbldaaF
namespace Go.Proofs.Ytndlfofpldbldaa
open Go Go.RowKit
attribute [local go_sem] via_cell via_frozen
set_option linter.unusedSimpArgs false
set_option linter.unusedVariables false

/-- Whether a hash goes to a table. -/
def hasB (d p c l h : Int) : Bool := flatB d p c l && decide (topZ h d = p)

set_option maxHeartbeats 1000000 in
theorem Has_any (X : Array Value) (n d p c l h : Int) (W : World) (hX : TabCells X n d p c l) (hp : U64 p) (hh : U64 h) (r : Bool) (hr : hasB d p c l h = r) :
    Calls Try.prog 20 #[.agg X, .int .u64 h] W fun e W' => e = .returned (.bool r) ∧ Below W.heap.size W W' := by
  obtain ⟨b1, hb1⟩ : ∃ b, flatB d p c l = b := ⟨_, rfl⟩
  have HF := hide hb1
  have hsz := hide hX.size
  have HR := hide hr
  have HU := hide hp
  have HH := hide hh
  have key : ∀ j : Nat, (W.alloc (.cells X 55)).cell? ⟨W.heap.size, j, none⟩ = X[j]? := fun j => World.cell?_alloc_new _ _ _ _
  have e1 := (key 1).trans hX.c1
  have e2 := (key 2).trans hX.c2
  have hblk : (W.alloc (.cells X 55)).heap[W.heap.size]? = some (.cells X 55 (0, 0)) := heap_alloc_new W _
  have HB := hide hblk
  clear hb1 hr hp hh key hblk
  cases b1
  · go_enter Try.func20, Try.ntmps20
    go_wp2_with fail
    refine wp_region_via (by kernel_rfl) (by kernel_rfl) ?_
    refine wpQuiet_load_row rfl 55 _ rfl W.heap.size rfl 55 X (0, 0) _ (fun w hC => by obtain ⟨z, rfl⟩ := hC; exact via_block HB.out) Try.underlying55 (by kernel_rfl) (by rw [hsz.out]; kernel_rfl) ?_
    simp only [Act.put, List.setIfInBounds_toArray, List.set_cons_zero, List.set_cons_succ]
    repeat (go_big_quiet_step ((first | (go_at_call 39; exact via_of (flat_any X d p c l _ false HF.out HU.out.1 HU.out.2 hX.c1 hX.c2 hX.c3 hX.c4)))))
    refine via_out fun w1 hb1 => ?_
    go_wp2
    go_ret
    refine ⟨ret_bool (by rw [← HR.out, hasB, HF.out]; rfl), ((Below.refl _ _).alloc (Nat.le_refl _) _).trans (hb1.mono (by simp))⟩
  · obtain ⟨hd0, hd1, _⟩ := flatB_out HF.out HU.out.1
    have HT := hide (fun w => top_any h d w HH.out.1 HH.out.2 hd0 (by omega))
    go_enter Try.func20, Try.ntmps20
    go_wp2_with fail
    refine wp_region_via (by kernel_rfl) (by kernel_rfl) ?_
    refine wpQuiet_load_row rfl 55 _ rfl W.heap.size rfl 55 X (0, 0) _ (fun w hC => by obtain ⟨z, rfl⟩ := hC; exact via_block HB.out) Try.underlying55 (by kernel_rfl) (by rw [hsz.out]; kernel_rfl) ?_
    simp only [Act.put, List.setIfInBounds_toArray, List.set_cons_zero, List.set_cons_succ]
    repeat (go_big_quiet_step ((first | (go_at_call 39; exact via_of (flat_any X d p c l _ true HF.out HU.out.1 HU.out.2 hX.c1 hX.c2 hX.c3 hX.c4)) | (go_at_call 38; exact via_of_same (HT.out _)))))
    refine via_out fun w1 hb1 => ?_
    go_wp2
    go_ret
    refine ⟨ret_bool (by rw [← HR.out, hasB, HF.out]; simp; rw [Bool.eq_iff_iff]; simp), ((Below.refl _ _).alloc (Nat.le_refl _) _).trans (hb1.mono (by simp))⟩
end Go.Proofs.Ytndlfofpldbldaa
