/-
  The layer does something (wakes).
-/
import Derived.Test.YtndlfofpldbldaaG
import Derived.Deep.WholeRow
namespace Go.Proofs.Ytndlfofpldbldaa
open Go Go.RowKit
attribute [local go_sem] via_cell via_frozen
set_option linter.unusedSimpArgs false
set_option linter.unusedVariables false

def wakeX : Array Value := #[.int .u64 6, .int .i64 3, .int .u64 5, .int .i64 0, .int .i64 0] ++ Array.replicate 34 (.int .u64 0)
theorem wakeX_cells : TabCells wakeX 6 3 5 0 0 := ⟨by simp [wakeX], by simp [wakeX], by simp [wakeX], by simp [wakeX], by simp [wakeX], by simp [wakeX], by
  intro u hu
  simp [wakeX] at hu
  rcases hu with rfl | rfl | rfl | rfl | rfl | rfl <;> rfl⟩
theorem wakeX_one : wakeX.all (·.oneCell') = true := by
  rw [Array.all_eq_true_iff_forall_mem]
  intro u hu
  exact wakeX_cells.one u (by simpa using hu)
theorem wakeX_size : wakeX.size = 39 := wakeX_cells.size
theorem wake_unpack : okEnt (0 % 65536 - 1) (0 / 65536) = false := by decide
theorem wake_ents : entsOk [((0 : Int), (0 : Int)), (1, 0)] = true := by decide
theorem wake_shape : dirShape 1 2 = true := by decide
theorem wake_flat : flatB 3 5 0 0 = true := by decide
theorem wake_top : topZ 9223372036854775808 1 = 1 := by decide
theorem wake_has : hasB 3 5 0 0 11529215046068469760 = true := by decide

/-- A whole struct stored into the block that was made last. -/
theorem wpList_store_new {P : Program} {ops : Array Oper} {rest : List Oper} {o : Oper} {a : Act} {w : World} {Q : Exit → Act → World → Prop} (hgd : o.guard = none) (ty : TypeId) (x y : Operand) (ho : o.op = .store ty x y)
    (c cs : Array Value) (g : Nat) (hx : a.eval x = .pointer (some ⟨g, 0, none⟩)) (hg : g = w.heap.size) (hy : a.eval y = .agg cs) (hi : (P.info? ty).map (·.size) = some cs.size) (hs : c.size = cs.size) (h1 : cs.all (·.oneCell') = true)
    (h : wpList P ops Q rest (a.put o.dst undef) (w.alloc (.cells cs ty))) : wpList P ops Q (o :: rest) a (w.alloc (.cells c ty)) :=
  wpList_plain hgd fun _ hK => by
    subst hg
    unfold Oper.wp execOp
    simp only [ho, hx, hy, Sem.run_bind, Sem.run_pure, Result.andThen_ok, run_storeAt_new w ty c cs hi hs h1]
    exact hK _ _ h

/-- A whole struct loaded under a guard that holds. -/
theorem wpList_load_rowG {P : Program} {ops : Array Oper} {rest : List Oper} {o : Oper} {a : Act} {w : World} {Q : Exit → Act → World → Prop} (hw : Region.wanted o (yielded ops a.tmps) = true) (ty : TypeId) (x : Operand) (ho : o.op = .load ty x)
    (g : Nat) (hx : a.eval x = .pointer (some ⟨g, 0, none⟩)) (t : TypeId) (cs : Array Value) (fr : Nat × Nat) (d : TypeDesc) (hg : w.heap[g]? = some (.cells cs t fr))
    (hu : P.underlying ty = some d) (hd : (match d with | .struct _ | .array _ _ => true | _ => false) = true) (hi : (P.info? ty).map (·.size) = some cs.size)
    (h : wpList P ops Q rest (a.put o.dst (.agg cs)) w) : wpList P ops Q (o :: rest) a w :=
  wpList_step fun _ hK => by
    rw [if_pos hw]
    exact wp_load_row ty x ho g hx t cs fr d hg hu hd hi (hK _ _ h)

theorem heap_alloc_at (w : World) (o : Obj) (g : Nat) (h : g = w.heap.size) : (w.alloc o).heap[g]? = some o := by subst h; exact heap_alloc_new w o

set_option maxRecDepth 100000 in
set_option maxHeartbeats 2000000 in
theorem wakes_any (W : World) : Calls Try.prog 9 #[] W fun e W' => e = .returned (.bool true) ∧ Below W.heap.size W W' := by
  have HU := hide wake_unpack
  go_enter Try.func9, Try.ntmps9
  go_wp2_with fail
  refine (Cell_ok _ 2 3 (by omega) (by omega) (by omega) (by omega)).mono ?_
  rintro e w1 ⟨rfl, rfl⟩
  go_wp2_with fail
  refine (Of_ok _ 99 (by omega) (by omega)).mono ?_
  rintro e w1 ⟨rfl, rfl⟩
  go_wp2_with fail
  refine (Pack_ok _ 4 7 (by omega) (by omega) (by omega) (by omega)).mono ?_
  rintro e w1 ⟨rfl, hb1⟩
  go_wp2_with fail
  refine (Unpack_no _ 0 (by omega) (by omega) HU.out).mono ?_
  rintro e w2 ⟨rfl, hb2⟩
  have hb2' := hb1.trans (hb2.mono hb1.size)
  clear hb1 hb2
  have hz2 := hb2'.size
  have hsz : Option.map (fun x => x.size) (Try.prog.info? 55) = some 39 := by kernel_rfl
  have HZ := hide hsz
  clear hsz
  go_wp2_with (first
    | (refine wpList_store_new rfl 55 (.tmp 10) (.tmp 33) rfl _ wakeX (w2.heap.size + 1) rfl (by simp) rfl HZ.out rfl wakeX_one ?_)
    | (refine wpList_load_row rfl 55 (.tmp 10) rfl (w2.heap.size + 1) rfl 55 wakeX (0, 0) _ (heap_alloc_at _ _ _ (by simp)) Try.underlying55 (by kernel_rfl) HZ.out ?_))
  refine (TableWords_ok wakeX 6 3 5 0 0 _ wakeX_cells (by omega) wake_flat).mono ?_
  rintro e w3 ⟨v3, rfl, ho3, hb3⟩
  have hblk : w3.heap[w2.heap.size + 1]? = some (.cells wakeX 55 (0, 0)) := (hb3.block _ (by simp)).trans (heap_alloc_at _ _ _ (by simp))
  have hb4 : Below W.heap.size W w3 := ((hb2'.alloc hz2 _).alloc (by simp; omega) _).trans (hb3.mono (by simp; omega))
  obtain ⟨g3, cap3, rfl, hg3, hg4⟩ := ho3.form (by omega)
  have hrd := Rd.of_own ho3
  obtain ⟨b, off, hA, _, hcell⟩ := hrd.2 (by omega)
  cases hA
  have c0 := hcell 0 _ rfl
  have c1 := hcell 1 _ rfl
  simp only [Nat.zero_add] at c0 c1
  have HB := hide hblk
  have HC0 := hide c0
  have HC1 := hide c1
  have HB4 := hide hb4
  clear hblk hb3 hb4 hb2' hz2 ho3 hg3 hrd hcell c0 c1
  go_wp2_with fail
  have hat := At_ok (w3.heap.size + 1) (some ⟨w3.heap.size, 0, none⟩) 2 1 9223372036854775808 [(0, 0), (1, 0)] (w3.alloc (.cells #[.int .i64 0, .int .u64 0, .int .i64 1, .int .u64 0] 36)) (Rd.new w3 _ 36 2 2 rfl) (by simp) (by intro e he; simp at he; rcases he with rfl | rfl <;> exact ⟨by decide, by decide⟩) ⟨by decide, by decide⟩ wake_shape wake_ents
  rw [wake_top] at hat
  refine hat.mono ?_
  rintro e w5 ⟨rfl, hb5⟩
  have hb6 := (HB4.out.alloc HB4.out.size _).trans (hb5.mono (by have := HB4.out.size; simp; omega))
  have d0 : w5.cell? ⟨g3, 0, none⟩ = some (.int .u64 6) := by rw [hb5.cell (by simp; omega), World.cell?_alloc_lt _ _ _ (by simpa using hg4)]; exact HC0.out
  have d1 : w5.cell? ⟨g3, 1, none⟩ = some (.int .u64 1283) := by rw [hb5.cell (by simp; omega), World.cell?_alloc_lt _ _ _ (by simpa using hg4)]; exact HC1.out
  have hlt : w2.heap.size + 1 < w3.heap.size := (Array.getElem?_eq_some_iff.1 HB.out).1
  have HB5 := hide (show w5.heap[w2.heap.size + 1]? = some (.cells wakeX 55 (0, 0)) from (hb5.block _ (by simp; omega)).trans ((Below.heap_alloc w3 _ _ hlt).trans HB.out))
  have HH := hide (Has_any wakeX 6 3 5 0 0 11529215046068469760 w5 wakeX_cells ⟨by decide, by decide⟩ ⟨by decide, by decide⟩ true wake_has)
  have HB6 := hide hb6
  clear hb6 hb5 hat hlt hg4
  go_wp2_with (first
    | (refine wpList_load_rowG rfl 55 (.tmp 10) rfl (w2.heap.size + 1) rfl 55 wakeX (0, 0) _ HB5.out Try.underlying55 (by kernel_rfl) HZ.out ?_)
    | (go_at_call 20; refine HH.out.mono ?_; rintro e w7 ⟨rfl, hb7⟩))
  go_ret
  exact ⟨rfl, HB6.out.trans (hb7.mono HB6.out.size)⟩
end Go.Proofs.Ytndlfofpldbldaa
