/-
  More words for memory: rows of cells, what lies past one block, structs stored, loaded and compared whole.
-/
import Derived.Test.YtfpbabafeecncaaMem
import Derived.Test.YtfpbabafeecncaaRange
import Derived.BigRegion
import Derived.Laws.CopyRow
import Derived.Deep.MidRow
import Derived.Shelf.Spec.SlicesInsert
import Derived.DeepKeys
import Derived.Laws.NewBlocks
import Derived.Laws.StructEq
import Derived.Deep.WholeRow
set_option linter.unusedSimpArgs false
set_option linter.unusedVariables false
namespace Go.Proofs.Ytfpbabafeecncaa
open Go Go.RowKit

/-- All but block k lies as it lay. -/
structure Past (k : Nat) (w w' : World) : Prop where
  below : Below k w w'
  block : ∀ j, j ≠ k → j < w.heap.size → w'.heap[j]? = w.heap[j]?
  size : w.heap.size ≤ w'.heap.size

theorem cell_of_heap {w w' : World} {p : Addr} (h : w'.heap[p.block]? = w.heap[p.block]?) : w'.cell? p = w.cell? p := by
  unfold World.cell?; rw [h]

theorem frozen_of_heap {w w' : World} {p : Addr} (h : w'.heap[p.block]? = w.heap[p.block]?) : w'.frozen? p = w.frozen? p := by
  unfold World.frozen?; rw [h]

theorem Past.cell {k : Nat} {w w' : World} (h : Past k w w') (p : Addr) (h1 : p.block ≠ k) (h2 : p.block < w.heap.size) : w'.cell? p = w.cell? p := cell_of_heap (h.block _ h1 h2)

theorem Past.frozen {k : Nat} {w w' : World} (h : Past k w w') (p : Addr) (h1 : p.block ≠ k) (h2 : p.block < w.heap.size) : w'.frozen? p = w.frozen? p := frozen_of_heap (h.block _ h1 h2)

theorem heap_setCell_ne (w : World) (p : Addr) (v : Value) (j : Nat) (h : j ≠ p.block) : (w.setCell p v).heap[j]? = w.heap[j]? := by
  simp only [World.setCell, Array.getElem?_modify]
  rw [if_neg (fun e => h e.symm)]

theorem Past.set {k : Nat} {w : World} (o : Nat) (v : Value) : Past k w (w.setCell ⟨k, o, none⟩ v) :=
  ⟨(Below.refl k w).setCell (p := ⟨k, o, none⟩) (Nat.le_refl _) v, fun j h1 _ => heap_setCell_ne _ _ _ _ h1, by simp⟩

theorem Past.trans {k : Nat} {a b c : World} (h1 : Past k a b) (h2 : Past k b c) : Past k a c :=
  ⟨h1.below.trans h2.below, fun j hj hl => (h2.block j hj (Nat.lt_of_lt_of_le hl h1.size)).trans (h1.block j hj hl), Nat.le_trans h1.size h2.size⟩

theorem Past.of_below {k : Nat} {a b : World} (hk : k < a.heap.size) (h : Below a.heap.size a b) : Past k a b :=
  ⟨h.mono (Nat.le_of_lt hk), fun j _ hl => h.block j hl, h.size⟩

theorem Past.alloc {k : Nat} {w : World} (hk : k < w.heap.size) (o : Obj) : Past k w (w.alloc o) := Past.of_below hk ((Below.refl _ w).alloc (Nat.le_refl _) o)

/-- Block g is a row of cells, of which none is frozen. -/
def RowAt (w : World) (g : Nat) (t : TypeId) (cs : Array Value) : Prop := w.heap[g]? = some (.cells cs t (0, 0))
section
variable {w w' : World} {g : Nat} {t : TypeId} {cs : Array Value}
theorem RowAt.lt (h : RowAt w g t cs) : g < w.heap.size := by
  rcases Nat.lt_or_ge g w.heap.size with hlt | hge
  · exact hlt
  · unfold RowAt at h; rw [Array.getElem?_eq_none hge] at h; cases h
theorem RowAt.cell (h : RowAt w g t cs) (i : Nat) : w.cell? ⟨g, i, none⟩ = cs[i]? := by
  unfold World.cell?; rw [show w.heap[(⟨g, i, none⟩ : Addr).block]? = some (.cells cs t (0, 0)) from h]; simp
theorem RowAt.frozen (h : RowAt w g t cs) (i : Nat) : w.frozen? ⟨g, i, none⟩ = false := by
  unfold World.frozen?; rw [show w.heap[(⟨g, i, none⟩ : Addr).block]? = some (.cells cs t (0, 0)) from h]; simp
theorem RowAt.new (w : World) (t : TypeId) (cs : Array Value) : RowAt (w.alloc (.cells cs t)) w.heap.size t cs := heap_alloc_last w _
theorem RowAt.heap (h : RowAt w g t cs) (hk : w'.heap[g]? = w.heap[g]?) : RowAt w' g t cs := hk.trans h
theorem RowAt.below (h : RowAt w g t cs) (hb : Below w.heap.size w w') : RowAt w' g t cs := (hb.block g h.lt).trans h
theorem RowAt.past {k : Nat} (h : RowAt w g t cs) (hb : Past k w w') (hn : g ≠ k) : RowAt w' g t cs := (hb.block g hn h.lt).trans h
theorem RowAt.drew (h : RowAt w g t cs) : RowAt w.drew g t cs := h
theorem RowAt.drewN (h : RowAt w g t cs) (n : Nat) : RowAt (w.drewN n) g t cs := h
theorem RowAt.to (h : RowAt w g t cs) (e : w = w') : RowAt w' g t cs := e ▸ h
theorem Past.drew {k : Nat} {a b : World} (h : Past k a b) : Past k a b.drew := ⟨h.below.drew, h.block, h.size⟩
theorem RowAt.set (h : RowAt w g t cs) (i : Nat) (v : Value) : RowAt (w.setCell ⟨g, i, none⟩ v) g t (cs.setIfInBounds i v) := by
  rw [setCell_eq_setRow w g i cs t (0, 0) v h]; exact setRow_heap w g cs _ t _ h
end


theorem seg_get {l : List Value} {k n j : Nat} {u : Value} (h : ((l.drop k).take n)[j]? = some u) : l[k + j]? = some u := by
  rw [List.getElem?_take] at h
  split at h
  · rwa [List.getElem?_drop] at h
  · cases h

theorem seg_one {l : List Value} {k n : Nat} (h1 : ∀ u ∈ l, u.oneCell' = true) : ∀ u ∈ (l.drop k).take n, u.oneCell' = true := fun u hu => h1 u (List.mem_of_mem_drop (List.mem_of_mem_take hu))

theorem seg_len {l : List Value} {k n : Nat} (h : k + n ≤ l.length) : ((l.drop k).take n).length = n := by simp; omega

theorem setRow_past (w : World) (g : Nat) (cs : Array Value) : Past g w (w.setRow g cs) := by
  have hb : ∀ j, j ≠ g → (w.setRow g cs).heap[j]? = w.heap[j]? := fun j hj => by
    simp only [World.setRow, Array.getElem?_modify]
    rw [if_neg (fun e => hj e.symm)]
  refine ⟨⟨rfl, rfl, rfl, by simp [World.setRow], fun j hj => hb j (by omega)⟩, fun j hj _ => hb j hj, by simp [World.setRow]⟩

theorem run_storeVar_rowAt {P : Program} (w : World) (g : Nat) (ty t : TypeId) (cur cells : Array Value) (hrow : RowAt w g t cur) (hs : cur.size = cells.size) (hi : (P.info? ty).map (·.size) = some cells.size) (h1 : cells.all (·.oneCell') = true) :
    (storeVar ty ⟨g, 0, none⟩ (.agg cells)).run P w = .ok () (w.setRow g cells) := by
  have h := run_storeCells_at P g 0 t cells.toList 0 cur w hrow (by simp; omega) (fun v hv => (Array.all_eq_true_iff_forall_mem.1 h1) v (by simpa using hv))
  have he : (List.take (0 + 0) cur.toList ++ cells.toList ++ List.drop (0 + 0 + cells.toList.length) cur.toList).toArray = cells := by
    rw [List.drop_eq_nil_of_le (by simp; omega)]; simp
  rw [he] at h
  cases hq : P.info? ty with
  | none => simp [hq] at hi
  | some i =>
    have hs : cells.size = i.size := by simp [hq] at hi; omega
    simp [storeVar, sizeOf, typeInfo, hq, Value.cells, hs, h]

theorem wpList_store_rowAt {P : Program} {ops : Array Oper} {rest : List Oper} {op : Oper} {a : Act} {w : World} {Q : Exit → Act → World → Prop} (hgd : op.guard = none) (ty : TypeId) (x y : Operand) (ho : op.op = .store ty x y)
    (g : Nat) (t : TypeId) (cur cells : Array Value) (hx : a.eval x = .pointer (some ⟨g, 0, none⟩)) (hy : a.eval y = .agg cells) (hrow : RowAt w g t cur) (hs : cur.size = cells.size)
    (hi : (P.info? ty).map (·.size) = some cells.size) (h1 : cells.all (·.oneCell') = true)
    (h : ∀ w', RowAt w' g t cells → Past g w w' → wpList P ops Q rest (a.put op.dst undef) w') : wpList P ops Q (op :: rest) a w :=
  wpList_plain hgd fun _ hK => by
    unfold Oper.wp execOp
    simp only [ho, hx, hy, Instr.storeAt, Instr.sureAddr, Sem.run_bind, Sem.run_pure, Result.andThen_ok, run_storeVar_rowAt w g ty t cur cells hrow hs hi h1]
    exact hK _ _ (h _ (setRow_heap w g _ _ t _ hrow) (setRow_past w g _))

theorem RowAt.range {w : World} {g : Nat} {t : TypeId} {l r : List Value} (h : RowAt w g t (l ++ r).toArray) : w.rangeAt g 0 l := fun j v hj => by
  rw [Nat.zero_add, h.cell, List.getElem?_toArray, List.getElem?_append_left (List.getElem?_eq_some_iff.1 hj).1]; exact hj

theorem Past.refl (k : Nat) (w : World) : Past k w w := ⟨Below.refl _ _, fun _ _ _ => rfl, Nat.le_refl _⟩

theorem Past.ofDrew {k : Nat} {w w' : World} (h : Past k w.drew w') : Past k w w' := (Past.refl k w).drew.trans h

/-- A whole struct stored into the block that was made last. -/
theorem wpList_store_new {P : Program} {ops : Array Oper} {rest : List Oper} {o : Oper} {a : Act} {w : World} {Q : Exit → Act → World → Prop} (hgd : o.guard = none) (ty : TypeId) (x y : Operand) (ho : o.op = .store ty x y)
    (c cs : Array Value) (g : Nat) (hx : a.eval x = .pointer (some ⟨g, 0, none⟩)) (hg : g = w.heap.size) (hy : a.eval y = .agg cs) (hi : (P.info? ty).map (·.size) = some cs.size) (hs : c.size = cs.size) (h1 : cs.all (·.oneCell') = true)
    (h : wpList P ops Q rest (a.put o.dst undef) (w.alloc (.cells cs ty))) : wpList P ops Q (o :: rest) a (w.alloc (.cells c ty)) :=
  wpList_plain hgd fun _ hK => by
    subst hg
    unfold Oper.wp execOp
    simp only [ho, hx, hy, Sem.run_bind, Sem.run_pure, Result.andThen_ok, run_storeAt_new w ty c cs hi hs h1]
    exact hK _ _ h

/-- A whole struct loaded under a guard that holds. -/
theorem wpList_load_rowG {P : Program} {ops : Array Oper} {rest : List Oper} {o : Oper} {a : Act} {w : World} {Q : Exit → Act → World → Prop} (hw : Region.wanted o (yielded ops a.tmps) = true) (ty : TypeId) (x : Operand) (ho : o.op = .load ty x)
    (g : Nat) (hx : a.eval x = .pointer (some ⟨g, 0, none⟩)) (t : TypeId) (cs : Array Value) (fr : Nat × Nat) (d : TypeDesc) (hg : w.heap[g]? = some (.cells cs t fr))
    (hu : P.underlying ty = some d) (hd : (match d with | .struct _ | .array _ _ => true | _ => false) = true) (hi : (P.info? ty).map (·.size) = some cs.size)
    (h : wpList P ops Q rest (a.put o.dst (.agg cs)) w) : wpList P ops Q (o :: rest) a w :=
  wpList_step fun _ hK => by
    rw [if_pos hw]
    exact wp_load_row ty x ho g hx t cs fr d hg hu hd hi (hK _ _ h)

theorem heap_alloc_at (w : World) (o : Obj) (g : Nat) (h : g = w.heap.size) : (w.alloc o).heap[g]? = some o := by subst h; exact heap_alloc_new w o

/-- A whole struct stored into a block that is known whole, as one step of a region that draws. -/
theorem wp_store_rowAt {P : Program} {op : Oper} {a : Act} {w : World} {K : Act → World → Prop} {Q : Exit → Act → World → Prop} (ty : TypeId) (x y : Operand) (ho : op.op = .store ty x y)
    (g : Nat) (t : TypeId) (cur cells : Array Value) (hx : a.eval x = .pointer (some ⟨g, 0, none⟩)) (hy : a.eval y = .agg cells) (hrow : RowAt w g t cur) (hs : cur.size = cells.size)
    (hi : (P.info? ty).map (·.size) = some cells.size) (h1 : cells.all (·.oneCell') = true)
    (h : ∀ w', RowAt w' g t cells → Past g w w' → K (a.put op.dst undef) w') : op.wp P a w K Q := by
  unfold Oper.wp execOp
  simp only [ho, hx, hy, Instr.storeAt, Instr.sureAddr, Sem.run_bind, Sem.run_pure, Result.andThen_ok, run_storeVar_rowAt w g ty t cur cells hrow hs hi h1]
  exact h _ (setRow_heap w g _ _ t _ hrow) (setRow_past w g _)

/-- A whole struct stored into the block that was made last. -/
theorem wp_store_new {P : Program} {o : Oper} {a : Act} {w : World} {K : Act → World → Prop} {Q : Exit → Act → World → Prop} (ty : TypeId) (x y : Operand) (ho : o.op = .store ty x y)
    (c cs : Array Value) (g : Nat) (hx : a.eval x = .pointer (some ⟨g, 0, none⟩)) (hg : g = w.heap.size) (hy : a.eval y = .agg cs) (hi : (P.info? ty).map (·.size) = some cs.size) (hs : c.size = cs.size) (h1 : cs.all (·.oneCell') = true)
    (h : K (a.put o.dst undef) (w.alloc (.cells cs ty))) : o.wp P a (w.alloc (.cells c ty)) K Q := by
  subst hg
  unfold Oper.wp execOp
  simp only [ho, hx, hy, Sem.run_bind, Sem.run_pure, Result.andThen_ok, run_storeAt_new w ty c cs hi hs h1]
  exact h

theorem set_fill {α : Type} (pre S post : List α) (z : α) (n k : Nat) (v : α) (hS : S.length = n) (hv : S[k]? = some v) :
    (pre ++ (S.take k ++ List.replicate (n - k) z) ++ post).set (pre.length + k) v = pre ++ (S.take (k + 1) ++ List.replicate (n - (k + 1)) z) ++ post := by
  obtain ⟨hl, hv'⟩ := List.getElem?_eq_some_iff.1 hv
  have h1 : (S.take k).length = k := by rw [List.length_take]; omega
  have h2 : List.replicate (n - k) z = z :: List.replicate (n - (k + 1)) z := by
    rw [show n - k = (n - (k + 1)) + 1 by omega]; rfl
  rw [List.append_assoc, List.set_append_right _ _ (by omega), Nat.add_sub_cancel_left, List.append_assoc, List.set_append_right _ _ (by omega), h1, Nat.sub_self, h2, List.take_succ_eq_append_getElem hl, hv']
  simp

theorem fill_at {α : Type} (pre S post : List α) (z : α) (n k : Nat) (hS : S.length = n) (hk : k < n) : (pre ++ (S.take k ++ List.replicate (n - k) z) ++ post)[pre.length + k]? = some z := by
  have h1 : (S.take k).length = k := by rw [List.length_take]; omega
  rw [List.append_assoc, List.getElem?_append_right (by omega), Nat.add_sub_cancel_left, List.append_assoc, List.getElem?_append_right (by omega), h1, Nat.sub_self, List.getElem?_append_left (by simp; omega), List.getElem?_replicate, if_pos (by omega)]

/-- A mark stays as it was. -/
theorem keptF {w w1 : World} {g o : Nat} (hb : Below w.heap.size w w1) (hlt : g < w.heap.size) (h : w.frozen? ⟨g, o, none⟩ = false) : w1.frozen? ⟨g, o, none⟩ = false := (hb.frozen (p := ⟨g, o, none⟩) hlt).trans h

theorem grown_frozen {w w1 : World} {row : Option Nat} {g o : Nat} (hg : w.grownBy w1 row) (hlt : g < w.heap.size) (hne : some g ≠ row) (h : w.frozen? ⟨g, o, none⟩ = false) : w1.frozen? ⟨g, o, none⟩ = false := by
  have := hg.block g hlt hne
  simp only [World.frozen?] at h ⊢
  rw [this]; exact h

theorem run_make_rowN {P : Program} (t e : TypeId) (i : TypeInfo) (z : Value) (ht : P.underlying t = some (.slice e)) (hi : P.info? e = some i) (hz : i.zero = some z)
    (kl kc : IntKind) (n c : Nat) (hnc : n ≤ c) (hbytes : i.bytes * c ≤ 281474976710656) (h63 : c ≤ 9223372036854775807) (w : World) :
    (Instr.makeSlice t (.int kl (n : Int)) (.int kc (c : Int))).run P w = .ok (.slice (some ⟨w.heap.size, 0, none⟩) n c) (w.alloc (.cells (madeCells z.cells (c * i.size)) e)) := by
  have hb : (i.bytes : Int) * (c : Int) ≤ 281474976710656 := by
    have h : ((i.bytes * c : Nat) : Int) ≤ 281474976710656 := by omega
    rwa [Int.natCast_mul] at h
  have hr := run_make (P := P) w t e i z ht hi hz kl kc n c (by omega) (by omega) hb (by omega)
  simp only [Int.toNat_natCast] at hr
  exact hr

theorem rd_setCell_ne {w : World} {B sz n g o : Nat} {xs : List Value} {p : Addr} {u : Value} (h : Rd w B sz (some ⟨g, o, none⟩) n xs) (hne : p.block ≠ g) : Rd (w.setCell p u) B sz (some ⟨g, o, none⟩) n xs := by
  refine ⟨h.1, fun hn => ?_⟩
  obtain ⟨b, off, e, hb, hc⟩ := h.2 hn
  refine ⟨b, off, e, hb, fun j v hv => ?_⟩
  have hg : b = g := by injection e with e; injection e with e; exact e.symm
  rw [World.cell?_setCell_other]
  · exact hc j v hv
  · intro e2; apply hne; rw [e2]; exact hg

/-- The cells o .. o + n of a block that is known. -/
theorem rd_row {w : World} {B g o n c : Nat} {X : Array Value} (hg : g < B) (hX : ∀ j : Nat, w.cell? ⟨g, j, none⟩ = X[j]?) (hn : o + n ≤ X.size) : Rd w B 1 (some ⟨g, o, none⟩) n ((X.toList.drop o).take n) := by
  refine ⟨by simp; omega, fun _ => ⟨g, o, rfl, hg, fun j u hu => ?_⟩⟩
  rw [hX]
  rw [List.getElem?_take] at hu
  split at hu
  · rw [List.getElem?_drop] at hu; simpa using hu
  · cases hu

theorem own_form {w : World} {base : Nat} {e : TypeId} {sz n : Nat} {v : Value} {xs : List Value} (h : w.ownsRow base e sz v n xs) : ∃ A c, v = .slice A n c ∧ n ≤ c := by
  rcases h.2 with ⟨rfl, rfl⟩ | ⟨g, cap, cur, rfl, _, _, hnc, _⟩
  · exact ⟨none, 0, rfl, Nat.le_refl _⟩
  · exact ⟨_, _, rfl, hnc⟩

/-- Structs are compared, of which the outcome is known. -/
theorem wpList_eqlG {P : Program} {ops : Array Oper} {rest : List Oper} {o : Oper} {a : Act} {w : World} {Q : Exit → Act → World → Prop} (hgd : o.guard = none) (op : BinOp) (t t' : TypeId) (x y : Operand) (ho : o.op = .binOp op t x y t')
    (X Y : Array Value) (v : Value) (hx : a.eval x = .agg X) (hy : a.eval y = .agg Y) (hm : P.eqGuardType P.depth t = false) (heq : ∀ w, (binOp op t (.agg X) (.agg Y)).run P w = .ok v w)
    (h : wpList P ops Q rest (a.put o.dst v) w) : wpList P ops Q (o :: rest) a w :=
  wpList_plain hgd fun _ hK => by
    unfold Oper.wp execOp
    simp only [ho, hx, hy, Sem.run_bind, run_eqGuard_agg _ op t x y X Y hm, Result.andThen_ok, heq, Sem.run_pure]
    exact hK _ _ h

/-- An operation that looks at no memory. -/
theorem wpList_yield {P : Program} {ops : Array Oper} {rest : List Oper} {o : Oper} {a : Act} {w : World} {Q : Exit → Act → World → Prop} (v : Value) (hw : Region.wanted o (yielded ops a.tmps) = true)
    (h : (execOp a.eval o).run P w = .ok (.value v) w) (hk : wpList P ops Q rest (a.put o.dst v) w) : wpList P ops Q (o :: rest) a w :=
  wpList_step fun _ hK => by
    rw [if_pos hw]
    unfold Oper.wp
    simp only [h]
    exact hK _ _ hk

/-- Structs are compared, of which the outcome is known; under a guard that holds. -/
theorem wpList_eqlW {P : Program} {ops : Array Oper} {rest : List Oper} {o : Oper} {a : Act} {w : World} {Q : Exit → Act → World → Prop} (hw : Region.wanted o (yielded ops a.tmps) = true) (op : BinOp) (t t' : TypeId) (x y : Operand) (ho : o.op = .binOp op t x y t')
    (X Y : Array Value) (v : Value) (hx : a.eval x = .agg X) (hy : a.eval y = .agg Y) (hm : P.eqGuardType P.depth t = false) (heq : ∀ w, (binOp op t (.agg X) (.agg Y)).run P w = .ok v w)
    (h : wpList P ops Q rest (a.put o.dst v) w) : wpList P ops Q (o :: rest) a w :=
  wpList_step fun _ hK => by
    rw [if_pos hw]
    unfold Oper.wp execOp
    simp only [ho, hx, hy, Sem.run_bind, run_eqGuard_agg _ op t x y X Y hm, Result.andThen_ok, heq, Sem.run_pure]
    exact hK _ _ h

theorem neq_self {P : Program} {t : TypeId} {cs : Array Value} (h : ∀ w, (binOp .eql t (.agg cs) (.agg cs)).run P w = .ok (.bool true) w) (w : World) : (binOp .neq t (.agg cs) (.agg cs)).run P w = .ok (.bool false) w := by
  have h1 := h w
  rw [run_eql_struct] at h1
  rw [run_neq_struct]
  cases hq : (Op.equalIn 10000 t (.agg cs) (.agg cs)).run P w with
  | ok b w' => rw [hq] at h1; simp only [Result.andThen] at h1 ⊢; injection h1 with h2 h3; injection h2 with h2; subst h2; subst h3; rfl
  | halt e w' => rw [hq] at h1; simp [Result.andThen] at h1

theorem mapM_some {α β : Type} {f : α → Option β} : ∀ (l : List α), (∀ x ∈ l, ∃ y, f x = some y) → ∃ r, l.mapM f = some r
  | [], _ => ⟨[], by simp⟩
  | x :: l, h => by
    obtain ⟨y, hy⟩ := h x (by simp)
    obtain ⟨r, hr⟩ := mapM_some l (fun z hz => h z (by simp [hz]))
    exact ⟨y :: r, by rw [List.mapM_cons, hy, hr]; rfl⟩

theorem kl_int {P : Program} {q : IntKind} {e : TypeId} (he : P.underlying e = some (.int q)) (d : Nat) (n : Int) (h : (Lit.int q n).wf = true) : ∃ l, P.keyLits (d + 1) e [.int q n] = some l := by
  refine ⟨[.int q n], ?_⟩
  unfold Program.keyLits
  simp [he, h]

theorem kl_array {P : Program} {t e : TypeId} {n : Nat} (ht : P.underlying t = some (.array n e)) (d : Nat) (cs : List Value) (hl : cs.length = P.cellsOf t)
    (h : ∀ i, i < n → ∃ l, P.keyLits d e ((cs.drop (i * P.cellsOf e)).take (P.cellsOf e)) = some l) : ∃ l, P.keyLits (d + 1) t cs = some l := by
  obtain ⟨r, hr⟩ := mapM_some (f := fun i => P.keyLits d e ((cs.drop (i * P.cellsOf e)).take (P.cellsOf e))) (List.range n) (fun i hi => h i (by simpa using hi))
  refine ⟨r.flatten, ?_⟩
  unfold Program.keyLits
  simp only [ht, hl, if_true, hr, Option.map_some]

theorem kl_struct {P : Program} {t : TypeId} {fs : Array Field} (ht : P.underlying t = some (.struct fs)) (d : Nat) (cs : List Value) (hl : cs.length = P.cellsOf t) (hn : fs.all (·.name != "_") = true)
    (h : ∀ f ∈ fs.toList, ∃ l, P.keyLits d f.type ((cs.drop f.offset).take (P.cellsOf f.type)) = some l) : ∃ l, P.keyLits (d + 1) t cs = some l := by
  obtain ⟨r, hr⟩ := mapM_some (f := fun f : Field => P.keyLits d f.type ((cs.drop f.offset).take (P.cellsOf f.type))) fs.toList h
  refine ⟨r.flatten, ?_⟩
  unfold Program.keyLits
  simp only [ht, hl, hn, and_self, if_true, hr, Option.map_some]

/-- What can be compared is the same as itself. -/
theorem eql_self {P : Program} {t : TypeId} (d m : Nat) (hm : d + m = 10000) (hk : P.keyTypeAt m t = true) (cs : Array Value) (hf : (Value.agg cs).formed P t = true) {D : Nat} (hl : ∃ l, P.keyLits D t cs.toList = some l) (w : World) :
    (binOp .eql t (.agg cs) (.agg cs)).run P w = .ok (.bool true) w := by
  obtain ⟨l, hl⟩ := hl
  obtain ⟨r, hr, hiff⟩ := run_equalIn_deep d m t hk w D D (.agg cs) (.agg cs) l l hf hf hl hl
  have : r = true := hiff.2 rfl
  subst this
  rw [run_eql_struct, ← hm, hr]
  rfl

/-- All blocks of cells but k lie as they lay, and all below k. -/
structure PastC (k : Nat) (w w' : World) : Prop where
  below : Below k w w'
  size : w.heap.size ≤ w'.heap.size
  cells : ∀ (j : Nat) (o : Obj), j ≠ k → w.heap[j]? = some o → o.isCells = true → w'.heap[j]? = some o

theorem PastC.refl (k : Nat) (w : World) : PastC k w w := ⟨Below.refl _ _, Nat.le_refl _, fun _ _ _ h _ => h⟩

theorem PastC.trans {k : Nat} {a b c : World} (h : PastC k a b) (g : PastC k b c) : PastC k a c :=
  ⟨h.below.trans g.below, Nat.le_trans h.size g.size, fun j o hj ho hc => g.cells j o hj (h.cells j o hj ho hc) hc⟩

theorem PastC.of_past {k : Nat} {a b : World} (h : Past k a b) : PastC k a b :=
  ⟨h.below, h.size, fun j o hj ho _ => (h.block j hj (Array.getElem?_eq_some_iff.1 ho).1).trans ho⟩

theorem PastC.of_below {k : Nat} {a b : World} (hk : k < a.heap.size) (h : Below a.heap.size a b) : PastC k a b := PastC.of_past (Past.of_below hk h)

theorem PastC.of_lie {k : Nat} {a b : World} (hb : Below k a b) (h : CellsLie a b) : PastC k a b := ⟨hb, h.size, fun j o _ ho hc => h.same j o ho hc⟩

theorem PastC.row {k g : Nat} {a b : World} {t : TypeId} {cs : Array Value} (h : PastC k a b) (hr : RowAt a g t cs) (hn : g ≠ k) : RowAt b g t cs := h.cells g _ hn hr rfl

theorem RowAt.lie {g : Nat} {a b : World} {t : TypeId} {cs : Array Value} (hr : RowAt a g t cs) (h : CellsLie a b) : RowAt b g t cs := h.same g _ hr rfl

theorem own_lie {w w' : World} {base : Nat} {e : TypeId} {size n : Nat} {v : Value} {xs : List Value} (h : w.ownsRow base e size v n xs) (hl : CellsLie w w') : w'.ownsRow base e size v n xs := by
  obtain ⟨h1, h2⟩ := h
  refine ⟨h1, ?_⟩
  rcases h2 with h | ⟨g, cap, cur, hv, hg, hh, r⟩
  · exact .inl h
  · exact .inr ⟨g, cap, cur, hv, hg, hl.same g _ hh rfl, r⟩

theorem pastC_cell {k g o : Nat} {a b : World} {v : Value} (h : PastC k a b) (hn : g ≠ k) (hc : a.cell? ⟨g, o, none⟩ = some v) : b.cell? ⟨g, o, none⟩ = some v := by
  obtain ⟨ob, ho, hcl⟩ : ∃ ob, a.heap[g]? = some ob ∧ ob.isCells = true := by
    unfold World.cell? at hc
    cases hg : a.heap[g]? with
    | none => simp [hg] at hc
    | some ob => refine ⟨ob, rfl, ?_⟩; cases ob <;> simp_all [Obj.isCells]
  have := h.cells g ob hn ho hcl
  rw [← hc]; unfold World.cell?; simp only [this, ho]

theorem own_cells {w : World} {base : Nat} {e : TypeId} {size n : Nat} {v : Value} {xs : List Value} (h : w.ownsRow base e size v n xs) {g : Nat} (hg : v.ownBlock = some g) : ∃ o, w.heap[g]? = some o ∧ o.isCells = true := by
  rcases h.2 with ⟨rfl, _⟩ | ⟨g', cap, cur, rfl, _, hh, _⟩
  · cases hg
  · have : g' = g := by injection hg
    subst this
    exact ⟨_, hh, rfl⟩

theorem own_other {w w' : World} {base : Nat} {e : TypeId} {size n : Nat} {v : Value} {xs : List Value} (h : w.ownsRow base e size v n xs) (hl : ∀ g, base ≤ g → w'.heap[g]? = w.heap[g]?) : w'.ownsRow base e size v n xs := by
  obtain ⟨h1, h2⟩ := h
  refine ⟨h1, ?_⟩
  rcases h2 with h | ⟨g, cap, cur, hv, hg, hh, r⟩
  · exact .inl h
  · exact .inr ⟨g, cap, cur, hv, hg, (hl g hg).trans hh, r⟩

theorem PastC.put {ko l : Nat} {w W : World} {o : Obj} (o' : Obj) (h : PastC ko w W) (hl : W.heap[l]? = some o) (hc : o.isCells = false) (hk : ko ≤ l) : PastC ko w (W.putObj l o') :=
  h.trans (PastC.of_lie (below_putObj (o := o) o' hk) (CellsLie.putObj o' hl hc))

theorem own_other2 {w w' : World} {base : Nat} {e : TypeId} {size n : Nat} {v : Value} {xs : List Value} (h : w.ownsRow base e size v n xs) (hl : ∀ g, base ≤ g → g < w.heap.size → w'.heap[g]? = w.heap[g]?) : w'.ownsRow base e size v n xs := by
  obtain ⟨h1, h2⟩ := h
  refine ⟨h1, ?_⟩
  rcases h2 with h | ⟨g, cap, cur, hv, hg, hh, r⟩
  · exact .inl h
  · exact .inr ⟨g, cap, cur, hv, hg, (hl g hg (Array.getElem?_eq_some_iff.1 hh).1).trans hh, r⟩
theorem own_form2 {w : World} {base : Nat} {e : TypeId} {sz n : Nat} {v : Value} {xs : List Value} (h : w.ownsRow base e sz v n xs) : ∃ A c, v = .slice A n c ∧ n ≤ c ∧ c ≤ 9223372036854775807 := by
  rcases h.2 with ⟨rfl, rfl⟩ | ⟨g, cap, cur, rfl, _, _, hnc, hcm, _⟩
  · exact ⟨none, 0, rfl, Nat.le_refl _, by omega⟩
  · exact ⟨_, _, rfl, hnc, by unfold maxLen at hcm; omega⟩

theorem own_fresh {w : World} {base : Nat} {e : TypeId} {sz n : Nat} {A : Option Addr} {c : Nat} {xs : List Value} (h : w.ownsRow base e sz (.slice A n c) n xs) (p : Addr) (hp : A = some p) : base ≤ p.block := by
  rcases h.2 with ⟨hv, _⟩ | ⟨g, cap, cur, hv, hg, _⟩
  · injection hv with h1; rw [hp] at h1; cases h1
  · injection hv with h1; rw [hp] at h1; injection h1 with h1; subst h1; exact hg

/-- A box that holds a row of the call's own, which lies behind it. -/
structure RowBox (w : World) (g : Nat) (t : TypeId) (base E sz n : Nat) (v : Value) (xs : List Value) : Prop where
  row : RowAt w g t #[v]
  own : w.ownsRow base E sz v n xs
  lt : g < base
theorem RowBox.below {w w' : World} {g : Nat} {t : TypeId} {base E sz n : Nat} {v : Value} {xs : List Value} (h : RowBox w g t base E sz n v xs) (hb : Below w.heap.size w w') : RowBox w' g t base E sz n v xs :=
  ⟨h.row.below hb, own_keepB h.own hb, h.lt⟩
theorem RowBox.cell {w : World} {g : Nat} {t : TypeId} {base E sz n : Nat} {v : Value} {xs : List Value} (h : RowBox w g t base E sz n v xs) : w.cell? ⟨g, 0, none⟩ = some v := by
  have := h.row.cell 0
  simpa using this
/-- Appended, and stored back. -/
theorem RowBox.store {w2 : World} {g : Nat} {t : TypeId} {base E sz n : Nat} {v v2 : Value} {ys : List Value} (hr : RowAt w2 g t #[v]) (hg : g < base) (ho : w2.ownsRow base E sz v2 n ys) : RowBox (w2.setCell ⟨g, 0, none⟩ v2) g t base E sz n v2 ys :=
  ⟨hr.set 0 v2, own_other ho (fun j hj => heap_setCell_ne _ _ _ _ (by show j ≠ g; omega)), hg⟩
/-- Another block, below the base, or not the box. -/
theorem RowAt.belowB {w w2 : World} {g : Nat} {t : TypeId} {cs : Array Value} {base : Nat} (h : RowAt w g t cs) (hg : g < base) (hb : Below base w w2) : RowAt w2 g t cs := (hb.block _ hg).trans h
theorem RowAt.setNe {w : World} {g g2 : Nat} {t : TypeId} {cs : Array Value} {o : Nat} {v : Value} (h : RowAt w g t cs) (hne : g ≠ g2) : RowAt (w.setCell ⟨g2, o, none⟩ v) g t cs := (heap_setCell_ne _ _ _ _ hne).trans h
theorem row1 {w : World} {g : Nat} {t : TypeId} {v : Value} (h : RowAt w g t #[v]) : w.cell? ⟨g, 0, none⟩ = some v := by
  have := h.cell 0
  simpa using this
theorem row20 {w : World} {g : Nat} {t : TypeId} {u v : Value} (h : RowAt w g t #[u, v]) : w.cell? ⟨g, 0, none⟩ = some u := by
  have := h.cell 0
  simpa using this
theorem row21 {w : World} {g : Nat} {t : TypeId} {u v : Value} (h : RowAt w g t #[u, v]) : w.cell? ⟨g, 1, none⟩ = some v := by
  have := h.cell 1
  simpa using this
end Go.Proofs.Ytfpbabafeecncaa
