/-
  layout.Table.
-/
import Derived.Test.YtndlfofpldbldaaJ
import Derived.Test.YtndlfofpldbldaaH
import Derived.BigRegion
import Derived.Laws.CopyRow
import Derived.Deep.MidRow
import Derived.Shelf.Spec.SlicesInsert
set_option linter.unusedSimpArgs false
set_option linter.unusedVariables false
namespace Go.Proofs.Ytndlfofpldbldaa
open Go Go.RowKit

/-- Block g is a row of cells, of which none is frozen. -/
def RowAt (w : World) (g : Nat) (t : TypeId) (cs : Array Value) : Prop := w.heap[g]? = some (.cells cs t (0, 0))
section
variable {w w' : World} {g : Nat} {t : TypeId} {cs : Array Value}
theorem RowAt.lt (h : RowAt w g t cs) : g < w.heap.size := by
  rcases Nat.lt_or_ge g w.heap.size with hlt | hge
  · exact hlt
  · unfold RowAt at h; rw [Array.getElem?_eq_none hge] at h; cases h
theorem RowAt.cell (h : RowAt w g t cs) (i : Nat) : w.cell? ⟨g, i, none⟩ = cs[i]? := by
  unfold World.cell?; rw [show w.heap[(⟨g, i, none⟩ : Addr).block]? = some (.cells cs t (0, 0)) from h]; simp
theorem RowAt.frozen (h : RowAt w g t cs) (i : Nat) : w.frozen? ⟨g, i, none⟩ = false := by
  unfold World.frozen?; rw [show w.heap[(⟨g, i, none⟩ : Addr).block]? = some (.cells cs t (0, 0)) from h]; simp
theorem RowAt.new (w : World) (t : TypeId) (cs : Array Value) : RowAt (w.alloc (.cells cs t)) w.heap.size t cs := heap_alloc_last w _
theorem RowAt.heap (h : RowAt w g t cs) (hk : w'.heap[g]? = w.heap[g]?) : RowAt w' g t cs := hk.trans h
theorem RowAt.below (h : RowAt w g t cs) (hb : Below w.heap.size w w') : RowAt w' g t cs := (hb.block g h.lt).trans h
theorem RowAt.past {k : Nat} (h : RowAt w g t cs) (hb : Past k w w') (hn : g ≠ k) : RowAt w' g t cs := (hb.block g hn h.lt).trans h
theorem RowAt.drew (h : RowAt w g t cs) : RowAt w.drew g t cs := h
theorem RowAt.drewN (h : RowAt w g t cs) (n : Nat) : RowAt (w.drewN n) g t cs := h
theorem RowAt.to (h : RowAt w g t cs) (e : w = w') : RowAt w' g t cs := e ▸ h
theorem Past.drew {k : Nat} {a b : World} (h : Past k a b) : Past k a b.drew := ⟨h.below.drew, h.block, h.size⟩
theorem RowAt.set (h : RowAt w g t cs) (i : Nat) (v : Value) : RowAt (w.setCell ⟨g, i, none⟩ v) g t (cs.setIfInBounds i v) := by
  rw [setCell_eq_setRow w g i cs t (0, 0) v h]; exact setRow_heap w g cs _ t _ h
end

/-- What next does, said of the whole row. -/
theorem next_any (g b off n c m : Nat) {off2 n2 c2 : Nat} (L : List Value) (w : World) (hrow : RowAt w g 86 (L ++ [Value.slice (some ⟨b, off, none⟩) n c]).toArray) (hL : L.length = 39) (h1 : m ≤ n) (h2 : n ≤ c) (h3 : m < c) (h4 : n ≤ 4096)
    (e1 : off + m = off2) (e2 : n - m = n2) (e3 : c - m = c2) (mI : Int) (e4 : (m : Int) = mI) :
    Calls Try.prog 44 #[.pointer (some ⟨g, 0, none⟩), .int .i64 mI] w fun e w' => e = .returned (.slice (some ⟨b, off, none⟩) m m) ∧ RowAt w' g 86 (L ++ [Value.slice (some ⟨b, off2, none⟩) n2 c2]).toArray ∧ Past g w w' := by
  subst e1 e2 e3 e4
  have hc : w.cell? ⟨g, 39, none⟩ = some (Value.slice (some ⟨b, off, none⟩) n c) := by rw [hrow.cell]; simp [← hL]
  refine (next_ok g b off n c m w hc (hrow.frozen 39) h1 h2 h3 h4).mono ?_
  rintro e w' ⟨rfl, rfl⟩
  refine ⟨rfl, ?_, Past.set 39 _⟩
  have h := hrow.set 39 (Value.slice (some ⟨b, off + m, none⟩) (n - m) (c - m))
  rw [List.setIfInBounds_toArray, List.set_append_right _ _ (by omega), hL] at h
  exact h

theorem seg_get {l : List Value} {k n j : Nat} {u : Value} (h : ((l.drop k).take n)[j]? = some u) : l[k + j]? = some u := by
  rw [List.getElem?_take] at h
  split at h
  · rwa [List.getElem?_drop] at h
  · cases h
theorem seg_one {l : List Value} {k n : Nat} (h1 : ∀ u ∈ l, u.oneCell' = true) : ∀ u ∈ (l.drop k).take n, u.oneCell' = true := fun u hu => h1 u (List.mem_of_mem_drop (List.mem_of_mem_take hu))
theorem seg_len {l : List Value} {k n : Nat} (h : k + n ≤ l.length) : ((l.drop k).take n).length = n := by simp; omega

theorem copy_split (w : World) (g o n dc sc b off : Nat) (t : TypeId) (pre mid post ys : List Value) (hrow : RowAt w g t (pre ++ mid ++ post).toArray) (ho : pre.length = o) (hm : mid.length = n) (hy : ys.length = n)
    (hsrc : ∀ j u, ys[j]? = some u → w.cell? ⟨b, off + j, none⟩ = some u) (h1 : ∀ u ∈ ys, u.oneCell' = true) :
    (Builtin.copy_ #[24, 24] 3 #[.slice (some ⟨g, o, none⟩) n dc, .slice (some ⟨b, off, none⟩) n sc]).run Try.prog w = .ok (goInt n) (w.setRow g (pre ++ ys ++ post).toArray) := by
  have h := run_copy_row (P := Try.prog) w 24 24 3 34 g o n dc ⟨b, off, none⟩ n sc (pre ++ mid ++ post).toArray t ys Try.underlying24 (by kernel_rfl) hrow (by simp [hy]) ?_ (by simp; omega) h1
  · have e1 : (pre ++ mid ++ post).take o = pre := by rw [List.append_assoc, ← ho]; exact List.take_left
    have e2 : (pre ++ mid ++ post).drop (o + ys.length) = post := by
      have e3 : o + ys.length = (pre ++ mid).length := by rw [List.length_append]; omega
      rw [e3]; exact List.drop_left
    rw [h]
    show Result.ok _ (w.setRow g ((pre ++ mid ++ post).take o ++ ys ++ (pre ++ mid ++ post).drop (o + ys.length)).toArray) = _
    rw [e1, e2, hy]
  · intro j u hj
    have := hsrc j u hj
    unfold Addr.add
    by_cases h0 : j = 0
    · subst h0; simpa using this
    · simpa [h0] using this

theorem setRow_past (w : World) (g : Nat) (cs : Array Value) : Past g w (w.setRow g cs) := by
  have hb : ∀ j, j ≠ g → (w.setRow g cs).heap[j]? = w.heap[j]? := fun j hj => by
    simp only [World.setRow, Array.getElem?_modify]
    rw [if_neg (fun e => hj e.symm)]
  refine ⟨⟨rfl, rfl, rfl, by simp [World.setRow], fun j hj => hb j (by omega)⟩, fun j hj _ => hb j hj, by simp [World.setRow]⟩

/-- copy, as one step of a region that draws. -/
theorem step_copy {ops : Array Oper} {o : Oper} {a : Act} {w : World} {K : Act → World → Prop} {Q : Exit → Act → World → Prop} {E : Prop} (hg : o.guard = none) (d x : Operand) (hop : o.op = Op.call { callee := Callee.builtin Builtin.copy, args := #[d, x], argTypes := #[24, 24] }) (hty : o.type = 3)
    (g p n dc sc b off : Nat) (t : TypeId) (pre mid post ys : List Value) (hd : a.eval d = .slice (some ⟨g, p, none⟩) n dc) (hx : a.eval x = .slice (some ⟨b, off, none⟩) n sc)
    (hrow : RowAt w g t (pre ++ mid ++ post).toArray) (ho : pre.length = p) (hm : mid.length = n) (hy : ys.length = n)
    (hsrc : ∀ j u, ys[j]? = some u → w.cell? ⟨b, off + j, none⟩ = some u) (h1 : ∀ u ∈ ys, u.oneCell' = true) (hK : ∀ w', RowAt w' g t (pre ++ ys ++ post).toArray → Past g w w' → K (a.put o.dst (goInt n)) w') :
    if Region.wanted o (yielded ops a.tmps) = true then Oper.wp Try.prog o a w K Q else E := by
  have hr := copy_split w g p n dc sc b off t pre mid post ys hrow ho hm hy hsrc h1
  rw [← hty] at hr
  exact Go.Proofs.step_copy_runI (P := Try.prog) hg d x 24 24 hop _ _ hd hx hr (hK _ (setRow_heap w g _ _ t _ hrow) (setRow_past w g _))

theorem run_storeVar_rowAt {P : Program} (w : World) (g : Nat) (ty t : TypeId) (cur cells : Array Value) (hrow : RowAt w g t cur) (hs : cur.size = cells.size) (hi : (P.info? ty).map (·.size) = some cells.size) (h1 : cells.all (·.oneCell') = true) :
    (storeVar ty ⟨g, 0, none⟩ (.agg cells)).run P w = .ok () (w.setRow g cells) := by
  have h := run_storeCells_at P g 0 t cells.toList 0 cur w hrow (by simp; omega) (fun v hv => (Array.all_eq_true_iff_forall_mem.1 h1) v (by simpa using hv))
  have he : (List.take (0 + 0) cur.toList ++ cells.toList ++ List.drop (0 + 0 + cells.toList.length) cur.toList).toArray = cells := by
    rw [List.drop_eq_nil_of_le (by simp; omega)]; simp
  rw [he] at h
  cases hq : P.info? ty with
  | none => simp [hq] at hi
  | some i =>
    have hs : cells.size = i.size := by simp [hq] at hi; omega
    simp [storeVar, sizeOf, typeInfo, hq, Value.cells, hs, h]

theorem wpList_store_rowAt {P : Program} {ops : Array Oper} {rest : List Oper} {op : Oper} {a : Act} {w : World} {Q : Exit → Act → World → Prop} (hgd : op.guard = none) (ty : TypeId) (x y : Operand) (ho : op.op = .store ty x y)
    (g : Nat) (t : TypeId) (cur cells : Array Value) (hx : a.eval x = .pointer (some ⟨g, 0, none⟩)) (hy : a.eval y = .agg cells) (hrow : RowAt w g t cur) (hs : cur.size = cells.size)
    (hi : (P.info? ty).map (·.size) = some cells.size) (h1 : cells.all (·.oneCell') = true)
    (h : ∀ w', RowAt w' g t cells → Past g w w' → wpList P ops Q rest (a.put op.dst undef) w') : wpList P ops Q (op :: rest) a w :=
  wpList_plain hgd fun _ hK => by
    unfold Oper.wp execOp
    simp only [ho, hx, hy, Instr.storeAt, Instr.sureAddr, Sem.run_bind, Sem.run_pure, Result.andThen_ok, run_storeVar_rowAt w g ty t cur cells hrow hs hi h1]
    exact hK _ _ (h _ (setRow_heap w g _ _ t _ hrow) (setRow_past w g _))

theorem RowAt.range {w : World} {g : Nat} {t : TypeId} {l r : List Value} (h : RowAt w g t (l ++ r).toArray) : w.rangeAt g 0 l := fun j v hj => by
  rw [Nat.zero_add, h.cell, List.getElem?_toArray, List.getElem?_append_left (List.getElem?_eq_some_iff.1 hj).1]; exact hj

def zeroT : List Value := [.int .u64 0, .int .i64 0, .int .u64 0, .int .i64 0, .int .i64 0] ++ List.replicate 34 (.int .u64 0)

end Go.Proofs.Ytndlfofpldbldaa
