/-
  honeycombref16: ReadTable.
-/
import Derived.Test.YtndlfofpldbldaaT
import Derived.Test.YtndlfofpldbldaaR
import Derived.Test.YtndlfofpldbldaaS
import Derived.Test.YtndlfofpldbldaaL
set_option linter.unusedSimpArgs false
set_option linter.unusedVariables false
namespace Go.Proofs.Ytndlfofpldbldaa
open Go Go.RowKit

theorem set_fill {α : Type} (pre S post : List α) (z : α) (n k : Nat) (v : α) (hS : S.length = n) (hv : S[k]? = some v) :
    (pre ++ (S.take k ++ List.replicate (n - k) z) ++ post).set (pre.length + k) v = pre ++ (S.take (k + 1) ++ List.replicate (n - (k + 1)) z) ++ post := by
  obtain ⟨hl, hv'⟩ := List.getElem?_eq_some_iff.1 hv
  have h1 : (S.take k).length = k := by rw [List.length_take]; omega
  have h2 : List.replicate (n - k) z = z :: List.replicate (n - (k + 1)) z := by
    rw [show n - k = (n - (k + 1)) + 1 by omega]; rfl
  rw [List.append_assoc, List.set_append_right _ _ (by omega), Nat.add_sub_cancel_left, List.append_assoc, List.set_append_right _ _ (by omega), h1, Nat.sub_self, h2, List.take_succ_eq_append_getElem hl, hv']
  simp

/-- The table that words tell, by its cells. -/
def readX (xs : List Int) : List Value :=
  [Value.int .u64 (xs.getD 0 0), .int .i64 (xs.getD 1 0 % 256), .int .u64 (xs.getD 1 0 / 256), .int .i64 (xs.getD 2 0 % 256), .int .i64 (xs.getD 3 0 % 256)] ++ ((xs.drop 4).take 34).map (Value.int .u64)

theorem hinf55 : (Try.prog.info? 55).map (·.size) = some zeroT.toArray.size := by kernel_rfl
theorem zeroT_one : zeroT.toArray.all (·.oneCell') = true := by kernel_rfl

/-- A whole struct stored into a block that is known whole, as one step of a region that draws. -/
theorem wp_store_rowAt {P : Program} {op : Oper} {a : Act} {w : World} {K : Act → World → Prop} {Q : Exit → Act → World → Prop} (ty : TypeId) (x y : Operand) (ho : op.op = .store ty x y)
    (g : Nat) (t : TypeId) (cur cells : Array Value) (hx : a.eval x = .pointer (some ⟨g, 0, none⟩)) (hy : a.eval y = .agg cells) (hrow : RowAt w g t cur) (hs : cur.size = cells.size)
    (hi : (P.info? ty).map (·.size) = some cells.size) (h1 : cells.all (·.oneCell') = true)
    (h : ∀ w', RowAt w' g t cells → Past g w w' → K (a.put op.dst undef) w') : op.wp P a w K Q := by
  unfold Oper.wp execOp
  simp only [ho, hx, hy, Instr.storeAt, Instr.sureAddr, Sem.run_bind, Sem.run_pure, Result.andThen_ok, run_storeVar_rowAt w g ty t cur cells hrow hs hi h1]
  exact h _ (setRow_heap w g _ _ t _ hrow) (setRow_past w g _)

/-- A whole struct stored into the block that was made last. -/
theorem wp_store_new {P : Program} {o : Oper} {a : Act} {w : World} {K : Act → World → Prop} {Q : Exit → Act → World → Prop} (ty : TypeId) (x y : Operand) (ho : o.op = .store ty x y)
    (c cs : Array Value) (g : Nat) (hx : a.eval x = .pointer (some ⟨g, 0, none⟩)) (hg : g = w.heap.size) (hy : a.eval y = .agg cs) (hi : (P.info? ty).map (·.size) = some cs.size) (hs : c.size = cs.size) (h1 : cs.all (·.oneCell') = true)
    (h : K (a.put o.dst undef) (w.alloc (.cells cs ty))) : o.wp P a (w.alloc (.cells c ty)) K Q := by
  subst hg
  unfold Oper.wp execOp
  simp only [ho, hx, hy, Sem.run_bind, Sem.run_pure, Result.andThen_ok, run_storeAt_new w ty c cs hi hs h1]
  exact h

/-- A table of which the head is known, all else nought. -/
def headT (x0 d p c l : Int) : List Value := [.int .u64 x0, .int .i64 d, .int .u64 p, .int .i64 c, .int .i64 l] ++ List.replicate 34 (.int .u64 0)
theorem headT_one (x0 d p c l : Int) : (headT x0 d p c l).toArray.all (·.oneCell') = true := by
  refine all_oneCell_toArray ?_
  intro u hu
  simp only [headT, List.mem_append, List.mem_cons, List.not_mem_nil, or_false, List.mem_replicate] at hu
  rcases hu with (rfl | rfl | rfl | rfl | rfl) | ⟨_, rfl⟩ <;> rfl
theorem tmod256 (x : Int) (h : U64 x) : IntKind.i64.wrap (x.tmod 256) = x % 256 ∧ IntKind.u64.wrap (x.tdiv 256) = x / 256 := by
  obtain ⟨h0, h1⟩ := h
  rw [Int.tmod_eq_emod_of_nonneg h0, Int.tdiv_eq_ediv_of_nonneg h0]
  exact ⟨IntWalk.i64_in _ (by omega), IntWalk.u64_in _ (by omega)⟩

theorem fill_at {α : Type} (pre S post : List α) (z : α) (n k : Nat) (hS : S.length = n) (hk : k < n) : (pre ++ (S.take k ++ List.replicate (n - k) z) ++ post)[pre.length + k]? = some z := by
  have h1 : (S.take k).length = k := by rw [List.length_take]; omega
  rw [List.append_assoc, List.getElem?_append_right (by omega), Nat.add_sub_cancel_left, List.append_assoc, List.getElem?_append_right (by omega), h1, Nat.sub_self, List.getElem?_append_left (by simp; omega), List.getElem?_replicate, if_pos (by omega)]
theorem getD_at (xs : List Int) (i : Nat) (h : i < xs.length) : xs.getD i 0 = xs[i] := by
  rw [List.getD_eq_getElem?_getD, List.getElem?_eq_getElem h]; rfl
/-- The words that a table has that was read of these ones. -/
def readW (xs : List Int) : List Int := [xs.getD 0 0, xs.getD 1 0 % 256 + 256 * (xs.getD 1 0 / 256), xs.getD 2 0 % 256, xs.getD 3 0 % 256] ++ (xs.drop 4).take 34 ++ [0, 0]
/-- Are these a table's words? -/
def okT (xs : List Int) : Bool := rtabB (xs.getD 1 0 % 256) (xs.getD 1 0 / 256) (xs.getD 2 0 % 256) (xs.getD 3 0 % 256) && decide (xs = readW xs)
theorem readX_len (xs : List Int) (h : xs.length = 40) : (readX xs).length = 39 := by simp [readX]; omega
theorem readX_one (xs : List Int) : ∀ u ∈ readX xs, u.oneCell' = true := by
  intro u hu
  simp only [readX, List.mem_append, List.mem_cons, List.not_mem_nil, or_false, List.mem_map] at hu
  rcases hu with (rfl | rfl | rfl | rfl | rfl) | ⟨_, _, rfl⟩ <;> rfl
theorem readX_cells (xs : List Int) (h : xs.length = 40) : TabCells (readX xs).toArray (xs.getD 0 0) (xs.getD 1 0 % 256) (xs.getD 1 0 / 256) (xs.getD 2 0 % 256) (xs.getD 3 0 % 256) :=
  ⟨by rw [List.size_toArray, readX_len xs h], rfl, rfl, rfl, rfl, rfl, fun u hu => readX_one xs u (by simpa using hu)⟩
theorem readX_words (xs : List Int) (h : xs.length = 40) : tabWords (readX xs).toArray (xs.getD 0 0) (xs.getD 1 0 % 256) (xs.getD 1 0 / 256) (xs.getD 2 0 % 256) (xs.getD 3 0 % 256) = Cs encW (readW xs) := by
  rw [Cs_mapW]
  simp [tabWords, readX, readW]
theorem readX_rows (xs : List Int) (h : xs.length = 40) : [Value.int .u64 (xs.getD 0 0), .int .i64 (xs.getD 1 0 % 256), .int .u64 (xs.getD 1 0 / 256), .int .i64 (xs.getD 2 0 % 256), .int .i64 (xs.getD 3 0 % 256), .int .u64 (xs.getD 4 0), .int .u64 (xs.getD 5 0)] ++ ((xs.drop 6).take 16).map (Value.int .u64) ++ ((xs.drop 22).take 16).map (Value.int .u64) = readX xs := by
  have e : (xs.drop 4).take 34 = [xs.getD 4 0, xs.getD 5 0] ++ (xs.drop 6).take 16 ++ (xs.drop 22).take 16 := by
    have h1 : (xs.drop 4).take 34 = (xs.drop 4).take 2 ++ ((xs.drop 4).drop 2).take 32 := by rw [show 34 = 2 + 32 by omega, List.take_add]
    have h2 : ((xs.drop 4).drop 2).take 32 = (xs.drop 6).take 16 ++ ((xs.drop 6).drop 16).take 16 := by rw [List.drop_drop, show 32 = 16 + 16 by omega, List.take_add]
    have h3 : (xs.drop 4).take 2 = [xs.getD 4 0, xs.getD 5 0] := by
      rw [List.drop_eq_getElem_cons (by omega), List.drop_eq_getElem_cons (by omega), getD_at xs 4 (by omega), getD_at xs 5 (by omega)]
      rfl
    rw [h1, h2, h3, List.drop_drop]; simp
  simp [readX, e]
def rowK (H S T : List Value) (k : Nat) : List Value := H ++ (S.take k ++ List.replicate (16 - k) (.int .u64 0)) ++ (T.take k ++ List.replicate (16 - k) (.int .u64 0))
theorem rowK_succ (H S T : List Value) (k : Nat) (s t : Value) (hH : H.length = 7) (hS : S.length = 16) (hT : T.length = 16) (hs : S[k]? = some s) (ht : T[k]? = some t) :
    ((rowK H S T k).set (7 + k) s).set (23 + k) t = rowK H S T (k + 1) := by
  have hk : k < 16 := by have := (List.getElem?_eq_some_iff.1 hs).1; omega
  have h1 := set_fill H S (T.take k ++ List.replicate (16 - k) (.int .u64 0)) (.int .u64 0) 16 k s hS hs
  have h2 := set_fill (H ++ (S.take (k + 1) ++ List.replicate (16 - (k + 1)) (.int .u64 0))) T [] (.int .u64 0) 16 k t hT ht
  rw [List.append_nil, List.append_nil] at h2
  have hl : (H ++ (S.take (k + 1) ++ List.replicate (16 - (k + 1)) (Value.int .u64 0))).length = 23 := by simp; omega
  rw [hH] at h1
  rw [hl] at h2
  unfold rowK
  rw [h1, h2]
theorem rowK_at (H S T : List Value) (k : Nat) (hH : H.length = 7) (hS : S.length = 16) (hT : T.length = 16) (hk : k < 16) : (rowK H S T k).toArray[7 + k]? = some (.int .u64 0) ∧ (rowK H S T k).toArray[23 + k]? = some (.int .u64 0) := by
  have h1 := fill_at H S (T.take k ++ List.replicate (16 - k) (.int .u64 0)) (.int .u64 0) 16 k hS hk
  have h2 := fill_at (H ++ (S.take k ++ List.replicate (16 - k) (.int .u64 0))) T [] (.int .u64 0) 16 k hT hk
  rw [List.append_nil] at h2
  have hl : (H ++ (S.take k ++ List.replicate (16 - k) (Value.int .u64 0))).length = 23 := by simp; omega
  rw [hH] at h1
  rw [hl] at h2
  exact ⟨by rw [List.getElem?_toArray]; exact h1, by rw [List.getElem?_toArray]; exact h2⟩
theorem rowK_end (H S T : List Value) (hS : S.length = 16) (hT : T.length = 16) : rowK H S T 16 = H ++ S ++ T := by
  unfold rowK
  rw [List.take_of_length_le (by omega), List.take_of_length_le (by omega)]
  simp

theorem Same40 (B1 B2 : Nat) (A1 A2 : Option Addr) (c1 c2 : Nat) (xs ys : List Int) (W : World) (hl1 : xs.length = 40) (hl2 : ys.length = 40) (h1 : Rd W B1 1 A1 40 (Cs encW xs)) (h2 : Rd W B2 1 A2 40 (Cs encW ys)) (hB1 : B1 ≤ W.heap.size) (hB2 : B2 ≤ W.heap.size)
    (r : Bool) (hr : decide (xs = ys) = r) : Calls Try.prog 49 #[.slice A1 40 c1, .slice A2 40 c2] W fun e W' => e = .returned (.bool r) ∧ Below W.heap.size W W' := by
  have h := SameW B1 B2 A1 A2 c1 c2 xs ys W (by rw [hl1]; exact h1) (by rw [hl2]; exact h2) hB1 hB2 (by omega) (by omega) r hr
  rw [hl1, hl2] at h
  exact h
theorem readW_len (xs : List Int) (h : xs.length = 40) : (readW xs).length = 40 := by simp [readW]; omega
theorem rtabB_out {d p c l : Int} (h : rtabB d p c l = true) : 0 ≤ d ∧ d ≤ 5 ∧ p < 32 ∧ 0 ≤ c ∧ c ≤ 14 ∧ 0 ≤ l ∧ l ≤ 14 := by
  simp only [rtabB, decide_eq_true_eq] at h
  obtain ⟨a, b, e, f, g, i, j⟩ := h
  have h2 : (2 : Int) ^ d.toNat ≤ 32 := by
    have h4 : d.toNat = 0 ∨ d.toNat = 1 ∨ d.toNat = 2 ∨ d.toNat = 3 ∨ d.toNat = 4 ∨ d.toNat = 5 := by omega
    rcases h4 with h | h | h | h | h | h <;> rw [h] <;> decide
  exact ⟨a, b, by omega, f, g, i, j⟩
theorem Words40 (xs : List Int) (W : World) (hl : xs.length = 40) (h : rtabB (xs.getD 1 0 % 256) (xs.getD 1 0 / 256) (xs.getD 2 0 % 256) (xs.getD 3 0 % 256) = true) (hp : 0 ≤ xs.getD 1 0 / 256) :
    Calls Try.prog 23 #[.agg (readX xs).toArray] W fun e W' => ∃ v, e = .returned v ∧ W'.ownsRow W.heap.size 34 1 v 40 (Cs encW (readW xs)) ∧ Below W.heap.size W W' := by
  obtain ⟨a, b, e, f, g, i, j⟩ := rtabB_out h
  have := RTableWords_any (readX xs).toArray _ _ _ _ _ W (readX_cells xs hl) ((xs.drop 4).take 34) (by simp; omega) (by simp [readX]) hp e a b f g i j
  rw [readX_words xs hl] at this
  exact this

set_option maxRecDepth 100000 in
theorem RReadTable_len (A : Option Addr) (n c : Nat) (W : World) (hn : n ≠ 40) :
    Calls Try.prog 28 #[.slice A n c] W fun e W' => e = .returned (.tuple #[.agg zeroT.toArray, .bool false]) ∧ Below W.heap.size W W' := by
  have ht : ((n : Int) != 40) = true := by rw [bne_iff_ne]; omega
  go_enter Try.func28, Try.ntmps28
  go_wp2_with (refine wpList_store_new rfl 55 _ _ rfl zeroT.toArray zeroT.toArray W.heap.size rfl rfl rfl hinf55 rfl zeroT_one ?_)
  have hld : (loadVar 55 ⟨W.heap.size, 0, none⟩).run Try.prog (W.alloc (.cells zeroT.toArray 55)) = .ok (.agg zeroT.toArray) (W.alloc (.cells zeroT.toArray 55)) := run_loadVar_mid _ W.heap.size 0 55 zeroT _ (RowAt.range (r := []) (by rw [List.append_nil]; exact RowAt.new _ _ _)) Try.underlying55 rfl hinf55
  refine bodyPost_ret (v := .tuple #[.agg zeroT.toArray, .bool false]) (by simp [results, Try.results28, asAddr, hld]) rfl ⟨rfl, (Below.refl _ _).alloc (Nat.le_refl _) _⟩

set_option maxRecDepth 100000 in
set_option maxHeartbeats 2000000 in
theorem RReadTable_any (r : Bool) (B b off c : Nat) (xs : List Int) (W : World) (hl : xs.length = 40) (hr : Rd W B 1 (some ⟨b, off, none⟩) xs.length (Cs encW xs)) (hB : B ≤ W.heap.size) (hu : ∀ x ∈ xs, U64 x) (hrr : okT xs = r) :
    Calls Try.prog 28 #[.slice (some ⟨b, off, none⟩) 40 c] W fun e W' => e = .returned (.tuple #[.agg (readX xs).toArray, .bool r]) ∧ Below W.heap.size W W' := by
  have HR := hide hrr
  clear hrr
  obtain ⟨b', off', he, hb, hc⟩ := hr.2 (by omega)
  injection he with he
  injection he with h1 h2
  subst h1; subst h2
  have hx : ∀ i (h : i < xs.length), W.cell? ⟨b, off + i, none⟩ = some (.int .u64 xs[i]) := fun i h => hc i _ (by rw [Cs_mapW]; simp [h])
  have HX := hide hx
  have HU := hide hu
  have HL := hide hl
  clear hu hc hx hr
  have hd0 := HX.out 0 (by omega)
  have hd1 := HX.out 1 (by omega)
  have hd2 := HX.out 2 (by omega)
  have hd3 := HX.out 3 (by omega)
  obtain ⟨x0, hx0⟩ : ∃ x, xs[0] = x := ⟨_, rfl⟩
  obtain ⟨x1, hx1⟩ : ∃ x, xs[1] = x := ⟨_, rfl⟩
  obtain ⟨x2, hx2⟩ : ∃ x, xs[2] = x := ⟨_, rfl⟩
  obtain ⟨x3, hx3⟩ : ∃ x, xs[3] = x := ⟨_, rfl⟩
  rw [hx0, Nat.add_zero] at hd0
  rw [hx1] at hd1
  rw [hx2] at hd2
  rw [hx3] at hd3
  have HX0 := hide hx0
  have HX1 := hide hx1
  have HX2 := hide hx2
  have HX3 := hide hx3
  have hbs : b < W.heap.size := by omega
  clear hx0 hx1 hx2 hx3
  go_enter Try.func28, Try.ntmps28
  go_wp2_with fail
  have hrow0 : RowAt (W.alloc (.cells zeroT.toArray 55)) W.heap.size 55 zeroT.toArray := RowAt.new _ _ _
  have hb0 : Below W.heap.size W (W.alloc (.cells zeroT.toArray 55)) := (Below.refl _ _).alloc (Nat.le_refl _) _
  have hs0 : (W.alloc (.cells zeroT.toArray 55)).heap.size = W.heap.size + 1 := by simp
  change Code.wp _ _ _ _ (W.alloc (.cells zeroT.toArray 55))
  generalize W.alloc (.cells zeroT.toArray 55) = w0 at *
  obtain ⟨ht1, hq1⟩ := tmod256 x1 (by rw [← HX1.out]; exact HU.out _ (List.getElem_mem _))
  obtain ⟨ht2, _⟩ := tmod256 x2 (by rw [← HX2.out]; exact HU.out _ (List.getElem_mem _))
  obtain ⟨ht3, _⟩ := tmod256 x3 (by rw [← HX3.out]; exact HU.out _ (List.getElem_mem _))
  have hd0' := kept hb0 hd0
  have hd1' := kept hb0 hd1
  have hd2' := kept hb0 hd2
  have hd3' := kept hb0 hd3
  have hbs0 : b < w0.heap.size := by omega
  have HS0 := hide hs0
  have HROW0 := hide hrow0
  have HB0 := hide hb0
  clear hs0 hrow0 hb0 hd0 hd1 hd2 hd3
  refine wp_region_held_drew (S := fun wX => wX.cell? ⟨b, off, none⟩ = some (.int .u64 x0) ∧ wX.cell? ⟨b, off + 1, none⟩ = some (.int .u64 x1) ∧ wX.cell? ⟨b, off + 2, none⟩ = some (.int .u64 x2) ∧ wX.cell? ⟨b, off + 3, none⟩ = some (.int .u64 x3)) (by kernel_rfl) ?_ (fun hHeld => ?_)
  · (try dsimp only); go_keep
  refine wpAnyH_take (i := 0) (v := ?_) rfl (by kernel_rfl) (by kernel_rfl) (by kernel_rfl) (fun _ _ _ h => h) (Or.inl ⟨by rfl, ?_⟩) (by assumption) ?_
  rotate_left
  · (intro w hSw; (try dsimp only at hSw); go_simp; try with_reducible rfl)
  try simp only [Act.put, List.getElem_toArray, List.getElem_cons_succ, List.getElem_cons_zero, List.setIfInBounds_toArray, List.set_cons_zero, List.set_cons_succ]
  refine wpAnyH_take (i := 1) (v := ?_) rfl (by kernel_rfl) (by kernel_rfl) (by kernel_rfl) (fun _ _ _ h => h) (Or.inl ⟨by rfl, ?_⟩) (by assumption) ?_
  rotate_left
  · (intro w hSw; (try dsimp only at hSw); go_simp; try with_reducible rfl)
  try simp only [Act.put, List.getElem_toArray, List.getElem_cons_succ, List.getElem_cons_zero, List.setIfInBounds_toArray, List.set_cons_zero, List.set_cons_succ]
  refine wpAnyH_take (i := 2) (v := ?_) rfl (by kernel_rfl) (by kernel_rfl) (by kernel_rfl) (fun _ _ _ h => h) (Or.inl ⟨by rfl, ?_⟩) (by assumption) ?_
  rotate_left
  · (intro w hSw; (try dsimp only at hSw); go_simp; try with_reducible rfl)
  try simp only [Act.put, List.getElem_toArray, List.getElem_cons_succ, List.getElem_cons_zero, List.setIfInBounds_toArray, List.set_cons_zero, List.set_cons_succ]
  refine wpAnyH_take (i := 3) (v := ?_) rfl (by kernel_rfl) (by kernel_rfl) (by kernel_rfl) (fun _ _ _ h => h) (Or.inl ⟨by rfl, ?_⟩) (by assumption) ?_
  rotate_left
  · (intro w hSw; (try dsimp only at hSw); go_simp; try with_reducible rfl)
  try simp only [Act.put, List.getElem_toArray, List.getElem_cons_succ, List.getElem_cons_zero, List.setIfInBounds_toArray, List.set_cons_zero, List.set_cons_succ]
  refine wpAnyH_take (i := 4) (v := ?_) rfl (by kernel_rfl) (by kernel_rfl) (by kernel_rfl) (fun _ _ _ h => h) (Or.inl ⟨by rfl, ?_⟩) (by assumption) ?_
  rotate_left
  · (intro w hSw; (try dsimp only at hSw); go_simp; try with_reducible rfl)
  try simp only [Act.put, List.getElem_toArray, List.getElem_cons_succ, List.getElem_cons_zero, List.setIfInBounds_toArray, List.set_cons_zero, List.set_cons_succ]
  refine wpAnyH_take (i := 5) (v := ?_) rfl (by kernel_rfl) (by kernel_rfl) (by kernel_rfl) (fun _ _ _ h => h) (Or.inl ⟨by rfl, ?_⟩) (by assumption) ?_
  rotate_left
  · (intro w hSw; (try dsimp only at hSw); go_simp; try with_reducible rfl)
  try simp only [Act.put, List.getElem_toArray, List.getElem_cons_succ, List.getElem_cons_zero, List.setIfInBounds_toArray, List.set_cons_zero, List.set_cons_succ]
  refine wpAnyH_take (i := 6) (v := ?_) rfl (by kernel_rfl) (by kernel_rfl) (by kernel_rfl) (fun _ _ _ h => h) (Or.inl ⟨by rfl, ?_⟩) (by assumption) ?_
  rotate_left
  · (intro w hSw; (try dsimp only at hSw); go_simp; try with_reducible rfl)
  try simp only [Act.put, List.getElem_toArray, List.getElem_cons_succ, List.getElem_cons_zero, List.setIfInBounds_toArray, List.set_cons_zero, List.set_cons_succ]
  refine wpAnyH_take (i := 7) (v := ?_) rfl (by kernel_rfl) (by kernel_rfl) (by kernel_rfl) (fun _ _ _ h => h) (Or.inl ⟨by rfl, ?_⟩) (by assumption) ?_
  rotate_left
  · (intro w hSw; (try dsimp only at hSw); go_simp; try with_reducible rfl)
  try simp only [Act.put, List.getElem_toArray, List.getElem_cons_succ, List.getElem_cons_zero, List.setIfInBounds_toArray, List.set_cons_zero, List.set_cons_succ]
  refine wpAnyH_take (i := 8) (v := ?_) rfl (by kernel_rfl) (by kernel_rfl) (by kernel_rfl) (fun _ _ _ h => h) (Or.inl ⟨by rfl, ?_⟩) (by assumption) ?_
  rotate_left
  · (intro w hSw; (try dsimp only at hSw); go_simp; try with_reducible rfl)
  try simp only [Act.put, List.getElem_toArray, List.getElem_cons_succ, List.getElem_cons_zero, List.setIfInBounds_toArray, List.set_cons_zero, List.set_cons_succ]
  refine wpAnyH_take (i := 9) (v := ?_) rfl (by kernel_rfl) (by kernel_rfl) (by kernel_rfl) (fun _ _ _ h => h) (Or.inl ⟨by rfl, ?_⟩) (by assumption) ?_
  rotate_left
  · (intro w hSw; (try dsimp only at hSw); go_simp; try with_reducible rfl)
  try simp only [Act.put, List.getElem_toArray, List.getElem_cons_succ, List.getElem_cons_zero, List.setIfInBounds_toArray, List.set_cons_zero, List.set_cons_succ]
  refine wpAnyH_take (i := 10) (v := ?_) rfl (by kernel_rfl) (by kernel_rfl) (by kernel_rfl) (fun _ _ _ h => h) (Or.inl ⟨by rfl, ?_⟩) (by assumption) ?_
  rotate_left
  · (intro w hSw; (try dsimp only at hSw); go_simp; try with_reducible rfl)
  try simp only [Act.put, List.getElem_toArray, List.getElem_cons_succ, List.getElem_cons_zero, List.setIfInBounds_toArray, List.set_cons_zero, List.set_cons_succ]
  refine wpAnyH_take (i := 11) (v := ?_) rfl (by kernel_rfl) (by kernel_rfl) (by kernel_rfl) (fun _ _ _ h => h) (Or.inl ⟨by rfl, ?_⟩) (by assumption) ?_
  rotate_left
  · (intro w hSw; (try dsimp only at hSw); go_simp; try with_reducible rfl)
  try simp only [Act.put, List.getElem_toArray, List.getElem_cons_succ, List.getElem_cons_zero, List.setIfInBounds_toArray, List.set_cons_zero, List.set_cons_succ]
  refine wpAnyH_take (i := 12) (v := ?_) rfl (by kernel_rfl) (by kernel_rfl) (by kernel_rfl) (fun _ _ _ h => h) (Or.inl ⟨by rfl, ?_⟩) (by assumption) ?_
  rotate_left
  · (intro w hSw; (try dsimp only at hSw); go_simp; try with_reducible rfl)
  try simp only [Act.put, List.getElem_toArray, List.getElem_cons_succ, List.getElem_cons_zero, List.setIfInBounds_toArray, List.set_cons_zero, List.set_cons_succ]
  refine wpAnyH_take (i := 13) (v := ?_) rfl (by kernel_rfl) (by kernel_rfl) (by kernel_rfl) (fun _ _ _ h => h) (Or.inl ⟨by rfl, ?_⟩) (by assumption) ?_
  rotate_left
  · (intro w hSw; (try dsimp only at hSw); go_simp; try with_reducible rfl)
  try simp only [Act.put, List.getElem_toArray, List.getElem_cons_succ, List.getElem_cons_zero, List.setIfInBounds_toArray, List.set_cons_zero, List.set_cons_succ]
  refine wpAnyH_take (i := 14) (v := ?_) rfl (by kernel_rfl) (by kernel_rfl) (by kernel_rfl) (fun _ _ _ h => h) (Or.inl ⟨by rfl, ?_⟩) (by assumption) ?_
  rotate_left
  · (intro w hSw; (try dsimp only at hSw); go_simp; try with_reducible rfl)
  try simp only [Act.put, List.getElem_toArray, List.getElem_cons_succ, List.getElem_cons_zero, List.setIfInBounds_toArray, List.set_cons_zero, List.set_cons_succ]
  refine wpAnyH_take (i := 15) (v := ?_) rfl (by kernel_rfl) (by kernel_rfl) (by kernel_rfl) (fun _ _ _ h => h) (Or.inl ⟨by rfl, ?_⟩) (by assumption) ?_
  rotate_left
  · (intro w hSw; (try dsimp only at hSw); go_simp; try with_reducible rfl)
  try simp only [Act.put, List.getElem_toArray, List.getElem_cons_succ, List.getElem_cons_zero, List.setIfInBounds_toArray, List.set_cons_zero, List.set_cons_succ]
  refine wpAnyH_take (i := 16) (v := ?_) rfl (by kernel_rfl) (by kernel_rfl) (by kernel_rfl) (fun _ _ _ h => h) (Or.inl ⟨by rfl, ?_⟩) (by assumption) ?_
  rotate_left
  · (intro w hSw; (try dsimp only at hSw); go_simp; try with_reducible rfl)
  try simp only [Act.put, List.getElem_toArray, List.getElem_cons_succ, List.getElem_cons_zero, List.setIfInBounds_toArray, List.set_cons_zero, List.set_cons_succ]
  refine wpAnyH_take (i := 17) (v := ?_) rfl (by kernel_rfl) (by kernel_rfl) (by kernel_rfl) (fun _ _ _ h => h) (Or.inl ⟨by rfl, ?_⟩) (by assumption) ?_
  rotate_left
  · (intro w hSw; (try dsimp only at hSw); go_simp; try with_reducible rfl)
  try simp only [Act.put, List.getElem_toArray, List.getElem_cons_succ, List.getElem_cons_zero, List.setIfInBounds_toArray, List.set_cons_zero, List.set_cons_succ]
  refine wpAnyH_take (i := 18) (v := ?_) rfl (by kernel_rfl) (by kernel_rfl) (by kernel_rfl) (fun _ _ _ h => h) (Or.inl ⟨by rfl, ?_⟩) (by assumption) ?_
  rotate_left
  · (intro w hSw; (try dsimp only at hSw); go_simp; try with_reducible rfl)
  try simp only [Act.put, List.getElem_toArray, List.getElem_cons_succ, List.getElem_cons_zero, List.setIfInBounds_toArray, List.set_cons_zero, List.set_cons_succ]
  refine wpAnyH_take (i := 19) (v := ?_) rfl (by kernel_rfl) (by kernel_rfl) (by kernel_rfl) (fun _ _ _ h => h) (Or.inl ⟨by rfl, ?_⟩) (by assumption) ?_
  rotate_left
  · (intro w hSw; (try dsimp only at hSw); go_simp; try with_reducible rfl)
  try simp only [Act.put, List.getElem_toArray, List.getElem_cons_succ, List.getElem_cons_zero, List.setIfInBounds_toArray, List.set_cons_zero, List.set_cons_succ]
  refine wpAnyH_take (i := 20) (v := ?_) rfl (by kernel_rfl) (by kernel_rfl) (by kernel_rfl) (fun _ _ _ h => h) (Or.inl ⟨by rfl, ?_⟩) (by assumption) ?_
  rotate_left
  · (intro w hSw; (try dsimp only at hSw); go_simp; try with_reducible rfl)
  try simp only [Act.put, List.getElem_toArray, List.getElem_cons_succ, List.getElem_cons_zero, List.setIfInBounds_toArray, List.set_cons_zero, List.set_cons_succ]
  refine wpAnyH_take (i := 21) (v := ?_) rfl (by kernel_rfl) (by kernel_rfl) (by kernel_rfl) (fun _ _ _ h => h) (Or.inl ⟨by rfl, ?_⟩) (by assumption) ?_
  rotate_left
  · (intro w hSw; (try dsimp only at hSw); go_simp; try with_reducible rfl)
  try simp only [Act.put, List.getElem_toArray, List.getElem_cons_succ, List.getElem_cons_zero, List.setIfInBounds_toArray, List.set_cons_zero, List.set_cons_succ]
  refine wpAnyH_take (i := 22) (v := ?_) rfl (by kernel_rfl) (by kernel_rfl) (by kernel_rfl) (fun _ _ _ h => h) (Or.inl ⟨by rfl, ?_⟩) (by assumption) ?_
  rotate_left
  · (intro w hSw; (try dsimp only at hSw); go_simp; try with_reducible rfl)
  try simp only [Act.put, List.getElem_toArray, List.getElem_cons_succ, List.getElem_cons_zero, List.setIfInBounds_toArray, List.set_cons_zero, List.set_cons_succ]
  refine wpAnyH_ready (rs := [23]) (by kernel_rfl) (by simp) ?_
  refine AllReadyH.cons rfl (fun K hK => ?_) AllReadyH.nil
  go_simp
  refine hK.out _ _ ?_ (fun hHeld2 => ?_)
  · (try dsimp only); go_keep
  clear hK K hHeld
  try simp only [Act.put, List.getElem_toArray, List.getElem_cons_succ, List.getElem_cons_zero, List.setIfInBounds_toArray, List.set_cons_zero, List.set_cons_succ]
  refine wpAnyH_ready (rs := [24]) (by kernel_rfl) (by simp) ?_
  refine AllReadyH.cons rfl (fun K hK => ?_) AllReadyH.nil
  rw [if_pos (by rfl)]
  refine wp_store_rowAt 55 (.tmp 4) (.tmp 32) rfl w0.heap.size 55 zeroT.toArray (headT x0 (x1 % 256) (x1 / 256) (x2 % 256) (x3 % 256)).toArray rfl rfl (RowAt.new w0 55 zeroT.toArray) rfl hinf55 (headT_one _ _ _ _ _) ?_
  intro w1 hrow1 hp1
  have hp1' : Past w0.heap.size (w0.alloc (.cells zeroT.toArray 55)) w1 := Past.ofDrew hp1
  have hs1 : w0.heap.size < w1.heap.size := by have := hp1'.size; simp at this; omega
  have hb1 : Below w0.heap.size w0 w1 := ((Below.refl _ _).alloc (Nat.le_refl _) _).trans hp1'.below
  refine hK.out _ _ ⟨kept hb1 hd0', kept hb1 hd1', kept hb1 hd2', kept hb1 hd3'⟩ (fun _ => ?_)
  clear hK K hHeld2 hp1 hp1' hd0' hd1' hd2' hd3' ht1 hq1 ht2 ht3
  refine wpAnyH_done (by kernel_rfl) ?_ _
  simp only [Act.put, List.getElem_toArray, List.getElem_cons_succ, List.getElem_cons_zero, List.setIfInBounds_toArray, List.set_cons_zero, List.set_cons_succ]
  generalize hagg : Value.agg #[Value.int .u64 x0, .int .i64 (x1 % 256), _, _, _, _, _, _, _, _, _, _, _, _, _, _, _, _, _, _, _, _, _, _, _, _, _, _, _, _, _, _, _, _, _, _, _, _, _] = AGG
  clear hagg
  rename_i dd hh
  clear hh dd
  have hbW1 : Below W.heap.size W w1 := HB0.out.trans (hb1.mono (by have := HS0.out; omega))
  have hxW1 : ∀ i (h : i < xs.length), w1.cell? ⟨b, off + i, none⟩ = some (.int .u64 xs[i]) := fun i h => (hbW1.cell (by simpa using hbs)).trans (HX.out i h)
  obtain ⟨g, hg⟩ : ∃ g, w0.heap.size = g := ⟨_, rfl⟩
  rw [hg] at hrow1 hs1
  rw [hg]
  have hbg : ¬ b = g := by have := HS0.out; omega
  have hgb : ¬ g = b := by omega
  have hd4 := hxW1 4 (by omega)
  have hd5 := hxW1 5 (by omega)
  obtain ⟨x4, hx4⟩ : ∃ x, xs[4] = x := ⟨_, rfl⟩
  obtain ⟨x5, hx5⟩ : ∃ x, xs[5] = x := ⟨_, rfl⟩
  rw [hx4] at hd4
  rw [hx5] at hd5
  have HX4 := hide hx4
  have HX5 := hide hx5
  have hr5 : w1.cell? ⟨g, 5, none⟩ = some (.int .u64 0) := hrow1.cell 5
  have hr6 : w1.cell? ⟨g, 6, none⟩ = some (.int .u64 0) := hrow1.cell 6
  have hf5 := hrow1.frozen 5
  have hf6 := hrow1.frozen 6
  have HXW := hide hxW1
  have HROW := hide hrow1
  have HBW := hide hbW1
  have HB1 := hide hb1
  clear hx4 hx5 hxW1 hrow1 hbW1 hb1
  go_wp2_with fail
  go_region
  have hrow2 := ((HROW.out.set 5 (.int .u64 x4)).set 6 (.int .u64 x5)).drew
  have hP2 : Past g w1 ((w1.setCell ⟨g, 5, none⟩ (.int .u64 x4)).setCell ⟨g, 6, none⟩ (.int .u64 x5)).drew := ((Past.set 5 _).trans (Past.set 6 _)).drew
  generalize ((w1.setCell ⟨g, 5, none⟩ (.int .u64 x4)).setCell ⟨g, 6, none⟩ (.int .u64 x5)).drew = w2 at *
  clear hr5 hr6 hf5 hf6 hd4 hd5
  go_wp2_with fail
  obtain ⟨H7, hH7⟩ : ∃ H : List Value, [Value.int .u64 x0, .int .i64 (x1 % 256), .int .u64 (x1 / 256), .int .i64 (x2 % 256), .int .i64 (x3 % 256), .int .u64 x4, .int .u64 x5] = H := ⟨_, rfl⟩
  obtain ⟨S6, hS6⟩ : ∃ S, ((xs.drop 6).take 16).map (Value.int .u64) = S := ⟨_, rfl⟩
  obtain ⟨S22, hS22⟩ : ∃ S, ((xs.drop 22).take 16).map (Value.int .u64) = S := ⟨_, rfl⟩
  have hrow2' : RowAt w2 g 55 (rowK H7 S6 S22 0).toArray := by rw [← hH7]; exact hrow2
  have hl7 : H7.length = 7 := by rw [← hH7]; rfl
  have hl6 : S6.length = 16 := by rw [← hS6]; simp; omega
  have hl22 : S22.length = 16 := by rw [← hS22]; simp; omega
  have HH7 := hide hH7
  have HS6 := hide hS6
  have HS22 := hide hS22
  have HL7 := hide hl7
  have HL6 := hide hl6
  have HL22 := hide hl22
  have HR2 := hide hrow2'
  have HP2 := hide hP2
  clear hH7 hS6 hS22 hl7 hl6 hl22 hrow2' hrow2 hP2
  go_loopw [43] (fun i wr => ∃ k : Nat, k ≤ 16 ∧ i = .int .i64 k ∧ RowAt wr g 55 (rowK H7 S6 S22 k).toArray ∧ Past g w1 wr) (fun i _ => 16 - (intOf i).toNat)
  case atStart => exact ⟨0, Nat.zero_le _, rfl, HR2.out, HP2.out⟩
  case round =>
    obtain ⟨k, hk, rfl, hrow, hp⟩ := hrel
    have HRK := hide hrow
    clear hrow
    by_cases hlt : k < 16
    · have hxr : ∀ i (h : i < xs.length), wr.cell? ⟨b, off + i, none⟩ = some (.int .u64 xs[i]) := fun i h => (hp.cell _ (by simpa using hbg) (by show b < _; omega)).trans (HXW.out i h)
      have hd6 := hxr (6 + k) (by omega)
      have hd22 := hxr (22 + k) (by omega)
      clear hxr
      obtain ⟨x6, hx6⟩ : ∃ x, xs[6 + k]'(by omega) = x := ⟨_, rfl⟩
      obtain ⟨x22, hx22⟩ : ∃ x, xs[22 + k]'(by omega) = x := ⟨_, rfl⟩
      rw [hx6] at hd6
      rw [hx22] at hd22
      have HK6 : Hid (S6[k]? = some (.int .u64 x6)) := hide (by rw [← HS6.out, ← hx6, List.getElem?_map, List.getElem?_take, if_pos hlt, List.getElem?_drop, List.getElem?_eq_getElem (by omega)]; rfl)
      have HK22 : Hid (S22[k]? = some (.int .u64 x22)) := hide (by rw [← HS22.out, ← hx22, List.getElem?_map, List.getElem?_take, if_pos hlt, List.getElem?_drop, List.getElem?_eq_getElem (by omega)]; rfl)
      have hr7 : wr.cell? ⟨g, 7 + k, none⟩ = some (.int .u64 0) := by rw [HRK.out.cell]; exact (rowK_at H7 S6 S22 k HL7.out HL6.out HL22.out hlt).1
      have hr23 : wr.cell? ⟨g, 23 + k, none⟩ = some (.int .u64 0) := by rw [HRK.out.cell]; exact (rowK_at H7 S6 S22 k HL7.out HL6.out HL22.out hlt).2
      have hf7 := HRK.out.frozen (7 + k)
      have hf23 := HRK.out.frozen (23 + k)
      clear hx6 hx22
      have e1 : IntKind.i64.wrap (6 + (k : Int)) = 6 + k := IntWalk.i64_in _ (by omega)
      have e2 : IntKind.i64.wrap (22 + (k : Int)) = 22 + k := IntWalk.i64_in _ (by omega)
      have e3 : (0 : Int) ≤ 6 + k := by omega
      have e4 : (0 : Int) ≤ 22 + k := by omega
      have e5 : (6 + (k : Int)).toNat = 6 + k := by omega
      have e6 : (22 + (k : Int)).toNat = 22 + k := by omega
      have e7 : 6 + (k : Int) < 40 := by omega
      have e8 : 22 + (k : Int) < 40 := by omega
      go_wp2_with fail
      go_region
      have hrow3 : RowAt ((wr.setCell ⟨g, 7 + k, none⟩ (.int .u64 x6)).setCell ⟨g, 23 + k, none⟩ (.int .u64 x22)).drew g 55 (rowK H7 S6 S22 (k + 1)).toArray := by
        have h := ((HRK.out.set (7 + k) (.int .u64 x6)).set (23 + k) (.int .u64 x22)).drew
        rw [List.setIfInBounds_toArray, List.setIfInBounds_toArray, rowK_succ H7 S6 S22 k _ _ HL7.out HL6.out HL22.out HK6.out HK22.out] at h
        exact h
      have hP3 : Past g w1 ((wr.setCell ⟨g, 7 + k, none⟩ (.int .u64 x6)).setCell ⟨g, 23 + k, none⟩ (.int .u64 x22)).drew := hp.trans ((Past.set _ _).trans (Past.set _ _)).drew
      generalize ((wr.setCell ⟨g, 7 + k, none⟩ (.int .u64 x6)).setCell ⟨g, 23 + k, none⟩ (.int .u64 x22)).drew = w3 at *
      have HR3 := hide hrow3
      have HP3 := hide hP3
      clear hrow3 hP3 hr7 hr23 hf7 hf23 hd6 hd22 e1 e2 e3 e4 e5 e6 e7 e8
      go_wp2_with fail
      go_roundw
      case rel => exact ⟨k + 1, by omega, by go_num, HR3.out, HP3.out⟩
      case measure => simp [intOf]; omega
    · obtain rfl : k = 16 := by omega
      have HP := hide hp
      clear hp
      go_wp2_with fail
      have hX39 : (readX xs).length = 39 := readX_len xs HL.out
      have hXc := readX_cells xs HL.out
      have hROWR : RowAt wr g 55 (readX xs).toArray := by
        have h := HRK.out
        rw [rowK_end H7 S6 S22 HL6.out HL22.out, ← HH7.out, ← HS6.out, ← HS22.out] at h
        have e := readX_rows xs HL.out
        have g0 : xs.getD 0 0 = x0 := by rw [← HX0.out]; exact getD_at xs 0 (by omega)
        have g1 : xs.getD 1 0 = x1 := by rw [← HX1.out]; exact getD_at xs 1 (by omega)
        have g2 : xs.getD 2 0 = x2 := by rw [← HX2.out]; exact getD_at xs 2 (by omega)
        have g3 : xs.getD 3 0 = x3 := by rw [← HX3.out]; exact getD_at xs 3 (by omega)
        have g4 : xs.getD 4 0 = x4 := by rw [← HX4.out]; exact getD_at xs 4 (by omega)
        have g5 : xs.getD 5 0 = x5 := by rw [← HX5.out]; exact getD_at xs 5 (by omega)
        rw [g0, g1, g2, g3, g4, g5] at e
        rwa [e] at h
      have hinfX : (Try.prog.info? 55).map (·.size) = some (readX xs).length := by rw [hX39]; kernel_rfl
      have HROWR := hide hROWR
      have HINF := hide hinfX
      have HXC := hide hXc
      clear hX39 hXc hROWR hinfX
      have hgW : g ≠ W.heap.size := by have := HS0.out; omega
      obtain ⟨r1, hr1⟩ : ∃ r1, rtabB (xs.getD 1 0 % 256) (xs.getD 1 0 / 256) (xs.getD 2 0 % 256) (xs.getD 3 0 % 256) = r1 := ⟨_, rfl⟩
      have HR1 := hide hr1
      clear hr1
      have hgWr : W.heap.size < wr.heap.size := by have := HP.out.size; have := HS0.out; omega
      have hR9 : RowAt wr W.heap.size 55 zeroT.toArray := (HROW0.out.below (HB1.out)).past HP.out (by omega)
      have HR9 := hide hR9
      clear hR9
      refine wp_region_held_drew (S := fun wX => Past W.heap.size wr wX) (by kernel_rfl) (Past.refl _ _).drew (fun hHeld => ?_)
      refine wpAnyH_take (i := 0) (v := _) rfl (by kernel_rfl) (by kernel_rfl) (by kernel_rfl) (fun _ _ _ h => h) (yieldsIf_load_mid (by rfl) 55 (.tmp 4) rfl g 0 rfl (readX xs) _ (fun w hw => RowAt.range (r := []) (by rw [List.append_nil]; exact HROWR.out.past hw hgW)) Try.underlying55 rfl HINF.out) (by assumption) ?_
      refine wpAnyH_take (i := 1) (v := _) rfl (by kernel_rfl) (by kernel_rfl) (by kernel_rfl) (fun _ _ _ h => h) (yieldsIf_load_mid (by rfl) 55 (.tmp 4) rfl g 0 rfl (readX xs) _ (fun w hw => RowAt.range (r := []) (by rw [List.append_nil]; exact HROWR.out.past hw hgW)) Try.underlying55 rfl HINF.out) (by assumption) ?_
      try simp only [Act.put, List.getElem_toArray, List.getElem_cons_succ, List.getElem_cons_zero, List.setIfInBounds_toArray, List.set_cons_zero, List.set_cons_succ]
      refine wpAnyH_ready (rs := [2]) (by kernel_rfl) (by simp) ?_
      refine AllReadyH.cons rfl (fun K hK => ?_) AllReadyH.nil
      rw [if_pos (by rfl)]
      go_simp
      refine (RTable_any (readX xs).toArray _ _ _ _ _ r1 HR1.out HXC.out.c1 HXC.out.c2 HXC.out.c3 HXC.out.c4).mono ?_
      rintro e w5 ⟨rfl, hb5⟩
      dsimp only
      have hgWr : W.heap.size < wr.drew.heap.size := by have := HP.out.size; have := HS0.out; show W.heap.size < wr.heap.size; omega
      refine hK.out _ _ (hHeld.trans (Past.of_below hgWr hb5)) (fun hHeld5 => ?_)
      clear hK K
      try simp only [Act.put, List.getElem_toArray, List.getElem_cons_succ, List.getElem_cons_zero, List.setIfInBounds_toArray, List.set_cons_zero, List.set_cons_succ]
      cases r1
      · have HELD9 := hide hHeld5
        have HRZ : Hid (RowAt w5 W.heap.size 55 zeroT.toArray) := hide (HR9.out.drew.below hb5)
        refine wpAnyH_take (i := 3) (v := .bool false) rfl (by kernel_rfl) (by kernel_rfl) (by kernel_rfl) (fun _ _ _ h => h) (Or.inl ⟨by rfl, fun _ _ => rfl⟩) (by assumption) ?_
        try simp only [Act.put, List.getElem_toArray, List.getElem_cons_succ, List.getElem_cons_zero, List.setIfInBounds_toArray, List.set_cons_zero, List.set_cons_succ]
        refine wpAnyH_take (i := 4) (v := undef) rfl (by kernel_rfl) (by kernel_rfl) (by kernel_rfl) (fun _ _ _ h => h) (Or.inr ⟨by rfl, rfl⟩) (by assumption) ?_
        try simp only [Act.put, List.getElem_toArray, List.getElem_cons_succ, List.getElem_cons_zero, List.setIfInBounds_toArray, List.set_cons_zero, List.set_cons_succ]
        refine wpAnyH_take (i := 5) (v := undef) rfl (by kernel_rfl) (by kernel_rfl) (by kernel_rfl) (fun _ _ _ h => h) (Or.inr ⟨by rfl, rfl⟩) (by assumption) ?_
        try simp only [Act.put, List.getElem_toArray, List.getElem_cons_succ, List.getElem_cons_zero, List.setIfInBounds_toArray, List.set_cons_zero, List.set_cons_succ]
        refine wpAnyH_take (i := 6) (v := undef) rfl (by kernel_rfl) (by kernel_rfl) (by kernel_rfl) (fun _ _ _ h => h) (Or.inr ⟨by rfl, rfl⟩) (by assumption) ?_
        try simp only [Act.put, List.getElem_toArray, List.getElem_cons_succ, List.getElem_cons_zero, List.setIfInBounds_toArray, List.set_cons_zero, List.set_cons_succ]
        refine wpAnyH_take (i := 7) (v := undef) rfl (by kernel_rfl) (by kernel_rfl) (by kernel_rfl) (fun _ _ _ h => h) (Or.inr ⟨by rfl, rfl⟩) (by assumption) ?_
        try simp only [Act.put, List.getElem_toArray, List.getElem_cons_succ, List.getElem_cons_zero, List.setIfInBounds_toArray, List.set_cons_zero, List.set_cons_succ]
        refine wpAnyH_take (i := 8) (v := .bool false) rfl (by kernel_rfl) (by kernel_rfl) (by kernel_rfl) (fun _ _ _ h => h) (Or.inl ⟨by rfl, fun w hw => ?_⟩) (by assumption) ?_
        · go_simp
        try simp only [Act.put, List.getElem_toArray, List.getElem_cons_succ, List.getElem_cons_zero, List.setIfInBounds_toArray, List.set_cons_zero, List.set_cons_succ]
        refine wpAnyH_ready (rs := [9]) (by kernel_rfl) (by simp) ?_
        refine AllReadyH.cons rfl (fun K hK => ?_) AllReadyH.nil
        rw [if_pos (by rfl)]
        refine wp_store_rowAt 55 (.tmp 2) (.tmp 63) rfl W.heap.size 55 zeroT.toArray (readX xs).toArray rfl rfl HRZ.out (by rw [List.size_toArray, List.size_toArray, readX_len xs HL.out]; rfl) (by rw [HINF.out, List.size_toArray]) (all_oneCell_toArray (readX_one xs)) ?_
        intro w9 hrow9 hp9
        refine hK.out _ _ (HELD9.out.trans hp9) (fun hHeldX => ?_)
        clear hK K
        try simp only [Act.put, List.getElem_toArray, List.getElem_cons_succ, List.getElem_cons_zero, List.setIfInBounds_toArray, List.set_cons_zero, List.set_cons_succ]
        refine wpAnyH_take (i := 10) (v := .bool false) rfl (by kernel_rfl) (by kernel_rfl) (by kernel_rfl) (fun _ _ _ h => h) (Or.inl ⟨by rfl, fun w hw => ?_⟩) (by assumption) ?_
        · go_simp
        try simp only [Act.put, List.getElem_toArray, List.getElem_cons_succ, List.getElem_cons_zero, List.setIfInBounds_toArray, List.set_cons_zero, List.set_cons_succ]
        refine wpAnyH_done (by kernel_rfl) ?_ _
        have hbW : Below W.heap.size W w9 := (HBW.out.trans (HP.out.below.mono (by have := HS0.out; omega))).trans hHeldX.below
        have hld : (loadVar 55 ⟨W.heap.size, 0, none⟩).run Try.prog w9 = .ok (.agg (readX xs).toArray) w9 := run_loadVar_mid w9 W.heap.size 0 55 (readX xs) _ (RowAt.range (r := []) (by rw [List.append_nil]; exact hrow9)) Try.underlying55 rfl HINF.out
        have HLD := hide hld
        clear hld hrow9 hp9 hHeldX
        go_wp2_with fail
        refine bodyPost_ret (v := .tuple #[.agg (readX xs).toArray, .bool false]) (by simp [results, Try.results28, asAddr, HLD.out]) rfl ⟨?_, hbW⟩
        rw [← HR.out, okT, HR1.out]
        rfl
      · refine wpAnyH_take (i := 3) (v := .bool true) rfl (by kernel_rfl) (by kernel_rfl) (by kernel_rfl) (fun _ _ _ h => h) (Or.inl ⟨by rfl, fun _ _ => rfl⟩) (by assumption) ?_
        try simp only [Act.put, List.getElem_toArray, List.getElem_cons_succ, List.getElem_cons_zero, List.setIfInBounds_toArray, List.set_cons_zero, List.set_cons_succ]
        refine wpAnyH_take (i := 4) (v := _) rfl (by kernel_rfl) (by kernel_rfl) (by kernel_rfl) (fun _ _ _ h => h) (Or.inl ⟨by rfl, fun _ _ => rfl⟩) (by assumption) ?_
        try simp only [Act.put, List.getElem_toArray, List.getElem_cons_succ, List.getElem_cons_zero, List.setIfInBounds_toArray, List.set_cons_zero, List.set_cons_succ]
        refine wpAnyH_take (i := 5) (v := _) rfl (by kernel_rfl) (by kernel_rfl) (by kernel_rfl) (fun _ _ _ h => h) (yieldsIf_load_mid (by rfl) 55 (.tmp 4) rfl g 0 rfl (readX xs) _ (fun w hw => RowAt.range (r := []) (by rw [List.append_nil]; exact HROWR.out.past hw hgW)) Try.underlying55 rfl HINF.out) (by assumption) ?_
        try simp only [Act.put, List.getElem_toArray, List.getElem_cons_succ, List.getElem_cons_zero, List.setIfInBounds_toArray, List.set_cons_zero, List.set_cons_succ]
        refine wpAnyH_ready (rs := [6]) (by kernel_rfl) (by simp) ?_
        refine AllReadyH.cons rfl (fun K hK => ?_) AllReadyH.nil
        rw [if_pos (by rfl)]
        go_simp
        refine (Words40 xs _ HL.out HR1.out (by have := (HU.out _ (List.getElem_mem (show 1 < xs.length by omega))).1; rw [getD_at xs 1 (by omega)]; omega)).mono ?_
        rintro e w6 ⟨v6, rfl, ho6, hb6⟩
        obtain ⟨g6, cap6, rfl, hg6, hg6'⟩ := ho6.form (by omega)
        have HO6 := hide ho6
        clear ho6
        dsimp only
        have hs5 : W.heap.size < w5.heap.size := Nat.lt_of_lt_of_le hgWr hb5.size
        have hs6 : W.heap.size < w6.heap.size := Nat.lt_of_lt_of_le hs5 hb6.size
        have hHeld6 : Past W.heap.size wr w6 := hHeld5.trans (Past.of_below hs5 hb6)
        refine hK.out _ _ hHeld6 (fun _ => ?_)
        clear hK K
        try simp only [Act.put, List.getElem_toArray, List.getElem_cons_succ, List.getElem_cons_zero, List.setIfInBounds_toArray, List.set_cons_zero, List.set_cons_succ]
        refine wpAnyH_ready (rs := [7]) (by kernel_rfl) (by simp) ?_
        refine AllReadyH.cons rfl (fun K hK => ?_) AllReadyH.nil
        rw [if_pos (by rfl)]
        go_simp
        have HRd6 : Hid (Rd w6 W.heap.size 1 (some ⟨b, off, none⟩) 40 (Cs encW xs)) := hide ⟨by rw [Cs_length encW_len, hl], fun _ => ⟨b, off, rfl, hbs, fun j u hu => by
          have hj : j < xs.length := by have := (List.getElem?_eq_some_iff.1 hu).1; rw [Cs_length encW_len] at this; omega
          have e := HXW.out j hj
          rw [Cs_mapW, List.getElem?_map, List.getElem?_eq_getElem hj] at hu
          rw [hHeld6.cell _ (by simp; omega) (by have := HP.out.size; have := HS0.out; simp; omega), HP.out.cell _ (by simpa using hbg) (by have := HS0.out; simp; omega), e]
          exact hu⟩⟩
        refine (Same40 W.heap.size w6.heap.size (some ⟨b, off, none⟩) (some ⟨g6, 0, none⟩) c cap6 xs (readW xs) _ HL.out (readW_len xs HL.out) HRd6.out (Rd.of_own HO6.out) (by omega) (by omega) (decide (xs = readW xs)) rfl).mono ?_
        rintro e w7 ⟨rfl, hb7⟩
        dsimp only
        obtain ⟨r2, hr2⟩ : ∃ r2, decide (xs = readW xs) = r2 := ⟨_, rfl⟩
        rw [hr2]
        have HR2' := hide hr2
        clear hr2
        have hHeld7 : Past W.heap.size wr w7 := hHeld6.trans (Past.of_below hs6 hb7)
        refine hK.out _ _ hHeld7 (fun _ => ?_)
        clear hK K
        try simp only [Act.put, List.getElem_toArray, List.getElem_cons_succ, List.getElem_cons_zero, List.setIfInBounds_toArray, List.set_cons_zero, List.set_cons_succ]
        have HELD9 := hide hHeld7
        have HRZ : Hid (RowAt w7 W.heap.size 55 zeroT.toArray) := hide (((HR9.out.drew.below hb5).below hb6).below hb7)
        refine wpAnyH_take (i := 8) (v := .bool r2) rfl (by kernel_rfl) (by kernel_rfl) (by kernel_rfl) (fun _ _ _ h => h) (Or.inl ⟨by rfl, fun w hw => ?_⟩) (by assumption) ?_
        · go_simp
        try simp only [Act.put, List.getElem_toArray, List.getElem_cons_succ, List.getElem_cons_zero, List.setIfInBounds_toArray, List.set_cons_zero, List.set_cons_succ]
        refine wpAnyH_ready (rs := [9]) (by kernel_rfl) (by simp) ?_
        refine AllReadyH.cons rfl (fun K hK => ?_) AllReadyH.nil
        rw [if_pos (by rfl)]
        refine wp_store_rowAt 55 (.tmp 2) (.tmp 63) rfl W.heap.size 55 zeroT.toArray (readX xs).toArray rfl rfl HRZ.out (by rw [List.size_toArray, List.size_toArray, readX_len xs HL.out]; rfl) (by rw [HINF.out, List.size_toArray]) (all_oneCell_toArray (readX_one xs)) ?_
        intro w9 hrow9 hp9
        refine hK.out _ _ (HELD9.out.trans hp9) (fun hHeldX => ?_)
        clear hK K
        try simp only [Act.put, List.getElem_toArray, List.getElem_cons_succ, List.getElem_cons_zero, List.setIfInBounds_toArray, List.set_cons_zero, List.set_cons_succ]
        refine wpAnyH_take (i := 10) (v := .bool r2) rfl (by kernel_rfl) (by kernel_rfl) (by kernel_rfl) (fun _ _ _ h => h) (Or.inl ⟨by rfl, fun w hw => ?_⟩) (by assumption) ?_
        · go_simp
        try simp only [Act.put, List.getElem_toArray, List.getElem_cons_succ, List.getElem_cons_zero, List.setIfInBounds_toArray, List.set_cons_zero, List.set_cons_succ]
        refine wpAnyH_done (by kernel_rfl) ?_ _
        have hbW : Below W.heap.size W w9 := (HBW.out.trans (HP.out.below.mono (by have := HS0.out; omega))).trans hHeldX.below
        have hld : (loadVar 55 ⟨W.heap.size, 0, none⟩).run Try.prog w9 = .ok (.agg (readX xs).toArray) w9 := run_loadVar_mid w9 W.heap.size 0 55 (readX xs) _ (RowAt.range (r := []) (by rw [List.append_nil]; exact hrow9)) Try.underlying55 rfl HINF.out
        have HLD := hide hld
        clear hld hrow9 hp9 hHeldX
        go_wp2_with fail
        refine bodyPost_ret (v := .tuple #[.agg (readX xs).toArray, .bool r2]) (by simp [results, Try.results28, asAddr, HLD.out]) rfl ⟨?_, hbW⟩
        rw [← HR.out, okT, HR1.out, HR2'.out]
        rfl
end Go.Proofs.Ytndlfofpldbldaa
