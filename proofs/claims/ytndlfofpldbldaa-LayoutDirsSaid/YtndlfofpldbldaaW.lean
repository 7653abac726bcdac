/-
  honeycombref16: Top; a table is the same as itself.
-/
import Derived.Test.YtndlfofpldbldaaV
import Derived.DeepKeys
set_option linter.unusedSimpArgs false
set_option linter.unusedVariables false
namespace Go.Proofs.Ytndlfofpldbldaa
open Go Go.RowKit

theorem RTop_any (h bits : Int) (W : World) (h0 : 0 ≤ h) (h1 : h < 18446744073709551616) (hb : 0 ≤ bits) (hb2 : bits ≤ 63) :
    Calls Try.prog 25 #[.int .u64 h, .int .i64 bits] W fun e W' => e = .returned (.int .u64 (topZ h bits)) ∧ W = W' := by
  have H1 := hide h1
  clear h1
  go_enter Try.func25, Try.ntmps25
  go_wp2_with fail
  go_loop [0, 7] (fun v i => ∃ k : Nat, k ≤ 64 - bits.toNat ∧ i = .int .i64 k ∧ v = .int .u64 (h / ((2 ^ k : Nat) : Int))) (fun _ i => 64 - bits.toNat - (intOf i).toNat)
  case atStart => exact ⟨0, Nat.zero_le _, rfl, by simp⟩
  case round =>
    obtain ⟨k, hk, rfl, rfl⟩ := hrel
    have hp : (1 : Nat) ≤ 2 ^ k := Nat.one_le_two_pow
    have hq0 : 0 ≤ h / ((2 ^ k : Nat) : Int) := Int.ediv_nonneg h0 (by omega)
    have hqh : h / ((2 ^ k : Nat) : Int) ≤ h := Int.ediv_le_self _ h0
    have HS := hide (show h / ((2 ^ (k + 1) : Nat) : Int) = h / ((2 ^ k : Nat) : Int) / 2 by
      rw [Int.ediv_ediv_of_nonneg (by omega), Nat.pow_succ, Int.natCast_mul]
      rfl)
    have HE : Hid (k = 64 - bits.toNat → h / ((2 ^ k : Nat) : Int) = topZ h bits) := hide (by
      intro e
      unfold topZ
      rw [Int.ediv_ediv_of_nonneg (by omega)]
      have e2 : k = (63 - bits).toNat + 1 := by omega
      rw [e2, Nat.pow_succ]
      congr 1
      have : ((2 ^ (63 - bits).toNat : Nat) : Int) = (2 : Int) ^ (63 - bits).toNat := by simp
      omega)
    generalize h / ((2 ^ k : Nat) : Int) = q at *
    clear hp
    by_cases hlt : k < 64 - bits.toNat
    · go_wp2_with fail
      go_round
      case rel => exact ⟨k + 1, by omega, by go_num, by have := H1.out; rw [HS.out, Int.tdiv_eq_ediv_of_nonneg hq0, IntWalk.u64_in _ (by omega)]⟩
      case measure => simp [intOf]; omega
    · go_wp2_with fail
      go_ret
      exact ⟨ret_int (HE.out (by omega)), rfl⟩

theorem mapM_some {α β : Type} {f : α → Option β} : ∀ (l : List α), (∀ x ∈ l, ∃ y, f x = some y) → ∃ r, l.mapM f = some r
  | [], _ => ⟨[], by simp⟩
  | x :: l, h => by
    obtain ⟨y, hy⟩ := h x (by simp)
    obtain ⟨r, hr⟩ := mapM_some l (fun z hz => h z (by simp [hz]))
    exact ⟨y :: r, by rw [List.mapM_cons, hy, hr]; rfl⟩
theorem kl_int {P : Program} {q : IntKind} {e : TypeId} (he : P.underlying e = some (.int q)) (d : Nat) (n : Int) (h : (Lit.int q n).wf = true) : ∃ l, P.keyLits (d + 1) e [.int q n] = some l := by
  refine ⟨[.int q n], ?_⟩
  unfold Program.keyLits
  simp [he, h]
theorem kl_array {P : Program} {t e : TypeId} {n : Nat} (ht : P.underlying t = some (.array n e)) (d : Nat) (cs : List Value) (hl : cs.length = P.cellsOf t)
    (h : ∀ i, i < n → ∃ l, P.keyLits d e ((cs.drop (i * P.cellsOf e)).take (P.cellsOf e)) = some l) : ∃ l, P.keyLits (d + 1) t cs = some l := by
  obtain ⟨r, hr⟩ := mapM_some (f := fun i => P.keyLits d e ((cs.drop (i * P.cellsOf e)).take (P.cellsOf e))) (List.range n) (fun i hi => h i (by simpa using hi))
  refine ⟨r.flatten, ?_⟩
  unfold Program.keyLits
  simp only [ht, hl, if_true, hr, Option.map_some]
theorem kl_struct {P : Program} {t : TypeId} {fs : Array Field} (ht : P.underlying t = some (.struct fs)) (d : Nat) (cs : List Value) (hl : cs.length = P.cellsOf t) (hn : fs.all (·.name != "_") = true)
    (h : ∀ f ∈ fs.toList, ∃ l, P.keyLits d f.type ((cs.drop f.offset).take (P.cellsOf f.type)) = some l) : ∃ l, P.keyLits (d + 1) t cs = some l := by
  obtain ⟨r, hr⟩ := mapM_some (f := fun f : Field => P.keyLits d f.type ((cs.drop f.offset).take (P.cellsOf f.type))) fs.toList h
  refine ⟨r.flatten, ?_⟩
  unfold Program.keyLits
  simp only [ht, hl, hn, and_self, if_true, hr, Option.map_some]
/-- What can be compared is the same as itself. -/
theorem eql_self {P : Program} {t : TypeId} (d m : Nat) (hm : d + m = 10000) (hk : P.keyTypeAt m t = true) (cs : Array Value) (hf : (Value.agg cs).formed P t = true) {D : Nat} (hl : ∃ l, P.keyLits D t cs.toList = some l) (w : World) :
    (binOp .eql t (.agg cs) (.agg cs)).run P w = .ok (.bool true) w := by
  obtain ⟨l, hl⟩ := hl
  obtain ⟨r, hr, hiff⟩ := run_equalIn_deep d m t hk w D D (.agg cs) (.agg cs) l l hf hf hl hl
  have : r = true := hiff.2 rfl
  subst this
  rw [run_eql_struct, ← hm, hr]
  rfl

theorem kl_words (ys : List Int) (hu : ∀ y ∈ ys, U64 y) {t : TypeId} (n : Nat) (ht : Try.prog.underlying t = some (.array n 34)) (hn : ys.length = n) (hc : Try.prog.cellsOf t = n) (d : Nat) : ∃ l, Try.prog.keyLits (d + 1 + 1) t (ys.map (Value.int .u64)) = some l := by
  have h34 : Try.prog.cellsOf 34 = 1 := by kernel_rfl
  refine kl_array ht (d + 1) _ (by simp [hn, hc]) fun i hi => ?_
  rw [h34, Nat.mul_one, ← List.map_drop, ← List.map_take, List.drop_eq_getElem_cons (by omega)]
  refine kl_int Try.underlying34 d _ ?_
  have := hu _ (List.getElem_mem (show i < ys.length by omega))
  simp [Lit.wf, IntKind.min, IntKind.max, IntKind.signed, IntKind.bits, U64] at this ⊢
  omega

/-- A table as its numbers: the first five cells, and thirty-four words. -/
structure Tab (X : Array Value) (n d p c l : Int) (ys : List Int) : Prop where
  cells : TabCells X n d p c l
  rest : X.toList.drop 5 = ys.map (Value.int .u64)
  len : ys.length = 34
  un : U64 n
  id : I64 d
  up : U64 p
  ic : I64 c
  il : I64 l
  uy : ∀ y ∈ ys, U64 y

theorem Tab.list {X : Array Value} {n d p c l : Int} {ys : List Int} (h : Tab X n d p c l ys) : X.toList = [Value.int .u64 n, .int .i64 d, .int .u64 p, .int .i64 c, .int .i64 l] ++ ys.map (Value.int .u64) := by
  have hs : X.toList.length = 39 := by simpa using h.cells.size
  have h1 : X.toList = X.toList.take 5 ++ X.toList.drop 5 := (List.take_append_drop 5 _).symm
  have h0 : X.toList.take 5 = [Value.int .u64 n, .int .i64 d, .int .u64 p, .int .i64 c, .int .i64 l] := by
    apply List.ext_getElem?
    intro j
    by_cases hj : j < 5
    · rw [List.getElem?_take, if_pos hj, Array.getElem?_toList]
      have : j = 0 ∨ j = 1 ∨ j = 2 ∨ j = 3 ∨ j = 4 := by omega
      rcases this with rfl | rfl | rfl | rfl | rfl
      · exact h.cells.c0
      · exact h.cells.c1
      · exact h.cells.c2
      · exact h.cells.c3
      · exact h.cells.c4
    · rw [List.getElem?_take, if_neg hj, List.getElem?_eq_none (by simp; omega)]
  rw [h1, h0, h.rest]

theorem seg_words (A : List Value) (ys : List Int) (o n : Nat) (hA : A.length = 5) : ((A ++ ys.map (Value.int .u64)).drop (5 + o)).take n = ((ys.drop o).take n).map (Value.int .u64) := by
  rw [List.drop_append, List.drop_of_length_le (by omega), hA, Nat.add_sub_cancel_left, List.nil_append, ← List.map_drop, ← List.map_take]

theorem wfU {x : Int} (h : U64 x) : (Lit.int .u64 x).wf = true := by
  simp [Lit.wf, IntKind.min, IntKind.max, IntKind.signed, IntKind.bits, U64] at h ⊢
  omega
theorem wfI {x : Int} (h : I64 x) : (Lit.int .i64 x).wf = true := by
  simp [Lit.wf, IntKind.min, IntKind.max, IntKind.signed, IntKind.bits, I64] at h ⊢
  omega

theorem tab_kl {X : Array Value} {n d p c l : Int} {ys : List Int} (h : Tab X n d p c l ys) : ∃ ls, Try.prog.keyLits 4 55 X.toList = some ls := by
  have h34 : Try.prog.cellsOf 34 = 1 := by kernel_rfl
  have h3 : Try.prog.cellsOf 3 = 1 := by kernel_rfl
  have h52 : Try.prog.cellsOf 52 = 2 := by kernel_rfl
  have h53 : Try.prog.cellsOf 53 = 16 := by kernel_rfl
  have h55 : Try.prog.cellsOf 55 = 39 := by kernel_rfl
  obtain ⟨fs, hfs, hmap, hn⟩ : ∃ fs, Try.prog.underlying 55 = some (.struct fs) ∧ fs.toList.map (fun f => (f.type, f.offset)) = [(34, 0), (3, 1), (34, 2), (3, 3), (3, 4), (52, 5), (53, 7), (53, 23)] ∧ fs.all (·.name != "_") = true := ⟨_, Try.underlying55, by kernel_rfl, by kernel_rfl⟩
  refine kl_struct hfs 3 _ (by rw [h55]; simpa using h.cells.size) hn fun f hf => ?_
  have hm : (f.type, f.offset) ∈ fs.toList.map (fun f => (f.type, f.offset)) := List.mem_map.2 ⟨f, hf, rfl⟩
  rw [hmap] at hm
  rw [h.list]
  have hu : ∀ o k, ∀ y ∈ (ys.drop o).take k, U64 y := fun o k y hy => h.uy y (List.mem_of_mem_drop (List.mem_of_mem_take hy))
  simp only [List.mem_cons, Prod.mk.injEq, List.not_mem_nil, or_false] at hm
  rcases hm with ⟨e, o⟩ | ⟨e, o⟩ | ⟨e, o⟩ | ⟨e, o⟩ | ⟨e, o⟩ | ⟨e, o⟩ | ⟨e, o⟩ | ⟨e, o⟩ <;> rw [e, o]
  · rw [h34]; exact kl_int Try.underlying34 2 n (wfU h.un)
  · rw [h3]; exact kl_int Try.underlying3 2 d (wfI h.id)
  · rw [h34]; exact kl_int Try.underlying34 2 p (wfU h.up)
  · rw [h3]; exact kl_int Try.underlying3 2 c (wfI h.ic)
  · rw [h3]; exact kl_int Try.underlying3 2 l (wfI h.il)
  · rw [h52, show 5 = 5 + 0 from rfl, seg_words _ _ _ _ rfl]; exact kl_words _ (hu 0 2) 2 Try.underlying52 (by have := h.len; simp; omega) h52 1
  · rw [h53, show 7 = 5 + 2 from rfl, seg_words _ _ _ _ rfl]; exact kl_words _ (hu 2 16) 16 Try.underlying53 (by have := h.len; simp; omega) h53 1
  · rw [h53, show 23 = 5 + 18 from rfl, seg_words _ _ _ _ rfl]; exact kl_words _ (hu 18 16) 16 Try.underlying53 (by have := h.len; simp; omega) h53 1

theorem eql_tab {X : Array Value} {n d p c l : Int} {ys : List Int} (h : Tab X n d p c l ys) (w : World) : (binOp .eql 55 (.agg X) (.agg X)).run Try.prog w = .ok (.bool true) w :=
  eql_self 9996 4 rfl (by kernel_rfl) X (by
    have e : Try.prog.cellsOf 55 = X.size := by rw [h.cells.size]; kernel_rfl
    simp only [Value.formed, Try.underlying55, e, beq_self_eq_true]) (tab_kl h) w

theorem tab_read (xs : List Int) (hl : xs.length = 40) (hu : ∀ x ∈ xs, U64 x) : Tab (readX xs).toArray (xs.getD 0 0) (xs.getD 1 0 % 256) (xs.getD 1 0 / 256) (xs.getD 2 0 % 256) (xs.getD 3 0 % 256) ((xs.drop 4).take 34) := by
  have u : ∀ i (h : i < xs.length), U64 (xs.getD i 0) := fun i h => by rw [getD_at xs i h]; exact hu _ (List.getElem_mem h)
  have u0 := u 0 (by omega)
  have u1 := u 1 (by omega)
  have u2 := u 2 (by omega)
  have u3 := u 3 (by omega)
  unfold U64 at u0 u1 u2 u3
  exact ⟨readX_cells xs hl, by simp [readX], by simp; omega, ⟨by omega, by omega⟩, ⟨by omega, by omega⟩, ⟨by omega, by omega⟩, ⟨by omega, by omega⟩, ⟨by omega, by omega⟩, fun y hy => hu y (List.mem_of_mem_drop (List.mem_of_mem_take hy))⟩
theorem tab_zero : Tab zeroT.toArray 0 0 0 0 0 (List.replicate 34 0) :=
  ⟨⟨rfl, rfl, rfl, rfl, rfl, rfl, fun u hu => (Array.all_eq_true_iff_forall_mem.1 zeroT_one) u (by simpa using hu)⟩, rfl, rfl, ⟨by decide, by decide⟩, ⟨by decide, by decide⟩, ⟨by decide, by decide⟩, ⟨by decide, by decide⟩, ⟨by decide, by decide⟩, fun y hy => by rw [List.mem_replicate] at hy; rw [hy.2]; exact ⟨by decide, by decide⟩⟩
end Go.Proofs.Ytndlfofpldbldaa
