/-
  honeycombref16: TableWords.
-/
import Derived.Test.YtndlfofpldbldaaE
import Derived.Test.YtndlfofpldbldaaK
set_option linter.unusedSimpArgs false
set_option linter.unusedVariables false
namespace Go.Proofs.Ytndlfofpldbldaa
open Go Go.RowKit

theorem run_index_agg {P : Program} {T E : TypeId} {n : Nat} (hT : P.underlying T = some (.array n E)) (hs : ∀ w, (sizeOf E).run P w = .ok 1 w) (ha : ∀ w, (isAgg E).run P w = .ok false w) (X : Array Value) (k : Nat) (v : Value) (hv : X[k]? = some v) (hk : k < n) (w : World) :
    (Instr.index T (.agg X) (.int .i64 (k : Int))).run P w = .ok v w := by
  simp [Instr.index, run_underlying hT, asIntOf, hk, hs, ha, hv, go_sem]

theorem TabCells.x {X : Array Value} {n d p c l : Int} (hX : TabCells X n d p c l) (ys : List Int) (hy : X.toList.drop 5 = ys.map (Value.int .u64)) (j : Nat) (hj : j < ys.length) : X[5 + j]? = some (.int .u64 ys[j]) := by
  have h : (X.toList.drop 5)[j]? = (ys.map (Value.int .u64))[j]? := by rw [hy]
  rw [List.getElem?_drop, Array.getElem?_toList, List.getElem?_map, List.getElem?_eq_getElem hj] at h
  exact h

theorem seg_at {X : Array Value} {o n k : Nat} (h : k < n) : ((X.toList.drop o).take n).toArray[k]? = X[o + k]? := by
  rw [List.getElem?_toArray, List.getElem?_take, if_pos h, List.getElem?_drop, Array.getElem?_toList]
theorem row_range {w : World} {g o n : Nat} {X : Array Value} (h : ∀ j : Nat, w.cell? ⟨g, j, none⟩ = X[j]?) : w.rangeAt g o ((X.toList.drop o).take n) := fun j v hj => by
  rw [h]
  have := seg_get hj
  rwa [Array.getElem?_toList] at this
theorem seg_succ {X : Array Value} {o k : Nat} {v : Value} (h : X[o + k]? = some v) : (X.toList.drop o).take (k + 1) = (X.toList.drop o).take k ++ [v] := by
  have h2 : (X.toList.drop o)[k]? = some v := by rw [List.getElem?_drop, Array.getElem?_toList]; exact h
  obtain ⟨hl, hv⟩ := List.getElem?_eq_some_iff.1 h2
  rw [List.take_succ_eq_append_getElem hl, hv]

/-- The loop of one of the rows of a table. -/
theorem take_two (X : Array Value) (a b : Value) (h5 : X[5]? = some a) (h6 : X[6]? = some b) : (X.toList.drop 5).take 2 = [a, b] := by
  rw [seg_succ (o := 5) (k := 1) (v := b) h6, seg_succ (o := 5) (k := 0) (v := a) h5]; rfl

set_option maxRecDepth 100000 in
set_option maxHeartbeats 2000000 in
theorem RTableWords_any (X : Array Value) (n d p c l : Int) (W : World) (hX : TabCells X n d p c l) (ys : List Int) (hyl : ys.length = 34) (hy : X.toList.drop 5 = ys.map (Value.int .u64)) (hp : 0 ≤ p) (hp2 : p < 32) (hd : 0 ≤ d) (hd2 : d ≤ 5) (hc : 0 ≤ c) (hc2 : c ≤ 14) (hl : 0 ≤ l) (hl2 : l ≤ 14) :
    Calls Try.prog 23 #[.agg X] W fun e W' => ∃ v, e = .returned v ∧ W'.ownsRow W.heap.size 34 1 v 40 (tabWords X n d p c l) ∧ Below W.heap.size W W' := by
  have hsz := hide hX.size
  have e0 := hX.c0
  have e1 := hX.c1
  have e2 := hX.c2
  have e3 := hX.c3
  have e4 := hX.c4
  have e5 : X[5]? = _ := hX.x ys hy 0 (by omega)
  have e6 : X[6]? = _ := hX.x ys hy 1 (by omega)
  have HY := hide hy
  have HYL := hide hyl
  obtain ⟨y0, hy0⟩ : ∃ y0, ys[0] = y0 := ⟨_, rfl⟩
  obtain ⟨y1, hy1⟩ : ∃ y1, ys[1] = y1 := ⟨_, rfl⟩
  rw [hy0] at e5
  rw [hy1] at e6
  have HY0 := hide hy0
  have HY1 := hide hy1
  clear hy0 hy1 hy
  go_enter Try.func23, Try.ntmps23
  have hI53 : ∀ w, (sizeOf 34).run Try.prog w = .ok 1 w := fun _ => by kernel_rfl
  have hJ53 : ∀ w, (isAgg 34).run Try.prog w = .ok false w := fun _ => by kernel_rfl
  have HI := hide hI53
  have HJ := hide hJ53
  clear hI53 hJ53
  go_wp2_with (refine wpList_load_mid rfl 53 _ rfl W.heap.size 7 rfl ((X.toList.drop 7).take 16) _ (row_range (fun j => by rw [World.cell?_alloc_lt _ _ _ (by simp), World.cell?_alloc_new])) Try.underlying53 rfl (by rw [List.length_take, List.length_drop, Array.length_toList, hsz.out]; kernel_rfl) ?_)
  obtain ⟨A7, hA7⟩ : ∃ A, ((X.toList.drop 7).take 16).toArray = A := ⟨_, rfl⟩
  rw [hA7]
  have HA7 := hide hA7
  clear hA7
  obtain ⟨W1, hW1⟩ : ∃ w, W.alloc (.cells X 55) = w := ⟨_, rfl⟩
  have hs1 : W1.heap.size = W.heap.size + 1 := by rw [← hW1]; simp
  have hx1 : ∀ j : Nat, W1.cell? ⟨W.heap.size, j, none⟩ = X[j]? := fun j => by rw [← hW1, World.cell?_alloc_new]
  have hb1 : Below W.heap.size W W1 := by rw [← hW1]; exact (Below.refl _ _).alloc (Nat.le_refl _) _
  rw [hW1]
  have HW1 := hide hW1
  have HS1 := hide hs1
  have HX1 := hide hx1
  have HB1 := hide hb1
  clear hW1 hs1 hx1 hb1
  obtain ⟨H4, hH4⟩ : ∃ H : List Value, [Value.int .u64 n, .int .u64 (d + 256 * p), .int .u64 c, .int .u64 l] = H := ⟨_, rfl⟩
  have HSTART7 := hide (World.ownsRow_lit (base := W.heap.size + 1) (e := 34) (size := 1) W1 #[.int .u64 n, .int .u64 (d + 256 * p), .int .u64 c, .int .u64 l, .int .u64 y0, .int .u64 y1] 6 (by rw [HS1.out]; omega) (by simp [maxLen]) rfl)
  have HSTART7 : Hid (World.ownsRow (W1.alloc (.cells #[.int .u64 n, .int .u64 (d + 256 * p), .int .u64 c, .int .u64 l, .int .u64 y0, .int .u64 y1] 34)) (W.heap.size + 1) 34 1 (.slice (some ⟨W.heap.size + 1, 0, none⟩) 6 6) (6 + 0) (H4 ++ (X.toList.drop 5).take (2 + 0))) := by
    have h := HSTART7.out
    rw [HS1.out] at h
    refine hide ?_
    rw [take_two X _ _ e5 e6, ← hH4]
    exact h
  have HBEL7 : Hid (Below (W.heap.size + 1) W1 (W1.alloc (.cells #[.int .u64 n, .int .u64 (d + 256 * p), .int .u64 c, .int .u64 l, .int .u64 y0, .int .u64 y1] 34))) := hide ((Below.refl _ _).alloc (by rw [HS1.out]; omega) _)
  have HH4 := hide hH4
  clear e0 e1 e2 e3 e4 e5 e6 hH4
  go_loopw [3, 32] (fun v i wr => ∃ k : Nat, k ≤ 16 ∧ i = .int .i64 k ∧ wr.ownsRow (W.heap.size + 1) 34 1 v (6 + k) (H4 ++ (X.toList.drop 5).take (2 + k)) ∧ Below (W.heap.size + 1) W1 wr) (fun _ i _ => 16 - (intOf i).toNat)
  case atStart => exact ⟨0, Nat.zero_le _, rfl, HSTART7.out, HBEL7.out⟩
  case round =>
    obtain ⟨k, hk, rfl, hown, hbw⟩ := hrel
    by_cases hlt : k < 16
    · have hx : X[5 + (2 + k)]? = some (.int .u64 (ys[2 + k]'(by omega))) := hX.x ys HY.out (2 + k) (by omega)
      generalize ys[2 + k]'(by omega) = x at hx
      have HS := hide (seg_succ (o := 5) (k := 2 + k) hx)
      have hix : ∀ w, (Instr.index 53 (.agg A7) (.int .i64 (k : Int))).run Try.prog w = .ok (.int .u64 x) w := fun w => run_index_agg Try.underlying53 HI.out HJ.out _ k _ (by rw [← HA7.out, seg_at hlt, ← hx]; congr 1; omega) hlt w
      clear hx
      go_wp2_with (at_builtin; refine wpList_app elW rfl _ _ rfl rfl (hown.alloc _) rfl (Rd.new wr #[.int .u64 x] 34 1 1 rfl) (by simp [Value.oneCell']) (by omega) (by have := hbw.size; have := HS1.out; rw [World.size_alloc]; omega) ?_; intro v2 w2 hown2 hb3 _ _)
      go_roundw
      case rel => exact ⟨k + 1, by omega, by go_num, by rw [show 2 + (k + 1) = 2 + k + 1 by omega, HS.out, ← List.append_assoc]; exact hown2, (hbw.alloc (by have := hbw.size; have := HS1.out; omega) _).trans hb3⟩
      case measure => simp [intOf]; omega
    · obtain rfl : k = 16 := by omega
      have hs2 := hbw.size
      have hXr : ∀ j : Nat, wr.cell? ⟨W.heap.size, j, none⟩ = X[j]? := fun j => (hbw.cell (by simp)).trans (HX1.out j)
      have HXr := hide hXr
      clear hXr
      have HOWN := hide hown
      clear hown
      go_wp2_with (refine wpList_load_mid rfl 53 _ rfl W.heap.size 23 rfl ((X.toList.drop 23).take 16) _ (row_range HXr.out) Try.underlying53 rfl (by rw [List.length_take, List.length_drop, Array.length_toList, hsz.out]; kernel_rfl) ?_)
      obtain ⟨A23, hA23⟩ : ∃ A, ((X.toList.drop 23).take 16).toArray = A := ⟨_, rfl⟩
      rw [hA23]
      have HA23 := hide hA23
      clear hA23
      obtain ⟨wo, hwo⟩ : ∃ wo : World, wo = wr := ⟨_, rfl⟩
      have HSTART23 : Hid (wr.ownsRow (W.heap.size + 1) 34 1 u3 (22 + 0) (H4 ++ (X.toList.drop 5).take (18 + 0))) := hide HOWN.out
      have HBEL23 : Hid (Below (W.heap.size + 1) W1 wr) := hide hbw
      clear HOWN hbw hwo
      go_loopw [3, 42] (fun v i wr => ∃ k : Nat, k ≤ 16 ∧ i = .int .i64 k ∧ wr.ownsRow (W.heap.size + 1) 34 1 v (22 + k) (H4 ++ (X.toList.drop 5).take (18 + k)) ∧ Below (W.heap.size + 1) W1 wr) (fun _ i _ => 16 - (intOf i).toNat)
      case atStart => exact ⟨0, Nat.zero_le _, rfl, HSTART23.out, HBEL23.out⟩
      case round =>
        obtain ⟨k, hk, rfl, hown, hbw⟩ := hrel
        by_cases hlt : k < 16
        · have hx : X[5 + (18 + k)]? = some (.int .u64 (ys[18 + k]'(by omega))) := hX.x ys HY.out (18 + k) (by omega)
          generalize ys[18 + k]'(by omega) = x at hx
          have HS := hide (seg_succ (o := 5) (k := 18 + k) hx)
          have hix : ∀ w, (Instr.index 53 (.agg A23) (.int .i64 (k : Int))).run Try.prog w = .ok (.int .u64 x) w := fun w => run_index_agg Try.underlying53 HI.out HJ.out _ k _ (by rw [← HA23.out, seg_at hlt, ← hx]; congr 1; omega) hlt w
          clear hx
          go_wp2_with (at_builtin; refine wpList_app elW rfl _ _ rfl rfl (hown.alloc _) rfl (Rd.new wr #[.int .u64 x] 34 1 1 rfl) (by simp [Value.oneCell']) (by omega) (by have := hbw.size; have := HS1.out; rw [World.size_alloc]; omega) ?_; intro v2 w2 hown2 hb3 _ _)
          go_roundw
          case rel => exact ⟨k + 1, by omega, by go_num, by rw [show 18 + (k + 1) = 18 + k + 1 by omega, HS.out, ← List.append_assoc]; exact hown2, (hbw.alloc (by have := hbw.size; have := HS1.out; omega) _).trans hb3⟩
          case measure => simp [intOf]; omega
        · obtain rfl : k = 16 := by omega
          have hsw := hbw.size
          have hcs : (W.heap.size : Nat) + 1 ≤ wr.heap.size := by have := HS1.out; omega
          go_wp2_with (at_builtin; refine wpList_app elW rfl _ _ rfl rfl (hown.alloc _) rfl (Rd.new wr #[.int .u64 0, .int .u64 0] 34 1 2 rfl) (by simp [Value.oneCell']) (by omega) (by rw [World.size_alloc]; omega) ?_; intro v2 w2 hown2 hb3 _ _)
          go_ret
          refine ⟨_, rfl, ?_, HB1.out.trans (((hbw.alloc hcs _).trans hb3).mono (by omega))⟩
          have h := ownsRow_base hown2 (base' := W.heap.size) (by omega)
          have e := hX.size
          rw [List.take_of_length_le (by simp; omega), ← HH4.out] at h
          exact h
end Go.Proofs.Ytndlfofpldbldaa
