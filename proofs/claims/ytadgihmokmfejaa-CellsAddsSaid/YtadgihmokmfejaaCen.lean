/-
  The program's: an access.
-/
import Derived.Test.YtadgihmokmfejaaCek
set_option linter.unusedSimpArgs false
set_option linter.unusedVariables false
namespace Go.Proofs.Ytadgihmokmfejaa
open Go Go.RowKit
attribute [local go_sem] via_cell via_frozen

theorem pdo_err (A : Option Addr) (c n : Nat) (wh kd at_ ol nw : Int) (W : World) (r : Int) (hr : why n (wh, kd, at_, ol, nw) = r) (hne : r ≠ 0) :
    Calls Try.prog 20 #[.slice A n c, .agg #[.int .i64 wh, .int .i64 kd, .int .i64 at_, .int .u64 ol, .int .u64 nw]] W fun e W' => e = .returned (.tuple #[.slice none 0 0, .agg #[.int .u64 0, .bool false], .int .i64 r]) ∧ Below W.heap.size W W' := by
  have HC := hide (fun w => check_any n wh kd at_ ol nw w r hr)
  have hn : (r != 0) = true := by simpa using hne
  have HB := hide (show Below W.heap.size W (((W.alloc (.cells #[.int .i64 wh, .int .i64 kd, .int .i64 at_, .int .u64 ol, .int .u64 nw] 37)).alloc (.cells #[.int .u64 0, .bool false] 33)).alloc (.cells #[.int .i64 wh, .int .i64 kd, .int .i64 at_, .int .u64 ol, .int .u64 nw] 77)) from (((Below.refl _ _).alloc (Nat.le_refl _) _).alloc (by simp) _).alloc (by simp; omega) _)
  have R5 := hide (show RowAt (((W.alloc (.cells #[.int .i64 wh, .int .i64 kd, .int .i64 at_, .int .u64 ol, .int .u64 nw] 37)).alloc (.cells #[.int .u64 0, .bool false] 33)).alloc (.cells #[.int .i64 wh, .int .i64 kd, .int .i64 at_, .int .u64 ol, .int .u64 nw] 77)) (W.heap.size + 1) 33 #[.int .u64 0, .bool false] from by
    have h := RowAt.new (W.alloc (.cells #[.int .i64 wh, .int .i64 kd, .int .i64 at_, .int .u64 ol, .int .u64 nw] 37)) 33 #[.int .u64 0, .bool false]
    rw [World.size_alloc] at h
    exact h.below ((Below.refl _ _).alloc (Nat.le_refl _) _))
  clear hr
  go_enter Try.func20, Try.ntmps20
  go_wp2_with fail
  generalize (((W.alloc (.cells #[.int .i64 wh, .int .i64 kd, .int .i64 at_, .int .u64 ol, .int .u64 nw] 37)).alloc (.cells #[.int .u64 0, .bool false] 33)).alloc (.cells #[.int .i64 wh, .int .i64 kd, .int .i64 at_, .int .u64 ol, .int .u64 nw] 77)) = w3 at *
  with_reducible refine (HC.out _).mono ?_
  rintro e w4 ⟨rfl, hb⟩
  have R9 := R5.out.below hb
  have lq := R9.lt
  have f0 := R9.frozen 0
  have f1 := R9.frozen 1
  have q0 := row20 R9
  have q1 := row21 R9
  have R9s := (R9.set 0 (.int .u64 0)).set 1 (.bool false)
  simp only [List.setIfInBounds_toArray, List.set_cons_zero, List.set_cons_succ] at R9s
  have hbf := ((HB.out.trans (hb.mono HB.out.size)).setCell (p := ⟨W.heap.size + 1, 0, none⟩) (by show _ ≤ W.heap.size + 1; omega) (.int .u64 0)).setCell (p := ⟨W.heap.size + 1, 1, none⟩) (by show _ ≤ W.heap.size + 1; omega) (.bool false)
  go_wp2_with fail
  (try rw [Exit.noGoto_ret])
  refine bodyPost_ret (v := .tuple #[.slice none 0 0, .agg #[.int .u64 0, .bool false], .int .i64 r]) (by simp [results, Try.results20, go_sem, row20 R9s, row21 R9s, R9s.lt]) rfl ⟨rfl, hbf⟩

theorem slice_one (g k n : Nat) (hk : k < n) (w : World) : (Instr.slice 22 (.slice (some ⟨g, 0, none⟩) n n) (some (.int .i64 k)) (some (.int .i64 ((k : Int) + 1))) (some (.int .i64 ((k : Int) + 1)))).run Try.prog w = .ok (.slice (some ⟨g, k, none⟩) 1 1) w := by
  rw [run_slice_lhm w 22 (some ⟨g, 0, none⟩) n n (by kernel_rfl) .i64 .i64 .i64 k (k + 1) (k + 1) (by omega) (by omega) (by omega) (by omega)]
  by_cases h0 : k = 0
  · subst h0; simp [go_sem, sliced, Addr.add]
  · simp [go_sem, sliced, Addr.add, h0]
theorem cell_set2 {w : World} {p b o : Nat} {u v x : Value} (h : w.cell? ⟨b, o, none⟩ = some x) (hne : b ≠ p) : ((w.setCell ⟨p, 0, none⟩ u).setCell ⟨p, 1, none⟩ v).cell? ⟨b, o, none⟩ = some x :=
  (cell_of_heap (p := ⟨b, o, none⟩) ((heap_setCell_ne _ _ _ _ hne).trans (heap_setCell_ne _ _ _ _ hne))).trans h
/-- What an access comes to: the words in a block of their own. -/
def DoP (W : World) (n : Nat) (Y : List Int) (s : Int × Bool) (x : Ending) (W' : World) : Prop :=
  ∃ g, x = .returned (.tuple #[.slice (some ⟨g, 0, none⟩) n n, .agg #[.int .u64 s.1, .bool s.2], .int .i64 0]) ∧ RowAt W' g 31 (Cs encW Y).toArray ∧ W.heap.size ≤ g ∧ Below W.heap.size W W'

set_option maxRecDepth 100000 in
set_option maxHeartbeats 2000000 in
theorem pdo_ok (A : Option Addr) (c n : Nat) (X : List Int) (wh kd : Int) (k : Nat) (ol nw : Int) (W : World) (h : Rd W W.heap.size 1 A n (Cs encW X)) (hx : X.length = n) (hw : why n (wh, kd, (k : Int), ol, nw) = 0) (Y : List Int) (hY : doX X (wh, kd, (k : Int), ol, nw) = Y) (s : Int × Bool) (hs : doS X (wh, kd, (k : Int), ol, nw) = s) :
    Calls Try.prog 20 #[.slice A n c, .agg #[.int .i64 wh, .int .i64 kd, .int .i64 k, .int .u64 ol, .int .u64 nw]] W (DoP W n Y s) := by
  have HC := hide (fun w => check_any n wh kd k ol nw w 0 hw)
  obtain ⟨n1, n2, k1, k4, _, _, _, hkn⟩ := why_ok hw
  have hkn' : k < n := by omega
  have HD := hide (fun g (w : World) (hr : RowAt w g 31 (Cs encW X).toArray) => does_any g k 31 X wh kd k ol nw w hr (by rw [hx]; exact hkn') rfl k1 k4 Y hY s hs)
  have HO := hide (fun w (hb : Below W.heap.size W w) => pown_any A c n X w ((h.below hb).more hb.size) hx n1 n2)
  have hY2 : Y.length = n := by rw [← hY, doX_length, hx]
  have HB := hide (show Below W.heap.size W (((W.alloc (.cells #[.int .i64 wh, .int .i64 kd, .int .i64 k, .int .u64 ol, .int .u64 nw] 37)).alloc (.cells #[.int .u64 0, .bool false] 33)).alloc (.cells #[.int .i64 wh, .int .i64 kd, .int .i64 k, .int .u64 ol, .int .u64 nw] 77)) from (((Below.refl _ _).alloc (Nat.le_refl _) _).alloc (by simp) _).alloc (by simp; omega) _)
  have R3 := hide (show RowAt (((W.alloc (.cells #[.int .i64 wh, .int .i64 kd, .int .i64 k, .int .u64 ol, .int .u64 nw] 37)).alloc (.cells #[.int .u64 0, .bool false] 33)).alloc (.cells #[.int .i64 wh, .int .i64 kd, .int .i64 k, .int .u64 ol, .int .u64 nw] 77)) W.heap.size 37 #[.int .i64 wh, .int .i64 kd, .int .i64 k, .int .u64 ol, .int .u64 nw] from ((RowAt.new W 37 _).below ((Below.refl _ _).alloc (Nat.le_refl _) _)).below ((Below.refl _ _).alloc (Nat.le_refl _) _))
  have R5 := hide (show RowAt (((W.alloc (.cells #[.int .i64 wh, .int .i64 kd, .int .i64 k, .int .u64 ol, .int .u64 nw] 37)).alloc (.cells #[.int .u64 0, .bool false] 33)).alloc (.cells #[.int .i64 wh, .int .i64 kd, .int .i64 k, .int .u64 ol, .int .u64 nw] 77)) (W.heap.size + 1) 33 #[.int .u64 0, .bool false] from by
    have h := RowAt.new (W.alloc (.cells #[.int .i64 wh, .int .i64 kd, .int .i64 k, .int .u64 ol, .int .u64 nw] 37)) 33 #[.int .u64 0, .bool false]
    rw [World.size_alloc] at h
    exact h.below ((Below.refl _ _).alloc (Nat.le_refl _) _))
  have R7 := hide (show RowAt (((W.alloc (.cells #[.int .i64 wh, .int .i64 kd, .int .i64 k, .int .u64 ol, .int .u64 nw] 37)).alloc (.cells #[.int .u64 0, .bool false] 33)).alloc (.cells #[.int .i64 wh, .int .i64 kd, .int .i64 k, .int .u64 ol, .int .u64 nw] 77)) (W.heap.size + 1 + 1) 77 #[.int .i64 wh, .int .i64 kd, .int .i64 k, .int .u64 ol, .int .u64 nw] from by
    have h := RowAt.new ((W.alloc (.cells #[.int .i64 wh, .int .i64 kd, .int .i64 k, .int .u64 ol, .int .u64 nw] 37)).alloc (.cells #[.int .u64 0, .bool false] 33)) 77 #[.int .i64 wh, .int .i64 kd, .int .i64 k, .int .u64 ol, .int .u64 nw]
    rw [World.size_alloc, World.size_alloc] at h
    exact h)
  clear hw hY hs h hx
  go_enter Try.func20, Try.ntmps20
  go_wp2_with fail
  generalize (((W.alloc (.cells #[.int .i64 wh, .int .i64 kd, .int .i64 k, .int .u64 ol, .int .u64 nw] 37)).alloc (.cells #[.int .u64 0, .bool false] 33)).alloc (.cells #[.int .i64 wh, .int .i64 kd, .int .i64 k, .int .u64 ol, .int .u64 nw] 77)) = w3 at *
  with_reducible refine (HC.out _).mono ?_
  rintro e w4 ⟨rfl, hb⟩
  replace HB := hide (HB.out.trans (hb.mono HB.out.size))
  replace R3 := hide (R3.out.below hb)
  replace R5 := hide (R5.out.below hb)
  replace R7 := hide (R7.out.below hb)
  clear hb HC
  go_wp2_with fail
  with_reducible refine (HO.out _ HB.out).mono ?_
  rintro e w5 ⟨g, rfl, hrow, hg, hb⟩
  have hgs : W.heap.size + 1 + 1 < g := by have h := R7.out.lt; omega
  replace HB := hide (HB.out.trans (hb.mono HB.out.size))
  replace R3 := hide (R3.out.below hb)
  replace R5 := hide (R5.out.below hb)
  replace R7 := hide (R7.out.below hb)
  have HROW := hide hrow
  clear hb hrow hg
  have q0 : w5.cell? ⟨W.heap.size, 2, none⟩ = some (.int .i64 k) := R3.out.cell 2
  have a0 : w5.cell? ⟨W.heap.size + 1 + 1, 0, none⟩ = some (.int .i64 wh) := R7.out.cell 0
  have a1 : w5.cell? ⟨W.heap.size + 1 + 1, 1, none⟩ = some (.int .i64 kd) := R7.out.cell 1
  have a2 : w5.cell? ⟨W.heap.size + 1 + 1, 2, none⟩ = some (.int .i64 k) := R7.out.cell 2
  have a3 : w5.cell? ⟨W.heap.size + 1 + 1, 3, none⟩ = some (.int .u64 ol) := R7.out.cell 3
  have a4 : w5.cell? ⟨W.heap.size + 1 + 1, 4, none⟩ = some (.int .u64 nw) := R7.out.cell 4
  have l3 := R3.out.lt
  have l7 := R7.out.lt
  have hk1 : (k : Int) < 8192 := by omega
  have hsl := slice_one g k n hkn'
  have hwr : IntKind.i64.wrap ((k : Int) + 1) = (k : Int) + 1 := IntWalk.i64_in _ (by omega)
  have hadd : (⟨g, 0, none⟩ : Addr).add k = ⟨g, k, none⟩ := by by_cases h : k = 0 <;> simp [Addr.add, h]
  have HS : Hid (∀ w w', (Below W.heap.size W w ∧ w.cell? ⟨W.heap.size + 1 + 1, 0, none⟩ = some (.int .i64 wh) ∧ w.cell? ⟨W.heap.size + 1 + 1, 1, none⟩ = some (.int .i64 kd) ∧ w.cell? ⟨W.heap.size + 1 + 1, 2, none⟩ = some (.int .i64 k) ∧ w.cell? ⟨W.heap.size + 1 + 1, 3, none⟩ = some (.int .u64 ol) ∧ w.cell? ⟨W.heap.size + 1 + 1, 4, none⟩ = some (.int .u64 nw) ∧ w.cell? ⟨W.heap.size, 2, none⟩ = some (.int .i64 k) ∧ W.heap.size + 1 + 1 < w.heap.size) → Below w.heap.size w w' → (Below W.heap.size W w' ∧ w'.cell? ⟨W.heap.size + 1 + 1, 0, none⟩ = some (.int .i64 wh) ∧ w'.cell? ⟨W.heap.size + 1 + 1, 1, none⟩ = some (.int .i64 kd) ∧ w'.cell? ⟨W.heap.size + 1 + 1, 2, none⟩ = some (.int .i64 k) ∧ w'.cell? ⟨W.heap.size + 1 + 1, 3, none⟩ = some (.int .u64 ol) ∧ w'.cell? ⟨W.heap.size + 1 + 1, 4, none⟩ = some (.int .u64 nw) ∧ w'.cell? ⟨W.heap.size, 2, none⟩ = some (.int .i64 k) ∧ W.heap.size + 1 + 1 < w'.heap.size)) := hide (fun w w' h hb => ⟨h.1.trans (hb.mono h.1.size), kept hb h.2.1, kept hb h.2.2.1, kept hb h.2.2.2.1, kept hb h.2.2.2.2.1, kept hb h.2.2.2.2.2.1, kept hb h.2.2.2.2.2.2.1, Nat.lt_of_lt_of_le h.2.2.2.2.2.2.2 hb.size⟩)
  have HP : Hid (∀ w w', (Below W.heap.size W w ∧ w.cell? ⟨W.heap.size + 1 + 1, 0, none⟩ = some (.int .i64 wh) ∧ w.cell? ⟨W.heap.size + 1 + 1, 1, none⟩ = some (.int .i64 kd) ∧ w.cell? ⟨W.heap.size + 1 + 1, 2, none⟩ = some (.int .i64 k) ∧ w.cell? ⟨W.heap.size + 1 + 1, 3, none⟩ = some (.int .u64 ol) ∧ w.cell? ⟨W.heap.size + 1 + 1, 4, none⟩ = some (.int .u64 nw) ∧ w.cell? ⟨W.heap.size, 2, none⟩ = some (.int .i64 k) ∧ W.heap.size + 1 + 1 < w.heap.size) → Past g w w' → (Below W.heap.size W w' ∧ w'.cell? ⟨W.heap.size + 1 + 1, 0, none⟩ = some (.int .i64 wh) ∧ w'.cell? ⟨W.heap.size + 1 + 1, 1, none⟩ = some (.int .i64 kd) ∧ w'.cell? ⟨W.heap.size + 1 + 1, 2, none⟩ = some (.int .i64 k) ∧ w'.cell? ⟨W.heap.size + 1 + 1, 3, none⟩ = some (.int .u64 ol) ∧ w'.cell? ⟨W.heap.size + 1 + 1, 4, none⟩ = some (.int .u64 nw) ∧ w'.cell? ⟨W.heap.size, 2, none⟩ = some (.int .i64 k) ∧ W.heap.size + 1 + 1 < w'.heap.size)) := hide (fun w w' h hb => ⟨h.1.trans (hb.below.mono (by omega)), (hb.cell _ (by show W.heap.size + 1 + 1 ≠ g; omega) h.2.2.2.2.2.2.2).trans h.2.1, (hb.cell _ (by show W.heap.size + 1 + 1 ≠ g; omega) h.2.2.2.2.2.2.2).trans h.2.2.1, (hb.cell _ (by show W.heap.size + 1 + 1 ≠ g; omega) h.2.2.2.2.2.2.2).trans h.2.2.2.1, (hb.cell _ (by show W.heap.size + 1 + 1 ≠ g; omega) h.2.2.2.2.2.2.2).trans h.2.2.2.2.1, (hb.cell _ (by show W.heap.size + 1 + 1 ≠ g; omega) h.2.2.2.2.2.2.2).trans h.2.2.2.2.2.1, (hb.cell _ (by show W.heap.size ≠ g; omega) (by show W.heap.size < _; have := h.2.2.2.2.2.2.2; omega)).trans h.2.2.2.2.2.2.1, Nat.lt_of_lt_of_le h.2.2.2.2.2.2.2 hb.size⟩)
  have HT : Hid (∀ (w : World) (p : Nat) (u v : Value), (Below W.heap.size W w ∧ w.cell? ⟨W.heap.size + 1 + 1, 0, none⟩ = some (.int .i64 wh) ∧ w.cell? ⟨W.heap.size + 1 + 1, 1, none⟩ = some (.int .i64 kd) ∧ w.cell? ⟨W.heap.size + 1 + 1, 2, none⟩ = some (.int .i64 k) ∧ w.cell? ⟨W.heap.size + 1 + 1, 3, none⟩ = some (.int .u64 ol) ∧ w.cell? ⟨W.heap.size + 1 + 1, 4, none⟩ = some (.int .u64 nw) ∧ w.cell? ⟨W.heap.size, 2, none⟩ = some (.int .i64 k) ∧ W.heap.size + 1 + 1 < w.heap.size) → W.heap.size + 1 + 1 < p → (Below W.heap.size W ((w.setCell ⟨p, 0, none⟩ u).setCell ⟨p, 1, none⟩ v) ∧ ((w.setCell ⟨p, 0, none⟩ u).setCell ⟨p, 1, none⟩ v).cell? ⟨W.heap.size + 1 + 1, 0, none⟩ = some (.int .i64 wh) ∧ ((w.setCell ⟨p, 0, none⟩ u).setCell ⟨p, 1, none⟩ v).cell? ⟨W.heap.size + 1 + 1, 1, none⟩ = some (.int .i64 kd) ∧ ((w.setCell ⟨p, 0, none⟩ u).setCell ⟨p, 1, none⟩ v).cell? ⟨W.heap.size + 1 + 1, 2, none⟩ = some (.int .i64 k) ∧ ((w.setCell ⟨p, 0, none⟩ u).setCell ⟨p, 1, none⟩ v).cell? ⟨W.heap.size + 1 + 1, 3, none⟩ = some (.int .u64 ol) ∧ ((w.setCell ⟨p, 0, none⟩ u).setCell ⟨p, 1, none⟩ v).cell? ⟨W.heap.size + 1 + 1, 4, none⟩ = some (.int .u64 nw) ∧ ((w.setCell ⟨p, 0, none⟩ u).setCell ⟨p, 1, none⟩ v).cell? ⟨W.heap.size, 2, none⟩ = some (.int .i64 k) ∧ W.heap.size + 1 + 1 < ((w.setCell ⟨p, 0, none⟩ u).setCell ⟨p, 1, none⟩ v).heap.size)) := hide (fun w p u v h hp => ⟨(h.1.setCell (p := ⟨p, 0, none⟩) (by show _ ≤ p; omega) u).setCell (p := ⟨p, 1, none⟩) (by show _ ≤ p; omega) v, cell_set2 h.2.1 (by omega), cell_set2 h.2.2.1 (by omega), cell_set2 h.2.2.2.1 (by omega), cell_set2 h.2.2.2.2.1 (by omega), cell_set2 h.2.2.2.2.2.1 (by omega), cell_set2 h.2.2.2.2.2.2.1 (by omega), by simpa using h.2.2.2.2.2.2.2⟩)
  have hS0 : Below W.heap.size W w5.drew ∧ w5.drew.cell? ⟨W.heap.size + 1 + 1, 0, none⟩ = some (.int .i64 wh) ∧ w5.drew.cell? ⟨W.heap.size + 1 + 1, 1, none⟩ = some (.int .i64 kd) ∧ w5.drew.cell? ⟨W.heap.size + 1 + 1, 2, none⟩ = some (.int .i64 k) ∧ w5.drew.cell? ⟨W.heap.size + 1 + 1, 3, none⟩ = some (.int .u64 ol) ∧ w5.drew.cell? ⟨W.heap.size + 1 + 1, 4, none⟩ = some (.int .u64 nw) ∧ w5.drew.cell? ⟨W.heap.size, 2, none⟩ = some (.int .i64 k) ∧ W.heap.size + 1 + 1 < w5.drew.heap.size := ⟨HB.out.drew, a0, a1, a2, a3, a4, q0, l7⟩
  clear a0 a1 a2 a3 a4 q0 l3 l7
  go_wp2_with fail
  go_region_held3 (fun wX => Below W.heap.size W wX ∧ wX.cell? ⟨W.heap.size + 1 + 1, 0, none⟩ = some (.int .i64 wh) ∧ wX.cell? ⟨W.heap.size + 1 + 1, 1, none⟩ = some (.int .i64 kd) ∧ wX.cell? ⟨W.heap.size + 1 + 1, 2, none⟩ = some (.int .i64 k) ∧ wX.cell? ⟨W.heap.size + 1 + 1, 3, none⟩ = some (.int .u64 ol) ∧ wX.cell? ⟨W.heap.size + 1 + 1, 4, none⟩ = some (.int .u64 nw) ∧ wX.cell? ⟨W.heap.size, 2, none⟩ = some (.int .i64 k) ∧ W.heap.size + 1 + 1 < wX.heap.size)
    (first | exact hS0 | exact HP.out _ _ ‹_› hpq | exact HS.out _ _ (HP.out _ _ hS0 hpq) ((Below.refl _ _).alloc (Nat.le_refl _) _) | exact HT.out _ _ _ _ (HP.out _ _ (HS.out _ _ hS0 ((Below.refl _ _).alloc (Nat.le_refl _) _)) hpq) (by have h := HROW.out.lt; simp; omega) | exact HS.out _ _ ‹_› ((Below.refl _ _).alloc (Nat.le_refl _) _) | go_keep)
    (first | (go_at_call 36; (with_reducible refine (HD.out g _ (by first | exact HROW.out.drew | exact (HROW.out.drew).below ((Below.refl _ _).alloc (Nat.le_refl _) _))).mono ?_); rintro e wq ⟨rfl, hrowq, hpq⟩; (try (have RS := (RowAt.new w5.drew 33 #[.int .u64 0, .bool false]).past hpq (show w5.heap.size ≠ g by have := HROW.out.lt; omega); have rs0 := row20 RS; have rs1 := row21 RS; have rsl := RS.lt; have rsf0 := RS.frozen 0; have rsf1 := RS.frozen 1; simp only [World.size_drew] at rs0 rs1 rsl rsf0 rsf1))))
  all_goals
    rename_i hHeld
    have hbd := And.left hHeld
    have hgl := HROW.out.lt
    clear hHeld HS HP HT hS0 hsl hwr hadd HD HO
  · have RB := RowAt.new wq 33 #[.int .u64 s.1, .bool s.2]
    have hrow9 := hrowq.below ((Below.refl _ _).alloc (Nat.le_refl _) (.cells #[.int .u64 s.1, .bool s.2] 33))
    have R59 := (R5.out.drew.past hpq (show W.heap.size + 1 ≠ g by omega)).below ((Below.refl _ _).alloc (Nat.le_refl _) (.cells #[.int .u64 s.1, .bool s.2] 33))
    generalize wq.alloc (.cells #[.int .u64 s.1, .bool s.2] 33) = w9 at *
    have q0 := row20 RB
    have q1 := row21 RB
    have z0 := row20 R59
    have z1 := row21 R59
    have lb := RB.lt
    have l5 := R59.lt
    have y0 := R59.frozen 0
    have y1 := R59.frozen 1
    have R5s := ((R59.set 0 (.int .u64 s.1)).set 1 (.bool s.2)).drew
    simp only [List.setIfInBounds_toArray, List.set_cons_zero, List.set_cons_succ] at R5s
    have hrows := ((hrow9.setNe (show g ≠ W.heap.size + 1 by omega) (o := 0) (v := .int .u64 s.1)).setNe (show g ≠ W.heap.size + 1 by omega) (o := 1) (v := .bool s.2)).drew
    have hbs := ((hbd.setCell (p := ⟨W.heap.size + 1, 0, none⟩) (by show _ ≤ W.heap.size + 1; omega) (.int .u64 s.1)).setCell (p := ⟨W.heap.size + 1, 1, none⟩) (by show _ ≤ W.heap.size + 1; omega) (.bool s.2)).drew
    have HRS := hide hrows
    have HBS := hide hbs
    clear hrow9 hrowq hpq hbd hrows hbs RB R59 R3 R5 R7 HB HROW
    go_wp2_with fail
    go_region
    all_goals
      go_wp2_with fail
      generalize ((w9.setCell ⟨W.heap.size + 1, 0, none⟩ (.int .u64 s.1)).setCell ⟨W.heap.size + 1, 1, none⟩ (.bool s.2)).drew = w10 at *
      (try rw [Exit.noGoto_ret])
      refine bodyPost_ret (v := .tuple #[.slice (some ⟨g, 0, none⟩) n n, .agg #[.int .u64 s.1, .bool s.2], .int .i64 0]) (by simp [results, Try.results20, go_sem, row20 R5s, row21 R5s, R5s.lt]) rfl ⟨g, rfl, HRS.out, by omega, HBS.out⟩
  · have RB := (RS.set 0 (.int .u64 s.1)).set 1 (.bool s.2)
    simp only [List.setIfInBounds_toArray, List.set_cons_zero, List.set_cons_succ, World.size_drew] at RB
    have h5g : W.heap.size + 1 < w5.heap.size := by omega
    have hrow9 := (hrowq.setNe (show g ≠ w5.heap.size by omega) (o := 0) (v := .int .u64 s.1)).setNe (show g ≠ w5.heap.size by omega) (o := 1) (v := .bool s.2)
    have R59 := ((((R5.out.drew).below ((Below.refl _ _).alloc (Nat.le_refl _) (.cells #[.int .u64 0, .bool false] 33))).past hpq (show W.heap.size + 1 ≠ g by omega)).setNe (show W.heap.size + 1 ≠ w5.heap.size by omega) (o := 0) (v := .int .u64 s.1)).setNe (show W.heap.size + 1 ≠ w5.heap.size by omega) (o := 1) (v := .bool s.2)
    clear RS rs0 rs1 rsl rsf0 rsf1
    generalize (wq.setCell ⟨w5.heap.size, 0, none⟩ (.int .u64 s.1)).setCell ⟨w5.heap.size, 1, none⟩ (.bool s.2) = w9 at *
    have q0 := row20 RB
    have q1 := row21 RB
    have z0 := row20 R59
    have z1 := row21 R59
    have lb := RB.lt
    have l5 := R59.lt
    have y0 := R59.frozen 0
    have y1 := R59.frozen 1
    have R5s := ((R59.set 0 (.int .u64 s.1)).set 1 (.bool s.2)).drew
    simp only [List.setIfInBounds_toArray, List.set_cons_zero, List.set_cons_succ] at R5s
    have hrows := ((hrow9.setNe (show g ≠ W.heap.size + 1 by omega) (o := 0) (v := .int .u64 s.1)).setNe (show g ≠ W.heap.size + 1 by omega) (o := 1) (v := .bool s.2)).drew
    have hbs := ((hbd.setCell (p := ⟨W.heap.size + 1, 0, none⟩) (by show _ ≤ W.heap.size + 1; omega) (.int .u64 s.1)).setCell (p := ⟨W.heap.size + 1, 1, none⟩) (by show _ ≤ W.heap.size + 1; omega) (.bool s.2)).drew
    have HRS := hide hrows
    have HBS := hide hbs
    clear hrow9 hrowq hpq hbd hrows hbs RB R59 R3 R5 R7 HB HROW
    go_wp2_with fail
    go_region
    all_goals
      go_wp2_with fail
      generalize ((w9.setCell ⟨W.heap.size + 1, 0, none⟩ (.int .u64 s.1)).setCell ⟨W.heap.size + 1, 1, none⟩ (.bool s.2)).drew = w10 at *
      (try rw [Exit.noGoto_ret])
      refine bodyPost_ret (v := .tuple #[.slice (some ⟨g, 0, none⟩) n n, .agg #[.int .u64 s.1, .bool s.2], .int .i64 0]) (by simp [results, Try.results20, go_sem, row20 R5s, row21 R5s, R5s.lt]) rfl ⟨g, rfl, HRS.out, by omega, HBS.out⟩
end Go.Proofs.Ytadgihmokmfejaa
