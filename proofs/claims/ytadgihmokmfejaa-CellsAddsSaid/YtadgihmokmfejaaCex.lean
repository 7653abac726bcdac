/-
  A thing that has cells: an access.
-/
import Derived.Test.YtadgihmokmfejaaCew
import Derived.Test.YtadgihmokmfejaaCen
set_option linter.unusedSimpArgs false
set_option linter.unusedVariables false
namespace Go.Proofs.Ytadgihmokmfejaa
open Go Go.RowKit
attribute [local go_sem] via_cell via_frozen

theorem sdo_nil (wh kd at_ ol nw : Int) (W : World) : Calls Try.prog 13 #[.pointer none, .agg #[.int .i64 wh, .int .i64 kd, .int .i64 at_, .int .u64 ol, .int .u64 nw]] W fun e W' => e = .returned (.tuple #[.agg #[.int .u64 0, .bool false], .int .i64 1]) ∧ Below W.heap.size W W' := by
  have HB := hide (show Below W.heap.size W ((W.alloc (.cells #[.int .i64 wh, .int .i64 kd, .int .i64 at_, .int .u64 ol, .int .u64 nw] 37)).alloc (.cells #[.int .u64 0, .bool false] 33)) from ((Below.refl _ _).alloc (Nat.le_refl _) _).alloc (by simp) _)
  have R5 := hide (show RowAt ((W.alloc (.cells #[.int .i64 wh, .int .i64 kd, .int .i64 at_, .int .u64 ol, .int .u64 nw] 37)).alloc (.cells #[.int .u64 0, .bool false] 33)) (W.heap.size + 1) 33 #[.int .u64 0, .bool false] from by
    have h := RowAt.new (W.alloc (.cells #[.int .i64 wh, .int .i64 kd, .int .i64 at_, .int .u64 ol, .int .u64 nw] 37)) 33 #[.int .u64 0, .bool false]
    rw [World.size_alloc] at h
    exact h)
  go_enter Try.func13, Try.ntmps13
  go_wp2_with fail
  generalize ((W.alloc (.cells #[.int .i64 wh, .int .i64 kd, .int .i64 at_, .int .u64 ol, .int .u64 nw] 37)).alloc (.cells #[.int .u64 0, .bool false] 33)) = w3 at *
  (try rw [Exit.noGoto_ret])
  refine bodyPost_ret (v := .tuple #[.agg #[.int .u64 0, .bool false], .int .i64 1]) (by simp [results, Try.results13, go_sem, row20 R5.out, row21 R5.out, R5.out.lt]) rfl ⟨rfl, HB.out⟩

set_option maxRecDepth 100000 in
set_option maxHeartbeats 2000000 in
theorem sdo_err (gs ga n : Nat) (X : List Int) (wh kd at_ ol nw : Int) (W : World) (h : ShP W gs ga n X) (r : Int) (hr : why n (wh, kd, at_, ol, nw) = r) (hne : r ≠ 0) :
    Calls Try.prog 13 #[.pointer (some ⟨gs, 0, none⟩), .agg #[.int .i64 wh, .int .i64 kd, .int .i64 at_, .int .u64 ol, .int .u64 nw]] W fun e W' => e = .returned (.tuple #[.agg #[.int .u64 0, .bool false], .int .i64 r]) ∧ Below W.heap.size W W' := by
  have HC := hide (fun w => check_any n wh kd at_ ol nw w r hr)
  have hn : (r != 0) = true := by simpa using hne
  clear hr
  have HB := hide (show Below W.heap.size W (((W.alloc (.cells #[.int .i64 wh, .int .i64 kd, .int .i64 at_, .int .u64 ol, .int .u64 nw] 37)).alloc (.cells #[.int .u64 0, .bool false] 33)).alloc (.cells #[.int .i64 wh, .int .i64 kd, .int .i64 at_, .int .u64 ol, .int .u64 nw] 77)) from (((Below.refl _ _).alloc (Nat.le_refl _) _).alloc (by simp) _).alloc (by simp; omega) _)
  have R3 := hide (show RowAt (((W.alloc (.cells #[.int .i64 wh, .int .i64 kd, .int .i64 at_, .int .u64 ol, .int .u64 nw] 37)).alloc (.cells #[.int .u64 0, .bool false] 33)).alloc (.cells #[.int .i64 wh, .int .i64 kd, .int .i64 at_, .int .u64 ol, .int .u64 nw] 77)) W.heap.size 37 #[.int .i64 wh, .int .i64 kd, .int .i64 at_, .int .u64 ol, .int .u64 nw] from ((RowAt.new W 37 _).below ((Below.refl _ _).alloc (Nat.le_refl _) _)).below ((Below.refl _ _).alloc (Nat.le_refl _) _))
  have R5 := hide (show RowAt (((W.alloc (.cells #[.int .i64 wh, .int .i64 kd, .int .i64 at_, .int .u64 ol, .int .u64 nw] 37)).alloc (.cells #[.int .u64 0, .bool false] 33)).alloc (.cells #[.int .i64 wh, .int .i64 kd, .int .i64 at_, .int .u64 ol, .int .u64 nw] 77)) (W.heap.size + 1) 33 #[.int .u64 0, .bool false] from by
    have h := RowAt.new (W.alloc (.cells #[.int .i64 wh, .int .i64 kd, .int .i64 at_, .int .u64 ol, .int .u64 nw] 37)) 33 #[.int .u64 0, .bool false]
    rw [World.size_alloc] at h
    exact h.below ((Below.refl _ _).alloc (Nat.le_refl _) _))
  have R7 := hide (show RowAt (((W.alloc (.cells #[.int .i64 wh, .int .i64 kd, .int .i64 at_, .int .u64 ol, .int .u64 nw] 37)).alloc (.cells #[.int .u64 0, .bool false] 33)).alloc (.cells #[.int .i64 wh, .int .i64 kd, .int .i64 at_, .int .u64 ol, .int .u64 nw] 77)) (W.heap.size + 1 + 1) 77 #[.int .i64 wh, .int .i64 kd, .int .i64 at_, .int .u64 ol, .int .u64 nw] from by
    have h := RowAt.new ((W.alloc (.cells #[.int .i64 wh, .int .i64 kd, .int .i64 at_, .int .u64 ol, .int .u64 nw] 37)).alloc (.cells #[.int .u64 0, .bool false] 33)) 77 #[.int .i64 wh, .int .i64 kd, .int .i64 at_, .int .u64 ol, .int .u64 nw]
    rw [World.size_alloc, World.size_alloc] at h
    exact h)
  have HSH := hide (h.below HB.out)
  clear h
  go_enter Try.func13, Try.ntmps13
  go_wp2_with fail
  generalize (((W.alloc (.cells #[.int .i64 wh, .int .i64 kd, .int .i64 at_, .int .u64 ol, .int .u64 nw] 37)).alloc (.cells #[.int .u64 0, .bool false] 33)).alloc (.cells #[.int .i64 wh, .int .i64 kd, .int .i64 at_, .int .u64 ol, .int .u64 nw] 77)) = w3 at *
  have HS : Hid (∀ w w', (Below W.heap.size W w ∧ w.cell? ⟨W.heap.size + 1 + 1, 0, none⟩ = some (.int .i64 wh) ∧ w.cell? ⟨W.heap.size + 1 + 1, 1, none⟩ = some (.int .i64 kd) ∧ w.cell? ⟨W.heap.size + 1 + 1, 2, none⟩ = some (.int .i64 at_) ∧ w.cell? ⟨W.heap.size + 1 + 1, 3, none⟩ = some (.int .u64 ol) ∧ w.cell? ⟨W.heap.size + 1 + 1, 4, none⟩ = some (.int .u64 nw) ∧ w.cell? ⟨W.heap.size, 2, none⟩ = some (.int .i64 at_) ∧ w.cell? ⟨gs, 0, none⟩ = some (.slice (some ⟨ga, 0, none⟩) n n) ∧ W.heap.size + 1 + 1 < w.heap.size) → Below w.heap.size w w' → (Below W.heap.size W w' ∧ w'.cell? ⟨W.heap.size + 1 + 1, 0, none⟩ = some (.int .i64 wh) ∧ w'.cell? ⟨W.heap.size + 1 + 1, 1, none⟩ = some (.int .i64 kd) ∧ w'.cell? ⟨W.heap.size + 1 + 1, 2, none⟩ = some (.int .i64 at_) ∧ w'.cell? ⟨W.heap.size + 1 + 1, 3, none⟩ = some (.int .u64 ol) ∧ w'.cell? ⟨W.heap.size + 1 + 1, 4, none⟩ = some (.int .u64 nw) ∧ w'.cell? ⟨W.heap.size, 2, none⟩ = some (.int .i64 at_) ∧ w'.cell? ⟨gs, 0, none⟩ = some (.slice (some ⟨ga, 0, none⟩) n n) ∧ W.heap.size + 1 + 1 < w'.heap.size)) := hide (fun w w' h hb => ⟨h.1.trans (hb.mono h.1.size), kept hb h.2.1, kept hb h.2.2.1, kept hb h.2.2.2.1, kept hb h.2.2.2.2.1, kept hb h.2.2.2.2.2.1, kept hb h.2.2.2.2.2.2.1, kept hb h.2.2.2.2.2.2.2.1, Nat.lt_of_lt_of_le h.2.2.2.2.2.2.2.2 hb.size⟩)
  have a0 : w3.cell? ⟨W.heap.size + 1 + 1, 0, none⟩ = some (.int .i64 wh) := R7.out.cell 0
  have a1 : w3.cell? ⟨W.heap.size + 1 + 1, 1, none⟩ = some (.int .i64 kd) := R7.out.cell 1
  have a2 : w3.cell? ⟨W.heap.size + 1 + 1, 2, none⟩ = some (.int .i64 at_) := R7.out.cell 2
  have a3 : w3.cell? ⟨W.heap.size + 1 + 1, 3, none⟩ = some (.int .u64 ol) := R7.out.cell 3
  have a4 : w3.cell? ⟨W.heap.size + 1 + 1, 4, none⟩ = some (.int .u64 nw) := R7.out.cell 4
  have q0 : w3.cell? ⟨W.heap.size, 2, none⟩ = some (.int .i64 at_) := R3.out.cell 2
  have z0 := row1 HSH.out.box
  have l7 := R7.out.lt
  have lz := HSH.out.box.lt
  have hS0 : Below W.heap.size W w3.drew ∧ w3.drew.cell? ⟨W.heap.size + 1 + 1, 0, none⟩ = some (.int .i64 wh) ∧ w3.drew.cell? ⟨W.heap.size + 1 + 1, 1, none⟩ = some (.int .i64 kd) ∧ w3.drew.cell? ⟨W.heap.size + 1 + 1, 2, none⟩ = some (.int .i64 at_) ∧ w3.drew.cell? ⟨W.heap.size + 1 + 1, 3, none⟩ = some (.int .u64 ol) ∧ w3.drew.cell? ⟨W.heap.size + 1 + 1, 4, none⟩ = some (.int .u64 nw) ∧ w3.drew.cell? ⟨W.heap.size, 2, none⟩ = some (.int .i64 at_) ∧ w3.drew.cell? ⟨gs, 0, none⟩ = some (.slice (some ⟨ga, 0, none⟩) n n) ∧ W.heap.size + 1 + 1 < w3.drew.heap.size := ⟨HB.out.drew, a0, a1, a2, a3, a4, q0, z0, l7⟩
  clear a0 a1 a2 a3 a4 q0
  go_wp2_with fail
  go_region_held3 (fun wX => Below W.heap.size W wX ∧ wX.cell? ⟨W.heap.size + 1 + 1, 0, none⟩ = some (.int .i64 wh) ∧ wX.cell? ⟨W.heap.size + 1 + 1, 1, none⟩ = some (.int .i64 kd) ∧ wX.cell? ⟨W.heap.size + 1 + 1, 2, none⟩ = some (.int .i64 at_) ∧ wX.cell? ⟨W.heap.size + 1 + 1, 3, none⟩ = some (.int .u64 ol) ∧ wX.cell? ⟨W.heap.size + 1 + 1, 4, none⟩ = some (.int .u64 nw) ∧ wX.cell? ⟨W.heap.size, 2, none⟩ = some (.int .i64 at_) ∧ wX.cell? ⟨gs, 0, none⟩ = some (.slice (some ⟨ga, 0, none⟩) n n) ∧ W.heap.size + 1 + 1 < wX.heap.size)
    (first | exact hS0 | exact HS.out _ _ ‹_› hb | go_keep)
    (first | (go_at_call 35; (with_reducible refine (HC.out _).mono ?_); rintro e wq ⟨rfl, hb⟩))
  have hb5 := (Below.refl w3.heap.size w3).drew.trans hb
  replace HB := hide (HB.out.trans (hb5.mono HB.out.size))
  replace R3 := hide (R3.out.below hb5)
  replace R5 := hide (R5.out.below hb5)
  replace R7 := hide (R7.out.below hb5)
  replace HSH := hide (HSH.out.below hb5)
  rename_i hHeld
  clear hHeld hb hb5 hS0 HS HC z0 l7 lz
  have R9 := R5.out
  have lq := R9.lt
  have f0 := R9.frozen 0
  have f1 := R9.frozen 1
  have q0 := row20 R9
  have q1 := row21 R9
  have R9s := (R9.set 0 (.int .u64 0)).set 1 (.bool false)
  simp only [List.setIfInBounds_toArray, List.set_cons_zero, List.set_cons_succ] at R9s
  have hbf := (HB.out.setCell (p := ⟨W.heap.size + 1, 0, none⟩) (by show _ ≤ W.heap.size + 1; omega) (.int .u64 0)).setCell (p := ⟨W.heap.size + 1, 1, none⟩) (by show _ ≤ W.heap.size + 1; omega) (.bool false)
  go_wp2_with fail
  (try rw [Exit.noGoto_ret])
  refine bodyPost_ret (v := .tuple #[.agg #[.int .u64 0, .bool false], .int .i64 r]) (by simp [results, Try.results13, go_sem, row20 R9s, row21 R9s, R9s.lt]) rfl ⟨rfl, hbf⟩

def SDoRes (W : World) (gs ga n : Nat) (Y : List Int) (s : Int × Bool) (x : Ending) (W' : World) : Prop := x = .returned (.tuple #[.agg #[.int .u64 s.1, .bool s.2], .int .i64 0]) ∧ ShP W' gs ga n Y ∧ Past ga W W'

set_option maxRecDepth 100000 in
set_option maxHeartbeats 2000000 in
theorem sdo_ok (gs ga n : Nat) (X : List Int) (wh kd : Int) (k : Nat) (ol nw : Int) (W : World) (h : ShP W gs ga n X) (hw : why n (wh, kd, (k : Int), ol, nw) = 0) (Y : List Int) (hY : doX X (wh, kd, (k : Int), ol, nw) = Y) (q : Int) (d : Bool) (hs : doS X (wh, kd, (k : Int), ol, nw) = (q, d)) :
    Calls Try.prog 13 #[.pointer (some ⟨gs, 0, none⟩), .agg #[.int .i64 wh, .int .i64 kd, .int .i64 k, .int .u64 ol, .int .u64 nw]] W (SDoRes W gs ga n Y (q, d)) := by
  have HC := hide (fun w => check_any n wh kd k ol nw w 0 hw)
  obtain ⟨n1, n2, k1, k4, _, _, _, hkn⟩ := why_ok hw
  have hkn' : k < n := by omega
  have hXn := h.len
  have HD := hide (fun (w : World) (hr : RowAt w ga 74 (Cs encW X).toArray) => show Calls Try.prog 36 #[.agg #[.int .i64 wh, .int .i64 kd, .int .i64 k, .int .u64 ol, .int .u64 nw], .iface 82 (.agg #[.pointer (some ⟨ga, k, none⟩)])] w (CellRes w ga 74 Y (.agg #[.int .u64 q, .bool d])) from xdoes_any ga k 74 X wh kd k ol nw w hr (by rw [hXn]; exact hkn') rfl k1 k4 Y hY (q, d) hs)
  have HLY := hide (show Y.length = n by rw [← hY, doX_length, hXn])
  have hgs : gs < W.heap.size := h.box.lt
  have hga : ga < W.heap.size := h.row.lt
  have hne := h.ne
  clear hw hY hs
  have HB := hide (show Below W.heap.size W (((W.alloc (.cells #[.int .i64 wh, .int .i64 kd, .int .i64 k, .int .u64 ol, .int .u64 nw] 37)).alloc (.cells #[.int .u64 0, .bool false] 33)).alloc (.cells #[.int .i64 wh, .int .i64 kd, .int .i64 k, .int .u64 ol, .int .u64 nw] 77)) from (((Below.refl _ _).alloc (Nat.le_refl _) _).alloc (by simp) _).alloc (by simp; omega) _)
  have R3 := hide (show RowAt (((W.alloc (.cells #[.int .i64 wh, .int .i64 kd, .int .i64 k, .int .u64 ol, .int .u64 nw] 37)).alloc (.cells #[.int .u64 0, .bool false] 33)).alloc (.cells #[.int .i64 wh, .int .i64 kd, .int .i64 k, .int .u64 ol, .int .u64 nw] 77)) W.heap.size 37 #[.int .i64 wh, .int .i64 kd, .int .i64 k, .int .u64 ol, .int .u64 nw] from ((RowAt.new W 37 _).below ((Below.refl _ _).alloc (Nat.le_refl _) _)).below ((Below.refl _ _).alloc (Nat.le_refl _) _))
  have R5 := hide (show RowAt (((W.alloc (.cells #[.int .i64 wh, .int .i64 kd, .int .i64 k, .int .u64 ol, .int .u64 nw] 37)).alloc (.cells #[.int .u64 0, .bool false] 33)).alloc (.cells #[.int .i64 wh, .int .i64 kd, .int .i64 k, .int .u64 ol, .int .u64 nw] 77)) (W.heap.size + 1) 33 #[.int .u64 0, .bool false] from by
    have h := RowAt.new (W.alloc (.cells #[.int .i64 wh, .int .i64 kd, .int .i64 k, .int .u64 ol, .int .u64 nw] 37)) 33 #[.int .u64 0, .bool false]
    rw [World.size_alloc] at h
    exact h.below ((Below.refl _ _).alloc (Nat.le_refl _) _))
  have R7 := hide (show RowAt (((W.alloc (.cells #[.int .i64 wh, .int .i64 kd, .int .i64 k, .int .u64 ol, .int .u64 nw] 37)).alloc (.cells #[.int .u64 0, .bool false] 33)).alloc (.cells #[.int .i64 wh, .int .i64 kd, .int .i64 k, .int .u64 ol, .int .u64 nw] 77)) (W.heap.size + 1 + 1) 77 #[.int .i64 wh, .int .i64 kd, .int .i64 k, .int .u64 ol, .int .u64 nw] from by
    have h := RowAt.new ((W.alloc (.cells #[.int .i64 wh, .int .i64 kd, .int .i64 k, .int .u64 ol, .int .u64 nw] 37)).alloc (.cells #[.int .u64 0, .bool false] 33)) 77 #[.int .i64 wh, .int .i64 kd, .int .i64 k, .int .u64 ol, .int .u64 nw]
    rw [World.size_alloc, World.size_alloc] at h
    exact h)
  have HSH := hide (h.below HB.out)
  clear h
  go_enter Try.func13, Try.ntmps13
  go_wp2_with fail
  generalize (((W.alloc (.cells #[.int .i64 wh, .int .i64 kd, .int .i64 k, .int .u64 ol, .int .u64 nw] 37)).alloc (.cells #[.int .u64 0, .bool false] 33)).alloc (.cells #[.int .i64 wh, .int .i64 kd, .int .i64 k, .int .u64 ol, .int .u64 nw] 77)) = w3 at *
  have HS : Hid (∀ w w', (Below W.heap.size W w ∧ w.cell? ⟨W.heap.size + 1 + 1, 0, none⟩ = some (.int .i64 wh) ∧ w.cell? ⟨W.heap.size + 1 + 1, 1, none⟩ = some (.int .i64 kd) ∧ w.cell? ⟨W.heap.size + 1 + 1, 2, none⟩ = some (.int .i64 k) ∧ w.cell? ⟨W.heap.size + 1 + 1, 3, none⟩ = some (.int .u64 ol) ∧ w.cell? ⟨W.heap.size + 1 + 1, 4, none⟩ = some (.int .u64 nw) ∧ w.cell? ⟨W.heap.size, 2, none⟩ = some (.int .i64 k) ∧ w.cell? ⟨gs, 0, none⟩ = some (.slice (some ⟨ga, 0, none⟩) n n) ∧ W.heap.size + 1 + 1 < w.heap.size) → Below w.heap.size w w' → (Below W.heap.size W w' ∧ w'.cell? ⟨W.heap.size + 1 + 1, 0, none⟩ = some (.int .i64 wh) ∧ w'.cell? ⟨W.heap.size + 1 + 1, 1, none⟩ = some (.int .i64 kd) ∧ w'.cell? ⟨W.heap.size + 1 + 1, 2, none⟩ = some (.int .i64 k) ∧ w'.cell? ⟨W.heap.size + 1 + 1, 3, none⟩ = some (.int .u64 ol) ∧ w'.cell? ⟨W.heap.size + 1 + 1, 4, none⟩ = some (.int .u64 nw) ∧ w'.cell? ⟨W.heap.size, 2, none⟩ = some (.int .i64 k) ∧ w'.cell? ⟨gs, 0, none⟩ = some (.slice (some ⟨ga, 0, none⟩) n n) ∧ W.heap.size + 1 + 1 < w'.heap.size)) := hide (fun w w' h hb => ⟨h.1.trans (hb.mono h.1.size), kept hb h.2.1, kept hb h.2.2.1, kept hb h.2.2.2.1, kept hb h.2.2.2.2.1, kept hb h.2.2.2.2.2.1, kept hb h.2.2.2.2.2.2.1, kept hb h.2.2.2.2.2.2.2.1, Nat.lt_of_lt_of_le h.2.2.2.2.2.2.2.2 hb.size⟩)
  have a0 : w3.cell? ⟨W.heap.size + 1 + 1, 0, none⟩ = some (.int .i64 wh) := R7.out.cell 0
  have a1 : w3.cell? ⟨W.heap.size + 1 + 1, 1, none⟩ = some (.int .i64 kd) := R7.out.cell 1
  have a2 : w3.cell? ⟨W.heap.size + 1 + 1, 2, none⟩ = some (.int .i64 k) := R7.out.cell 2
  have a3 : w3.cell? ⟨W.heap.size + 1 + 1, 3, none⟩ = some (.int .u64 ol) := R7.out.cell 3
  have a4 : w3.cell? ⟨W.heap.size + 1 + 1, 4, none⟩ = some (.int .u64 nw) := R7.out.cell 4
  have q0 : w3.cell? ⟨W.heap.size, 2, none⟩ = some (.int .i64 k) := R3.out.cell 2
  have z0 := row1 HSH.out.box
  have l7 := R7.out.lt
  have lz := HSH.out.box.lt
  have hS0 : Below W.heap.size W w3.drew ∧ w3.drew.cell? ⟨W.heap.size + 1 + 1, 0, none⟩ = some (.int .i64 wh) ∧ w3.drew.cell? ⟨W.heap.size + 1 + 1, 1, none⟩ = some (.int .i64 kd) ∧ w3.drew.cell? ⟨W.heap.size + 1 + 1, 2, none⟩ = some (.int .i64 k) ∧ w3.drew.cell? ⟨W.heap.size + 1 + 1, 3, none⟩ = some (.int .u64 ol) ∧ w3.drew.cell? ⟨W.heap.size + 1 + 1, 4, none⟩ = some (.int .u64 nw) ∧ w3.drew.cell? ⟨W.heap.size, 2, none⟩ = some (.int .i64 k) ∧ w3.drew.cell? ⟨gs, 0, none⟩ = some (.slice (some ⟨ga, 0, none⟩) n n) ∧ W.heap.size + 1 + 1 < w3.drew.heap.size := ⟨HB.out.drew, a0, a1, a2, a3, a4, q0, z0, l7⟩
  clear a0 a1 a2 a3 a4 q0
  go_wp2_with fail
  go_region_held3 (fun wX => Below W.heap.size W wX ∧ wX.cell? ⟨W.heap.size + 1 + 1, 0, none⟩ = some (.int .i64 wh) ∧ wX.cell? ⟨W.heap.size + 1 + 1, 1, none⟩ = some (.int .i64 kd) ∧ wX.cell? ⟨W.heap.size + 1 + 1, 2, none⟩ = some (.int .i64 k) ∧ wX.cell? ⟨W.heap.size + 1 + 1, 3, none⟩ = some (.int .u64 ol) ∧ wX.cell? ⟨W.heap.size + 1 + 1, 4, none⟩ = some (.int .u64 nw) ∧ wX.cell? ⟨W.heap.size, 2, none⟩ = some (.int .i64 k) ∧ wX.cell? ⟨gs, 0, none⟩ = some (.slice (some ⟨ga, 0, none⟩) n n) ∧ W.heap.size + 1 + 1 < wX.heap.size)
    (first | exact hS0 | exact HS.out _ _ ‹_› hb | go_keep)
    (first | (go_at_call 35; (with_reducible refine (HC.out _).mono ?_); rintro e w5 ⟨rfl, hb⟩))
  have hb5 := (Below.refl w3.heap.size w3).drew.trans hb
  replace HB := hide (HB.out.trans (hb5.mono HB.out.size))
  replace R3 := hide (R3.out.below hb5)
  replace R5 := hide (R5.out.below hb5)
  replace R7 := hide (R7.out.below hb5)
  replace HSH := hide (HSH.out.below hb5)
  rename_i hHeld
  clear hHeld hb hb5 hS0 HS HC z0 l7 lz
  have HP : Hid (∀ w w', (w.cell? ⟨W.heap.size + 1 + 1, 0, none⟩ = some (.int .i64 wh) ∧ w.cell? ⟨W.heap.size + 1 + 1, 1, none⟩ = some (.int .i64 kd) ∧ w.cell? ⟨W.heap.size + 1 + 1, 2, none⟩ = some (.int .i64 k) ∧ w.cell? ⟨W.heap.size + 1 + 1, 3, none⟩ = some (.int .u64 ol) ∧ w.cell? ⟨W.heap.size + 1 + 1, 4, none⟩ = some (.int .u64 nw) ∧ w.cell? ⟨W.heap.size, 2, none⟩ = some (.int .i64 k) ∧ w.cell? ⟨gs, 0, none⟩ = some (.slice (some ⟨ga, 0, none⟩) n n) ∧ W.heap.size + 1 + 1 < w.heap.size) → Past ga w w' → (w'.cell? ⟨W.heap.size + 1 + 1, 0, none⟩ = some (.int .i64 wh) ∧ w'.cell? ⟨W.heap.size + 1 + 1, 1, none⟩ = some (.int .i64 kd) ∧ w'.cell? ⟨W.heap.size + 1 + 1, 2, none⟩ = some (.int .i64 k) ∧ w'.cell? ⟨W.heap.size + 1 + 1, 3, none⟩ = some (.int .u64 ol) ∧ w'.cell? ⟨W.heap.size + 1 + 1, 4, none⟩ = some (.int .u64 nw) ∧ w'.cell? ⟨W.heap.size, 2, none⟩ = some (.int .i64 k) ∧ w'.cell? ⟨gs, 0, none⟩ = some (.slice (some ⟨ga, 0, none⟩) n n) ∧ W.heap.size + 1 + 1 < w'.heap.size)) := hide (fun w w' h hb => ⟨(hb.cell _ (by show W.heap.size + 1 + 1 ≠ ga; omega) (by show W.heap.size + 1 + 1 < _; have := h.2.2.2.2.2.2.2; omega)).trans h.1, (hb.cell _ (by show W.heap.size + 1 + 1 ≠ ga; omega) (by show W.heap.size + 1 + 1 < _; have := h.2.2.2.2.2.2.2; omega)).trans h.2.1, (hb.cell _ (by show W.heap.size + 1 + 1 ≠ ga; omega) (by show W.heap.size + 1 + 1 < _; have := h.2.2.2.2.2.2.2; omega)).trans h.2.2.1, (hb.cell _ (by show W.heap.size + 1 + 1 ≠ ga; omega) (by show W.heap.size + 1 + 1 < _; have := h.2.2.2.2.2.2.2; omega)).trans h.2.2.2.1, (hb.cell _ (by show W.heap.size + 1 + 1 ≠ ga; omega) (by show W.heap.size + 1 + 1 < _; have := h.2.2.2.2.2.2.2; omega)).trans h.2.2.2.2.1, (hb.cell _ (by show W.heap.size ≠ ga; omega) (by show W.heap.size < _; have := h.2.2.2.2.2.2.2; omega)).trans h.2.2.2.2.2.1, (hb.cell _ (by show gs ≠ ga; omega) (by show gs < _; have := h.2.2.2.2.2.2.2; omega)).trans h.2.2.2.2.2.2.1, Nat.lt_of_lt_of_le h.2.2.2.2.2.2.2 hb.size⟩)
  have HT : Hid (∀ (w : World) (u v : Value), (w.cell? ⟨W.heap.size + 1 + 1, 0, none⟩ = some (.int .i64 wh) ∧ w.cell? ⟨W.heap.size + 1 + 1, 1, none⟩ = some (.int .i64 kd) ∧ w.cell? ⟨W.heap.size + 1 + 1, 2, none⟩ = some (.int .i64 k) ∧ w.cell? ⟨W.heap.size + 1 + 1, 3, none⟩ = some (.int .u64 ol) ∧ w.cell? ⟨W.heap.size + 1 + 1, 4, none⟩ = some (.int .u64 nw) ∧ w.cell? ⟨W.heap.size, 2, none⟩ = some (.int .i64 k) ∧ w.cell? ⟨gs, 0, none⟩ = some (.slice (some ⟨ga, 0, none⟩) n n) ∧ W.heap.size + 1 + 1 < w.heap.size) → (((w.setCell ⟨W.heap.size + 1, 0, none⟩ u).setCell ⟨W.heap.size + 1, 1, none⟩ v).cell? ⟨W.heap.size + 1 + 1, 0, none⟩ = some (.int .i64 wh) ∧ ((w.setCell ⟨W.heap.size + 1, 0, none⟩ u).setCell ⟨W.heap.size + 1, 1, none⟩ v).cell? ⟨W.heap.size + 1 + 1, 1, none⟩ = some (.int .i64 kd) ∧ ((w.setCell ⟨W.heap.size + 1, 0, none⟩ u).setCell ⟨W.heap.size + 1, 1, none⟩ v).cell? ⟨W.heap.size + 1 + 1, 2, none⟩ = some (.int .i64 k) ∧ ((w.setCell ⟨W.heap.size + 1, 0, none⟩ u).setCell ⟨W.heap.size + 1, 1, none⟩ v).cell? ⟨W.heap.size + 1 + 1, 3, none⟩ = some (.int .u64 ol) ∧ ((w.setCell ⟨W.heap.size + 1, 0, none⟩ u).setCell ⟨W.heap.size + 1, 1, none⟩ v).cell? ⟨W.heap.size + 1 + 1, 4, none⟩ = some (.int .u64 nw) ∧ ((w.setCell ⟨W.heap.size + 1, 0, none⟩ u).setCell ⟨W.heap.size + 1, 1, none⟩ v).cell? ⟨W.heap.size, 2, none⟩ = some (.int .i64 k) ∧ ((w.setCell ⟨W.heap.size + 1, 0, none⟩ u).setCell ⟨W.heap.size + 1, 1, none⟩ v).cell? ⟨gs, 0, none⟩ = some (.slice (some ⟨ga, 0, none⟩) n n) ∧ W.heap.size + 1 + 1 < ((w.setCell ⟨W.heap.size + 1, 0, none⟩ u).setCell ⟨W.heap.size + 1, 1, none⟩ v).heap.size)) := hide (fun w u v h => ⟨cell_set2 h.1 (by omega), cell_set2 h.2.1 (by omega), cell_set2 h.2.2.1 (by omega), cell_set2 h.2.2.2.1 (by omega), cell_set2 h.2.2.2.2.1 (by omega), cell_set2 h.2.2.2.2.2.1 (by omega), cell_set2 h.2.2.2.2.2.2.1 (by omega), by simpa using h.2.2.2.2.2.2.2⟩)
  have a0 : w5.cell? ⟨W.heap.size + 1 + 1, 0, none⟩ = some (.int .i64 wh) := R7.out.cell 0
  have a1 : w5.cell? ⟨W.heap.size + 1 + 1, 1, none⟩ = some (.int .i64 kd) := R7.out.cell 1
  have a2 : w5.cell? ⟨W.heap.size + 1 + 1, 2, none⟩ = some (.int .i64 k) := R7.out.cell 2
  have a3 : w5.cell? ⟨W.heap.size + 1 + 1, 3, none⟩ = some (.int .u64 ol) := R7.out.cell 3
  have a4 : w5.cell? ⟨W.heap.size + 1 + 1, 4, none⟩ = some (.int .u64 nw) := R7.out.cell 4
  have q0 : w5.cell? ⟨W.heap.size, 2, none⟩ = some (.int .i64 k) := R3.out.cell 2
  have z0 := row1 HSH.out.box
  have l7 := R7.out.lt
  have lz := HSH.out.box.lt
  have hS0 : w5.drew.cell? ⟨W.heap.size + 1 + 1, 0, none⟩ = some (.int .i64 wh) ∧ w5.drew.cell? ⟨W.heap.size + 1 + 1, 1, none⟩ = some (.int .i64 kd) ∧ w5.drew.cell? ⟨W.heap.size + 1 + 1, 2, none⟩ = some (.int .i64 k) ∧ w5.drew.cell? ⟨W.heap.size + 1 + 1, 3, none⟩ = some (.int .u64 ol) ∧ w5.drew.cell? ⟨W.heap.size + 1 + 1, 4, none⟩ = some (.int .u64 nw) ∧ w5.drew.cell? ⟨W.heap.size, 2, none⟩ = some (.int .i64 k) ∧ w5.drew.cell? ⟨gs, 0, none⟩ = some (.slice (some ⟨ga, 0, none⟩) n n) ∧ W.heap.size + 1 + 1 < w5.drew.heap.size := ⟨a0, a1, a2, a3, a4, q0, z0, l7⟩
  have hk1 : (k : Int) < 8192 := by omega
  have hadd : (⟨ga, 0, none⟩ : Addr).add k = ⟨ga, k, none⟩ := by by_cases h : k = 0 <;> simp [Addr.add, h]
  clear a0 a1 a2 a3 a4 q0
  go_wp2_with fail
  go_region_held3 (fun wX => wX.cell? ⟨W.heap.size + 1 + 1, 0, none⟩ = some (.int .i64 wh) ∧ wX.cell? ⟨W.heap.size + 1 + 1, 1, none⟩ = some (.int .i64 kd) ∧ wX.cell? ⟨W.heap.size + 1 + 1, 2, none⟩ = some (.int .i64 k) ∧ wX.cell? ⟨W.heap.size + 1 + 1, 3, none⟩ = some (.int .u64 ol) ∧ wX.cell? ⟨W.heap.size + 1 + 1, 4, none⟩ = some (.int .u64 nw) ∧ wX.cell? ⟨W.heap.size, 2, none⟩ = some (.int .i64 k) ∧ wX.cell? ⟨gs, 0, none⟩ = some (.slice (some ⟨ga, 0, none⟩) n n) ∧ W.heap.size + 1 + 1 < wX.heap.size)
    (first | exact hS0 | exact HP.out _ _ ‹_› hpq | exact HT.out _ _ _ (HP.out _ _ hS0 hpq) | go_keep)
    (first | (go_at_call 36; (with_reducible refine (HD.out _ HSH.out.row.drew).mono ?_); rintro e w8 ⟨rfl, hrowq, hpq⟩; have RS := R5.out.drew.past hpq (show W.heap.size + 1 ≠ ga by omega); have rs0 := row20 RS; have rs1 := row21 RS; have rsl := RS.lt; have rsf0 := RS.frozen 0; have rsf1 := RS.frozen 1))
  rename_i hHeld
  clear hHeld HP HT hS0 hadd HD rs0 rs1 rsl rsf0 rsf1 z0 l7 lz
  have R9s := (RS.set 0 (.int .u64 q)).set 1 (.bool d)
  simp only [List.setIfInBounds_toArray, List.set_cons_zero, List.set_cons_succ] at R9s
  have hgw5 : ga < w5.heap.size := HSH.out.row.lt
  have hP9 : Past ga W ((w8.setCell ⟨W.heap.size + 1, 0, none⟩ (.int .u64 q)).setCell ⟨W.heap.size + 1, 1, none⟩ (.bool d)) := (((Past.of_below hga HB.out).trans (hpq.ofDrew)).setHi (by omega) (Nat.le_succ _) 0 _).setHi (by omega) (Nat.le_succ _) 1 _
  have hR9 := (hrowq.setNe (show ga ≠ W.heap.size + 1 by omega) (o := 0) (v := .int .u64 q)).setNe (show ga ≠ W.heap.size + 1 by omega) (o := 1) (v := .bool d)
  have hX9 := ((HSH.out.box.drew.past hpq (Ne.symm hne)).setNe (show gs ≠ W.heap.size + 1 by omega) (o := 0) (v := .int .u64 q)).setNe (show gs ≠ W.heap.size + 1 by omega) (o := 1) (v := .bool d)
  have hfin : ShP ((w8.setCell ⟨W.heap.size + 1, 0, none⟩ (.int .u64 q)).setCell ⟨W.heap.size + 1, 1, none⟩ (.bool d)) gs ga n Y := ⟨HLY.out, n1, n2, hne, hX9, hR9⟩
  have HFIN := hide hfin
  have HP9 := hide hP9
  clear hP9 hR9 hX9 hfin hrowq hpq RS
  generalize ((w8.setCell ⟨W.heap.size + 1, 0, none⟩ (.int .u64 q)).setCell ⟨W.heap.size + 1, 1, none⟩ (.bool d)) = w9 at *
  go_wp2_with fail
  (try rw [Exit.noGoto_ret])
  refine bodyPost_ret (v := .tuple #[.agg #[.int .u64 q, .bool d], .int .i64 0]) (by simp [results, Try.results13, go_sem, row20 R9s, row21 R9s, R9s.lt]) rfl ⟨rfl, HFIN.out, HP9.out⟩
end Go.Proofs.Ytadgihmokmfejaa
