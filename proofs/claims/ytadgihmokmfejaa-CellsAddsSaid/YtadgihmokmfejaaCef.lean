/-
  A plain cell that an access changes.
-/
import Derived.Test.YtadgihmokmfejaaCee
set_option linter.unusedSimpArgs false
set_option linter.unusedVariables false
namespace Go.Proofs.Ytadgihmokmfejaa
open Go Go.RowKit
attribute [local go_sem] via_cell via_frozen

theorem row_word {w : World} {g : Nat} {t : TypeId} {X : List Int} (h : RowAt w g t (Cs encW X).toArray) {k : Nat} (hk : k < X.length) : w.cell? ⟨g, k, none⟩ = some (.int .u64 (ceAt X k)) := by
  rw [h.cell]
  have : ceAt X k = X[k] := by unfold ceAt; rw [Int.toNat_natCast, List.getD_eq_getElem?_getD, List.getElem?_eq_getElem hk]; rfl
  rw [this, encW_map]
  simp [hk]
theorem row_set {w : World} {g : Nat} {t : TypeId} {X : List Int} (h : RowAt w g t (Cs encW X).toArray) (k : Nat) (u : Int) : RowAt (w.setCell ⟨g, k, none⟩ (.int .u64 u)) g t (Cs encW (X.set k u)).toArray := by
  have := h.set k (.int .u64 u)
  rw [List.setIfInBounds_toArray, encW_set] at this
  exact this

/-- What a cell's change comes to: the block g holds other words, nothing else is other. -/
def CellRes (W : World) (g : Nat) (t : TypeId) (Y : List Int) (v : Value) (x : Ending) (W' : World) : Prop := x = .returned v ∧ RowAt W' g t (Cs encW Y).toArray ∧ Past g W W'

theorem pswap_any (g k : Nat) (t : TypeId) (X : List Int) (ol nw : Int) (W : World) (h : RowAt W g t (Cs encW X).toArray) (hk : k < X.length) (Y : List Int) (hY : (if ceAt X k = ol then X.set k nw else X) = Y) (r : Bool) (hr : (ceAt X k == ol) = r) :
    Calls Try.prog 72 #[.agg #[.slice (some ⟨g, k, none⟩) 1 1], .int .u64 ol, .int .u64 nw] W (CellRes W g t Y (.bool r)) := by
  have hd := row_word h hk
  have hf := h.frozen k
  have hl := h.lt
  have H := hide h
  have HB := hide (show Below W.heap.size W (W.alloc (.cells #[.slice (some ⟨g, k, none⟩) 1 1] 86)) from (Below.refl _ _).alloc (Nat.le_refl _) _)
  have HY := hide hY
  clear hY h hk
  obtain ⟨q, hq⟩ : ∃ q, ceAt X k = q := ⟨_, rfl⟩
  have HQ := hide hq
  rw [hq] at hd hr
  clear hq
  by_cases e : q = ol
  · have he : (q != ol) = false := by simpa using e
    obtain rfl : true = r := by rw [← hr]; simpa using e
    have HE := hide e
    clear e hr
    go_enter Try.func72, Try.ntmps72
    go_wp2_with fail
    go_ret
    have hX : X.set k nw = Y := by have h := HY.out; rw [HQ.out, if_pos HE.out] at h; exact h
    refine ⟨rfl, ?_, ?_⟩
    · rw [← hX]; exact (row_set H.out k nw).below ((Below.refl _ _).alloc (Nat.le_refl _) _)
    · exact (Past.set k _).trans (Past.alloc (by rw [World.size_setCell]; exact hl) _)
  · have he : (q != ol) = true := by simpa using e
    obtain rfl : false = r := by rw [← hr]; simpa using e
    have HE := hide e
    clear e hr
    go_enter Try.func72, Try.ntmps72
    go_wp2_with fail
    go_ret
    have hX : X = Y := by have h := HY.out; rw [HQ.out, if_neg HE.out] at h; exact h
    refine ⟨rfl, ?_, ?_⟩
    · rw [← hX]; exact H.out.below HB.out
    · exact Past.of_below hl HB.out

theorem store1_any (gb : Nat) (wh kd at_ ol nw x : Int) (W : World) (h : RowAt W gb 77 #[.int .i64 wh, .int .i64 kd, .int .i64 at_, .int .u64 ol, .int .u64 nw]) :
    Calls Try.prog 50 #[.int .u64 x, .pointer (some ⟨gb, 0, none⟩)] W fun e W' => e = .returned (.int .u64 nw) ∧ W = W' := by
  have h4 : W.cell? ⟨gb, 4, none⟩ = some (.int .u64 nw) := h.cell 4
  have hl := h.lt
  clear h
  go_enter Try.func50, Try.ntmps50
  go_wp2_with fail
  go_ret
  exact ⟨rfl, rfl⟩
theorem add1_any (gb : Nat) (wh kd at_ ol nw x : Int) (W : World) (h : RowAt W gb 77 #[.int .i64 wh, .int .i64 kd, .int .i64 at_, .int .u64 ol, .int .u64 nw]) :
    Calls Try.prog 51 #[.int .u64 x, .pointer (some ⟨gb, 0, none⟩)] W fun e W' => e = .returned (.int .u64 ((x + nw) % 18446744073709551616)) ∧ W = W' := by
  have h4 : W.cell? ⟨gb, 4, none⟩ = some (.int .u64 nw) := h.cell 4
  have hl := h.lt
  have hwr : IntKind.u64.wrap (x + nw) = (x + nw) % 18446744073709551616 := rfl
  clear h
  go_enter Try.func51, Try.ntmps51
  go_wp2_with fail
  go_ret
  exact ⟨rfl, rfl⟩

theorem Past.setHi {k p : Nat} {w w' : World} (h : Past k w w') (hk : k ≤ p) (hp : w.heap.size ≤ p) (o : Nat) (v : Value) : Past k w (w'.setCell ⟨p, o, none⟩ v) :=
  ⟨h.below.setCell (p := ⟨p, o, none⟩) hk v, fun j h1 h2 => (heap_setCell_ne _ _ _ _ (by show j ≠ p; omega)).trans (h.block j h1 h2), by simpa using h.size⟩
theorem pnil (g k : Nat) (w : World) : (nilAhead 218 86 (.agg #[.slice (some ⟨g, k, none⟩) 1 1]) "honeycomb/cells.swap").run Try.prog w = .ok (some false) w := by
  first | kernel_rfl | rfl

set_option maxRecDepth 100000 in
set_option maxHeartbeats 2000000 in
theorem change_any (g k cl : Nat) (t : TypeId) (X : List Int) (u : Int) (cs : Array Value) (hcs : ∃ wh kd at_ ol nw : Int, cs = #[.int .i64 wh, .int .i64 kd, .int .i64 at_, .int .u64 ol, .int .u64 nw]) (lb : Array Value) (W : World) (h : RowAt W g t (Cs encW X).toArray) (hk : k < X.length) (hg : ∀ args w, (callFunc cl args).run Try.prog w = .ok (.enter cl args) w)
    (HC : ∀ w, Past g W w → Calls Try.prog cl (#[.int .u64 (ceAt X k)] ++ lb) w fun e w' => e = .returned (.int .u64 u) ∧ w = w') :
    Calls Try.prog 49 #[.agg cs, .iface 86 (.agg #[.slice (some ⟨g, k, none⟩) 1 1]), .func (.func cl) #[] lb] W (CellRes W g t (X.set k u) (.agg #[.int .u64 (ceAt X k), .bool true])) := by
  obtain ⟨wh, kd, at_, ol, nw, rfl⟩ := hcs
  have HC := hide HC
  have H := hide h
  obtain ⟨q, hq⟩ : ∃ q, ceAt X k = q := ⟨_, rfl⟩
  have HP := hide (fun w (h : RowAt w g t (Cs encW X).toArray) => pload_any g k q w (by rw [← hq]; exact row_word h hk) h.lt)
  have HS := hide (fun w (h : RowAt w g t (Cs encW X).toArray) => pswap_any g k t X q u w h hk (X.set k u) (by rw [if_pos hq]) true (by simpa using hq))
  rw [hq] at HC ⊢
  clear hq h
  have HB := hide (show Below W.heap.size W ((W.alloc (.cells #[.int .i64 wh, .int .i64 kd, .int .i64 at_, .int .u64 ol, .int .u64 nw] 77)).alloc (.cells #[.int .u64 0, .bool false] 33)) from ((Below.refl _ _).alloc (Nat.le_refl _) _).alloc (by simp) _)
  have R5 := hide (show RowAt ((W.alloc (.cells #[.int .i64 wh, .int .i64 kd, .int .i64 at_, .int .u64 ol, .int .u64 nw] 77)).alloc (.cells #[.int .u64 0, .bool false] 33)) (W.heap.size + 1) 33 #[.int .u64 0, .bool false] from by
    have h := RowAt.new (W.alloc (.cells #[.int .i64 wh, .int .i64 kd, .int .i64 at_, .int .u64 ol, .int .u64 nw] 77)) 33 #[.int .u64 0, .bool false]
    rw [World.size_alloc] at h
    exact h)
  go_enter Try.func49, Try.ntmps49
  go_wp2_with fail
  generalize ((W.alloc (.cells #[.int .i64 wh, .int .i64 kd, .int .i64 at_, .int .u64 ol, .int .u64 nw] 77)).alloc (.cells #[.int .u64 0, .bool false] 33)) = w2 at *
  have R := hide (H.out.below HB.out)
  go_step3
  go_wp2_with fail
  go_step3
  go_wp2_with fail
  go_loopw [7] (fun v wr => wr = w2) (fun _ _ => 0)
  case atStart => rfl
  case round =>
    obtain rfl := hrel
    go_wp2_with fail
    with_reducible refine (HP.out _ R.out).mono ?_
    rintro e w3 ⟨rfl, hb⟩
    have R3 := hide (R.out.below hb)
    have HCL := hide (HC.out w3.drew ((Past.of_below H.out.lt (HB.out.trans (hb.mono HB.out.size))).drew))
    have HSW := hide (HS.out w3.drew R3.out.drew)
    have hpast : Past g W w3.drew := (Past.of_below H.out.lt (HB.out.trans (hb.mono HB.out.size))).drew
    go_wp2_with fail
    have hna := pnil g k
    go_region_with (first | ((with_reducible refine HCL.out.mono ?_); rintro e wq ⟨rfl, rfl⟩) | (go_at_call 72; (with_reducible refine HSW.out.mono ?_); rintro e wq ⟨rfl, hrow, hpq⟩))
    all_goals
      have hgl := H.out.lt
      have R9 := ((R5.out.below hb).drew).past hpq (show W.heap.size + 1 ≠ g by omega)
      have q0 := row20 R9
      have q1 := row21 R9
      have lq := R9.lt
      have f0 := R9.frozen 0
      have f1 := R9.frozen 1
      have hp9 := (((hpast.trans hpq).setHi (Nat.le_of_lt (Nat.lt_succ_of_lt hgl)) (Nat.le_succ _) 0 (.int .u64 q)).setHi (Nat.le_of_lt (Nat.lt_succ_of_lt hgl)) (Nat.le_succ _) 1 (.bool true))
      have hrow9 := (hrow.setNe (show g ≠ W.heap.size + 1 by omega) (o := 0) (v := .int .u64 q)).setNe (show g ≠ W.heap.size + 1 by omega) (o := 1) (v := .bool true)
      have R9s := (R9.set 0 (.int .u64 q)).set 1 (.bool true)
      simp only [List.setIfInBounds_toArray, List.set_cons_zero, List.set_cons_succ] at R9s
      clear hrow hpq hpast
      go_wp2_with fail
      rw [Exit.noGoto_ret]
      refine bodyPost_ret (v := .agg #[.int .u64 q, .bool true]) (by simp [results, Try.results49, go_sem, row20 R9s, row21 R9s, R9s.lt]) rfl ⟨rfl, hrow9, hp9⟩
end Go.Proofs.Ytadgihmokmfejaa
