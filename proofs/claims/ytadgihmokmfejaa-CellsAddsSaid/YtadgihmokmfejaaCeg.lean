/-
  The ways of an access: load, store, swap, add; of a plain cell.
-/
import Derived.Test.YtadgihmokmfejaaCef
set_option linter.unusedSimpArgs false
set_option linter.unusedVariables false
namespace Go.Proofs.Ytadgihmokmfejaa
open Go Go.RowKit
attribute [local go_sem] via_cell via_frozen

set_option maxRecDepth 100000 in
set_option maxHeartbeats 2000000 in
theorem load_any (g k : Nat) (t : TypeId) (X : List Int) (wh kd at_ ol nw : Int) (W : World) (h : RowAt W g t (Cs encW X).toArray) (hk : k < X.length) :
    Calls Try.prog 43 #[.agg #[.int .i64 wh, .int .i64 kd, .int .i64 at_, .int .u64 ol, .int .u64 nw], .iface 86 (.agg #[.slice (some ⟨g, k, none⟩) 1 1])] W (CellRes W g t X (.agg #[.int .u64 (ceAt X k), .bool true])) := by
  have H := hide h
  have hgl := h.lt
  have HK := hide hk
  have HB := hide (show Below W.heap.size W ((W.alloc (.cells #[.int .i64 wh, .int .i64 kd, .int .i64 at_, .int .u64 ol, .int .u64 nw] 77)).alloc (.cells #[.int .u64 0, .bool false] 33)) from ((Below.refl _ _).alloc (Nat.le_refl _) _).alloc (by simp) _)
  have R3 := hide (show RowAt ((W.alloc (.cells #[.int .i64 wh, .int .i64 kd, .int .i64 at_, .int .u64 ol, .int .u64 nw] 77)).alloc (.cells #[.int .u64 0, .bool false] 33)) W.heap.size 77 #[.int .i64 wh, .int .i64 kd, .int .i64 at_, .int .u64 ol, .int .u64 nw] from (RowAt.new W 77 _).below ((Below.refl _ _).alloc (Nat.le_refl _) _))
  have R5 := hide (show RowAt ((W.alloc (.cells #[.int .i64 wh, .int .i64 kd, .int .i64 at_, .int .u64 ol, .int .u64 nw] 77)).alloc (.cells #[.int .u64 0, .bool false] 33)) (W.heap.size + 1) 33 #[.int .u64 0, .bool false] from by
    have h := RowAt.new (W.alloc (.cells #[.int .i64 wh, .int .i64 kd, .int .i64 at_, .int .u64 ol, .int .u64 nw] 77)) 33 #[.int .u64 0, .bool false]
    rw [World.size_alloc] at h
    exact h)
  obtain ⟨q, hq⟩ : ∃ q, ceAt X k = q := ⟨_, rfl⟩
  have HP := hide (fun w (h : RowAt w g t (Cs encW X).toArray) => pload_any g k q w (by rw [← hq]; exact row_word h hk) h.lt)
  rw [hq]
  clear h hk hq
  go_enter Try.func43, Try.ntmps43
  go_wp2_with fail
  generalize ((W.alloc (.cells #[.int .i64 wh, .int .i64 kd, .int .i64 at_, .int .u64 ol, .int .u64 nw] 77)).alloc (.cells #[.int .u64 0, .bool false] 33)) = w2 at *
  have R := hide (H.out.below HB.out)
  with_reducible refine (HP.out _ R.out).mono ?_
  rintro e w3 ⟨rfl, hb⟩
  have R5x := R5.out.below hb
  have hpx : Past g W w3 := Past.of_below hgl (HB.out.trans (hb.mono HB.out.size))
  have hrowx := R.out.below hb
  have R9 := R5x
  have q0 := row20 R9
  have q1 := row21 R9
  have lq := R9.lt
  have f0 := R9.frozen 0
  have f1 := R9.frozen 1
  have hp9 := ((hpx.setHi (Nat.le_of_lt (Nat.lt_succ_of_lt hgl)) (Nat.le_succ _) 0 (.int .u64 q)).setHi (Nat.le_of_lt (Nat.lt_succ_of_lt hgl)) (Nat.le_succ _) 1 (.bool true))
  have hrow9 := (hrowx.setNe (show g ≠ W.heap.size + 1 by omega) (o := 0) (v := .int .u64 q)).setNe (show g ≠ W.heap.size + 1 by omega) (o := 1) (v := .bool true)
  have R9s := (R9.set 0 (.int .u64 q)).set 1 (.bool true)
  simp only [List.setIfInBounds_toArray, List.set_cons_zero, List.set_cons_succ] at R9s
  clear hrowx hpx R5x
  go_wp2_with fail
  (try rw [Exit.noGoto_ret])
  refine bodyPost_ret (v := .agg #[.int .u64 q, .bool true]) (by simp [results, Try.results43, go_sem, row20 R9s, row21 R9s, R9s.lt]) rfl ⟨rfl, hrow9, hp9⟩

set_option maxRecDepth 100000 in
set_option maxHeartbeats 2000000 in
theorem store_any (g k : Nat) (t : TypeId) (X : List Int) (wh kd at_ ol nw : Int) (W : World) (h : RowAt W g t (Cs encW X).toArray) (hk : k < X.length) :
    Calls Try.prog 44 #[.agg #[.int .i64 wh, .int .i64 kd, .int .i64 at_, .int .u64 ol, .int .u64 nw], .iface 86 (.agg #[.slice (some ⟨g, k, none⟩) 1 1])] W (CellRes W g t (X.set k (nw)) (.agg #[.int .u64 (ceAt X k), .bool true])) := by
  have H := hide h
  have hgl := h.lt
  have HK := hide hk
  have HB := hide (show Below W.heap.size W ((W.alloc (.cells #[.int .i64 wh, .int .i64 kd, .int .i64 at_, .int .u64 ol, .int .u64 nw] 77)).alloc (.cells #[.int .u64 0, .bool false] 33)) from ((Below.refl _ _).alloc (Nat.le_refl _) _).alloc (by simp) _)
  have R3 := hide (show RowAt ((W.alloc (.cells #[.int .i64 wh, .int .i64 kd, .int .i64 at_, .int .u64 ol, .int .u64 nw] 77)).alloc (.cells #[.int .u64 0, .bool false] 33)) W.heap.size 77 #[.int .i64 wh, .int .i64 kd, .int .i64 at_, .int .u64 ol, .int .u64 nw] from (RowAt.new W 77 _).below ((Below.refl _ _).alloc (Nat.le_refl _) _))
  have R5 := hide (show RowAt ((W.alloc (.cells #[.int .i64 wh, .int .i64 kd, .int .i64 at_, .int .u64 ol, .int .u64 nw] 77)).alloc (.cells #[.int .u64 0, .bool false] 33)) (W.heap.size + 1) 33 #[.int .u64 0, .bool false] from by
    have h := RowAt.new (W.alloc (.cells #[.int .i64 wh, .int .i64 kd, .int .i64 at_, .int .u64 ol, .int .u64 nw] 77)) 33 #[.int .u64 0, .bool false]
    rw [World.size_alloc] at h
    exact h)
  have HCH := hide (fun w2 (h1 : RowAt w2 g t (Cs encW X).toArray) (h2 : RowAt w2 W.heap.size 77 #[.int .i64 wh, .int .i64 kd, .int .i64 at_, .int .u64 ol, .int .u64 nw]) => change_any g k 50 t X (nw) #[.int .i64 wh, .int .i64 kd, .int .i64 at_, .int .u64 ol, .int .u64 nw] ⟨wh, kd, at_, ol, nw, rfl⟩ #[.pointer (some ⟨W.heap.size, 0, none⟩)] w2 h1 hk (enters_of Try.func50 (by kernel_rfl) rfl) (fun w hp => store1_any W.heap.size wh kd at_ ol nw _ w (h2.past hp (show W.heap.size ≠ g by omega))))
  generalize X.set k (nw) = Y at *
  generalize ceAt X k = q at *
  clear h hk
  have hr3 := (fun (w : World) (hr : RowAt w W.heap.size 77 #[.int .i64 wh, .int .i64 kd, .int .i64 at_, .int .u64 ol, .int .u64 nw]) => (⟨hr.cell 0, hr.cell 1, hr.cell 2, hr.cell 3, hr.cell 4, hr.lt⟩ : w.cell? ⟨W.heap.size, 0, none⟩ = some (.int .i64 wh) ∧ w.cell? ⟨W.heap.size, 1, none⟩ = some (.int .i64 kd) ∧ w.cell? ⟨W.heap.size, 2, none⟩ = some (.int .i64 at_) ∧ w.cell? ⟨W.heap.size, 3, none⟩ = some (.int .u64 ol) ∧ w.cell? ⟨W.heap.size, 4, none⟩ = some (.int .u64 nw) ∧ W.heap.size < w.heap.size))
  go_enter Try.func44, Try.ntmps44
  go_wp2_with fail
  generalize ((W.alloc (.cells #[.int .i64 wh, .int .i64 kd, .int .i64 at_, .int .u64 ol, .int .u64 nw] 77)).alloc (.cells #[.int .u64 0, .bool false] 33)) = w2 at *
  have R := hide (H.out.below HB.out)
  with_reducible refine (HCH.out _ R.out R3.out).mono ?_
  rintro e w3 ⟨rfl, hrowx, hpq⟩
  have R5x := R5.out.past hpq (show W.heap.size + 1 ≠ g by omega)
  have hpx : Past g W w3 := (Past.of_below hgl HB.out).trans hpq
  clear hpq
  have R9 := R5x
  have q0 := row20 R9
  have q1 := row21 R9
  have lq := R9.lt
  have f0 := R9.frozen 0
  have f1 := R9.frozen 1
  have hp9 := ((hpx.setHi (Nat.le_of_lt (Nat.lt_succ_of_lt hgl)) (Nat.le_succ _) 0 (.int .u64 q)).setHi (Nat.le_of_lt (Nat.lt_succ_of_lt hgl)) (Nat.le_succ _) 1 (.bool true))
  have hrow9 := (hrowx.setNe (show g ≠ W.heap.size + 1 by omega) (o := 0) (v := .int .u64 q)).setNe (show g ≠ W.heap.size + 1 by omega) (o := 1) (v := .bool true)
  have R9s := (R9.set 0 (.int .u64 q)).set 1 (.bool true)
  simp only [List.setIfInBounds_toArray, List.set_cons_zero, List.set_cons_succ] at R9s
  clear hrowx hpx R5x
  go_wp2_with fail
  (try rw [Exit.noGoto_ret])
  refine bodyPost_ret (v := .agg #[.int .u64 q, .bool true]) (by simp [results, Try.results44, go_sem, row20 R9s, row21 R9s, R9s.lt]) rfl ⟨rfl, hrow9, hp9⟩

set_option maxRecDepth 100000 in
set_option maxHeartbeats 2000000 in
theorem add_any (g k : Nat) (t : TypeId) (X : List Int) (wh kd at_ ol nw : Int) (W : World) (h : RowAt W g t (Cs encW X).toArray) (hk : k < X.length) :
    Calls Try.prog 46 #[.agg #[.int .i64 wh, .int .i64 kd, .int .i64 at_, .int .u64 ol, .int .u64 nw], .iface 86 (.agg #[.slice (some ⟨g, k, none⟩) 1 1])] W (CellRes W g t (X.set k ((ceAt X k + nw) % 18446744073709551616)) (.agg #[.int .u64 (ceAt X k), .bool true])) := by
  have H := hide h
  have hgl := h.lt
  have HK := hide hk
  have HB := hide (show Below W.heap.size W ((W.alloc (.cells #[.int .i64 wh, .int .i64 kd, .int .i64 at_, .int .u64 ol, .int .u64 nw] 77)).alloc (.cells #[.int .u64 0, .bool false] 33)) from ((Below.refl _ _).alloc (Nat.le_refl _) _).alloc (by simp) _)
  have R3 := hide (show RowAt ((W.alloc (.cells #[.int .i64 wh, .int .i64 kd, .int .i64 at_, .int .u64 ol, .int .u64 nw] 77)).alloc (.cells #[.int .u64 0, .bool false] 33)) W.heap.size 77 #[.int .i64 wh, .int .i64 kd, .int .i64 at_, .int .u64 ol, .int .u64 nw] from (RowAt.new W 77 _).below ((Below.refl _ _).alloc (Nat.le_refl _) _))
  have R5 := hide (show RowAt ((W.alloc (.cells #[.int .i64 wh, .int .i64 kd, .int .i64 at_, .int .u64 ol, .int .u64 nw] 77)).alloc (.cells #[.int .u64 0, .bool false] 33)) (W.heap.size + 1) 33 #[.int .u64 0, .bool false] from by
    have h := RowAt.new (W.alloc (.cells #[.int .i64 wh, .int .i64 kd, .int .i64 at_, .int .u64 ol, .int .u64 nw] 77)) 33 #[.int .u64 0, .bool false]
    rw [World.size_alloc] at h
    exact h)
  have HCH := hide (fun w2 (h1 : RowAt w2 g t (Cs encW X).toArray) (h2 : RowAt w2 W.heap.size 77 #[.int .i64 wh, .int .i64 kd, .int .i64 at_, .int .u64 ol, .int .u64 nw]) => change_any g k 51 t X ((ceAt X k + nw) % 18446744073709551616) #[.int .i64 wh, .int .i64 kd, .int .i64 at_, .int .u64 ol, .int .u64 nw] ⟨wh, kd, at_, ol, nw, rfl⟩ #[.pointer (some ⟨W.heap.size, 0, none⟩)] w2 h1 hk (enters_of Try.func51 (by kernel_rfl) rfl) (fun w hp => add1_any W.heap.size wh kd at_ ol nw _ w (h2.past hp (show W.heap.size ≠ g by omega))))
  generalize X.set k ((ceAt X k + nw) % 18446744073709551616) = Y at *
  generalize ceAt X k = q at *
  clear h hk
  have hr3 := (fun (w : World) (hr : RowAt w W.heap.size 77 #[.int .i64 wh, .int .i64 kd, .int .i64 at_, .int .u64 ol, .int .u64 nw]) => (⟨hr.cell 0, hr.cell 1, hr.cell 2, hr.cell 3, hr.cell 4, hr.lt⟩ : w.cell? ⟨W.heap.size, 0, none⟩ = some (.int .i64 wh) ∧ w.cell? ⟨W.heap.size, 1, none⟩ = some (.int .i64 kd) ∧ w.cell? ⟨W.heap.size, 2, none⟩ = some (.int .i64 at_) ∧ w.cell? ⟨W.heap.size, 3, none⟩ = some (.int .u64 ol) ∧ w.cell? ⟨W.heap.size, 4, none⟩ = some (.int .u64 nw) ∧ W.heap.size < w.heap.size))
  go_enter Try.func46, Try.ntmps46
  go_wp2_with fail
  generalize ((W.alloc (.cells #[.int .i64 wh, .int .i64 kd, .int .i64 at_, .int .u64 ol, .int .u64 nw] 77)).alloc (.cells #[.int .u64 0, .bool false] 33)) = w2 at *
  have R := hide (H.out.below HB.out)
  with_reducible refine (HCH.out _ R.out R3.out).mono ?_
  rintro e w3 ⟨rfl, hrowx, hpq⟩
  have R5x := R5.out.past hpq (show W.heap.size + 1 ≠ g by omega)
  have hpx : Past g W w3 := (Past.of_below hgl HB.out).trans hpq
  clear hpq
  have R9 := R5x
  have q0 := row20 R9
  have q1 := row21 R9
  have lq := R9.lt
  have f0 := R9.frozen 0
  have f1 := R9.frozen 1
  have hp9 := ((hpx.setHi (Nat.le_of_lt (Nat.lt_succ_of_lt hgl)) (Nat.le_succ _) 0 (.int .u64 q)).setHi (Nat.le_of_lt (Nat.lt_succ_of_lt hgl)) (Nat.le_succ _) 1 (.bool true))
  have hrow9 := (hrowx.setNe (show g ≠ W.heap.size + 1 by omega) (o := 0) (v := .int .u64 q)).setNe (show g ≠ W.heap.size + 1 by omega) (o := 1) (v := .bool true)
  have R9s := (R9.set 0 (.int .u64 q)).set 1 (.bool true)
  simp only [List.setIfInBounds_toArray, List.set_cons_zero, List.set_cons_succ] at R9s
  clear hrowx hpx R5x
  go_wp2_with fail
  (try rw [Exit.noGoto_ret])
  refine bodyPost_ret (v := .agg #[.int .u64 q, .bool true]) (by simp [results, Try.results46, go_sem, row20 R9s, row21 R9s, R9s.lt]) rfl ⟨rfl, hrow9, hp9⟩

set_option maxRecDepth 100000 in
set_option maxHeartbeats 2000000 in
theorem swap_any (g k : Nat) (t : TypeId) (X : List Int) (wh kd at_ ol nw : Int) (W : World) (h : RowAt W g t (Cs encW X).toArray) (hk : k < X.length) (Y : List Int) (hY : (if ceAt X k = ol then X.set k nw else X) = Y) :
    Calls Try.prog 45 #[.agg #[.int .i64 wh, .int .i64 kd, .int .i64 at_, .int .u64 ol, .int .u64 nw], .iface 86 (.agg #[.slice (some ⟨g, k, none⟩) 1 1])] W (CellRes W g t Y (.agg #[.int .u64 (ceAt X k), .bool (ceAt X k == ol)])) := by
  have H := hide h
  have hgl := h.lt
  have HK := hide hk
  have HB := hide (show Below W.heap.size W ((W.alloc (.cells #[.int .i64 wh, .int .i64 kd, .int .i64 at_, .int .u64 ol, .int .u64 nw] 77)).alloc (.cells #[.int .u64 0, .bool false] 33)) from ((Below.refl _ _).alloc (Nat.le_refl _) _).alloc (by simp) _)
  have R3 := hide (show RowAt ((W.alloc (.cells #[.int .i64 wh, .int .i64 kd, .int .i64 at_, .int .u64 ol, .int .u64 nw] 77)).alloc (.cells #[.int .u64 0, .bool false] 33)) W.heap.size 77 #[.int .i64 wh, .int .i64 kd, .int .i64 at_, .int .u64 ol, .int .u64 nw] from (RowAt.new W 77 _).below ((Below.refl _ _).alloc (Nat.le_refl _) _))
  have R5 := hide (show RowAt ((W.alloc (.cells #[.int .i64 wh, .int .i64 kd, .int .i64 at_, .int .u64 ol, .int .u64 nw] 77)).alloc (.cells #[.int .u64 0, .bool false] 33)) (W.heap.size + 1) 33 #[.int .u64 0, .bool false] from by
    have h := RowAt.new (W.alloc (.cells #[.int .i64 wh, .int .i64 kd, .int .i64 at_, .int .u64 ol, .int .u64 nw] 77)) 33 #[.int .u64 0, .bool false]
    rw [World.size_alloc] at h
    exact h)
  obtain ⟨q, hq⟩ : ∃ q, ceAt X k = q := ⟨_, rfl⟩
  have HP := hide (fun w (h : RowAt w g t (Cs encW X).toArray) => pload_any g k q w (by rw [← hq]; exact row_word h hk) h.lt)
  have HQ := hide hq
  rw [hq] at hY ⊢
  have HY := hide hY
  clear h hk hq hY
  by_cases e : q = ol
  · skip
    have heq : (q != ol) = false := by simpa using e
    obtain rfl : X.set k nw = Y := by have h := HY.out; rw [if_pos e] at h; exact h
    have hbq : (q == ol) = true := by simpa using e
    rw [hbq]
    have HE := hide e
    clear e
    have HSW := hide (fun w (h : RowAt w g t (Cs encW X).toArray) => pswap_any g k t X q nw w h HK.out (X.set k nw) (by rw [if_pos HQ.out]) true (by simpa using HQ.out))
    go_enter Try.func45, Try.ntmps45
    go_wp2_with fail
    generalize ((W.alloc (.cells #[.int .i64 wh, .int .i64 kd, .int .i64 at_, .int .u64 ol, .int .u64 nw] 77)).alloc (.cells #[.int .u64 0, .bool false] 33)) = w2 at *
    have R := hide (H.out.below HB.out)
    go_loopw [5] (fun v wr => wr = w2) (fun _ _ => 0)
    case atStart => rfl
    case round =>
      obtain rfl := hrel
      go_wp2_with fail
      with_reducible refine (HP.out _ R.out).mono ?_
      rintro e w3 ⟨rfl, hb⟩
      have hrow3 := R.out.below hb
      have R33 := R3.out.below hb
      have R53 := R5.out.below hb
      have hp3 : Past g W w3 := Past.of_below hgl (HB.out.trans (hb.mono HB.out.size))
      have c3 : w3.cell? ⟨W.heap.size, 3, none⟩ = some (.int .u64 ol) := R33.cell 3
      have c4 : w3.cell? ⟨W.heap.size, 4, none⟩ = some (.int .u64 nw) := R33.cell 4
      have l3 := R33.lt
      clear hb
      go_wp2_with fail
      with_reducible refine (HSW.out _ hrow3).mono ?_
      rintro e w4 ⟨rfl, hrowx, hpq⟩
      have R5x := R53.past hpq (show W.heap.size + 1 ≠ g by omega)
      have hpx : Past g W w4 := hp3.trans hpq
      clear hpq c3 c4 l3 hp3
      have R9 := R5x
      have q0 := row20 R9
      have q1 := row21 R9
      have lq := R9.lt
      have f0 := R9.frozen 0
      have f1 := R9.frozen 1
      have hp9 := ((hpx.setHi (Nat.le_of_lt (Nat.lt_succ_of_lt hgl)) (Nat.le_succ _) 0 (.int .u64 q)).setHi (Nat.le_of_lt (Nat.lt_succ_of_lt hgl)) (Nat.le_succ _) 1 (.bool true))
      have hrow9 := (hrowx.setNe (show g ≠ W.heap.size + 1 by omega) (o := 0) (v := .int .u64 q)).setNe (show g ≠ W.heap.size + 1 by omega) (o := 1) (v := .bool true)
      have R9s := (R9.set 0 (.int .u64 q)).set 1 (.bool true)
      simp only [List.setIfInBounds_toArray, List.set_cons_zero, List.set_cons_succ] at R9s
      clear hrowx hpx R5x
      go_wp2_with fail
      (try rw [Exit.noGoto_ret])
      refine bodyPost_ret (v := .agg #[.int .u64 q, .bool true]) (by simp [results, Try.results45, go_sem, row20 R9s, row21 R9s, R9s.lt]) rfl ⟨rfl, hrow9, hp9⟩
  · skip
    have heq : (q != ol) = true := by simpa using e
    obtain rfl : X = Y := by have h := HY.out; rw [if_neg e] at h; exact h
    have hbq : (q == ol) = false := by simpa using e
    rw [hbq]
    have HE := hide e
    clear e
    go_enter Try.func45, Try.ntmps45
    go_wp2_with fail
    generalize ((W.alloc (.cells #[.int .i64 wh, .int .i64 kd, .int .i64 at_, .int .u64 ol, .int .u64 nw] 77)).alloc (.cells #[.int .u64 0, .bool false] 33)) = w2 at *
    have R := hide (H.out.below HB.out)
    go_loopw [5] (fun v wr => wr = w2) (fun _ _ => 0)
    case atStart => rfl
    case round =>
      obtain rfl := hrel
      go_wp2_with fail
      with_reducible refine (HP.out _ R.out).mono ?_
      rintro e w3 ⟨rfl, hb⟩
      have hrow3 := R.out.below hb
      have R33 := R3.out.below hb
      have R53 := R5.out.below hb
      have hp3 : Past g W w3 := Past.of_below hgl (HB.out.trans (hb.mono HB.out.size))
      have c3 : w3.cell? ⟨W.heap.size, 3, none⟩ = some (.int .u64 ol) := R33.cell 3
      have c4 : w3.cell? ⟨W.heap.size, 4, none⟩ = some (.int .u64 nw) := R33.cell 4
      have l3 := R33.lt
      clear hb
      have R5x := R53
      have hpx := hp3
      have hrowx := hrow3
      clear hp3 R53 hrow3
      have R9 := R5x
      have q0 := row20 R9
      have q1 := row21 R9
      have lq := R9.lt
      have f0 := R9.frozen 0
      have f1 := R9.frozen 1
      have hp9 := ((hpx.setHi (Nat.le_of_lt (Nat.lt_succ_of_lt hgl)) (Nat.le_succ _) 0 (.int .u64 q)).setHi (Nat.le_of_lt (Nat.lt_succ_of_lt hgl)) (Nat.le_succ _) 1 (.bool false))
      have hrow9 := (hrowx.setNe (show g ≠ W.heap.size + 1 by omega) (o := 0) (v := .int .u64 q)).setNe (show g ≠ W.heap.size + 1 by omega) (o := 1) (v := .bool false)
      have R9s := (R9.set 0 (.int .u64 q)).set 1 (.bool false)
      simp only [List.setIfInBounds_toArray, List.set_cons_zero, List.set_cons_succ] at R9s
      clear hrowx hpx R5x
      go_wp2_with fail
      (try rw [Exit.noGoto_ret])
      refine bodyPost_ret (v := .agg #[.int .u64 q, .bool false]) (by simp [results, Try.results45, go_sem, row20 R9s, row21 R9s, R9s.lt]) rfl ⟨rfl, hrow9, hp9⟩
end Go.Proofs.Ytadgihmokmfejaa
