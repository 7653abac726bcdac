/-
  An access, made of a shared cell.
-/
import Derived.Test.YtadgihmokmfejaaCeu
set_option linter.unusedSimpArgs false
set_option linter.unusedVariables false
namespace Go.Proofs.Ytadgihmokmfejaa
open Go Go.RowKit
attribute [local go_sem] via_cell via_frozen

set_option maxRecDepth 100000 in
set_option maxHeartbeats 2000000 in
theorem xdoes_any (g k : Nat) (t : TypeId) (X : List Int) (wh kd at_ ol nw : Int) (W : World) (h : RowAt W g t (Cs encW X).toArray) (hk : k < X.length) (hat : at_ = k) (hk1 : 1 ≤ kd) (hk4 : kd ≤ 4) (Y : List Int) (hY : doX X (wh, kd, at_, ol, nw) = Y) (s : Int × Bool) (hs : doS X (wh, kd, at_, ol, nw) = s) :
    Calls Try.prog 36 #[.agg #[.int .i64 wh, .int .i64 kd, .int .i64 at_, .int .u64 ol, .int .u64 nw], .iface 82 (.agg #[.pointer (some ⟨g, k, none⟩)])] W (CellRes W g t Y (.agg #[.int .u64 s.1, .bool s.2])) := by
  subst hat
  subst hs
  have hdx : doS X (wh, kd, (k : Int), ol, nw) = (ceAt X k, (kd != 3) || (ceAt X k == ol)) := rfl
  rw [hdx]
  unfold doX at hY
  dsimp only [Int.toNat_natCast] at hY ⊢
  clear hdx
  have H := hide h
  have hgl := h.lt
  have HK := hide hk
  clear h hk
  by_cases e1 : kd = 1
  · skip
    obtain rfl := e1
    rw [if_pos rfl] at hY
    obtain rfl := hY
    have HL := hide (fun w (h : RowAt w g t (Cs encW X).toArray) => xload_any g k t X wh 1 k ol nw w h HK.out)
    generalize ceAt X k = q at *
    have HT := hide (fun (o3 : Obj) => (⟨(((Below.refl _ _).alloc (Nat.le_refl _) _).alloc (by simp) _).alloc (by simp; omega) _, by
      have h := RowAt.new (W.alloc (.cells #[.int .i64 wh, .int .i64 1, .int .i64 k, .int .u64 ol, .int .u64 nw] 77)) 33 #[.int .u64 0, .bool false]
      rw [World.size_alloc] at h
      exact h.below ((Below.refl _ _).alloc (Nat.le_refl _) _),
      H.out.below ((((Below.refl _ _).alloc (Nat.le_refl _) _).alloc (by simp) _).alloc (by simp; omega) _)⟩ : Below W.heap.size W (((W.alloc (.cells #[.int .i64 wh, .int .i64 1, .int .i64 k, .int .u64 ol, .int .u64 nw] 77)).alloc (.cells #[.int .u64 0, .bool false] 33)).alloc o3) ∧ RowAt (((W.alloc (.cells #[.int .i64 wh, .int .i64 1, .int .i64 k, .int .u64 ol, .int .u64 nw] 77)).alloc (.cells #[.int .u64 0, .bool false] 33)).alloc o3) (W.heap.size + 1) 33 #[.int .u64 0, .bool false] ∧ RowAt (((W.alloc (.cells #[.int .i64 wh, .int .i64 1, .int .i64 k, .int .u64 ol, .int .u64 nw] 77)).alloc (.cells #[.int .u64 0, .bool false] 33)).alloc o3) g t (Cs encW X).toArray))
    go_enter Try.func36, Try.ntmps36
    go_wp2_with (refine wpList_store_new rfl 95 _ _ rfl _ _ (W.heap.size + 1 + 1) rfl (by simp) rfl (by kernel_rfl) rfl (by simp [Value.oneCell']) ?_)
    with_reducible refine (HL.out _ (HT.out _).2.2).mono ?_
    rintro e w3 ⟨rfl, hrowx, hpq⟩
    have R5x := (HT.out _).2.1.past hpq (show W.heap.size + 1 ≠ g by omega)
    have hpx : Past g W w3 := (Past.of_below hgl (HT.out _).1).trans hpq
    clear hpq
    have R9 := R5x
    have q0 := row20 R9
    have q1 := row21 R9
    have lq := R9.lt
    have f0 := R9.frozen 0
    have f1 := R9.frozen 1
    have hp9 := ((hpx.setHi (Nat.le_of_lt (Nat.lt_succ_of_lt hgl)) (Nat.le_succ _) 0 (.int .u64 q)).setHi (Nat.le_of_lt (Nat.lt_succ_of_lt hgl)) (Nat.le_succ _) 1 (.bool true))
    have hrow9 := (hrowx.setNe (show g ≠ W.heap.size + 1 by omega) (o := 0) (v := .int .u64 q)).setNe (show g ≠ W.heap.size + 1 by omega) (o := 1) (v := .bool true)
    have R9s := (R9.set 0 (.int .u64 q)).set 1 (.bool true)
    simp only [List.setIfInBounds_toArray, List.set_cons_zero, List.set_cons_succ] at R9s
    clear hrowx hpx R5x
    go_wp2_with fail
    (try rw [Exit.noGoto_ret])
    refine bodyPost_ret (v := .agg #[.int .u64 q, .bool true]) (by simp [results, Try.results36, go_sem, row20 R9s, row21 R9s, R9s.lt]) rfl ⟨rfl, hrow9, hp9⟩
  · by_cases e2 : kd = 2
    · skip
      obtain rfl := e2
      rw [if_neg (by decide), if_pos rfl] at hY
      obtain rfl := hY
      have HL := hide (fun w (h : RowAt w g t (Cs encW X).toArray) => xstore_any g k t X wh 2 k ol nw w h HK.out)
      generalize X.set k nw = Y at *
      generalize ceAt X k = q at *
      have HT := hide (fun (o3 : Obj) => (⟨(((Below.refl _ _).alloc (Nat.le_refl _) _).alloc (by simp) _).alloc (by simp; omega) _, by
        have h := RowAt.new (W.alloc (.cells #[.int .i64 wh, .int .i64 2, .int .i64 k, .int .u64 ol, .int .u64 nw] 77)) 33 #[.int .u64 0, .bool false]
        rw [World.size_alloc] at h
        exact h.below ((Below.refl _ _).alloc (Nat.le_refl _) _),
        H.out.below ((((Below.refl _ _).alloc (Nat.le_refl _) _).alloc (by simp) _).alloc (by simp; omega) _)⟩ : Below W.heap.size W (((W.alloc (.cells #[.int .i64 wh, .int .i64 2, .int .i64 k, .int .u64 ol, .int .u64 nw] 77)).alloc (.cells #[.int .u64 0, .bool false] 33)).alloc o3) ∧ RowAt (((W.alloc (.cells #[.int .i64 wh, .int .i64 2, .int .i64 k, .int .u64 ol, .int .u64 nw] 77)).alloc (.cells #[.int .u64 0, .bool false] 33)).alloc o3) (W.heap.size + 1) 33 #[.int .u64 0, .bool false] ∧ RowAt (((W.alloc (.cells #[.int .i64 wh, .int .i64 2, .int .i64 k, .int .u64 ol, .int .u64 nw] 77)).alloc (.cells #[.int .u64 0, .bool false] 33)).alloc o3) g t (Cs encW X).toArray))
      go_enter Try.func36, Try.ntmps36
      go_wp2_with (refine wpList_store_new rfl 95 _ _ rfl _ _ (W.heap.size + 1 + 1) rfl (by simp) rfl (by kernel_rfl) rfl (by simp [Value.oneCell']) ?_)
      with_reducible refine (HL.out _ (HT.out _).2.2).mono ?_
      rintro e w3 ⟨rfl, hrowx, hpq⟩
      have R5x := (HT.out _).2.1.past hpq (show W.heap.size + 1 ≠ g by omega)
      have hpx : Past g W w3 := (Past.of_below hgl (HT.out _).1).trans hpq
      clear hpq
      have R9 := R5x
      have q0 := row20 R9
      have q1 := row21 R9
      have lq := R9.lt
      have f0 := R9.frozen 0
      have f1 := R9.frozen 1
      have hp9 := ((hpx.setHi (Nat.le_of_lt (Nat.lt_succ_of_lt hgl)) (Nat.le_succ _) 0 (.int .u64 q)).setHi (Nat.le_of_lt (Nat.lt_succ_of_lt hgl)) (Nat.le_succ _) 1 (.bool true))
      have hrow9 := (hrowx.setNe (show g ≠ W.heap.size + 1 by omega) (o := 0) (v := .int .u64 q)).setNe (show g ≠ W.heap.size + 1 by omega) (o := 1) (v := .bool true)
      have R9s := (R9.set 0 (.int .u64 q)).set 1 (.bool true)
      simp only [List.setIfInBounds_toArray, List.set_cons_zero, List.set_cons_succ] at R9s
      clear hrowx hpx R5x
      go_wp2_with fail
      (try rw [Exit.noGoto_ret])
      refine bodyPost_ret (v := .agg #[.int .u64 q, .bool true]) (by simp [results, Try.results36, go_sem, row20 R9s, row21 R9s, R9s.lt]) rfl ⟨rfl, hrow9, hp9⟩
    · by_cases e3 : kd = 3
      · skip
        obtain rfl := e3
        rw [if_neg (by decide), if_neg (by decide), if_pos rfl] at hY
        have HL := hide (fun w (h : RowAt w g t (Cs encW X).toArray) => xswap_any g k t X wh 3 k ol nw w h HK.out Y hY)
        have hd3 : ((3 : Int) != 3 || (ceAt X k == ol)) = (ceAt X k == ol) := by simp
        rw [hd3]
        clear hY hd3
        generalize (ceAt X k == ol) = b at *
        generalize ceAt X k = q at *
        have HT := hide (fun (o3 : Obj) => (⟨(((Below.refl _ _).alloc (Nat.le_refl _) _).alloc (by simp) _).alloc (by simp; omega) _, by
          have h := RowAt.new (W.alloc (.cells #[.int .i64 wh, .int .i64 3, .int .i64 k, .int .u64 ol, .int .u64 nw] 77)) 33 #[.int .u64 0, .bool false]
          rw [World.size_alloc] at h
          exact h.below ((Below.refl _ _).alloc (Nat.le_refl _) _),
          H.out.below ((((Below.refl _ _).alloc (Nat.le_refl _) _).alloc (by simp) _).alloc (by simp; omega) _)⟩ : Below W.heap.size W (((W.alloc (.cells #[.int .i64 wh, .int .i64 3, .int .i64 k, .int .u64 ol, .int .u64 nw] 77)).alloc (.cells #[.int .u64 0, .bool false] 33)).alloc o3) ∧ RowAt (((W.alloc (.cells #[.int .i64 wh, .int .i64 3, .int .i64 k, .int .u64 ol, .int .u64 nw] 77)).alloc (.cells #[.int .u64 0, .bool false] 33)).alloc o3) (W.heap.size + 1) 33 #[.int .u64 0, .bool false] ∧ RowAt (((W.alloc (.cells #[.int .i64 wh, .int .i64 3, .int .i64 k, .int .u64 ol, .int .u64 nw] 77)).alloc (.cells #[.int .u64 0, .bool false] 33)).alloc o3) g t (Cs encW X).toArray))
        go_enter Try.func36, Try.ntmps36
        go_wp2_with (refine wpList_store_new rfl 95 _ _ rfl _ _ (W.heap.size + 1 + 1) rfl (by simp) rfl (by kernel_rfl) rfl (by simp [Value.oneCell']) ?_)
        with_reducible refine (HL.out _ (HT.out _).2.2).mono ?_
        rintro e w3 ⟨rfl, hrowx, hpq⟩
        have R5x := (HT.out _).2.1.past hpq (show W.heap.size + 1 ≠ g by omega)
        have hpx : Past g W w3 := (Past.of_below hgl (HT.out _).1).trans hpq
        clear hpq
        have R9 := R5x
        have q0 := row20 R9
        have q1 := row21 R9
        have lq := R9.lt
        have f0 := R9.frozen 0
        have f1 := R9.frozen 1
        have hp9 := ((hpx.setHi (Nat.le_of_lt (Nat.lt_succ_of_lt hgl)) (Nat.le_succ _) 0 (.int .u64 q)).setHi (Nat.le_of_lt (Nat.lt_succ_of_lt hgl)) (Nat.le_succ _) 1 (.bool b))
        have hrow9 := (hrowx.setNe (show g ≠ W.heap.size + 1 by omega) (o := 0) (v := .int .u64 q)).setNe (show g ≠ W.heap.size + 1 by omega) (o := 1) (v := .bool b)
        have R9s := (R9.set 0 (.int .u64 q)).set 1 (.bool b)
        simp only [List.setIfInBounds_toArray, List.set_cons_zero, List.set_cons_succ] at R9s
        clear hrowx hpx R5x
        go_wp2_with fail
        (try rw [Exit.noGoto_ret])
        refine bodyPost_ret (v := .agg #[.int .u64 q, .bool b]) (by simp [results, Try.results36, go_sem, row20 R9s, row21 R9s, R9s.lt]) rfl ⟨rfl, hrow9, hp9⟩
      · skip
        obtain rfl : kd = 4 := by omega
        rw [if_neg (by decide), if_neg (by decide), if_neg (by decide)] at hY
        obtain rfl := hY
        have HL := hide (fun w (h : RowAt w g t (Cs encW X).toArray) => xadd_any g k t X wh 4 k ol nw w h HK.out)
        generalize X.set k ((ceAt X k + nw) % 18446744073709551616) = Y at *
        generalize ceAt X k = q at *
        have HT := hide (fun (o3 : Obj) => (⟨(((Below.refl _ _).alloc (Nat.le_refl _) _).alloc (by simp) _).alloc (by simp; omega) _, by
          have h := RowAt.new (W.alloc (.cells #[.int .i64 wh, .int .i64 4, .int .i64 k, .int .u64 ol, .int .u64 nw] 77)) 33 #[.int .u64 0, .bool false]
          rw [World.size_alloc] at h
          exact h.below ((Below.refl _ _).alloc (Nat.le_refl _) _),
          H.out.below ((((Below.refl _ _).alloc (Nat.le_refl _) _).alloc (by simp) _).alloc (by simp; omega) _)⟩ : Below W.heap.size W (((W.alloc (.cells #[.int .i64 wh, .int .i64 4, .int .i64 k, .int .u64 ol, .int .u64 nw] 77)).alloc (.cells #[.int .u64 0, .bool false] 33)).alloc o3) ∧ RowAt (((W.alloc (.cells #[.int .i64 wh, .int .i64 4, .int .i64 k, .int .u64 ol, .int .u64 nw] 77)).alloc (.cells #[.int .u64 0, .bool false] 33)).alloc o3) (W.heap.size + 1) 33 #[.int .u64 0, .bool false] ∧ RowAt (((W.alloc (.cells #[.int .i64 wh, .int .i64 4, .int .i64 k, .int .u64 ol, .int .u64 nw] 77)).alloc (.cells #[.int .u64 0, .bool false] 33)).alloc o3) g t (Cs encW X).toArray))
        go_enter Try.func36, Try.ntmps36
        go_wp2_with (refine wpList_store_new rfl 95 _ _ rfl _ _ (W.heap.size + 1 + 1) rfl (by simp) rfl (by kernel_rfl) rfl (by simp [Value.oneCell']) ?_)
        with_reducible refine (HL.out _ (HT.out _).2.2).mono ?_
        rintro e w3 ⟨rfl, hrowx, hpq⟩
        have R5x := (HT.out _).2.1.past hpq (show W.heap.size + 1 ≠ g by omega)
        have hpx : Past g W w3 := (Past.of_below hgl (HT.out _).1).trans hpq
        clear hpq
        have R9 := R5x
        have q0 := row20 R9
        have q1 := row21 R9
        have lq := R9.lt
        have f0 := R9.frozen 0
        have f1 := R9.frozen 1
        have hp9 := ((hpx.setHi (Nat.le_of_lt (Nat.lt_succ_of_lt hgl)) (Nat.le_succ _) 0 (.int .u64 q)).setHi (Nat.le_of_lt (Nat.lt_succ_of_lt hgl)) (Nat.le_succ _) 1 (.bool true))
        have hrow9 := (hrowx.setNe (show g ≠ W.heap.size + 1 by omega) (o := 0) (v := .int .u64 q)).setNe (show g ≠ W.heap.size + 1 by omega) (o := 1) (v := .bool true)
        have R9s := (R9.set 0 (.int .u64 q)).set 1 (.bool true)
        simp only [List.setIfInBounds_toArray, List.set_cons_zero, List.set_cons_succ] at R9s
        clear hrowx hpx R5x
        go_wp2_with fail
        (try rw [Exit.noGoto_ret])
        refine bodyPost_ret (v := .agg #[.int .u64 q, .bool true]) (by simp [results, Try.results36, go_sem, row20 R9s, row21 R9s, R9s.lt]) rfl ⟨rfl, hrow9, hp9⟩
end Go.Proofs.Ytadgihmokmfejaa
