/-
  The reference's access.
-/
import Derived.Test.YtadgihmokmfejaaCec
import Derived.BigRegion
set_option linter.unusedSimpArgs false
set_option linter.unusedVariables false
namespace Go.Proofs.Ytadgihmokmfejaa
open Go Go.RowKit
attribute [local go_sem] via_cell via_frozen

/-- An element of words. -/
theorem Rd.word {w : World} {B n : Nat} {A : Option Addr} {X : List Int} (h : Rd w B 1 A n (Cs encW X)) (hx : X.length = n) {k : Nat} (hk : k < n) :
    ∃ b off, A = some ⟨b, off, none⟩ ∧ b < B ∧ w.cell? ⟨b, off + k, none⟩ = some (.int .u64 (ceAt X k)) := by
  subst hx
  obtain ⟨b, off, h1, h2, h3⟩ := h.elem encW_len hk
  have h4 := h3 0 _ (by omega) rfl
  refine ⟨b, off, h1, h2, ?_⟩
  have : ceAt X k = X[k] := by unfold ceAt; rw [Int.toNat_natCast, List.getD_eq_getElem?_getD, List.getElem?_eq_getElem hk]; rfl
  rw [this]
  simpa using h4

theorem Rd.setOff {w : World} {B sz n g : Nat} {A : Option Addr} {xs : List Value} (h : Rd w B sz A n xs) (ho : ∀ p, A = some p → p.block ≠ g) (o : Nat) (u : Value) : Rd (w.setCell ⟨g, o, none⟩ u) B sz A n xs := by
  refine ⟨h.1, fun hn => ?_⟩
  obtain ⟨b, off, e, hb, hc⟩ := h.2 hn
  have hne : b ≠ g := ho _ e
  exact ⟨b, off, e, hb, fun j v hv => (World.cell?_setCell_other _ _ _ _ (fun e2 => by cases e2; exact hne rfl)).trans (hc j v hv)⟩
theorem Rd.setOffS {w : World} {sz n g : Nat} {A : Option Addr} {xs : List Value} (h : Rd w w.heap.size sz A n xs) (ho : ∀ p, A = some p → p.block ≠ g) (o : Nat) (u : Value) : Rd (w.setCell ⟨g, o, none⟩ u) (w.setCell ⟨g, o, none⟩ u).heap.size sz A n xs := by
  have := h.setOff ho o u
  simpa using this

/-- What an access comes to. -/
def DoRes (A : Option Addr) (W : World) (n : Nat) (Y : List Int) (s : Int × Bool) (x : Ending) (W' : World) : Prop :=
  ∃ A' c', x = .returned (.tuple #[.slice A' n c', .agg #[.int .u64 s.1, .bool s.2]]) ∧ n ≤ c' ∧ c' ≤ 9223372036854775807 ∧ Rd W' W'.heap.size 1 A' n (Cs encW Y) ∧ Below W.heap.size W W' ∧ ∀ p, A' = some p → A = some p ∨ W.heap.size ≤ p.block

set_option maxRecDepth 100000 in
set_option maxHeartbeats 4000000 in
theorem rdo_any (A : Option Addr) (c n : Nat) (X : List Int) (wh kd : Int) (k : Nat) (ol nw : Int) (W : World) (h : Rd W W.heap.size 1 A n (Cs encW X)) (hx : X.length = n) (hk : k < n) (hn : n ≤ 4096) (hc : n ≤ c) (hcm : c ≤ 9223372036854775807) (hw : Ws X) (hnw : U64 nw) (hk1 : 1 ≤ kd) (hk4 : kd ≤ 4)
    (Y : List Int) (hY : doX X (wh, kd, (k : Int), ol, nw) = Y) (s : Int × Bool) (hs : doS X (wh, kd, (k : Int), ol, nw) = s) :
    Calls Try.prog 16 #[.slice A n c, .agg #[.int .i64 wh, .int .i64 kd, .int .i64 k, .int .u64 ol, .int .u64 nw]] W (DoRes A W n Y s) := by
  obtain ⟨b, o, hA, hbl, hd⟩ := h.word hx hk
  subst hA
  have H := hide h
  have HX := hide hx
  have HK := hide hk
  have HN := hide hn
  have HU := hide (hw.at (k := (k : Int)))
  have HNW := hide hnw
  subst hs
  have hki : (k : Int) < (n : Int) := by omega
  have hdx : doS X (wh, kd, (k : Int), ol, nw) = (ceAt X k, (kd != 3) || (ceAt X k == ol)) := rfl
  rw [hdx]
  unfold doX at hY
  dsimp only [Int.toNat_natCast] at hY
  obtain ⟨q, hq⟩ : ∃ q, ceAt X k = q := ⟨_, rfl⟩
  rw [hq] at hd HU hY ⊢
  clear hdx hx h hw hnw hn hk
  by_cases e1 : kd = 1
  · skip
    obtain rfl : kd = 1 := by omega
    have HB := hide (show Below W.heap.size W (((W.alloc (.cells #[.int .i64 wh, .int .i64 1, .int .i64 k, .int .u64 ol, .int .u64 nw] 37)).alloc (.cells #[.int .u64 q, .bool true] 33)).alloc (.cells #[.int .u64 q, .bool true] 33)).drew from ((((Below.refl _ _).alloc (Nat.le_refl _) _).alloc (by simp) _).alloc (by simp; omega) _).drew)
    have HY := hide hY
    clear hY
    go_enter Try.func16, Try.ntmps16
    go_wp2_with fail
    go_region
    go_wp2_with fail
    have hX : X = Y := by have h := HY.out; rw [if_pos (by first | trivial | decide)] at h; exact h
    subst hX
    refine bodyPost_ret (v := .tuple #[.slice (some ⟨b, o, none⟩) n c, .agg #[.int .u64 q, .bool true]]) (by simp [results, Try.results16, go_sem]) rfl ⟨some ⟨b, o, none⟩, c, rfl, hc, hcm, (H.out.below HB.out).more HB.out.size, HB.out, fun p hp => .inl hp⟩
  · skip
    by_cases e2 : kd = 2
    · skip
      obtain rfl : kd = 2 := by omega
      have HB := hide (show Below W.heap.size W (((W.alloc (.cells #[.int .i64 wh, .int .i64 2, .int .i64 k, .int .u64 ol, .int .u64 nw] 37)).alloc (.cells #[.int .u64 0, .bool false] 33)).alloc (.cells #[.int .u64 q, .bool true] 33)) from (((Below.refl _ _).alloc (Nat.le_refl _) _).alloc (by simp) _).alloc (by simp; omega) _)
      have R3 := hide (show RowAt (((W.alloc (.cells #[.int .i64 wh, .int .i64 2, .int .i64 k, .int .u64 ol, .int .u64 nw] 37)).alloc (.cells #[.int .u64 0, .bool false] 33)).alloc (.cells #[.int .u64 q, .bool true] 33)) W.heap.size 37 #[.int .i64 wh, .int .i64 2, .int .i64 k, .int .u64 ol, .int .u64 nw] from ((RowAt.new W 37 _).below ((Below.refl _ _).alloc (Nat.le_refl _) _)).below ((Below.refl _ _).alloc (Nat.le_refl _) _))
      have R5 := hide (show RowAt (((W.alloc (.cells #[.int .i64 wh, .int .i64 2, .int .i64 k, .int .u64 ol, .int .u64 nw] 37)).alloc (.cells #[.int .u64 0, .bool false] 33)).alloc (.cells #[.int .u64 q, .bool true] 33)) (W.heap.size + 1) 33 #[.int .u64 0, .bool false] from by
        have h := RowAt.new (W.alloc (.cells #[.int .i64 wh, .int .i64 2, .int .i64 k, .int .u64 ol, .int .u64 nw] 37)) 33 #[.int .u64 0, .bool false]
        rw [World.size_alloc] at h
        exact h.below ((Below.refl _ _).alloc (Nat.le_refl _) _))
      have R7 := hide (show RowAt (((W.alloc (.cells #[.int .i64 wh, .int .i64 2, .int .i64 k, .int .u64 ol, .int .u64 nw] 37)).alloc (.cells #[.int .u64 0, .bool false] 33)).alloc (.cells #[.int .u64 q, .bool true] 33)) (W.heap.size + 1 + 1) 33 #[.int .u64 q, .bool true] from by
        have h := RowAt.new ((W.alloc (.cells #[.int .i64 wh, .int .i64 2, .int .i64 k, .int .u64 ol, .int .u64 nw] 37)).alloc (.cells #[.int .u64 0, .bool false] 33)) 33 #[.int .u64 q, .bool true]
        rw [World.size_alloc, World.size_alloc] at h
        exact h)
      have HY := hide hY
      clear hY
      go_enter Try.func16, Try.ntmps16
      go_wp2_with fail
      generalize (((W.alloc (.cells #[.int .i64 wh, .int .i64 2, .int .i64 k, .int .u64 ol, .int .u64 nw] 37)).alloc (.cells #[.int .u64 0, .bool false] 33)).alloc (.cells #[.int .u64 q, .bool true] 33)) = w3 at *
      have HW := hide (fun w' (hb : Below W.heap.size W w') => with_any W.heap.size (some ⟨b, o, none⟩) c n X k (nw) w' (H.out.below hb) hb.size HX.out HK.out HN.out)
      have a0 := row20 R7.out
      have a1 := row21 R7.out
      have b1 : w3.cell? ⟨W.heap.size, 2, none⟩ = some (.int .i64 k) := R3.out.cell 2
      have b2 : w3.cell? ⟨W.heap.size, 4, none⟩ = some (.int .u64 nw) := R3.out.cell 4
      have l3 := R3.out.lt
      have l7 := R7.out.lt
      have l5 := R5.out.lt
      have f0 : w3.cell? ⟨W.heap.size + 1 + 1, 0, none⟩ = some (.int .u64 q) := R7.out.cell 0
      have f1 : w3.cell? ⟨W.heap.size + 1 + 1, 1, none⟩ = some (.bool true) := R7.out.cell 1
      have f2 : w3.cell? ⟨W.heap.size, 2, none⟩ = some (.int .i64 k) := R3.out.cell 2
      have f3 : w3.cell? ⟨W.heap.size, 4, none⟩ = some (.int .u64 nw) := R3.out.cell 4
      have f4 : w3.frozen? ⟨W.heap.size + 1, 0, none⟩ = false := R5.out.frozen 0
      have f5 : w3.frozen? ⟨W.heap.size + 1, 1, none⟩ = false := R5.out.frozen 1
      have f6 : W.heap.size + 1 < w3.heap.size := R5.out.lt
      clear a0 a1 b1 b2 l3 l7 l5
      have hbd0 : Below W.heap.size W w3.drew := HB.out.drew
      have z0 : w3.drew.cell? ⟨W.heap.size + 1, 0, none⟩ = some (.int .u64 0) := R5.out.cell 0
      have z1 : w3.drew.cell? ⟨W.heap.size + 1, 1, none⟩ = some (.bool false) := R5.out.cell 1
      have HS : Hid (∀ w w', (Below W.heap.size W w ∧ w.cell? ⟨W.heap.size + 1 + 1, 0, none⟩ = some (.int .u64 q) ∧ w.cell? ⟨W.heap.size + 1 + 1, 1, none⟩ = some (.bool true) ∧ w.cell? ⟨W.heap.size, 2, none⟩ = some (.int .i64 k) ∧ w.cell? ⟨W.heap.size, 4, none⟩ = some (.int .u64 nw) ∧ w.frozen? ⟨W.heap.size + 1, 0, none⟩ = false ∧ w.frozen? ⟨W.heap.size + 1, 1, none⟩ = false ∧ W.heap.size + 1 < w.heap.size) → Below w.heap.size w w' → (Below W.heap.size W w' ∧ w'.cell? ⟨W.heap.size + 1 + 1, 0, none⟩ = some (.int .u64 q) ∧ w'.cell? ⟨W.heap.size + 1 + 1, 1, none⟩ = some (.bool true) ∧ w'.cell? ⟨W.heap.size, 2, none⟩ = some (.int .i64 k) ∧ w'.cell? ⟨W.heap.size, 4, none⟩ = some (.int .u64 nw) ∧ w'.frozen? ⟨W.heap.size + 1, 0, none⟩ = false ∧ w'.frozen? ⟨W.heap.size + 1, 1, none⟩ = false ∧ W.heap.size + 1 < w'.heap.size)) := hide (fun w w' h hb => ⟨h.1.trans (hb.mono h.1.size), kept hb h.2.1, kept hb h.2.2.1, kept hb h.2.2.2.1, kept hb h.2.2.2.2.1, keptF hb h.2.2.2.2.2.2.2 h.2.2.2.2.2.1, keptF hb h.2.2.2.2.2.2.2 h.2.2.2.2.2.2.1, Nat.lt_of_lt_of_le h.2.2.2.2.2.2.2 hb.size⟩)
      go_region_held3 (fun wX => Below W.heap.size W wX ∧ wX.cell? ⟨W.heap.size + 1 + 1, 0, none⟩ = some (.int .u64 q) ∧ wX.cell? ⟨W.heap.size + 1 + 1, 1, none⟩ = some (.bool true) ∧ wX.cell? ⟨W.heap.size, 2, none⟩ = some (.int .i64 k) ∧ wX.cell? ⟨W.heap.size, 4, none⟩ = some (.int .u64 nw) ∧ wX.frozen? ⟨W.heap.size + 1, 0, none⟩ = false ∧ wX.frozen? ⟨W.heap.size + 1, 1, none⟩ = false ∧ W.heap.size + 1 < wX.heap.size)
        (first | exact HS.out _ _ ‹_› hb | exact ⟨hbd0, f0, f1, f2, f3, f4, f5, f6⟩ | (refine ⟨(hbq.setCell (p := ⟨W.heap.size + 1, 0, none⟩) (by show _ ≤ W.heap.size + 1; omega) _).setCell (p := ⟨W.heap.size + 1, 1, none⟩) (by show _ ≤ W.heap.size + 1; omega) _, ?_⟩; go_keep) | go_keep)
        (first | (go_at_call 38; (with_reducible refine (HW.out _ (And.left ‹Below W.heap.size W _ ∧ _›)).mono ?_); rintro e wq ⟨g, c1, rfl, hc1, hcm1, hown, hb⟩; have hbq := (And.left ‹Below W.heap.size W _ ∧ _›).trans (hb.mono (And.left ‹Below W.heap.size W _ ∧ _›).size); have y0 := kept hb z0; have y1 := kept hb z1))
      rename_i hHeld
      have hbd := And.left hHeld
      clear hHeld HS f0 f1 f2 f3 f4 f5 f6 z0 z1 y0 y1
      have R5q := (R5.out.drew).below hb
      have hgf := own_fresh hown _ rfl
      have hgf2 : W.heap.size + 1 < g := by have h1 := R5.out.lt; have h2 : w3.heap.size ≤ g := hgf; omega
      have R5F := (R5q.set 0 (.int .u64 q)).set 1 (.bool true)
      simp only [List.setIfInBounds_toArray, List.set_cons_zero, List.set_cons_succ] at R5F
      have hRd := ((Rd.of_own hown).setOffS (g := W.heap.size + 1) (fun p hp => by injection hp with hp; subst hp; show g ≠ _; omega) 0 (.int .u64 q)).setOffS (g := W.heap.size + 1) (fun p hp => by injection hp with hp; subst hp; show g ≠ _; omega) 1 (.bool true)
      generalize (wq.setCell ⟨W.heap.size + 1, 0, none⟩ (.int .u64 q)).setCell ⟨W.heap.size + 1, 1, none⟩ (.bool true) = w9 at *
      clear hown hb hbq R5q
      go_wp2_with fail
      have hX : X.set k (nw) = Y := by have h := HY.out; rw [if_neg (by decide), if_pos (by first | trivial | decide)] at h; exact h
      rw [hX] at hRd
      refine bodyPost_ret (v := .tuple #[.slice (some ⟨g, 0, none⟩) n c1, .agg #[.int .u64 q, .bool true]]) (by simp [results, Try.results16, go_sem, row20 R5F, row21 R5F, R5F.lt]) rfl ⟨some ⟨g, 0, none⟩, c1, rfl, hc1, hcm1, hRd, hbd, fun p hp => .inr (by injection hp with hp; subst hp; show W.heap.size ≤ g; omega)⟩
    · skip
      by_cases e3 : kd = 3
      · skip
        by_cases e4 : q = ol
        · skip
          obtain rfl : kd = 3 := by omega
          have hqo : (q == ol) = true := by simpa using e4
          have HE := hide e4
          clear e4
          have HB := hide (show Below W.heap.size W (((W.alloc (.cells #[.int .i64 wh, .int .i64 3, .int .i64 k, .int .u64 ol, .int .u64 nw] 37)).alloc (.cells #[.int .u64 0, .bool false] 33)).alloc (.cells #[.int .u64 q, .bool true] 33)) from (((Below.refl _ _).alloc (Nat.le_refl _) _).alloc (by simp) _).alloc (by simp; omega) _)
          have R3 := hide (show RowAt (((W.alloc (.cells #[.int .i64 wh, .int .i64 3, .int .i64 k, .int .u64 ol, .int .u64 nw] 37)).alloc (.cells #[.int .u64 0, .bool false] 33)).alloc (.cells #[.int .u64 q, .bool true] 33)) W.heap.size 37 #[.int .i64 wh, .int .i64 3, .int .i64 k, .int .u64 ol, .int .u64 nw] from ((RowAt.new W 37 _).below ((Below.refl _ _).alloc (Nat.le_refl _) _)).below ((Below.refl _ _).alloc (Nat.le_refl _) _))
          have R5 := hide (show RowAt (((W.alloc (.cells #[.int .i64 wh, .int .i64 3, .int .i64 k, .int .u64 ol, .int .u64 nw] 37)).alloc (.cells #[.int .u64 0, .bool false] 33)).alloc (.cells #[.int .u64 q, .bool true] 33)) (W.heap.size + 1) 33 #[.int .u64 0, .bool false] from by
            have h := RowAt.new (W.alloc (.cells #[.int .i64 wh, .int .i64 3, .int .i64 k, .int .u64 ol, .int .u64 nw] 37)) 33 #[.int .u64 0, .bool false]
            rw [World.size_alloc] at h
            exact h.below ((Below.refl _ _).alloc (Nat.le_refl _) _))
          have R7 := hide (show RowAt (((W.alloc (.cells #[.int .i64 wh, .int .i64 3, .int .i64 k, .int .u64 ol, .int .u64 nw] 37)).alloc (.cells #[.int .u64 0, .bool false] 33)).alloc (.cells #[.int .u64 q, .bool true] 33)) (W.heap.size + 1 + 1) 33 #[.int .u64 q, .bool true] from by
            have h := RowAt.new ((W.alloc (.cells #[.int .i64 wh, .int .i64 3, .int .i64 k, .int .u64 ol, .int .u64 nw] 37)).alloc (.cells #[.int .u64 0, .bool false] 33)) 33 #[.int .u64 q, .bool true]
            rw [World.size_alloc, World.size_alloc] at h
            exact h)
          have HY := hide hY
          clear hY
          go_enter Try.func16, Try.ntmps16
          go_wp2_with fail
          generalize (((W.alloc (.cells #[.int .i64 wh, .int .i64 3, .int .i64 k, .int .u64 ol, .int .u64 nw] 37)).alloc (.cells #[.int .u64 0, .bool false] 33)).alloc (.cells #[.int .u64 q, .bool true] 33)) = w3 at *
          have HW := hide (fun w' (hb : Below W.heap.size W w') => with_any W.heap.size (some ⟨b, o, none⟩) c n X k (nw) w' (H.out.below hb) hb.size HX.out HK.out HN.out)
          have a0 := row20 R7.out
          have a1 := row21 R7.out
          have b1 : w3.cell? ⟨W.heap.size, 2, none⟩ = some (.int .i64 k) := R3.out.cell 2
          have b2 : w3.cell? ⟨W.heap.size, 4, none⟩ = some (.int .u64 nw) := R3.out.cell 4
          have l3 := R3.out.lt
          have l7 := R7.out.lt
          have l5 := R5.out.lt
          have f0 : w3.cell? ⟨W.heap.size + 1 + 1, 0, none⟩ = some (.int .u64 q) := R7.out.cell 0
          have f1 : w3.cell? ⟨W.heap.size + 1 + 1, 1, none⟩ = some (.bool true) := R7.out.cell 1
          have f2 : w3.cell? ⟨W.heap.size, 2, none⟩ = some (.int .i64 k) := R3.out.cell 2
          have f3 : w3.cell? ⟨W.heap.size, 4, none⟩ = some (.int .u64 nw) := R3.out.cell 4
          have f4 : w3.frozen? ⟨W.heap.size + 1, 0, none⟩ = false := R5.out.frozen 0
          have f5 : w3.frozen? ⟨W.heap.size + 1, 1, none⟩ = false := R5.out.frozen 1
          have f6 : W.heap.size + 1 < w3.heap.size := R5.out.lt
          clear a0 a1 b1 b2 l3 l7 l5
          have hbd0 : Below W.heap.size W w3.drew := HB.out.drew
          have z0 : w3.drew.cell? ⟨W.heap.size + 1, 0, none⟩ = some (.int .u64 0) := R5.out.cell 0
          have z1 : w3.drew.cell? ⟨W.heap.size + 1, 1, none⟩ = some (.bool false) := R5.out.cell 1
          have HS : Hid (∀ w w', (Below W.heap.size W w ∧ w.cell? ⟨W.heap.size + 1 + 1, 0, none⟩ = some (.int .u64 q) ∧ w.cell? ⟨W.heap.size + 1 + 1, 1, none⟩ = some (.bool true) ∧ w.cell? ⟨W.heap.size, 2, none⟩ = some (.int .i64 k) ∧ w.cell? ⟨W.heap.size, 4, none⟩ = some (.int .u64 nw) ∧ w.frozen? ⟨W.heap.size + 1, 0, none⟩ = false ∧ w.frozen? ⟨W.heap.size + 1, 1, none⟩ = false ∧ W.heap.size + 1 < w.heap.size) → Below w.heap.size w w' → (Below W.heap.size W w' ∧ w'.cell? ⟨W.heap.size + 1 + 1, 0, none⟩ = some (.int .u64 q) ∧ w'.cell? ⟨W.heap.size + 1 + 1, 1, none⟩ = some (.bool true) ∧ w'.cell? ⟨W.heap.size, 2, none⟩ = some (.int .i64 k) ∧ w'.cell? ⟨W.heap.size, 4, none⟩ = some (.int .u64 nw) ∧ w'.frozen? ⟨W.heap.size + 1, 0, none⟩ = false ∧ w'.frozen? ⟨W.heap.size + 1, 1, none⟩ = false ∧ W.heap.size + 1 < w'.heap.size)) := hide (fun w w' h hb => ⟨h.1.trans (hb.mono h.1.size), kept hb h.2.1, kept hb h.2.2.1, kept hb h.2.2.2.1, kept hb h.2.2.2.2.1, keptF hb h.2.2.2.2.2.2.2 h.2.2.2.2.2.1, keptF hb h.2.2.2.2.2.2.2 h.2.2.2.2.2.2.1, Nat.lt_of_lt_of_le h.2.2.2.2.2.2.2 hb.size⟩)
          go_region_held3 (fun wX => Below W.heap.size W wX ∧ wX.cell? ⟨W.heap.size + 1 + 1, 0, none⟩ = some (.int .u64 q) ∧ wX.cell? ⟨W.heap.size + 1 + 1, 1, none⟩ = some (.bool true) ∧ wX.cell? ⟨W.heap.size, 2, none⟩ = some (.int .i64 k) ∧ wX.cell? ⟨W.heap.size, 4, none⟩ = some (.int .u64 nw) ∧ wX.frozen? ⟨W.heap.size + 1, 0, none⟩ = false ∧ wX.frozen? ⟨W.heap.size + 1, 1, none⟩ = false ∧ W.heap.size + 1 < wX.heap.size)
            (first | exact HS.out _ _ ‹_› hb | exact ⟨hbd0, f0, f1, f2, f3, f4, f5, f6⟩ | (refine ⟨(hbq.setCell (p := ⟨W.heap.size + 1, 0, none⟩) (by show _ ≤ W.heap.size + 1; omega) _).setCell (p := ⟨W.heap.size + 1, 1, none⟩) (by show _ ≤ W.heap.size + 1; omega) _, ?_⟩; go_keep) | go_keep)
            (first | (go_at_call 38; (with_reducible refine (HW.out _ (And.left ‹Below W.heap.size W _ ∧ _›)).mono ?_); rintro e wq ⟨g, c1, rfl, hc1, hcm1, hown, hb⟩; have hbq := (And.left ‹Below W.heap.size W _ ∧ _›).trans (hb.mono (And.left ‹Below W.heap.size W _ ∧ _›).size); have y0 := kept hb z0; have y1 := kept hb z1))
          rename_i hHeld
          have hbd := And.left hHeld
          clear hHeld HS f0 f1 f2 f3 f4 f5 f6 z0 z1 y0 y1
          have R5q := (R5.out.drew).below hb
          have hgf := own_fresh hown _ rfl
          have hgf2 : W.heap.size + 1 < g := by have h1 := R5.out.lt; have h2 : w3.heap.size ≤ g := hgf; omega
          have R5F := (R5q.set 0 (.int .u64 q)).set 1 (.bool true)
          simp only [List.setIfInBounds_toArray, List.set_cons_zero, List.set_cons_succ] at R5F
          have hRd := ((Rd.of_own hown).setOffS (g := W.heap.size + 1) (fun p hp => by injection hp with hp; subst hp; show g ≠ _; omega) 0 (.int .u64 q)).setOffS (g := W.heap.size + 1) (fun p hp => by injection hp with hp; subst hp; show g ≠ _; omega) 1 (.bool true)
          generalize (wq.setCell ⟨W.heap.size + 1, 0, none⟩ (.int .u64 q)).setCell ⟨W.heap.size + 1, 1, none⟩ (.bool true) = w9 at *
          clear hown hb hbq R5q
          go_wp2_with fail
          have hX : X.set k (nw) = Y := by have h := HY.out; rw [if_neg (by decide), if_neg (by decide), if_pos (by first | trivial | decide), if_pos HE.out] at h; exact h
          rw [hX] at hRd
          refine bodyPost_ret (v := .tuple #[.slice (some ⟨g, 0, none⟩) n c1, .agg #[.int .u64 q, .bool true]]) (by simp [results, Try.results16, go_sem, row20 R5F, row21 R5F, R5F.lt]) rfl ⟨some ⟨g, 0, none⟩, c1, (by simp [hqo]), hc1, hcm1, hRd, hbd, fun p hp => .inr (by injection hp with hp; subst hp; show W.heap.size ≤ g; omega)⟩
        · skip
          obtain rfl : kd = 3 := by omega
          have hqo : (q == ol) = false := by simpa using e4
          have HE := hide e4
          clear e4
          have HB := hide (show Below W.heap.size W (((W.alloc (.cells #[.int .i64 wh, .int .i64 3, .int .i64 k, .int .u64 ol, .int .u64 nw] 37)).alloc (.cells #[.int .u64 q, .bool false] 33)).alloc (.cells #[.int .u64 q, .bool false] 33)).drew from ((((Below.refl _ _).alloc (Nat.le_refl _) _).alloc (by simp) _).alloc (by simp; omega) _).drew)
          have HY := hide hY
          clear hY
          go_enter Try.func16, Try.ntmps16
          go_wp2_with fail
          go_region
          go_wp2_with fail
          have hX : X = Y := by have h := HY.out; rw [if_neg (by decide), if_neg (by decide), if_pos (by first | trivial | decide), if_neg HE.out] at h; exact h
          subst hX
          refine bodyPost_ret (v := .tuple #[.slice (some ⟨b, o, none⟩) n c, .agg #[.int .u64 q, .bool false]]) (by simp [results, Try.results16, go_sem]) rfl ⟨some ⟨b, o, none⟩, c, (by simp [hqo]), hc, hcm, (H.out.below HB.out).more HB.out.size, HB.out, fun p hp => .inl hp⟩
      · skip
        obtain rfl : kd = 4 := by omega
        have HB := hide (show Below W.heap.size W (((W.alloc (.cells #[.int .i64 wh, .int .i64 4, .int .i64 k, .int .u64 ol, .int .u64 nw] 37)).alloc (.cells #[.int .u64 0, .bool false] 33)).alloc (.cells #[.int .u64 q, .bool true] 33)) from (((Below.refl _ _).alloc (Nat.le_refl _) _).alloc (by simp) _).alloc (by simp; omega) _)
        have R3 := hide (show RowAt (((W.alloc (.cells #[.int .i64 wh, .int .i64 4, .int .i64 k, .int .u64 ol, .int .u64 nw] 37)).alloc (.cells #[.int .u64 0, .bool false] 33)).alloc (.cells #[.int .u64 q, .bool true] 33)) W.heap.size 37 #[.int .i64 wh, .int .i64 4, .int .i64 k, .int .u64 ol, .int .u64 nw] from ((RowAt.new W 37 _).below ((Below.refl _ _).alloc (Nat.le_refl _) _)).below ((Below.refl _ _).alloc (Nat.le_refl _) _))
        have R5 := hide (show RowAt (((W.alloc (.cells #[.int .i64 wh, .int .i64 4, .int .i64 k, .int .u64 ol, .int .u64 nw] 37)).alloc (.cells #[.int .u64 0, .bool false] 33)).alloc (.cells #[.int .u64 q, .bool true] 33)) (W.heap.size + 1) 33 #[.int .u64 0, .bool false] from by
          have h := RowAt.new (W.alloc (.cells #[.int .i64 wh, .int .i64 4, .int .i64 k, .int .u64 ol, .int .u64 nw] 37)) 33 #[.int .u64 0, .bool false]
          rw [World.size_alloc] at h
          exact h.below ((Below.refl _ _).alloc (Nat.le_refl _) _))
        have R7 := hide (show RowAt (((W.alloc (.cells #[.int .i64 wh, .int .i64 4, .int .i64 k, .int .u64 ol, .int .u64 nw] 37)).alloc (.cells #[.int .u64 0, .bool false] 33)).alloc (.cells #[.int .u64 q, .bool true] 33)) (W.heap.size + 1 + 1) 33 #[.int .u64 q, .bool true] from by
          have h := RowAt.new ((W.alloc (.cells #[.int .i64 wh, .int .i64 4, .int .i64 k, .int .u64 ol, .int .u64 nw] 37)).alloc (.cells #[.int .u64 0, .bool false] 33)) 33 #[.int .u64 q, .bool true]
          rw [World.size_alloc, World.size_alloc] at h
          exact h)
        have HY := hide hY
        clear hY
        have hwr : IntKind.u64.wrap (q + nw) = (q + nw) % 18446744073709551616 := rfl
        go_enter Try.func16, Try.ntmps16
        go_wp2_with fail
        generalize (((W.alloc (.cells #[.int .i64 wh, .int .i64 4, .int .i64 k, .int .u64 ol, .int .u64 nw] 37)).alloc (.cells #[.int .u64 0, .bool false] 33)).alloc (.cells #[.int .u64 q, .bool true] 33)) = w3 at *
        have HW := hide (fun w' (hb : Below W.heap.size W w') => with_any W.heap.size (some ⟨b, o, none⟩) c n X k ((q + nw) % 18446744073709551616) w' (H.out.below hb) hb.size HX.out HK.out HN.out)
        have a0 := row20 R7.out
        have a1 := row21 R7.out
        have b1 : w3.cell? ⟨W.heap.size, 2, none⟩ = some (.int .i64 k) := R3.out.cell 2
        have b2 : w3.cell? ⟨W.heap.size, 4, none⟩ = some (.int .u64 nw) := R3.out.cell 4
        have l3 := R3.out.lt
        have l7 := R7.out.lt
        have l5 := R5.out.lt
        have f0 : w3.cell? ⟨W.heap.size + 1 + 1, 0, none⟩ = some (.int .u64 q) := R7.out.cell 0
        have f1 : w3.cell? ⟨W.heap.size + 1 + 1, 1, none⟩ = some (.bool true) := R7.out.cell 1
        have f2 : w3.cell? ⟨W.heap.size, 2, none⟩ = some (.int .i64 k) := R3.out.cell 2
        have f3 : w3.cell? ⟨W.heap.size, 4, none⟩ = some (.int .u64 nw) := R3.out.cell 4
        have f4 : w3.frozen? ⟨W.heap.size + 1, 0, none⟩ = false := R5.out.frozen 0
        have f5 : w3.frozen? ⟨W.heap.size + 1, 1, none⟩ = false := R5.out.frozen 1
        have f6 : W.heap.size + 1 < w3.heap.size := R5.out.lt
        clear a0 a1 b1 b2 l3 l7 l5
        have hbd0 : Below W.heap.size W w3.drew := HB.out.drew
        have z0 : w3.drew.cell? ⟨W.heap.size + 1, 0, none⟩ = some (.int .u64 0) := R5.out.cell 0
        have z1 : w3.drew.cell? ⟨W.heap.size + 1, 1, none⟩ = some (.bool false) := R5.out.cell 1
        have HS : Hid (∀ w w', (Below W.heap.size W w ∧ w.cell? ⟨W.heap.size + 1 + 1, 0, none⟩ = some (.int .u64 q) ∧ w.cell? ⟨W.heap.size + 1 + 1, 1, none⟩ = some (.bool true) ∧ w.cell? ⟨W.heap.size, 2, none⟩ = some (.int .i64 k) ∧ w.cell? ⟨W.heap.size, 4, none⟩ = some (.int .u64 nw) ∧ w.frozen? ⟨W.heap.size + 1, 0, none⟩ = false ∧ w.frozen? ⟨W.heap.size + 1, 1, none⟩ = false ∧ W.heap.size + 1 < w.heap.size) → Below w.heap.size w w' → (Below W.heap.size W w' ∧ w'.cell? ⟨W.heap.size + 1 + 1, 0, none⟩ = some (.int .u64 q) ∧ w'.cell? ⟨W.heap.size + 1 + 1, 1, none⟩ = some (.bool true) ∧ w'.cell? ⟨W.heap.size, 2, none⟩ = some (.int .i64 k) ∧ w'.cell? ⟨W.heap.size, 4, none⟩ = some (.int .u64 nw) ∧ w'.frozen? ⟨W.heap.size + 1, 0, none⟩ = false ∧ w'.frozen? ⟨W.heap.size + 1, 1, none⟩ = false ∧ W.heap.size + 1 < w'.heap.size)) := hide (fun w w' h hb => ⟨h.1.trans (hb.mono h.1.size), kept hb h.2.1, kept hb h.2.2.1, kept hb h.2.2.2.1, kept hb h.2.2.2.2.1, keptF hb h.2.2.2.2.2.2.2 h.2.2.2.2.2.1, keptF hb h.2.2.2.2.2.2.2 h.2.2.2.2.2.2.1, Nat.lt_of_lt_of_le h.2.2.2.2.2.2.2 hb.size⟩)
        go_region_held3 (fun wX => Below W.heap.size W wX ∧ wX.cell? ⟨W.heap.size + 1 + 1, 0, none⟩ = some (.int .u64 q) ∧ wX.cell? ⟨W.heap.size + 1 + 1, 1, none⟩ = some (.bool true) ∧ wX.cell? ⟨W.heap.size, 2, none⟩ = some (.int .i64 k) ∧ wX.cell? ⟨W.heap.size, 4, none⟩ = some (.int .u64 nw) ∧ wX.frozen? ⟨W.heap.size + 1, 0, none⟩ = false ∧ wX.frozen? ⟨W.heap.size + 1, 1, none⟩ = false ∧ W.heap.size + 1 < wX.heap.size)
          (first | exact HS.out _ _ ‹_› hb | exact ⟨hbd0, f0, f1, f2, f3, f4, f5, f6⟩ | (refine ⟨(hbq.setCell (p := ⟨W.heap.size + 1, 0, none⟩) (by show _ ≤ W.heap.size + 1; omega) _).setCell (p := ⟨W.heap.size + 1, 1, none⟩) (by show _ ≤ W.heap.size + 1; omega) _, ?_⟩; go_keep) | go_keep)
          (first | (go_at_call 38; (with_reducible refine (HW.out _ (And.left ‹Below W.heap.size W _ ∧ _›)).mono ?_); rintro e wq ⟨g, c1, rfl, hc1, hcm1, hown, hb⟩; have hbq := (And.left ‹Below W.heap.size W _ ∧ _›).trans (hb.mono (And.left ‹Below W.heap.size W _ ∧ _›).size); have y0 := kept hb z0; have y1 := kept hb z1))
        rename_i hHeld
        have hbd := And.left hHeld
        clear hHeld HS f0 f1 f2 f3 f4 f5 f6 z0 z1 y0 y1
        have R5q := (R5.out.drew).below hb
        have hgf := own_fresh hown _ rfl
        have hgf2 : W.heap.size + 1 < g := by have h1 := R5.out.lt; have h2 : w3.heap.size ≤ g := hgf; omega
        have R5F := (R5q.set 0 (.int .u64 q)).set 1 (.bool true)
        simp only [List.setIfInBounds_toArray, List.set_cons_zero, List.set_cons_succ] at R5F
        have hRd := ((Rd.of_own hown).setOffS (g := W.heap.size + 1) (fun p hp => by injection hp with hp; subst hp; show g ≠ _; omega) 0 (.int .u64 q)).setOffS (g := W.heap.size + 1) (fun p hp => by injection hp with hp; subst hp; show g ≠ _; omega) 1 (.bool true)
        generalize (wq.setCell ⟨W.heap.size + 1, 0, none⟩ (.int .u64 q)).setCell ⟨W.heap.size + 1, 1, none⟩ (.bool true) = w9 at *
        clear hown hb hbq R5q
        go_wp2_with fail
        have hX : X.set k ((q + nw) % 18446744073709551616) = Y := by have h := HY.out; rw [if_neg (by decide), if_neg (by decide), if_neg (by decide)] at h; exact h
        rw [hX] at hRd
        refine bodyPost_ret (v := .tuple #[.slice (some ⟨g, 0, none⟩) n c1, .agg #[.int .u64 q, .bool true]]) (by simp [results, Try.results16, go_sem, row20 R5F, row21 R5F, R5F.lt]) rfl ⟨some ⟨g, 0, none⟩, c1, rfl, hc1, hcm1, hRd, hbd, fun p hp => .inr (by injection hp with hp; subst hp; show W.heap.size ≤ g; omega)⟩
end Go.Proofs.Ytadgihmokmfejaa
