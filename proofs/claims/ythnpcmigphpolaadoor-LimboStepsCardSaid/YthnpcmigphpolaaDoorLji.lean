/-
  The same limbos: the reference's, the program's. Since when: the reference's.
-/
import Derived.Test.YthnpcmigphpolaaDoorLjh
import Derived.Deep.RegionHeld3
set_option linter.unusedSimpArgs false
set_option linter.unusedVariables false
namespace Go.Proofs.YthnpcmigphpolaaDoor
open Go Go.RowKit
attribute [local go_sem] via_cell via_frozen

def sameB (l m : Lim) : Bool := decide (l.E = m.E) && (decide (l.r 0 = m.r 0) && (decide (l.r 1 = m.r 1) && decide (l.r 2 = m.r 2)))
theorem rrow_n (B : Nat) (A1 A2 : Option Addr) (n1 n2 c1 c2 : Nat) (xs ys : List Ent) (W : World) (h1 : Rd W B 2 A1 n1 (Cs encE xs)) (h2 : Rd W B 2 A2 n2 (Cs encE ys)) (hx1 : xs.length = n1) (hx2 : ys.length = n2) (hB : B ≤ W.heap.size)
    (hl1 : n1 ≤ 4096) (hl2 : n2 ≤ 4096) (r : Bool) (hr : decide (xs = ys) = r) :
    Calls Tryd.prog 45 #[.slice A1 n1 c1, .slice A2 n2 c2] W fun e W' => e = .returned (.bool r) ∧ Below W.heap.size W W' := by
  subst hx1; subst hx2
  exact rrow_any B A1 A2 c1 c2 xs ys W h1 h2 hB hl1 hl2 r hr
theorem equal_n (B : Nat) (A1 A2 : Option Addr) (n1 n2 c1 c2 : Nat) (xs ys : List Ent) (W : World) (h1 : Rd W B 2 A1 n1 (Cs encE xs)) (h2 : Rd W B 2 A2 n2 (Cs encE ys)) (hx1 : xs.length = n1) (hx2 : ys.length = n2) (hB : B ≤ W.heap.size)
    (hl1 : n1 ≤ 4096) (hl2 : n2 ≤ 4096) (r : Bool) (hr : decide (xs = ys) = r) :
    Calls Tryd.prog 12 #[.slice A1 n1 c1, .slice A2 n2 c2] W fun e W' => e = .returned (.bool r) ∧ Below W.heap.size W W' := by
  subst hx1; subst hx2
  exact EqualE B B A1 A2 c1 c2 xs ys W h1 h2 hB hB hl1 hl2 r hr
/-- Two limbos in boxes. -/
structure TwoL (w : World) (g1 g2 : Nat) (l m : Lim) (A : Nat → Option Addr) (n c : Nat → Nat) (A' : Nat → Option Addr) (n' c' : Nat → Nat) : Prop where
  r1 : RowAt w g1 26 (limC l.E A n c)
  r2 : RowAt w g2 26 (limC m.E A' n' c')
  d1 : LimRd w w.heap.size A n l.r
  d2 : LimRd w w.heap.size A' n' m.r
  m1 : ∀ k, k < 3 → n k ≤ 4096
  m2 : ∀ k, k < 3 → n' k ≤ 4096
theorem TwoL.later {w w2 : World} {g1 g2 : Nat} {l m : Lim} {A : Nat → Option Addr} {n c : Nat → Nat} {A' : Nat → Option Addr} {n' c' : Nat → Nat} (h : TwoL w g1 g2 l m A n c A' n' c') (hb : Below w.heap.size w w2) : TwoL w2 g1 g2 l m A n c A' n' c' :=
  ⟨h.r1.below hb, h.r2.below hb, (h.d1.below hb).more hb.size, (h.d2.below hb).more hb.size, h.m1, h.m2⟩
theorem TwoL.new {W : World} {l m : Lim} {A : Nat → Option Addr} {n c : Nat → Nat} {A' : Nat → Option Addr} {n' c' : Nat → Nat} (h1 : LimRd W W.heap.size A n l.r) (h2 : LimRd W W.heap.size A' n' m.r) (m1 : ∀ k, k < 3 → n k ≤ 4096) (m2 : ∀ k, k < 3 → n' k ≤ 4096) :
    TwoL ((W.alloc (.cells (limC l.E A n c) 26)).alloc (.cells (limC m.E A' n' c') 26)) W.heap.size (W.heap.size + 1) l m A n c A' n' c' ∧ Below W.heap.size W ((W.alloc (.cells (limC l.E A n c) 26)).alloc (.cells (limC m.E A' n' c') 26)) := by
  have hb : Below W.heap.size W ((W.alloc (.cells (limC l.E A n c) 26)).alloc (.cells (limC m.E A' n' c') 26)) := ((Below.refl _ _).alloc (Nat.le_refl _) _).alloc (by simp) _
  refine ⟨⟨(RowAt.new W 26 _).below ((Below.refl _ _).alloc (Nat.le_refl _) _), ?_, (h1.below hb).more hb.size, (h2.below hb).more hb.size, m1, m2⟩, hb⟩
  have h := RowAt.new (W.alloc (.cells (limC l.E A n c) 26)) 26 (limC m.E A' n' c')
  simpa using h
set_option maxHeartbeats 2000000 in
theorem rsame_any (A : Nat → Option Addr) (n c : Nat → Nat) (l : Lim) (A' : Nat → Option Addr) (n' c' : Nat → Nat) (m : Lim) (W : World) (h1 : LimRd W W.heap.size A n l.r) (h2 : LimRd W W.heap.size A' n' m.r) (m1 : ∀ k, k < 3 → n k ≤ 4096) (m2 : ∀ k, k < 3 → n' k ≤ 4096) (r : Bool) (hr : sameB l m = r) :
    Calls Tryd.prog 21 #[.agg (limC l.E A n c), .agg (limC m.E A' n' c')] W fun e W' => e = .returned (.bool r) ∧ Below W.heap.size W W' := by
  obtain ⟨ht, hb⟩ := TwoL.new (c := c) (c' := c') h1 h2 m1 m2
  have HT := hide ht
  have HB := hide hb
  have HR := hide hr
  clear ht hb hr h1 h2 m1 m2
  by_cases hE : l.E = m.E
  · have hd : ((l.E : Int) == (m.E : Int)) = true := by simp; omega
    have HEE := hide hE
    clear hE
    go_enter Tryd.func21, Tryd.ntmps21
    go_wp2_with fail
    generalize (W.alloc (.cells (limC l.E A n c) 26)).alloc (.cells (limC m.E A' n' c') 26) = w0 at *
    have q0 : w0.cell? ⟨W.heap.size, 0, none⟩ = some (.int .u64 (l.E : Int)) := by have := RowAt.cell HT.out.r1 0; simpa [limC] using this
    have q1 : w0.cell? ⟨W.heap.size, 1, none⟩ = some (.slice (A 0) (n 0) (c 0)) := by have := RowAt.cell HT.out.r1 1; simpa [limC] using this
    have q2 : w0.cell? ⟨W.heap.size, 2, none⟩ = some (.slice (A 1) (n 1) (c 1)) := by have := RowAt.cell HT.out.r1 2; simpa [limC] using this
    have q3 : w0.cell? ⟨W.heap.size, 3, none⟩ = some (.slice (A 2) (n 2) (c 2)) := by have := RowAt.cell HT.out.r1 3; simpa [limC] using this
    have p0 : w0.cell? ⟨(W.heap.size + 1), 0, none⟩ = some (.int .u64 (m.E : Int)) := by have := RowAt.cell HT.out.r2 0; simpa [limC] using this
    have p1 : w0.cell? ⟨(W.heap.size + 1), 1, none⟩ = some (.slice (A' 0) (n' 0) (c' 0)) := by have := RowAt.cell HT.out.r2 1; simpa [limC] using this
    have p2 : w0.cell? ⟨(W.heap.size + 1), 2, none⟩ = some (.slice (A' 1) (n' 1) (c' 1)) := by have := RowAt.cell HT.out.r2 2; simpa [limC] using this
    have p3 : w0.cell? ⟨(W.heap.size + 1), 3, none⟩ = some (.slice (A' 2) (n' 2) (c' 2)) := by have := RowAt.cell HT.out.r2 3; simpa [limC] using this
    have ql := HT.out.r1.lt
    have pl := HT.out.r2.lt
    obtain ⟨b0, hb0⟩ : ∃ b0, decide (l.r 0 = m.r 0) = b0 := ⟨_, rfl⟩
    have HC := hide (rrow_n w0.heap.size (A 0) (A' 0) (n 0) (n' 0) (c 0) (c' 0) (l.r 0) (m.r 0) w0 (HT.out.d1.rd 0 (by omega)) (HT.out.d2.rd 0 (by omega)) (HT.out.d1.len 0 (by omega)) (HT.out.d2.len 0 (by omega)) (Nat.le_refl _) (HT.out.m1 0 (by omega)) (HT.out.m2 0 (by omega)) b0 hb0)
    have HQ0 := hide hb0
    clear hb0
    go_wp2_with fail
    with_reducible refine HC.out.mono ?_
    rintro e w1 ⟨rfl, hb⟩
    have HT := hide (HT.out.later hb)
    have HB := hide (HB.out.trans (hb.mono HB.out.size))
    clear q0 q1 q2 q3 p0 p1 p2 p3 ql pl HC hb
    cases b0 with
    | false =>
      have HF := hide (show false = r from by rw [← HR.out]; unfold sameB; rw [HQ0.out]; simp)
      go_wp2_with fail
      go_ret
      exact ⟨ret_bool HF.out, HB.out⟩
    | true =>
      have q0 : w1.cell? ⟨W.heap.size, 0, none⟩ = some (.int .u64 (l.E : Int)) := by have := RowAt.cell HT.out.r1 0; simpa [limC] using this
      have q1 : w1.cell? ⟨W.heap.size, 1, none⟩ = some (.slice (A 0) (n 0) (c 0)) := by have := RowAt.cell HT.out.r1 1; simpa [limC] using this
      have q2 : w1.cell? ⟨W.heap.size, 2, none⟩ = some (.slice (A 1) (n 1) (c 1)) := by have := RowAt.cell HT.out.r1 2; simpa [limC] using this
      have q3 : w1.cell? ⟨W.heap.size, 3, none⟩ = some (.slice (A 2) (n 2) (c 2)) := by have := RowAt.cell HT.out.r1 3; simpa [limC] using this
      have p0 : w1.cell? ⟨(W.heap.size + 1), 0, none⟩ = some (.int .u64 (m.E : Int)) := by have := RowAt.cell HT.out.r2 0; simpa [limC] using this
      have p1 : w1.cell? ⟨(W.heap.size + 1), 1, none⟩ = some (.slice (A' 0) (n' 0) (c' 0)) := by have := RowAt.cell HT.out.r2 1; simpa [limC] using this
      have p2 : w1.cell? ⟨(W.heap.size + 1), 2, none⟩ = some (.slice (A' 1) (n' 1) (c' 1)) := by have := RowAt.cell HT.out.r2 2; simpa [limC] using this
      have p3 : w1.cell? ⟨(W.heap.size + 1), 3, none⟩ = some (.slice (A' 2) (n' 2) (c' 2)) := by have := RowAt.cell HT.out.r2 3; simpa [limC] using this
      have ql := HT.out.r1.lt
      have pl := HT.out.r2.lt
      obtain ⟨b1, hb1⟩ : ∃ b1, decide (l.r 1 = m.r 1) = b1 := ⟨_, rfl⟩
      have HC := hide (rrow_n w1.heap.size (A 1) (A' 1) (n 1) (n' 1) (c 1) (c' 1) (l.r 1) (m.r 1) w1 (HT.out.d1.rd 1 (by omega)) (HT.out.d2.rd 1 (by omega)) (HT.out.d1.len 1 (by omega)) (HT.out.d2.len 1 (by omega)) (Nat.le_refl _) (HT.out.m1 1 (by omega)) (HT.out.m2 1 (by omega)) b1 hb1)
      have HQ1 := hide hb1
      clear hb1
      go_wp2_with fail
      with_reducible refine HC.out.mono ?_
      rintro e w2 ⟨rfl, hb⟩
      have HT := hide (HT.out.later hb)
      have HB := hide (HB.out.trans (hb.mono HB.out.size))
      clear q0 q1 q2 q3 p0 p1 p2 p3 ql pl HC hb
      cases b1 with
      | false =>
        have HF := hide (show false = r from by rw [← HR.out]; unfold sameB; rw [HQ1.out]; simp)
        go_wp2_with fail
        go_ret
        exact ⟨ret_bool HF.out, HB.out⟩
      | true =>
        have q0 : w2.cell? ⟨W.heap.size, 0, none⟩ = some (.int .u64 (l.E : Int)) := by have := RowAt.cell HT.out.r1 0; simpa [limC] using this
        have q1 : w2.cell? ⟨W.heap.size, 1, none⟩ = some (.slice (A 0) (n 0) (c 0)) := by have := RowAt.cell HT.out.r1 1; simpa [limC] using this
        have q2 : w2.cell? ⟨W.heap.size, 2, none⟩ = some (.slice (A 1) (n 1) (c 1)) := by have := RowAt.cell HT.out.r1 2; simpa [limC] using this
        have q3 : w2.cell? ⟨W.heap.size, 3, none⟩ = some (.slice (A 2) (n 2) (c 2)) := by have := RowAt.cell HT.out.r1 3; simpa [limC] using this
        have p0 : w2.cell? ⟨(W.heap.size + 1), 0, none⟩ = some (.int .u64 (m.E : Int)) := by have := RowAt.cell HT.out.r2 0; simpa [limC] using this
        have p1 : w2.cell? ⟨(W.heap.size + 1), 1, none⟩ = some (.slice (A' 0) (n' 0) (c' 0)) := by have := RowAt.cell HT.out.r2 1; simpa [limC] using this
        have p2 : w2.cell? ⟨(W.heap.size + 1), 2, none⟩ = some (.slice (A' 1) (n' 1) (c' 1)) := by have := RowAt.cell HT.out.r2 2; simpa [limC] using this
        have p3 : w2.cell? ⟨(W.heap.size + 1), 3, none⟩ = some (.slice (A' 2) (n' 2) (c' 2)) := by have := RowAt.cell HT.out.r2 3; simpa [limC] using this
        have ql := HT.out.r1.lt
        have pl := HT.out.r2.lt
        obtain ⟨b2, hb2⟩ : ∃ b2, decide (l.r 2 = m.r 2) = b2 := ⟨_, rfl⟩
        have HC := hide (rrow_n w2.heap.size (A 2) (A' 2) (n 2) (n' 2) (c 2) (c' 2) (l.r 2) (m.r 2) w2 (HT.out.d1.rd 2 (by omega)) (HT.out.d2.rd 2 (by omega)) (HT.out.d1.len 2 (by omega)) (HT.out.d2.len 2 (by omega)) (Nat.le_refl _) (HT.out.m1 2 (by omega)) (HT.out.m2 2 (by omega)) b2 hb2)
        have HQ2 := hide hb2
        clear hb2
        go_wp2_with fail
        with_reducible refine HC.out.mono ?_
        rintro e w3 ⟨rfl, hb⟩
        have HT := hide (HT.out.later hb)
        have HB := hide (HB.out.trans (hb.mono HB.out.size))
        clear q0 q1 q2 q3 p0 p1 p2 p3 ql pl HC hb
        cases b2 with
        | false =>
          have HF := hide (show false = r from by rw [← HR.out]; unfold sameB; rw [HQ2.out]; simp)
          go_wp2_with fail
          go_ret
          exact ⟨ret_bool HF.out, HB.out⟩
        | true =>
          have HF := hide (show true = r from by rw [← HR.out]; unfold sameB; rw [HQ0.out, HQ1.out, HQ2.out]; simp [HEE.out])
          go_wp2_with fail
          go_ret
          exact ⟨ret_bool HF.out, HB.out⟩
  · have hd : ((l.E : Int) == (m.E : Int)) = false := by simp; omega
    have HF := hide (show false = r from by rw [← HR.out]; unfold sameB; simp [hE])
    clear hE
    go_enter Tryd.func21, Tryd.ntmps21
    go_wp2_with fail
    go_ret
    exact ⟨ret_bool HF.out, HB.out⟩
theorem same1_any (B : Nat) (A1 A2 : Option Addr) (n1 n2 c1 c2 : Nat) (xs ys : List Ent) (W : World) (h1 : Rd W B 2 A1 n1 (Cs encE xs)) (h2 : Rd W B 2 A2 n2 (Cs encE ys)) (hx1 : xs.length = n1) (hx2 : ys.length = n2) (hB : B ≤ W.heap.size)
    (hl1 : n1 ≤ 4096) (hl2 : n2 ≤ 4096) (r : Bool) (hr : decide (xs = ys) = r) :
    Calls Tryd.prog 46 #[.slice A1 n1 c1, .slice A2 n2 c2] W fun e W' => e = .returned (.bool r) ∧ Below W.heap.size W W' := by
  have HC := hide (equal_n B A1 A2 n1 n2 c1 c2 xs ys W h1 h2 hx1 hx2 hB hl1 hl2 r hr)
  clear h1 h2 hr
  go_enter Tryd.func46, Tryd.ntmps46
  go_wp2_with fail
  with_reducible refine HC.out.mono ?_
  rintro e w1 ⟨rfl, hb⟩
  have HB := hide hb
  go_wp2_with fail
  go_ret
  exact ⟨rfl, HB.out⟩
def rowsB (l m : Lim) : Bool := decide (l.r 0 = m.r 0) && (decide (l.r 1 = m.r 1) && decide (l.r 2 = m.r 2))
theorem rowsB_no {l m : Lim} {k : Nat} (hk : k < 3) (h : decide (l.r k = m.r k) = false) : rowsB l m = false := by
  unfold rowsB
  match k, hk with
  | 0, _ => rw [h]; rfl
  | 1, _ => rw [h]; simp
  | 2, _ => rw [h]; simp
set_option maxHeartbeats 2000000 in
theorem eqfun_any (g1 g2 : Nat) (l m : Lim) (A : Nat → Option Addr) (n c : Nat → Nat) (A' : Nat → Option Addr) (n' c' : Nat → Nat) (W : World) (h : TwoL W g1 g2 l m A n c A' n' c') (r : Bool) (hr : rowsB l m = r) :
    Calls Tryd.prog 47 #[.slice (some ⟨g1, 1, none⟩) 3 3, .slice (some ⟨g2, 1, none⟩) 3 3, .func (.func 46) #[] #[]] W fun e W' => e = .returned (.bool r) ∧ Below W.heap.size W W' := by
  have H := hide h
  have HR := hide hr
  clear h hr
  go_enter Tryd.func47, Tryd.ntmps47
  go_wp2_with fail
  go_loopw [17] (fun i wr => ∃ k : Nat, k ≤ 3 ∧ i = .int .i64 k ∧ (∀ j, j < k → decide (l.r j = m.r j) = true) ∧ Below W.heap.size W wr) (fun i _ => 3 - (intOf i).toNat)
  case atStart => exact ⟨0, by omega, rfl, fun j hj => absurd hj (Nat.not_lt_zero _), Below.refl _ _⟩
  case round =>
    obtain ⟨k, hk, rfl, hall, hbw⟩ := hrel
    have HA := hide hall
    have HBW := hide hbw
    have HT := hide (H.out.later hbw)
    clear hall hbw
    by_cases hlt : k < 3
    · have hki : (k : Int) < 3 := by omega
      have x1 := limC_cell HT.out.r1 hlt
      have x2 := limC_cell HT.out.r2 hlt
      have l1 := HT.out.r1.lt
      have l2 := HT.out.r2.lt
      obtain ⟨q, hq⟩ : ∃ q, decide (l.r k = m.r k) = q := ⟨_, rfl⟩
      have HC := hide (same1_any wr.heap.size (A k) (A' k) (n k) (n' k) (c k) (c' k) (l.r k) (m.r k) wr (HT.out.d1.rd k hlt) (HT.out.d2.rd k hlt) (HT.out.d1.len k hlt) (HT.out.d2.len k hlt) (Nat.le_refl _) (HT.out.m1 k hlt) (HT.out.m2 k hlt) q hq)
      have HQ := hide hq
      clear hq
      go_wp2_with fail
      with_reducible refine HC.out.mono ?_
      rintro e w1 ⟨rfl, hb⟩
      have HBE := hide (HBW.out.trans (hb.mono HBW.out.size))
      clear hb x1 x2 l1 l2 HC
      cases q with
      | false =>
        have HF := hide (show false = r from by rw [← HR.out, rowsB_no hlt HQ.out])
        go_wp2_with fail
        go_ret
        exact ⟨ret_bool HF.out, HBE.out⟩
      | true =>
        have HA2 := hide (show ∀ j, j < k + 1 → decide (l.r j = m.r j) = true from fun j hj => by
          by_cases hjk : j = k
          · subst hjk; exact HQ.out
          · exact HA.out j (by omega))
        go_wp2_with fail
        go_roundw
        case rel => exact ⟨k + 1, by omega, by go_num, HA2.out, HBE.out⟩
        case measure => simp [intOf]; omega
    · obtain rfl : k = 3 := by omega
      have HF := hide (show true = r from by rw [← HR.out]; unfold rowsB; rw [HA.out 0 (by omega), HA.out 1 (by omega), HA.out 2 (by omega)]; rfl)
      go_wp2_with fail
      go_ret
      exact ⟨ret_bool HF.out, HBW.out⟩
set_option maxHeartbeats 2000000 in
theorem same_any (A : Nat → Option Addr) (n c : Nat → Nat) (l : Lim) (A' : Nat → Option Addr) (n' c' : Nat → Nat) (m : Lim) (W : World) (h1 : LimRd W W.heap.size A n l.r) (h2 : LimRd W W.heap.size A' n' m.r) (m1 : ∀ k, k < 3 → n k ≤ 4096) (m2 : ∀ k, k < 3 → n' k ≤ 4096) (r : Bool) (hr : sameB l m = r) :
    Calls Tryd.prog 26 #[.agg (limC l.E A n c), .agg (limC m.E A' n' c')] W fun e W' => e = .returned (.bool r) ∧ Below W.heap.size W W' := by
  obtain ⟨ht, hb⟩ := TwoL.new (c := c) (c' := c') h1 h2 m1 m2
  have HT := hide ht
  have HB := hide hb
  have HR := hide hr
  clear ht hb hr h1 h2 m1 m2
  by_cases hE : l.E = m.E
  · have hd : ((l.E : Int) == (m.E : Int)) = true := by simp; omega
    have HF := hide (show rowsB l m = r from by rw [← HR.out]; unfold sameB rowsB; simp [hE])
    clear hE
    go_enter Tryd.func26, Tryd.ntmps26
    go_wp2_with fail
    generalize (W.alloc (.cells (limC l.E A n c) 26)).alloc (.cells (limC m.E A' n' c') 26) = w0 at *
    have q0 : w0.cell? ⟨W.heap.size, 0, none⟩ = some (.int .u64 (l.E : Int)) := by have := HT.out.r1.cell 0; simpa [limC] using this
    have p0 : w0.cell? ⟨W.heap.size + 1, 0, none⟩ = some (.int .u64 (m.E : Int)) := by have := HT.out.r2.cell 0; simpa [limC] using this
    have ql := HT.out.r1.lt
    have pl := HT.out.r2.lt
    have HEQ := hide (fun (w : World) (hb : Below w0.heap.size w0 w) => eqfun_any W.heap.size (W.heap.size + 1) l m A n c A' n' c' w (HT.out.later hb) r HF.out)
    go_upto_region 2 with (fail)
    refine wp_region_held_drew (S := fun wX => Below w0.heap.size w0 wX) (by kernel_rfl) (Below.refl _ _).drew (fun hHeld => ?_)
    have HQ := hide ((Below.refl w0.heap.size w0).drew)
    (refine wpAnyH_take (i := 0) (v := ?_) rfl (by kernel_rfl) (by kernel_rfl) (by kernel_rfl) (fun _ _ _ h => h) (Or.inl ⟨by rfl, ?_⟩) (by assumption) ?_; rotate_left; (focus (intro w hSw; (try dsimp only at hSw); go_simp; first | done | with_reducible rfl)); (try simp only [Act.put, List.getElem_toArray, List.getElem_cons_succ, List.getElem_cons_zero, List.setIfInBounds_toArray, List.set_cons_zero, List.set_cons_succ]))
    (refine wpAnyH_take (i := 1) (v := ?_) rfl (by kernel_rfl) (by kernel_rfl) (by kernel_rfl) (fun _ _ _ h => h) (Or.inl ⟨by rfl, ?_⟩) (by assumption) ?_; rotate_left; (focus (intro w hSw; (try dsimp only at hSw); have kf0 := kept hSw q0; go_simp; first | done | with_reducible rfl)); (try simp only [Act.put, List.getElem_toArray, List.getElem_cons_succ, List.getElem_cons_zero, List.setIfInBounds_toArray, List.set_cons_zero, List.set_cons_succ]))
    (refine wpAnyH_take (i := 2) (v := ?_) rfl (by kernel_rfl) (by kernel_rfl) (by kernel_rfl) (fun _ _ _ h => h) (Or.inl ⟨by rfl, ?_⟩) (by assumption) ?_; rotate_left; (focus (intro w hSw; (try dsimp only at hSw); go_simp; first | done | with_reducible rfl)); (try simp only [Act.put, List.getElem_toArray, List.getElem_cons_succ, List.getElem_cons_zero, List.setIfInBounds_toArray, List.set_cons_zero, List.set_cons_succ]))
    (refine wpAnyH_take (i := 3) (v := ?_) rfl (by kernel_rfl) (by kernel_rfl) (by kernel_rfl) (fun _ _ _ h => h) (Or.inl ⟨by rfl, ?_⟩) (by assumption) ?_; rotate_left; (focus (intro w hSw; (try dsimp only at hSw); have kf0 := kept hSw p0; go_simp; first | done | with_reducible rfl)); (try simp only [Act.put, List.getElem_toArray, List.getElem_cons_succ, List.getElem_cons_zero, List.setIfInBounds_toArray, List.set_cons_zero, List.set_cons_succ]))
    (refine wpAnyH_take (i := 4) (v := ?_) rfl (by kernel_rfl) (by kernel_rfl) (by kernel_rfl) (fun _ _ _ h => h) (Or.inl ⟨by rfl, ?_⟩) (by assumption) ?_; rotate_left; (focus (intro w hSw; (try dsimp only at hSw); go_simp; first | done | with_reducible rfl)); (try simp only [Act.put, List.getElem_toArray, List.getElem_cons_succ, List.getElem_cons_zero, List.setIfInBounds_toArray, List.set_cons_zero, List.set_cons_succ]))
    (refine wpAnyH_take (i := 5) (v := ?_) rfl (by kernel_rfl) (by kernel_rfl) (by kernel_rfl) (fun _ _ _ h => h) (Or.inl ⟨by rfl, ?_⟩) (by assumption) ?_; rotate_left; (focus (intro w hSw; (try dsimp only at hSw); go_simp; first | done | with_reducible rfl)); (try simp only [Act.put, List.getElem_toArray, List.getElem_cons_succ, List.getElem_cons_zero, List.setIfInBounds_toArray, List.set_cons_zero, List.set_cons_succ]))
    (refine wpAnyH_take (i := 6) (v := ?_) rfl (by kernel_rfl) (by kernel_rfl) (by kernel_rfl) (fun _ _ _ h => h) (Or.inl ⟨by rfl, ?_⟩) (by assumption) ?_; rotate_left; (focus (intro w hSw; (try dsimp only at hSw); go_simp; first | done | with_reducible rfl)); (try simp only [Act.put, List.getElem_toArray, List.getElem_cons_succ, List.getElem_cons_zero, List.setIfInBounds_toArray, List.set_cons_zero, List.set_cons_succ]))
    (refine wpAnyH_take (i := 7) (v := ?_) rfl (by kernel_rfl) (by kernel_rfl) (by kernel_rfl) (fun _ _ _ h => h) (Or.inl ⟨by rfl, ?_⟩) (by assumption) ?_; rotate_left; (focus (intro w hSw; (try dsimp only at hSw); go_simp; first | done | with_reducible rfl)); (try simp only [Act.put, List.getElem_toArray, List.getElem_cons_succ, List.getElem_cons_zero, List.setIfInBounds_toArray, List.set_cons_zero, List.set_cons_succ]))
    (refine wpAnyH_take (i := 8) (v := ?_) rfl (by kernel_rfl) (by kernel_rfl) (by kernel_rfl) (fun _ _ _ h => h) (Or.inl ⟨by rfl, ?_⟩) (by assumption) ?_; rotate_left; (focus (intro w hSw; (try dsimp only at hSw); go_simp; first | done | with_reducible rfl)); (try simp only [Act.put, List.getElem_toArray, List.getElem_cons_succ, List.getElem_cons_zero, List.setIfInBounds_toArray, List.set_cons_zero, List.set_cons_succ]))
    (refine wpAnyH_take (i := 9) (v := ?_) rfl (by kernel_rfl) (by kernel_rfl) (by kernel_rfl) (fun _ _ _ h => h) (Or.inl ⟨by rfl, ?_⟩) (by assumption) ?_; rotate_left; (focus (intro w hSw; (try dsimp only at hSw); go_simp; first | done | with_reducible rfl)); (try simp only [Act.put, List.getElem_toArray, List.getElem_cons_succ, List.getElem_cons_zero, List.setIfInBounds_toArray, List.set_cons_zero, List.set_cons_succ]))
    (refine wpAnyH_take (i := 10) (v := ?_) rfl (by kernel_rfl) (by kernel_rfl) (by kernel_rfl) (fun _ _ _ h => h) (Or.inl ⟨by rfl, ?_⟩) (by assumption) ?_; rotate_left; (focus (intro w hSw; (try dsimp only at hSw); go_simp; first | done | with_reducible rfl)); (try simp only [Act.put, List.getElem_toArray, List.getElem_cons_succ, List.getElem_cons_zero, List.setIfInBounds_toArray, List.set_cons_zero, List.set_cons_succ]))
    generalize w0.drew = wd at *
    refine wpAnyH_ready (rs := [11]) (by kernel_rfl) (by simp) ?_
    refine (AllReadyH.cons rfl (fun K0 hK0 => ?_) AllReadyH.nil)
    go_simp
    refine (HEQ.out _ HQ.out).mono ?_
    rintro e wj ⟨rfl, hbj⟩
    replace HQ := hide (HQ.out.trans (hbj.mono HQ.out.size))
    clear hbj
    refine hK0.out _ _ (HQ.out) (fun _ => ?_)
    clear hK0 K0
    (try simp only [Act.put, List.getElem_toArray, List.getElem_cons_succ, List.getElem_cons_zero, List.setIfInBounds_toArray, List.set_cons_zero, List.set_cons_succ])
    (refine wpAnyH_take (i := 12) (v := ?_) rfl (by kernel_rfl) (by kernel_rfl) (by kernel_rfl) (fun _ _ _ h => h) (Or.inl ⟨by rfl, ?_⟩) (by assumption) ?_; rotate_left; (focus (intro w hSw; (try dsimp only at hSw); go_simp; first | done | with_reducible rfl)); (try simp only [Act.put, List.getElem_toArray, List.getElem_cons_succ, List.getElem_cons_zero, List.setIfInBounds_toArray, List.set_cons_zero, List.set_cons_succ]))
    (refine wpAnyH_take (i := 13) (v := ?_) rfl (by kernel_rfl) (by kernel_rfl) (by kernel_rfl) (fun _ _ _ h => h) (Or.inl ⟨by rfl, ?_⟩) (by assumption) ?_; rotate_left; (focus (intro w hSw; (try dsimp only at hSw); go_simp; first | done | with_reducible rfl)); (try simp only [Act.put, List.getElem_toArray, List.getElem_cons_succ, List.getElem_cons_zero, List.setIfInBounds_toArray, List.set_cons_zero, List.set_cons_succ]))
    refine wpAnyH_done (by kernel_rfl) ?_ _
    have HFIN := hide (HB.out.trans (HQ.out.mono HB.out.size))
    clear q0 p0 ql pl HEQ HQ
    go_wp2_with fail
    go_ret
    exact ⟨rfl, HFIN.out⟩
  · have hd : ((l.E : Int) == (m.E : Int)) = false := by simp; omega
    have HF := hide (show false = r from by rw [← HR.out]; unfold sameB; simp [hE])
    clear hE
    go_enter Tryd.func26, Tryd.ntmps26
    go_wp2_with fail
    generalize (W.alloc (.cells (limC l.E A n c) 26)).alloc (.cells (limC m.E A' n' c') 26) = w0 at *
    have q0 : w0.cell? ⟨W.heap.size, 0, none⟩ = some (.int .u64 (l.E : Int)) := by have := HT.out.r1.cell 0; simpa [limC] using this
    have p0 : w0.cell? ⟨W.heap.size + 1, 0, none⟩ = some (.int .u64 (m.E : Int)) := by have := HT.out.r2.cell 0; simpa [limC] using this
    have ql := HT.out.r1.lt
    have pl := HT.out.r2.lt
    go_upto_region 2 with (fail)
    refine wp_region_held_drew (S := fun wX => Below w0.heap.size w0 wX) (by kernel_rfl) (Below.refl _ _).drew (fun hHeld => ?_)
    have HQ := hide ((Below.refl w0.heap.size w0).drew)
    (refine wpAnyH_take (i := 0) (v := ?_) rfl (by kernel_rfl) (by kernel_rfl) (by kernel_rfl) (fun _ _ _ h => h) (Or.inl ⟨by rfl, ?_⟩) (by assumption) ?_; rotate_left; (focus (intro w hSw; (try dsimp only at hSw); go_simp; first | done | with_reducible rfl)); (try simp only [Act.put, List.getElem_toArray, List.getElem_cons_succ, List.getElem_cons_zero, List.setIfInBounds_toArray, List.set_cons_zero, List.set_cons_succ]))
    (refine wpAnyH_take (i := 1) (v := ?_) rfl (by kernel_rfl) (by kernel_rfl) (by kernel_rfl) (fun _ _ _ h => h) (Or.inl ⟨by rfl, ?_⟩) (by assumption) ?_; rotate_left; (focus (intro w hSw; (try dsimp only at hSw); have kf0 := kept hSw q0; go_simp; first | done | with_reducible rfl)); (try simp only [Act.put, List.getElem_toArray, List.getElem_cons_succ, List.getElem_cons_zero, List.setIfInBounds_toArray, List.set_cons_zero, List.set_cons_succ]))
    (refine wpAnyH_take (i := 2) (v := ?_) rfl (by kernel_rfl) (by kernel_rfl) (by kernel_rfl) (fun _ _ _ h => h) (Or.inl ⟨by rfl, ?_⟩) (by assumption) ?_; rotate_left; (focus (intro w hSw; (try dsimp only at hSw); go_simp; first | done | with_reducible rfl)); (try simp only [Act.put, List.getElem_toArray, List.getElem_cons_succ, List.getElem_cons_zero, List.setIfInBounds_toArray, List.set_cons_zero, List.set_cons_succ]))
    (refine wpAnyH_take (i := 3) (v := ?_) rfl (by kernel_rfl) (by kernel_rfl) (by kernel_rfl) (fun _ _ _ h => h) (Or.inl ⟨by rfl, ?_⟩) (by assumption) ?_; rotate_left; (focus (intro w hSw; (try dsimp only at hSw); have kf0 := kept hSw p0; go_simp; first | done | with_reducible rfl)); (try simp only [Act.put, List.getElem_toArray, List.getElem_cons_succ, List.getElem_cons_zero, List.setIfInBounds_toArray, List.set_cons_zero, List.set_cons_succ]))
    (refine wpAnyH_take (i := 4) (v := ?_) rfl (by kernel_rfl) (by kernel_rfl) (by kernel_rfl) (fun _ _ _ h => h) (Or.inl ⟨by rfl, ?_⟩) (by assumption) ?_; rotate_left; (focus (intro w hSw; (try dsimp only at hSw); go_simp; first | done | with_reducible rfl)); (try simp only [Act.put, List.getElem_toArray, List.getElem_cons_succ, List.getElem_cons_zero, List.setIfInBounds_toArray, List.set_cons_zero, List.set_cons_succ]))
    (refine wpAnyH_take (i := 5) (v := ?_) rfl (by kernel_rfl) (by kernel_rfl) (by kernel_rfl) (fun _ _ _ h => h) (Or.inl ⟨by rfl, ?_⟩) (by assumption) ?_; rotate_left; (focus (intro w hSw; (try dsimp only at hSw); go_simp; first | done | with_reducible rfl)); (try simp only [Act.put, List.getElem_toArray, List.getElem_cons_succ, List.getElem_cons_zero, List.setIfInBounds_toArray, List.set_cons_zero, List.set_cons_succ]))
    (refine wpAnyH_take (i := 6) (v := undef) rfl (by kernel_rfl) (by kernel_rfl) (by kernel_rfl) (fun _ _ _ h => h) (Or.inr ⟨by rfl, rfl⟩) (by assumption) ?_; (try simp only [Act.put, List.getElem_toArray, List.getElem_cons_succ, List.getElem_cons_zero, List.setIfInBounds_toArray, List.set_cons_zero, List.set_cons_succ]))
    (refine wpAnyH_take (i := 7) (v := undef) rfl (by kernel_rfl) (by kernel_rfl) (by kernel_rfl) (fun _ _ _ h => h) (Or.inr ⟨by rfl, rfl⟩) (by assumption) ?_; (try simp only [Act.put, List.getElem_toArray, List.getElem_cons_succ, List.getElem_cons_zero, List.setIfInBounds_toArray, List.set_cons_zero, List.set_cons_succ]))
    (refine wpAnyH_take (i := 8) (v := undef) rfl (by kernel_rfl) (by kernel_rfl) (by kernel_rfl) (fun _ _ _ h => h) (Or.inr ⟨by rfl, rfl⟩) (by assumption) ?_; (try simp only [Act.put, List.getElem_toArray, List.getElem_cons_succ, List.getElem_cons_zero, List.setIfInBounds_toArray, List.set_cons_zero, List.set_cons_succ]))
    (refine wpAnyH_take (i := 9) (v := undef) rfl (by kernel_rfl) (by kernel_rfl) (by kernel_rfl) (fun _ _ _ h => h) (Or.inr ⟨by rfl, rfl⟩) (by assumption) ?_; (try simp only [Act.put, List.getElem_toArray, List.getElem_cons_succ, List.getElem_cons_zero, List.setIfInBounds_toArray, List.set_cons_zero, List.set_cons_succ]))
    (refine wpAnyH_take (i := 10) (v := undef) rfl (by kernel_rfl) (by kernel_rfl) (by kernel_rfl) (fun _ _ _ h => h) (Or.inr ⟨by rfl, rfl⟩) (by assumption) ?_; (try simp only [Act.put, List.getElem_toArray, List.getElem_cons_succ, List.getElem_cons_zero, List.setIfInBounds_toArray, List.set_cons_zero, List.set_cons_succ]))
    (refine wpAnyH_take (i := 11) (v := undef) rfl (by kernel_rfl) (by kernel_rfl) (by kernel_rfl) (fun _ _ _ h => h) (Or.inr ⟨by rfl, rfl⟩) (by assumption) ?_; (try simp only [Act.put, List.getElem_toArray, List.getElem_cons_succ, List.getElem_cons_zero, List.setIfInBounds_toArray, List.set_cons_zero, List.set_cons_succ]))
    (refine wpAnyH_take (i := 12) (v := ?_) rfl (by kernel_rfl) (by kernel_rfl) (by kernel_rfl) (fun _ _ _ h => h) (Or.inl ⟨by rfl, ?_⟩) (by assumption) ?_; rotate_left; (focus (intro w hSw; (try dsimp only at hSw); go_simp; first | done | with_reducible rfl)); (try simp only [Act.put, List.getElem_toArray, List.getElem_cons_succ, List.getElem_cons_zero, List.setIfInBounds_toArray, List.set_cons_zero, List.set_cons_succ]))
    (refine wpAnyH_take (i := 13) (v := ?_) rfl (by kernel_rfl) (by kernel_rfl) (by kernel_rfl) (fun _ _ _ h => h) (Or.inl ⟨by rfl, ?_⟩) (by assumption) ?_; rotate_left; (focus (intro w hSw; (try dsimp only at hSw); go_simp; first | done | with_reducible rfl)); (try simp only [Act.put, List.getElem_toArray, List.getElem_cons_succ, List.getElem_cons_zero, List.setIfInBounds_toArray, List.set_cons_zero, List.set_cons_succ]))
    refine wpAnyH_done (by kernel_rfl) ?_ _
    have HFIN := hide (HB.out.trans (HQ.out.mono HB.out.size))
    clear q0 p0 ql pl HQ
    go_wp2_with fail
    go_ret
    exact ⟨ret_bool HF.out, HFIN.out⟩
end Go.Proofs.YthnpcmigphpolaaDoor
