/-
  Limbos that change: the error by which a change leaves; a limbo that may not be.
-/
import Derived.Test.YthnpcmigphpolaaDoorLiu
import Derived.Test.YthnpcmigphpolaaDoorCopy
import Derived.Test.YthnpcmigphpolaaDoorTail
import Derived.Defers
import Derived.Recover
import Derived.Laws.NewBlocks
set_option linter.unusedSimpArgs false
set_option linter.unusedVariables false
namespace Go.Proofs.YthnpcmigphpolaaDoor
open Go Go.RowKit
attribute [local go_sem] via_cell via_frozen

@[local go_sem] theorem wpmf (fn : Fn) (first cap : Array Value) (w : World) : (Instr.makeFunc fn first cap).run Tryd.prog w = .ok (.func fn first cap) w := rfl
@[local go_sem] theorem assert_errno (k : Int) (W : World) : (Instr.typeAssert (.iface 30 (.int .i64 k)) 20 30 true).run Tryd.prog W = .ok (.tuple #[.int .i64 k, .bool true]) W := by
  simp [Instr.typeAssert]
theorem catch_idle (p q : Addr) (w : World) :
    CallsD Tryd.prog 49 #[.pointer (some p), .pointer (some q)] .returning w fun e u' w' => e = .returned (.tuple #[]) ∧ u' = .returning ∧ w' = w := by
  refine callsD_of_wpS Tryd.func49 rfl fun c₀ cs hu => ?_
  apply wpS_seq
  apply wpS_region
  simp [wpOpsS, go_sem, recoverD, hu, Tryd.ntmps49, Exit.thenS]
  refine wpS_of_wp ?_
  simp only [List.size_toArray, List.length_cons, List.length_nil, Nat.reduceAdd, Nat.reduceSub, Array.replicate_succ, Array.replicate_zero, List.push_toArray, List.append_toArray, List.nil_append, List.cons_append, List.setIfInBounds_toArray, List.set_cons_succ, List.set_cons_zero]
  go_wp2
  cases c₀
  simp_all [bodyPostS, results, Tryd.results49]
/-- Blocks below B, but one, are as they were. -/
structure PastK (kl B : Nat) (w w' : World) : Prop where
  os : w'.os = w.os
  tape : w'.tape = w.tape
  output : w'.output = w.output
  size : w.heap.size ≤ w'.heap.size
  block : ∀ j, j < B → j ≠ kl → j < w.heap.size → w'.heap[j]? = w.heap[j]?
theorem PastK.refl (kl B : Nat) (w : World) : PastK kl B w w := ⟨rfl, rfl, rfl, Nat.le_refl _, fun _ _ _ _ => rfl⟩
theorem PastK.trans {kl B : Nat} {a b c : World} (h : PastK kl B a b) (g : PastK kl B b c) : PastK kl B a c :=
  ⟨g.os.trans h.os, g.tape.trans h.tape, g.output.trans h.output, Nat.le_trans h.size g.size, fun j h1 h2 hl => (g.block j h1 h2 (Nat.lt_of_lt_of_le hl h.size)).trans (h.block j h1 h2 hl)⟩
theorem PastK.of_below {kl B B' : Nat} {a b : World} (h : Below B' a b) (hb : B ≤ B') : PastK kl B a b := ⟨h.os, h.tape, h.output, h.size, fun j h1 _ _ => h.block j (by omega)⟩
theorem PastK.less {kl B B' : Nat} {a b : World} (h : PastK kl B a b) (hb : B' ≤ B) : PastK kl B' a b := ⟨h.os, h.tape, h.output, h.size, fun j h1 h2 hl => h.block j (by omega) h2 hl⟩
theorem PastK.setKl {kl B : Nat} {a : World} (o : Nat) (v : Value) : PastK kl B a (a.setCell ⟨kl, o, none⟩ v) := ⟨rfl, rfl, rfl, by simp, fun j _ h2 _ => heap_setCell_ne _ _ _ _ h2⟩
theorem PastK.setHi {kl B g : Nat} {a : World} (o : Nat) (v : Value) (h : B ≤ g) : PastK kl B a (a.setCell ⟨g, o, none⟩ v) := ⟨rfl, rfl, rfl, by simp, fun j h1 _ _ => heap_setCell_ne _ _ _ _ (by show j ≠ g; omega)⟩
/-- The rows are the call's own, and lie apart. -/
structure LimOwn (w : World) (base : Nat) (A : Nat → Option Addr) (n c : Nat → Nat) (r : Nat → List Ent) : Prop where
  own : ∀ k, k < 3 → OwnO w base 34 2 (.slice (A k) (n k) (c k)) (n k) (Cs encE (r k))
  len : ∀ k, k < 3 → (r k).length = n k
  apart : ∀ j k, j < 3 → k < 3 → j ≠ k → ∀ p q, A j = some p → A k = some q → p.block ≠ q.block
theorem LimOwn.rd {w : World} {base : Nat} {A : Nat → Option Addr} {n c : Nat → Nat} {r : Nat → List Ent} (h : LimOwn w base A n c r) : LimRd w w.heap.size A n r := ⟨fun k hk => (h.own k hk).rd, h.len⟩
theorem LimOwn.other {w w' : World} {base : Nat} {A : Nat → Option Addr} {n c : Nat → Nat} {r : Nat → List Ent} (h : LimOwn w base A n c r) (hl : ∀ g, base ≤ g → g < w.heap.size → w'.heap[g]? = w.heap[g]?) : LimOwn w' base A n c r :=
  ⟨fun k hk => (h.own k hk).other (fun g h1 h2 _ => hl g h1 h2), h.len, h.apart⟩
theorem LimOwn.keepB {w w' : World} {base : Nat} {A : Nat → Option Addr} {n c : Nat → Nat} {r : Nat → List Ent} (h : LimOwn w base A n c r) (hb : Below w.heap.size w w') : LimOwn w' base A n c r := h.other fun g _ hl => hb.block g hl
theorem LimOwn.lower {w : World} {base base' : Nat} {A : Nat → Option Addr} {n c : Nat → Nat} {r : Nat → List Ent} (h : LimOwn w base A n c r) (hb : base' ≤ base) : LimOwn w base' A n c r := ⟨fun k hk => (h.own k hk).lower hb, h.len, h.apart⟩
theorem OwnO.fresh {w : World} {base : Nat} {e : TypeId} {sz n c : Nat} {A : Option Addr} {xs : List Value} (h : OwnO w base e sz (.slice A n c) n xs) {p : Addr} (hp : A = some p) : base ≤ p.block ∧ p.block < w.heap.size := h.lt (by rw [hp]; rfl)
/-- A limbo that changes, in its box. -/
structure ChAt (w : World) (gx base : Nat) (l : Lim) (A : Nat → Option Addr) (n c : Nat → Nat) : Prop where
  row : RowAt w gx 72 (limC l.E A n c)
  own : LimOwn w base A n c l.r
  lt : gx < base
theorem ChAt.below {w w' : World} {gx base : Nat} {l : Lim} {A : Nat → Option Addr} {n c : Nat → Nat} (h : ChAt w gx base l A n c) (hb : Below w.heap.size w w') : ChAt w' gx base l A n c := ⟨h.row.below hb, h.own.keepB hb, h.lt⟩
abbrev zeroC : Array Value := #[.int .u64 0, .slice none 0 0, .slice none 0 0, .slice none 0 0]
/-- What the function that catches has made of the results' boxes. -/
structure CaughtRes (b1 b2 : Nat) (k : Int) (w w' : World) : Prop where
  out : RowAt w' b1 26 zeroC
  err : RowAt w' b2 30 #[.int .i64 k]
  os : w'.os = w.os
  tape : w'.tape = w.tape
  output : w'.output = w.output
  size : w'.heap.size = w.heap.size
  block : ∀ j, j ≠ b1 → j ≠ b2 → w'.heap[j]? = w.heap[j]?
set_option maxHeartbeats 2000000 in
theorem catch_err (b1 b2 : Nat) (k : Int) (w : World) (h1 : RowAt w b1 26 zeroC) (h2 : RowAt w b2 30 #[.int .i64 0]) (hne : b1 ≠ b2) :
    CallsD Tryd.prog 49 #[.pointer (some ⟨b1, 0, none⟩), .pointer (some ⟨b2, 0, none⟩)] (.panicking (errX k)) w fun e u' w' =>
      e = .returned (.tuple #[]) ∧ u' = .panicking [{ v := .iface 30 (.int .i64 k), recovered := true }] ∧ CaughtRes b1 b2 k w w' := by
  have z0 : w.cell? ⟨b1, 0, none⟩ = some (.int .u64 0) := by have := h1.cell 0; simpa using this
  have z1 : w.cell? ⟨b1, 1, none⟩ = some (.slice none 0 0) := by have := h1.cell 1; simpa using this
  have z2 : w.cell? ⟨b1, 2, none⟩ = some (.slice none 0 0) := by have := h1.cell 2; simpa using this
  have z3 : w.cell? ⟨b1, 3, none⟩ = some (.slice none 0 0) := by have := h1.cell 3; simpa using this
  have c2 := row1 h2
  have f10 := h1.frozen 0
  have f11 := h1.frozen 1
  have f12 := h1.frozen 2
  have f13 := h1.frozen 3
  have f2 := h2.frozen 0
  have hne2 : ¬ b1 = b2 := hne
  have hne3 : ¬ b2 = b1 := fun h => hne h.symm
  have hl1 := h1.lt
  have hl2 := h2.lt
  have HRES : Hid (CaughtRes b1 b2 k w (((((w.setCell ⟨b1, 0, none⟩ (.int .u64 0)).setCell ⟨b1, 1, none⟩ (.slice none 0 0)).setCell ⟨b1, 2, none⟩ (.slice none 0 0)).setCell ⟨b1, 3, none⟩ (.slice none 0 0)).setCell ⟨b2, 0, none⟩ (.int .i64 k))) := hide ⟨by
      have h := ((((h1.set 0 (.int .u64 0)).set 1 (.slice none 0 0)).set 2 (.slice none 0 0)).set 3 (.slice none 0 0)).setNe (g2 := b2) (o := 0) (v := .int .i64 k) hne
      simpa using h, by
      have h := ((((h2.setNe (g2 := b1) (o := 0) (v := .int .u64 0) hne3).setNe (g2 := b1) (o := 1) (v := .slice none 0 0) hne3).setNe (g2 := b1) (o := 2) (v := .slice none 0 0) hne3).setNe (g2 := b1) (o := 3) (v := .slice none 0 0) hne3).set 0 (.int .i64 k)
      simpa using h, rfl, rfl, rfl, by simp, fun j hj1 hj2 => by
      rw [heap_setCell_ne _ _ _ _ hj2, heap_setCell_ne _ _ _ _ hj1, heap_setCell_ne _ _ _ _ hj1, heap_setCell_ne _ _ _ _ hj1, heap_setCell_ne _ _ _ _ hj1]⟩
  clear h1 h2
  refine callsD_of_wpS Tryd.func49 rfl fun c₀ cs hu => ?_
  apply wpS_seq
  apply wpS_region
  simp [wpOpsS, go_sem, recoverD, hu, Tryd.ntmps49, Exit.thenS, errX]
  refine wpS_of_wp ?_
  simp only [List.size_toArray, List.length_cons, List.length_nil, Nat.reduceAdd, Nat.reduceSub, Array.replicate_succ, Array.replicate_zero, List.push_toArray, List.append_toArray, List.nil_append, List.cons_append, List.setIfInBounds_toArray, List.set_cons_succ, List.set_cons_zero]
  go_wp2
  simp [bodyPostS, results, Tryd.results49]
  exact HRES.out
set_option maxHeartbeats 1000000 in
theorem tries_no (B : Nat) (A : Nat → Option Addr) (n c : Nat → Nat) (l : Lim) (g : Nat) (lb : Array Value) (W : World) (h : LimRd W B A n l.r) (hE : l.E < 18446744073709551616) (hB : B ≤ W.heap.size) (hm : ∀ k, k < 3 → n k ≤ 4096)
    (hg : ∀ k, k < 3 → ∀ e ∈ l.r k, 0 ≤ e.2 ∧ e.2 < 18446744073709551616) (ho : l.ok = false) :
    Calls Tryd.prog 32 #[.agg (limC l.E A n c), .func (.func g) #[] lb] W fun e W' => e = .returned (.tuple #[.agg zeroC, .int .i64 240]) ∧ Below W.heap.size W W' := by
  obtain ⟨w1, hw1⟩ : ∃ w1, W.alloc (.cells (limC l.E A n c) 26) = w1 := ⟨_, rfl⟩
  obtain ⟨w2, hw2⟩ : ∃ w2, w1.alloc (.cells zeroC 26) = w2 := ⟨_, rfl⟩
  obtain ⟨w3, hw3⟩ : ∃ w3, w2.alloc (.cells #[.int .i64 0] 30) = w3 := ⟨_, rfl⟩
  have s1 : w1.heap.size = W.heap.size + 1 := by rw [← hw1]; simp
  have s2 : w2.heap.size = W.heap.size + 1 + 1 := by rw [← hw2]; simp [s1]
  have b1 : Below W.heap.size W w1 := by rw [← hw1]; exact (Below.refl _ _).alloc (Nat.le_refl _) _
  have b2 : Below w1.heap.size w1 w2 := by rw [← hw2]; exact (Below.refl _ _).alloc (Nat.le_refl _) _
  have b3 : Below w2.heap.size w2 w3 := by rw [← hw3]; exact (Below.refl _ _).alloc (Nat.le_refl _) _
  have r1 : RowAt w3 W.heap.size 26 (limC l.E A n c) := by have h := RowAt.new W 26 (limC l.E A n c); rw [hw1] at h; exact (h.below b2).below b3
  have r2 : RowAt w3 (W.heap.size + 1) 26 zeroC := by have h := RowAt.new w1 26 zeroC; rw [hw2, s1] at h; exact h.below b3
  have r3 : RowAt w3 (W.heap.size + 1 + 1) 30 #[.int .i64 0] := by have h := RowAt.new w2 30 #[.int .i64 0]; rw [hw3, s2] at h; exact h
  have hb0 : Below W.heap.size W w3 := (b1.trans (b2.mono b1.size)).trans (b3.mono (by omega))
  have HC := hide (check_any B A n c l w3 (h.below (hb0.mono hB)) hE (Nat.le_trans hB hb0.size) hm hg 240 (by rw [ho]; rfl))
  have HB := hide hb0
  have R2 := hide r2
  have R3 := hide r3
  clear b1 b2 b3 hb0 r1 r2 r3 h ho s1 s2 hg hm
  subst hw3
  subst hw2
  subst hw1
  go_enter_defers Tryd.func32, Tryd.ntmps32
  go_wp2_with fail
  generalize ((W.alloc (.cells (limC l.E A n c) 26)).alloc (.cells zeroC 26)).alloc (.cells #[.int .i64 0] 30) = w3 at *
  with_reducible refine HC.out.mono ?_
  rintro e w4 ⟨rfl, hb⟩
  have R2 := hide (R2.out.below hb)
  have R3 := hide (R3.out.below hb)
  have HB := hide (HB.out.trans (hb.mono HB.out.size))
  clear hb
  go_wp2_with fail
  refine (need_no 240 _).mono ?_
  rintro e w5 ⟨rfl, rfl⟩
  dsimp only
  refine leaves_cons (f := 49) (args := #[.pointer (some ⟨W.heap.size + 1, 0, none⟩), .pointer (some ⟨W.heap.size + 1 + 1, 0, none⟩)]) (by simp) (by simp [go_sem]) ?_
  refine (catch_err (W.heap.size + 1) (W.heap.size + 1 + 1) 240 w4 R2.out R3.out (by omega)).mono ?_
  rintro e u' w9 ⟨rfl, rfl, hC⟩
  have z0 : w9.cell? ⟨W.heap.size + 1, 0, none⟩ = some (.int .u64 0) := by have := hC.out.cell 0; simpa using this
  have z1 : w9.cell? ⟨W.heap.size + 1, 1, none⟩ = some (.slice none 0 0) := by have := hC.out.cell 1; simpa using this
  have z2 : w9.cell? ⟨W.heap.size + 1, 2, none⟩ = some (.slice none 0 0) := by have := hC.out.cell 2; simpa using this
  have z3 : w9.cell? ⟨W.heap.size + 1, 3, none⟩ = some (.slice none 0 0) := by have := hC.out.cell 3; simpa using this
  have hfin : Below W.heap.size W w9 := HB.out.trans ⟨hC.os, hC.tape, hC.output, by rw [hC.size]; exact Nat.le_refl _, fun j hj => hC.block j (by omega) (by omega)⟩
  simp [Leaves, settle, results, Tryd.results32, go_sem, z0, z1, z2, z3, row1 hC.err, hC.out.lt, hC.err.lt]
  exact hfin
end Go.Proofs.YthnpcmigphpolaaDoor
