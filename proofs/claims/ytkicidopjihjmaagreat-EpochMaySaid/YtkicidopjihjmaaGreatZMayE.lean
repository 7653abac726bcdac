/-
  Part of a proof: ZMay says of what.
-/
import Derived.Deep.Strs
import Derived.Laws.IdiomArrays
import Derived.Test.YtkicidopjihjmaaGreatZMayD
set_option linter.unusedSimpArgs false
set_option linter.unusedVariables false
set_option linter.unusedSimpArgs false
set_option linter.unusedVariables false
namespace Go.Proofs.YtkicidopjihjmaaGreat
open Go Go.RowKit
attribute [local go_sem] via_cell via_frozen
def DoesX (gh base : Nat) (r : Rec) (told : List Ent) (o : EOp) (W : World) (e : Ending) (W' : World) : Prop :=
 e = .returned (.int .i64 (okK (stepR r told o))) ∧ (∃ o3, HandX W' base gh o3 (okR r told (stepR r told o)).1 (okR r told (stepR r told o)).2) ∧ Below base W W'
theorem doesX {W : World} {base gh : Nat} {o0 : EOp} {r : Rec} {told : List Ent} (h : HandX W base gh o0 r told) (hw : WfR r) (o : EOp) (hb : 0 ≤ o.b) (hx : U64 o.x.2) (ht : (told.length : Int) ≤ 1000000) :
  Calls Tryz.prog 48 #[.pointer (some ⟨gh, 0, none⟩), .agg #[.int .i64 o.k, .int .i64 o.g, .int .u64 o.b, .int .i64 o.x.1, .int .u64 o.x.2]] W (DoesX gh base r told o W) := by
 obtain ⟨A0, As, n0, c0, ns, cs, A, n, c, At, nt, ct, h⟩ := h
 refine (does_any base gh A0 As n0 c0 ns cs A n c o0 o At nt ct r told W h hw.fit ⟨hb, hx, fitO hb hx⟩ (by rw [← h.len]; exact ht)).mono ?_
 rintro e w ⟨rfl, hh, hp⟩
 exact ⟨rfl, hh, hp.to_below h.lo (fun q hq => (told_lt h.own q hq).1) (Nat.le_trans h.lo (Nat.le_of_lt h.row.lt))⟩
theorem HandR.out {w : World} {base gh : Nat} {A0 As : Option Addr} {n0 c0 ns cs : Nat} {A : Nat → Option Addr} {n c : Nat → Nat} {o : EOp} {At : Option Addr} {nt ct : Nat} {r : Rec} {told : List Ent} (h : HandR w base gh A0 As n0 c0 ns cs A n c o At nt ct r told) : RecF (From base) w A0 As n0 c0 ns cs A n c r := h.all.up (fun j hj _ => hj.1)
structure LaidF (g : Nat) (w w' : World) : Prop where
 below : Below g w w'
 block : ∀ j, j ≠ g → w'.heap[j]? = w.heap[j]?
theorem LaidF.size {g : Nat} {w w' : World} (h : LaidF g w w') : w.heap.size ≤ w'.heap.size := h.below.size
theorem laid0 (g : Nat) (w : World) : LaidF g w w := ⟨Below.refl _ _, fun _ _ => rfl⟩
theorem LaidF.set {g : Nat} {w w' : World} (h : LaidF g w w') (k : Nat) (v : Value) : LaidF g w (w'.setCell ⟨g, k, none⟩ v) := ⟨h.below.setCell (p := ⟨g, k, none⟩) (Nat.le_refl _) v, fun j hj => (heap_setCell_ne _ _ _ _ hj).trans (h.block j hj)⟩
theorem LaidF.stay {F : Nat → Prop} {g : Nat} {w w' : World} (h : LaidF g w w') (hg : ¬ F g) : StayF F w w' := ⟨h.size, fun j hj _ => h.block j (fun e => hg (by rw [← e]; exact hj))⟩
theorem lp7 (w : World) (g : Nat) (v0 v1 v2 v3 v4 v5 v6 : Value) : LaidF g w (((((((w.setCell ⟨g, 0, none⟩ v0).setCell ⟨g, 1, none⟩ v1).setCell ⟨g, 2, none⟩ v2).setCell ⟨g, 3, none⟩ v3).setCell ⟨g, 4, none⟩ v4).setCell ⟨g, 5, none⟩ v5).setCell ⟨g, 6, none⟩ v6) := (((((((laid0 g w).set 0 v0).set 1 v1).set 2 v2).set 3 v3).set 4 v4).set 5 v5).set 6 v6
theorem HandR.laid {w w' : World} {base gh g : Nat} {A0 As : Option Addr} {n0 c0 ns cs : Nat} {A : Nat → Option Addr} {n c : Nat → Nat} {o : EOp} {At : Option Addr} {nt ct : Nat} {r : Rec} {told : List Ent} (h : HandR w base gh A0 As n0 c0 ns cs A n c o At nt ct r told) (hl : StayF (fun j => j ≠ g) w w') (h1 : gh ≠ g) (h2 : ∀ q, At = some q → q.block ≠ g) (h3 : RecF (fun j => OffB base gh At j ∧ j ≠ g) w A0 As n0 c0 ns cs A n c r) : HandR w' base gh A0 As n0 c0 ns cs A n c o At nt ct r told := by
 refine ⟨(hl.2 _ h1 h.row.lt).trans h.row, (h3.stay ⟨hl.1, fun j hj => hl.2 j hj.2⟩).up (fun j hj _ => hj.1), own_kept h.own (fun j hj => hl.2 j (fun e => ?_)), h.len, h.lo⟩
 rw [own_block] at hj
 cases At with
 | none => cases hj
 | some q => injection hj with hj; exact h2 q rfl (hj.trans e)
def DoRes (r : Rec) (o : EOp) (W : World) (e : Ending) (W' : World) : Prop :=
 (∃ v, e = .returned (.tuple #[v, .agg #[.int .i64 (doR r o).2.1.1, .int .u64 (doR r o).2.1.2], .int .i64 (doR r o).2.2]) ∧ RecOut (From W.heap.size) W' v (doR r o).1) ∧ Below W.heap.size W W'
set_option maxRecDepth 20000 in
set_option maxHeartbeats 8000000 in
theorem Do_any (F : Nat → Prop) (A0 As : Option Addr) (n0 c0 ns cs : Nat) (A : Nat → Option Addr) (n c : Nat → Nat) (r : Rec) (o : EOp) (W : World) (h : RecF F W A0 As n0 c0 ns cs A n c r) (hf : FitR r) (hg : ∀ s ∈ r.sl, 0 ≤ s.2) (hb : 0 ≤ o.b) (hx : U64 o.x.2) :
  Calls Tryz.prog 13 #[.agg (recC r.e r.l.E A0 As n0 c0 ns cs A n c), .agg #[.int .i64 o.k, .int .i64 o.g, .int .u64 o.b, .int .i64 o.x.1, .int .u64 o.x.2]] W (DoRes r o W) := by
 have b1 : Below W.heap.size W ((((W.alloc (.cells #[.slice A0 n0 c0, .int .u64 r.e, .slice As ns cs, .int .u64 (r.l.E : Int), .slice (A 0) (n 0) (c 0), .slice (A 1) (n 1) (c 1), .slice (A 2) (n 2) (c 2)] 34)).alloc (.cells #[.int .i64 o.k, .int .i64 o.g, .int .u64 o.b, .int .i64 o.x.1, .int .u64 o.x.2] 43)).alloc (.cells #[.slice none 0 0, .int .u64 0, .slice none 0 0, .int .u64 0, .slice none 0 0, .slice none 0 0, .slice none 0 0] 34)).alloc (.cells #[.int .i64 0, .int .u64 0] 41)) := ((((Below.refl _ _).alloc (Nat.le_refl _) _).alloc (by simp) _).alloc (by simp; omega) _).alloc (by simp; omega) _
 have R1 := hide (show RowAt ((((W.alloc (.cells #[.slice A0 n0 c0, .int .u64 r.e, .slice As ns cs, .int .u64 (r.l.E : Int), .slice (A 0) (n 0) (c 0), .slice (A 1) (n 1) (c 1), .slice (A 2) (n 2) (c 2)] 34)).alloc (.cells #[.int .i64 o.k, .int .i64 o.g, .int .u64 o.b, .int .i64 o.x.1, .int .u64 o.x.2] 43)).alloc (.cells #[.slice none 0 0, .int .u64 0, .slice none 0 0, .int .u64 0, .slice none 0 0, .slice none 0 0, .slice none 0 0] 34)).alloc (.cells #[.int .i64 0, .int .u64 0] 41)) W.heap.size 34 #[.slice A0 n0 c0, .int .u64 r.e, .slice As ns cs, .int .u64 (r.l.E : Int), .slice (A 0) (n 0) (c 0), .slice (A 1) (n 1) (c 1), .slice (A 2) (n 2) (c 2)] from row_alloc (row_alloc (row_alloc (RowAt.new W 34 #[.slice A0 n0 c0, .int .u64 r.e, .slice As ns cs, .int .u64 (r.l.E : Int), .slice (A 0) (n 0) (c 0), .slice (A 1) (n 1) (c 1), .slice (A 2) (n 2) (c 2)]) _) _) _)
 have R2 := hide (show RowAt ((((W.alloc (.cells #[.slice A0 n0 c0, .int .u64 r.e, .slice As ns cs, .int .u64 (r.l.E : Int), .slice (A 0) (n 0) (c 0), .slice (A 1) (n 1) (c 1), .slice (A 2) (n 2) (c 2)] 34)).alloc (.cells #[.int .i64 o.k, .int .i64 o.g, .int .u64 o.b, .int .i64 o.x.1, .int .u64 o.x.2] 43)).alloc (.cells #[.slice none 0 0, .int .u64 0, .slice none 0 0, .int .u64 0, .slice none 0 0, .slice none 0 0, .slice none 0 0] 34)).alloc (.cells #[.int .i64 0, .int .u64 0] 41)) (W.heap.size + 1) 43 #[.int .i64 o.k, .int .i64 o.g, .int .u64 o.b, .int .i64 o.x.1, .int .u64 o.x.2] from by have h := row_alloc (row_alloc (RowAt.new (W.alloc (.cells #[.slice A0 n0 c0, .int .u64 r.e, .slice As ns cs, .int .u64 (r.l.E : Int), .slice (A 0) (n 0) (c 0), .slice (A 1) (n 1) (c 1), .slice (A 2) (n 2) (c 2)] 34)) 43 #[.int .i64 o.k, .int .i64 o.g, .int .u64 o.b, .int .i64 o.x.1, .int .u64 o.x.2]) (.cells #[.slice none 0 0, .int .u64 0, .slice none 0 0, .int .u64 0, .slice none 0 0, .slice none 0 0, .slice none 0 0] 34)) (.cells #[.int .i64 0, .int .u64 0] 41); rw [World.size_alloc] at h; exact h)
 have R3 := hide (show RowAt ((((W.alloc (.cells #[.slice A0 n0 c0, .int .u64 r.e, .slice As ns cs, .int .u64 (r.l.E : Int), .slice (A 0) (n 0) (c 0), .slice (A 1) (n 1) (c 1), .slice (A 2) (n 2) (c 2)] 34)).alloc (.cells #[.int .i64 o.k, .int .i64 o.g, .int .u64 o.b, .int .i64 o.x.1, .int .u64 o.x.2] 43)).alloc (.cells #[.slice none 0 0, .int .u64 0, .slice none 0 0, .int .u64 0, .slice none 0 0, .slice none 0 0, .slice none 0 0] 34)).alloc (.cells #[.int .i64 0, .int .u64 0] 41)) (W.heap.size + 1 + 1) 34 #[.slice none 0 0, .int .u64 0, .slice none 0 0, .int .u64 0, .slice none 0 0, .slice none 0 0, .slice none 0 0] from by have h := row_alloc (RowAt.new ((W.alloc (.cells #[.slice A0 n0 c0, .int .u64 r.e, .slice As ns cs, .int .u64 (r.l.E : Int), .slice (A 0) (n 0) (c 0), .slice (A 1) (n 1) (c 1), .slice (A 2) (n 2) (c 2)] 34)).alloc (.cells #[.int .i64 o.k, .int .i64 o.g, .int .u64 o.b, .int .i64 o.x.1, .int .u64 o.x.2] 43)) 34 #[.slice none 0 0, .int .u64 0, .slice none 0 0, .int .u64 0, .slice none 0 0, .slice none 0 0, .slice none 0 0]) (.cells #[.int .i64 0, .int .u64 0] 41); rw [World.size_alloc, World.size_alloc] at h; exact h)
 have R4 := hide (show RowAt ((((W.alloc (.cells #[.slice A0 n0 c0, .int .u64 r.e, .slice As ns cs, .int .u64 (r.l.E : Int), .slice (A 0) (n 0) (c 0), .slice (A 1) (n 1) (c 1), .slice (A 2) (n 2) (c 2)] 34)).alloc (.cells #[.int .i64 o.k, .int .i64 o.g, .int .u64 o.b, .int .i64 o.x.1, .int .u64 o.x.2] 43)).alloc (.cells #[.slice none 0 0, .int .u64 0, .slice none 0 0, .int .u64 0, .slice none 0 0, .slice none 0 0, .slice none 0 0] 34)).alloc (.cells #[.int .i64 0, .int .u64 0] 41)) (W.heap.size + 1 + 1 + 1) 41 #[.int .i64 0, .int .u64 0] from by have h := RowAt.new (((W.alloc (.cells #[.slice A0 n0 c0, .int .u64 r.e, .slice As ns cs, .int .u64 (r.l.E : Int), .slice (A 0) (n 0) (c 0), .slice (A 1) (n 1) (c 1), .slice (A 2) (n 2) (c 2)] 34)).alloc (.cells #[.int .i64 o.k, .int .i64 o.g, .int .u64 o.b, .int .i64 o.x.1, .int .u64 o.x.2] 43)).alloc (.cells #[.slice none 0 0, .int .u64 0, .slice none 0 0, .int .u64 0, .slice none 0 0, .slice none 0 0, .slice none 0 0] 34)) 41 #[.int .i64 0, .int .u64 0]; rw [World.size_alloc, World.size_alloc, World.size_alloc] at h; exact h)
 have HS1 := hide (show ((((W.alloc (.cells #[.slice A0 n0 c0, .int .u64 r.e, .slice As ns cs, .int .u64 (r.l.E : Int), .slice (A 0) (n 0) (c 0), .slice (A 1) (n 1) (c 1), .slice (A 2) (n 2) (c 2)] 34)).alloc (.cells #[.int .i64 o.k, .int .i64 o.g, .int .u64 o.b, .int .i64 o.x.1, .int .u64 o.x.2] 43)).alloc (.cells #[.slice none 0 0, .int .u64 0, .slice none 0 0, .int .u64 0, .slice none 0 0, .slice none 0 0, .slice none 0 0] 34)).alloc (.cells #[.int .i64 0, .int .u64 0] 41)).heap.size = W.heap.size + 4 from by simp)
 have HB := hide b1
 have H := hide (h.below b1)
 have HF := hide hf
 have HG := hide hg
 have HOB := hide hb
 have HOX := hide hx
 clear b1 h hf hg hb hx
 go_enter Tryz.func13, Tryz.ntmps13
 go_upto_region 1 with (fail)
 generalize ((((W.alloc (.cells #[.slice A0 n0 c0, .int .u64 r.e, .slice As ns cs, .int .u64 (r.l.E : Int), .slice (A 0) (n 0) (c 0), .slice (A 1) (n 1) (c 1), .slice (A 2) (n 2) (c 2)] 34)).alloc (.cells #[.int .i64 o.k, .int .i64 o.g, .int .u64 o.b, .int .i64 o.x.1, .int .u64 o.x.2] 43)).alloc (.cells #[.slice none 0 0, .int .u64 0, .slice none 0 0, .int .u64 0, .slice none 0 0, .slice none 0 0, .slice none 0 0] 34)).alloc (.cells #[.int .i64 0, .int .u64 0] 41)) = w1 at *
 obtain ⟨q0, q1, q2, q3, q4, q5, q6⟩ := row7 R1.out
 have ql := R1.out.lt
 go_wp2_with fail
 rcases Bool.eq_false_or_eq_true r.ok with ho | ho
 case inr =>
  have HD := hide (show doR r o = (rec0, (0, 0), 250) from by unfold doR; rw [ho]; rfl)
  with_reducible refine (Check_any F A0 As n0 c0 ns cs A n c r _ H.out HF.out 250 (by rw [ho]; simp)).mono ?_
  rintro e w2 ⟨rfl, hb⟩
  replace R1 := hide (R1.out.below hb)
  replace R2 := hide (R2.out.below hb)
  replace R3 := hide (R3.out.below hb)
  replace R4 := hide (R4.out.below hb)
  replace H := hide (H.out.below hb)
  have HSZ := hide hb.size
  replace HB := hide (HB.out.trans (hb.mono HB.out.size))
  clear hb
  clear q0 q1 q2 q3 q4 q5 q6 ql
  obtain ⟨y0, y1, y2, y3, y4, y5, y6⟩ := row7 R3.out
  have yl := R3.out.lt
  have yf0 := R3.out.frozen 0
  have yf1 := R3.out.frozen 1
  have yf2 := R3.out.frozen 2
  have yf3 := R3.out.frozen 3
  have yf4 := R3.out.frozen 4
  have yf5 := R3.out.frozen 5
  have yf6 := R3.out.frozen 6
  have u0 := row20 R4.out
  have u1 := row21 R4.out
  have ul := R4.out.lt
  have uf0 := R4.out.frozen 0
  have uf1 := R4.out.frozen 1
  go_wp2_with fail
  have hl1 := lp7 w2 (W.heap.size + 1 + 1) (.slice none 0 0) (.int .u64 0) (.slice none 0 0) (.int .u64 0) (.slice none 0 0) (.slice none 0 0) (.slice none 0 0)
  have hl2 : LaidF (W.heap.size + 1 + 1 + 1) (((((((w2.setCell ⟨(W.heap.size + 1 + 1), 0, none⟩ (.slice none 0 0)).setCell ⟨(W.heap.size + 1 + 1), 1, none⟩ (.int .u64 0)).setCell ⟨(W.heap.size + 1 + 1), 2, none⟩ (.slice none 0 0)).setCell ⟨(W.heap.size + 1 + 1), 3, none⟩ (.int .u64 0)).setCell ⟨(W.heap.size + 1 + 1), 4, none⟩ (.slice none 0 0)).setCell ⟨(W.heap.size + 1 + 1), 5, none⟩ (.slice none 0 0)).setCell ⟨(W.heap.size + 1 + 1), 6, none⟩ (.slice none 0 0)) (((((((((w2.setCell ⟨(W.heap.size + 1 + 1), 0, none⟩ (.slice none 0 0)).setCell ⟨(W.heap.size + 1 + 1), 1, none⟩ (.int .u64 0)).setCell ⟨(W.heap.size + 1 + 1), 2, none⟩ (.slice none 0 0)).setCell ⟨(W.heap.size + 1 + 1), 3, none⟩ (.int .u64 0)).setCell ⟨(W.heap.size + 1 + 1), 4, none⟩ (.slice none 0 0)).setCell ⟨(W.heap.size + 1 + 1), 5, none⟩ (.slice none 0 0)).setCell ⟨(W.heap.size + 1 + 1), 6, none⟩ (.slice none 0 0)).setCell ⟨(W.heap.size + 1 + 1 + 1), 0, none⟩ (.int .i64 0)).setCell ⟨(W.heap.size + 1 + 1 + 1), 1, none⟩ (.int .u64 0)) := (((laid0 (W.heap.size + 1 + 1 + 1) _).set 0 (.int .i64 0)).set 1 (.int .u64 0))
  have hr3 : RowAt (((((((((w2.setCell ⟨(W.heap.size + 1 + 1), 0, none⟩ (.slice none 0 0)).setCell ⟨(W.heap.size + 1 + 1), 1, none⟩ (.int .u64 0)).setCell ⟨(W.heap.size + 1 + 1), 2, none⟩ (.slice none 0 0)).setCell ⟨(W.heap.size + 1 + 1), 3, none⟩ (.int .u64 0)).setCell ⟨(W.heap.size + 1 + 1), 4, none⟩ (.slice none 0 0)).setCell ⟨(W.heap.size + 1 + 1), 5, none⟩ (.slice none 0 0)).setCell ⟨(W.heap.size + 1 + 1), 6, none⟩ (.slice none 0 0)).setCell ⟨(W.heap.size + 1 + 1 + 1), 0, none⟩ (.int .i64 0)).setCell ⟨(W.heap.size + 1 + 1 + 1), 1, none⟩ (.int .u64 0)) (W.heap.size + 1 + 1) 34 #[.slice none 0 0, .int .u64 0, .slice none 0 0, .int .u64 0, .slice none 0 0, .slice none 0 0, .slice none 0 0] := (hl2.block _ (by omega)).trans (show RowAt (((((((w2.setCell ⟨(W.heap.size + 1 + 1), 0, none⟩ (.slice none 0 0)).setCell ⟨(W.heap.size + 1 + 1), 1, none⟩ (.int .u64 0)).setCell ⟨(W.heap.size + 1 + 1), 2, none⟩ (.slice none 0 0)).setCell ⟨(W.heap.size + 1 + 1), 3, none⟩ (.int .u64 0)).setCell ⟨(W.heap.size + 1 + 1), 4, none⟩ (.slice none 0 0)).setCell ⟨(W.heap.size + 1 + 1), 5, none⟩ (.slice none 0 0)).setCell ⟨(W.heap.size + 1 + 1), 6, none⟩ (.slice none 0 0)) (W.heap.size + 1 + 1) 34 #[.slice none 0 0, .int .u64 0, .slice none 0 0, .int .u64 0, .slice none 0 0, .slice none 0 0, .slice none 0 0] from by have h := (((((((R3.out.set 0 (.slice none 0 0)).set 1 (.int .u64 0)).set 2 (.slice none 0 0)).set 3 (.int .u64 0)).set 4 (.slice none 0 0)).set 5 (.slice none 0 0)).set 6 (.slice none 0 0)); simpa using h)
  have hr4 : RowAt (((((((((w2.setCell ⟨(W.heap.size + 1 + 1), 0, none⟩ (.slice none 0 0)).setCell ⟨(W.heap.size + 1 + 1), 1, none⟩ (.int .u64 0)).setCell ⟨(W.heap.size + 1 + 1), 2, none⟩ (.slice none 0 0)).setCell ⟨(W.heap.size + 1 + 1), 3, none⟩ (.int .u64 0)).setCell ⟨(W.heap.size + 1 + 1), 4, none⟩ (.slice none 0 0)).setCell ⟨(W.heap.size + 1 + 1), 5, none⟩ (.slice none 0 0)).setCell ⟨(W.heap.size + 1 + 1), 6, none⟩ (.slice none 0 0)).setCell ⟨(W.heap.size + 1 + 1 + 1), 0, none⟩ (.int .i64 0)).setCell ⟨(W.heap.size + 1 + 1 + 1), 1, none⟩ (.int .u64 0)) (W.heap.size + 1 + 1 + 1) 41 #[.int .i64 0, .int .u64 0] := by have h := (((show RowAt (((((((w2.setCell ⟨(W.heap.size + 1 + 1), 0, none⟩ (.slice none 0 0)).setCell ⟨(W.heap.size + 1 + 1), 1, none⟩ (.int .u64 0)).setCell ⟨(W.heap.size + 1 + 1), 2, none⟩ (.slice none 0 0)).setCell ⟨(W.heap.size + 1 + 1), 3, none⟩ (.int .u64 0)).setCell ⟨(W.heap.size + 1 + 1), 4, none⟩ (.slice none 0 0)).setCell ⟨(W.heap.size + 1 + 1), 5, none⟩ (.slice none 0 0)).setCell ⟨(W.heap.size + 1 + 1), 6, none⟩ (.slice none 0 0)) (W.heap.size + 1 + 1 + 1) 41 #[.int .i64 0, .int .u64 0] from (hl1.block _ (by omega)).trans R4.out).set 0 (.int .i64 0)).set 1 (.int .u64 0)); simpa using h
  have hbF : Below W.heap.size W (((((((((w2.setCell ⟨(W.heap.size + 1 + 1), 0, none⟩ (.slice none 0 0)).setCell ⟨(W.heap.size + 1 + 1), 1, none⟩ (.int .u64 0)).setCell ⟨(W.heap.size + 1 + 1), 2, none⟩ (.slice none 0 0)).setCell ⟨(W.heap.size + 1 + 1), 3, none⟩ (.int .u64 0)).setCell ⟨(W.heap.size + 1 + 1), 4, none⟩ (.slice none 0 0)).setCell ⟨(W.heap.size + 1 + 1), 5, none⟩ (.slice none 0 0)).setCell ⟨(W.heap.size + 1 + 1), 6, none⟩ (.slice none 0 0)).setCell ⟨(W.heap.size + 1 + 1 + 1), 0, none⟩ (.int .i64 0)).setCell ⟨(W.heap.size + 1 + 1 + 1), 1, none⟩ (.int .u64 0)) := HB.out.trans ((hl1.below.mono (by omega)).trans (hl2.below.mono (by omega)))
  clear y0 y1 y2 y3 y4 y5 y6 yl
  clear yf0 yf1 yf2 yf3 yf4 yf5 yf6 u0 u1 ul uf0 uf1 hl1 hl2
  generalize (((((((((w2.setCell ⟨(W.heap.size + 1 + 1), 0, none⟩ (.slice none 0 0)).setCell ⟨(W.heap.size + 1 + 1), 1, none⟩ (.int .u64 0)).setCell ⟨(W.heap.size + 1 + 1), 2, none⟩ (.slice none 0 0)).setCell ⟨(W.heap.size + 1 + 1), 3, none⟩ (.int .u64 0)).setCell ⟨(W.heap.size + 1 + 1), 4, none⟩ (.slice none 0 0)).setCell ⟨(W.heap.size + 1 + 1), 5, none⟩ (.slice none 0 0)).setCell ⟨(W.heap.size + 1 + 1), 6, none⟩ (.slice none 0 0)).setCell ⟨(W.heap.size + 1 + 1 + 1), 0, none⟩ (.int .i64 0)).setCell ⟨(W.heap.size + 1 + 1 + 1), 1, none⟩ (.int .u64 0)) = wF at *
  obtain ⟨y0, y1, y2, y3, y4, y5, y6⟩ := row7 hr3
  have yl := hr3.lt
  refine bodyPost_ret (v := .tuple #[.agg #[.slice none 0 0, .int .u64 0, .slice none 0 0, .int .u64 0, .slice none 0 0, .slice none 0 0, .slice none 0 0], .agg #[.int .i64 0, .int .u64 0], .int .i64 (250)]) (by simp [results, Tryz.results13, go_sem, y0, y1, y2, y3, y4, y5, y6, yl, row20 hr4, row21 hr4, hr4.lt]) rfl ?_
  exact ⟨⟨.agg #[.slice none 0 0, .int .u64 0, .slice none 0 0, .int .u64 0, .slice none 0 0, .slice none 0 0, .slice none 0 0], by rw [HD.out], by rw [HD.out]; exact zero_rec _ _⟩, hbF⟩
 case inl =>
  have HW := hide (show WfR r from ⟨ok_iff.1 ho, fun s hs => (HF.out.s s hs).1, HG.out⟩)
  with_reducible refine (Check_any F A0 As n0 c0 ns cs A n c r _ H.out HF.out 0 (by rw [ho]; simp)).mono ?_
  rintro e w2 ⟨rfl, hb⟩
  replace R1 := hide (R1.out.below hb)
  replace R2 := hide (R2.out.below hb)
  replace R3 := hide (R3.out.below hb)
  replace R4 := hide (R4.out.below hb)
  replace H := hide (H.out.below hb)
  have HSZ := hide hb.size
  replace HB := hide (HB.out.trans (hb.mono HB.out.size))
  clear hb
  clear q0 q1 q2 q3 q4 q5 q6 ql
  clear HSZ
  obtain ⟨q0, q1, q2, q3, q4, q5, q6⟩ := row7 R1.out
  have ql := R1.out.lt
  go_wp2_with fail
  with_reducible refine (own_any F A0 As n0 c0 ns cs A n c r w2 H.out HF.out).mono ?_
  rintro e w3 ⟨⟨gh, rfl, hx⟩, hb⟩
  have HX := hide (show HandX w3 w2.heap.size gh o00 r [] from by obtain ⟨B0, Bs, m0, d0, ms, ds, B, m, d, hh⟩ := hx; exact ⟨_, _, _, _, _, _, _, _, _, _, _, _, hh⟩)
  have HL2 := hide (show W.heap.size + 4 ≤ w2.heap.size from by have h1 := R4.out.lt; omega)
  replace R1 := hide (R1.out.below hb)
  replace R2 := hide (R2.out.below hb)
  replace R3 := hide (R3.out.below hb)
  replace R4 := hide (R4.out.below hb)
  replace H := hide (H.out.below hb)
  have HSZ := hide hb.size
  replace HB := hide (HB.out.trans (hb.mono HB.out.size))
  clear hb
  clear q0 q1 q2 q3 q4 q5 q6 ql
  clear HSZ hx
  obtain ⟨y0, y1, y2, y3, y4⟩ := row5 R2.out
  have yl := R2.out.lt
  go_wp2_with fail
  with_reducible refine (doesX HX.out HW.out o HOB.out HOX.out (by simp)).mono ?_
  rintro e w4 ⟨rfl, hh, hb⟩
  replace R1 := hide (R1.out.heap (hb.block _ (by have := HL2.out; omega)))
  replace R2 := hide (R2.out.heap (hb.block _ (by have := HL2.out; omega)))
  replace R3 := hide (R3.out.heap (hb.block _ (by have := HL2.out; omega)))
  replace R4 := hide (R4.out.heap (hb.block _ (by have := HL2.out; omega)))
  replace HB := hide (HB.out.trans (hb.mono (by have := HL2.out; omega)))
  have HH := hide hh
  clear hb hh y0 y1 y2 y3 y4 yl HX
  cases hs : stepR r [] o with
  | error k =>
   have HD := hide (show doR r o = (rec0, (0, 0), k) from by unfold doR; rw [ho, hs]; rfl)
   have HK := hide (step_ne hs)
   have hk : (k == 0) = false := by simpa using HK.out
   have hok : okK (Except.error k) = k := rfl
   rw [hs] at HH
   try rw [hok]
   clear hs
   skip
   obtain ⟨y0, y1, y2, y3, y4, y5, y6⟩ := row7 R3.out
   have yl := R3.out.lt
   have yf0 := R3.out.frozen 0
   have yf1 := R3.out.frozen 1
   have yf2 := R3.out.frozen 2
   have yf3 := R3.out.frozen 3
   have yf4 := R3.out.frozen 4
   have yf5 := R3.out.frozen 5
   have yf6 := R3.out.frozen 6
   have u0 := row20 R4.out
   have u1 := row21 R4.out
   have ul := R4.out.lt
   have uf0 := R4.out.frozen 0
   have uf1 := R4.out.frozen 1
   go_wp2_with fail
   have hl1 := lp7 w4 (W.heap.size + 1 + 1) (.slice none 0 0) (.int .u64 0) (.slice none 0 0) (.int .u64 0) (.slice none 0 0) (.slice none 0 0) (.slice none 0 0)
   have hl2 : LaidF (W.heap.size + 1 + 1 + 1) (((((((w4.setCell ⟨(W.heap.size + 1 + 1), 0, none⟩ (.slice none 0 0)).setCell ⟨(W.heap.size + 1 + 1), 1, none⟩ (.int .u64 0)).setCell ⟨(W.heap.size + 1 + 1), 2, none⟩ (.slice none 0 0)).setCell ⟨(W.heap.size + 1 + 1), 3, none⟩ (.int .u64 0)).setCell ⟨(W.heap.size + 1 + 1), 4, none⟩ (.slice none 0 0)).setCell ⟨(W.heap.size + 1 + 1), 5, none⟩ (.slice none 0 0)).setCell ⟨(W.heap.size + 1 + 1), 6, none⟩ (.slice none 0 0)) (((((((((w4.setCell ⟨(W.heap.size + 1 + 1), 0, none⟩ (.slice none 0 0)).setCell ⟨(W.heap.size + 1 + 1), 1, none⟩ (.int .u64 0)).setCell ⟨(W.heap.size + 1 + 1), 2, none⟩ (.slice none 0 0)).setCell ⟨(W.heap.size + 1 + 1), 3, none⟩ (.int .u64 0)).setCell ⟨(W.heap.size + 1 + 1), 4, none⟩ (.slice none 0 0)).setCell ⟨(W.heap.size + 1 + 1), 5, none⟩ (.slice none 0 0)).setCell ⟨(W.heap.size + 1 + 1), 6, none⟩ (.slice none 0 0)).setCell ⟨(W.heap.size + 1 + 1 + 1), 0, none⟩ (.int .i64 0)).setCell ⟨(W.heap.size + 1 + 1 + 1), 1, none⟩ (.int .u64 0)) := (((laid0 (W.heap.size + 1 + 1 + 1) _).set 0 (.int .i64 0)).set 1 (.int .u64 0))
   have hr3 : RowAt (((((((((w4.setCell ⟨(W.heap.size + 1 + 1), 0, none⟩ (.slice none 0 0)).setCell ⟨(W.heap.size + 1 + 1), 1, none⟩ (.int .u64 0)).setCell ⟨(W.heap.size + 1 + 1), 2, none⟩ (.slice none 0 0)).setCell ⟨(W.heap.size + 1 + 1), 3, none⟩ (.int .u64 0)).setCell ⟨(W.heap.size + 1 + 1), 4, none⟩ (.slice none 0 0)).setCell ⟨(W.heap.size + 1 + 1), 5, none⟩ (.slice none 0 0)).setCell ⟨(W.heap.size + 1 + 1), 6, none⟩ (.slice none 0 0)).setCell ⟨(W.heap.size + 1 + 1 + 1), 0, none⟩ (.int .i64 0)).setCell ⟨(W.heap.size + 1 + 1 + 1), 1, none⟩ (.int .u64 0)) (W.heap.size + 1 + 1) 34 #[.slice none 0 0, .int .u64 0, .slice none 0 0, .int .u64 0, .slice none 0 0, .slice none 0 0, .slice none 0 0] := (hl2.block _ (by omega)).trans (show RowAt (((((((w4.setCell ⟨(W.heap.size + 1 + 1), 0, none⟩ (.slice none 0 0)).setCell ⟨(W.heap.size + 1 + 1), 1, none⟩ (.int .u64 0)).setCell ⟨(W.heap.size + 1 + 1), 2, none⟩ (.slice none 0 0)).setCell ⟨(W.heap.size + 1 + 1), 3, none⟩ (.int .u64 0)).setCell ⟨(W.heap.size + 1 + 1), 4, none⟩ (.slice none 0 0)).setCell ⟨(W.heap.size + 1 + 1), 5, none⟩ (.slice none 0 0)).setCell ⟨(W.heap.size + 1 + 1), 6, none⟩ (.slice none 0 0)) (W.heap.size + 1 + 1) 34 #[.slice none 0 0, .int .u64 0, .slice none 0 0, .int .u64 0, .slice none 0 0, .slice none 0 0, .slice none 0 0] from by have h := (((((((R3.out.set 0 (.slice none 0 0)).set 1 (.int .u64 0)).set 2 (.slice none 0 0)).set 3 (.int .u64 0)).set 4 (.slice none 0 0)).set 5 (.slice none 0 0)).set 6 (.slice none 0 0)); simpa using h)
   have hr4 : RowAt (((((((((w4.setCell ⟨(W.heap.size + 1 + 1), 0, none⟩ (.slice none 0 0)).setCell ⟨(W.heap.size + 1 + 1), 1, none⟩ (.int .u64 0)).setCell ⟨(W.heap.size + 1 + 1), 2, none⟩ (.slice none 0 0)).setCell ⟨(W.heap.size + 1 + 1), 3, none⟩ (.int .u64 0)).setCell ⟨(W.heap.size + 1 + 1), 4, none⟩ (.slice none 0 0)).setCell ⟨(W.heap.size + 1 + 1), 5, none⟩ (.slice none 0 0)).setCell ⟨(W.heap.size + 1 + 1), 6, none⟩ (.slice none 0 0)).setCell ⟨(W.heap.size + 1 + 1 + 1), 0, none⟩ (.int .i64 0)).setCell ⟨(W.heap.size + 1 + 1 + 1), 1, none⟩ (.int .u64 0)) (W.heap.size + 1 + 1 + 1) 41 #[.int .i64 0, .int .u64 0] := by have h := (((show RowAt (((((((w4.setCell ⟨(W.heap.size + 1 + 1), 0, none⟩ (.slice none 0 0)).setCell ⟨(W.heap.size + 1 + 1), 1, none⟩ (.int .u64 0)).setCell ⟨(W.heap.size + 1 + 1), 2, none⟩ (.slice none 0 0)).setCell ⟨(W.heap.size + 1 + 1), 3, none⟩ (.int .u64 0)).setCell ⟨(W.heap.size + 1 + 1), 4, none⟩ (.slice none 0 0)).setCell ⟨(W.heap.size + 1 + 1), 5, none⟩ (.slice none 0 0)).setCell ⟨(W.heap.size + 1 + 1), 6, none⟩ (.slice none 0 0)) (W.heap.size + 1 + 1 + 1) 41 #[.int .i64 0, .int .u64 0] from (hl1.block _ (by omega)).trans R4.out).set 0 (.int .i64 0)).set 1 (.int .u64 0)); simpa using h
   have hbF : Below W.heap.size W (((((((((w4.setCell ⟨(W.heap.size + 1 + 1), 0, none⟩ (.slice none 0 0)).setCell ⟨(W.heap.size + 1 + 1), 1, none⟩ (.int .u64 0)).setCell ⟨(W.heap.size + 1 + 1), 2, none⟩ (.slice none 0 0)).setCell ⟨(W.heap.size + 1 + 1), 3, none⟩ (.int .u64 0)).setCell ⟨(W.heap.size + 1 + 1), 4, none⟩ (.slice none 0 0)).setCell ⟨(W.heap.size + 1 + 1), 5, none⟩ (.slice none 0 0)).setCell ⟨(W.heap.size + 1 + 1), 6, none⟩ (.slice none 0 0)).setCell ⟨(W.heap.size + 1 + 1 + 1), 0, none⟩ (.int .i64 0)).setCell ⟨(W.heap.size + 1 + 1 + 1), 1, none⟩ (.int .u64 0)) := HB.out.trans ((hl1.below.mono (by omega)).trans (hl2.below.mono (by omega)))
   clear y0 y1 y2 y3 y4 y5 y6 yl
   clear yf0 yf1 yf2 yf3 yf4 yf5 yf6 u0 u1 ul uf0 uf1 hl1 hl2
   generalize (((((((((w4.setCell ⟨(W.heap.size + 1 + 1), 0, none⟩ (.slice none 0 0)).setCell ⟨(W.heap.size + 1 + 1), 1, none⟩ (.int .u64 0)).setCell ⟨(W.heap.size + 1 + 1), 2, none⟩ (.slice none 0 0)).setCell ⟨(W.heap.size + 1 + 1), 3, none⟩ (.int .u64 0)).setCell ⟨(W.heap.size + 1 + 1), 4, none⟩ (.slice none 0 0)).setCell ⟨(W.heap.size + 1 + 1), 5, none⟩ (.slice none 0 0)).setCell ⟨(W.heap.size + 1 + 1), 6, none⟩ (.slice none 0 0)).setCell ⟨(W.heap.size + 1 + 1 + 1), 0, none⟩ (.int .i64 0)).setCell ⟨(W.heap.size + 1 + 1 + 1), 1, none⟩ (.int .u64 0)) = wF at *
   obtain ⟨y0, y1, y2, y3, y4, y5, y6⟩ := row7 hr3
   have yl := hr3.lt
   refine bodyPost_ret (v := .tuple #[.agg #[.slice none 0 0, .int .u64 0, .slice none 0 0, .int .u64 0, .slice none 0 0, .slice none 0 0, .slice none 0 0], .agg #[.int .i64 0, .int .u64 0], .int .i64 (k)]) (by simp [results, Tryz.results13, go_sem, y0, y1, y2, y3, y4, y5, y6, yl, row20 hr4, row21 hr4, hr4.lt]) rfl ?_
   exact ⟨⟨.agg #[.slice none 0 0, .int .u64 0, .slice none 0 0, .int .u64 0, .slice none 0 0, .slice none 0 0, .slice none 0 0], by rw [HD.out], by rw [HD.out]; exact zero_rec _ _⟩, hbF⟩
  | ok x =>
   obtain ⟨r2, t2⟩ := x
   have HD := hide (show doR r o = (r2, lastT t2, 0) from by unfold doR; rw [ho, hs]; rfl)
   have HTL := hide (show t2.length ≤ 1 from by rcases step_told HW.out HOB.out hs with h | ⟨y, h⟩ <;> rw [h] <;> simp)
   rw [hs] at HH
   obtain ⟨o3, B0, Bs, m0, d0, ms, ds, B, m, d, At, nt, ct, hh⟩ := HH.out
   have HN := hide (show t2.length = nt from hh.len)
   replace HH := hide (show HandR w4 w2.heap.size gh B0 Bs m0 d0 ms ds B m d o3 At nt ct r2 t2 from hh)
   clear hh hs
   have hok : okK (Except.ok (r2, t2)) = 0 := rfl
   try rw [hok]
   have hGH := HH.out.row.lt
   have HAT := hide (fun (q : Addr) (hq : At = some q) => (told_lt HH.out.own q hq).2)
   go_upto_region 9 with (fail)
   have hb : Below w4.heap.size w4 (w4.alloc (.cells #[.int .i64 0, .int .u64 0] 41)) := (Below.refl _ _).alloc (Nat.le_refl _) _
   have RT := hide (RowAt.new w4 41 #[.int .i64 0, .int .u64 0])
   replace R3 := hide (R3.out.below hb)
   replace R4 := hide (R4.out.below hb)
   have HAP := hide ((HH.out.all.up (G := fun j => OffB w2.heap.size gh At j ∧ j ≠ w4.heap.size) (fun j hj hl => ⟨hj, by omega⟩)).below hb)
   replace HH := hide (HH.out.below hb)
   have HL4 := hide (show gh < w4.heap.size from by have := HH.out.row; exact hGH)
   replace HB := hide (HB.out.trans (hb.mono HB.out.size))
   obtain ⟨gt, hgt⟩ : ∃ gt, w4.heap.size = gt := ⟨_, rfl⟩
   have HGT := hide hgt
   rw [hgt] at RT HL4 HAT HAP ⊢
   have HS5 := hide (show (w4.alloc (.cells #[.int .i64 0, .int .u64 0] 41)).heap.size = gt + 1 from by rw [World.size_alloc, hgt])
   generalize (w4.alloc (.cells #[.int .i64 0, .int .u64 0] 41)) = w5 at *
   clear hb hgt
   obtain ⟨z0, z1, z2, z3, z4, z5, z6, z7, z8, z9, z10, z11, z12⟩ := row13 HH.out.row
   have zl := HH.out.row.lt
   have HT5 := hide (show ∀ q, At = some q → q.block ≠ gt from fun q hq => by have := HAT.out q hq; omega)
   go_upto_region 10 with (fail)
   clear z0 z1 z2 z3 z4 z5 z6 z7 z8 z9 z10 z11 z12 zl
   have hnt : nt ≤ 1 := by have := HTL.out; have := HN.out; omega
   go_loopw [35] (fun i wr => ∃ (k : Nat), k ≤ nt ∧ i = .int .i64 (k : Int) ∧ Below gt w5 wr ∧ StayF (fun j => j ≠ gt) w5 wr ∧ RowAt wr gt 41 #[.int .i64 (lastT (t2.take k)).1, .int .u64 (lastT (t2.take k)).2]) (fun i _ => nt - (intOf i).toNat)
   case atStart => exact ⟨0, Nat.zero_le _, rfl, Below.refl _ _, StayF.refl _ _, RT.out⟩
   case round =>
    obtain ⟨k, hk, rfl, hbw, hst, hrt⟩ := hrel
    have HBW := hide hbw
    have HST := hide hst
    have hgn : gh ≠ gt := by have := HL4.out; omega
    have HHW := hide (HH.out.laid hst hgn (fun q hq => HT5.out q hq) HAP.out)
    have HRT := hide hrt
    clear hbw hst hrt
    by_cases hlt : k < nt
    ·
     have hki : (k : Int) < (nt : Int) := by omega
     obtain ⟨b, q, hAt, hbl, d0, d1⟩ := Rd.ent (Rd.of_own HHW.out.own) HHW.out.len hlt
     have hkl : k < t2.length := by rw [HN.out]; exact hlt
     have hx : lastT (t2.take (k + 1)) = t2.getD k (0, 0) := by unfold lastT; rw [List.take_succ_eq_append_getElem hkl, List.getLastD_eq_getLast?, List.getLast?_append]; simp [List.getD_eq_getElem?_getD, List.getElem?_eq_getElem hkl]
     have hbt : b ≠ gt := by have := HT5.out ⟨b, q, none⟩ hAt; exact this
     obtain ⟨x, hxx⟩ : ∃ x, t2.getD k (0, 0) = x := ⟨_, rfl⟩
     rw [hxx] at hx d0 d1
     have hba : Below wr.heap.size wr (wr.alloc (.cells #[.int .i64 x.1, .int .u64 x.2] 41)) := (Below.refl _ _).alloc (Nat.le_refl _) _
     have hrt2 := HRT.out.below hba
     have g0 := row20 hrt2
     have g1 := row21 hrt2
     have gf0 := hrt2.frozen 0
     have gf1 := hrt2.frozen 1
     have gl := hrt2.lt
     have HLD := hide (show LaidF gt (wr.alloc (.cells #[.int .i64 x.1, .int .u64 x.2] 41)) (((wr.alloc (.cells #[.int .i64 x.1, .int .u64 x.2] 41)).setCell ⟨gt, 0, none⟩ (.int .i64 x.1)).setCell ⟨gt, 1, none⟩ (.int .u64 x.2)) from (((laid0 gt _).set 0 (.int .i64 x.1)).set 1 (.int .u64 x.2)))
     have HR2 := hide (show RowAt (((wr.alloc (.cells #[.int .i64 x.1, .int .u64 x.2] 41)).setCell ⟨gt, 0, none⟩ (.int .i64 x.1)).setCell ⟨gt, 1, none⟩ (.int .u64 x.2)) gt 41 #[.int .i64 x.1, .int .u64 x.2] from by have h := ((hrt2.set 0 (.int .i64 x.1)).set 1 (.int .u64 x.2)); simpa using h)
     have HSA := hide (HST.out.trans (StayF.of_below hba))
     have HBA := hide (HBW.out.trans (hba.mono HBW.out.size |>.mono (by have := HS5.out; omega)))
     have HX := hide hx
     clear hba hrt2 hx hxx hkl
     have HK := hide hlt
     clear hk
     subst hAt
     go_wp2_with fail
     generalize (((wr.alloc (.cells #[.int .i64 x.1, .int .u64 x.2] 41)).setCell ⟨gt, 0, none⟩ (.int .i64 x.1)).setCell ⟨gt, 1, none⟩ (.int .u64 x.2)) = w7 at *
     clear g0 g1 gf0 gf1 gl d0 d1 hbl
     go_roundw
     case rel => exact ⟨k + 1, HK.out, by go_num, HBA.out.trans HLD.out.below, HSA.out.trans ⟨HLD.out.size, fun j hj _ => HLD.out.block j hj⟩, by rw [HX.out]; exact HR2.out⟩
     case measure => have := HK.out; simp [intOf]; omega
    ·
     have hkn : nt = k := by omega
     subst hkn
     have HFL := hide (show t2.take nt = t2 from by rw [← HN.out, List.take_length])
     obtain ⟨x, hxx⟩ : ∃ x, lastT t2 = x := ⟨_, rfl⟩
     replace HRT := hide (show RowAt wr gt 41 #[.int .i64 x.1, .int .u64 x.2] from by have h := HRT.out; rw [HFL.out, hxx] at h; exact h)
     have HBR := hide (show Below w4.heap.size w5 wr from HBW.out.mono (Nat.le_of_eq HGT.out))
     replace HB := hide (HB.out.trans (HBR.out.mono (by have := HL2.out; have := HHW.out.lo; have := HL4.out; have := HGT.out; omega)))
     replace R3 := hide (R3.out.heap (HBR.out.block _ (by have := HL2.out; have := HHW.out.lo; have := HL4.out; have := HGT.out; omega)))
     replace R4 := hide (R4.out.heap (HBR.out.block _ (by have := HL2.out; have := HHW.out.lo; have := HL4.out; have := HGT.out; omega)))
     go_upto_region 14 with (fail)
     have HSX := hide (fun (wX : World) (hgX : StayF (fun j => j ≠ (W.heap.size + 1 + 1) ∧ j ≠ (W.heap.size + 1 + 1 + 1)) wr wX) => show wX.cell? ⟨gh, 0, none⟩ = some (.slice B0 m0 d0) ∧ wX.cell? ⟨gh, 1, none⟩ = some (.int .u64 r2.e) ∧ wX.cell? ⟨gh, 2, none⟩ = some (.slice Bs ms ds) ∧ wX.cell? ⟨gh, 3, none⟩ = some (.int .u64 (r2.l.E : Int)) ∧ wX.cell? ⟨gh, 4, none⟩ = some (.slice (B 0) (m 0) (d 0)) ∧ wX.cell? ⟨gh, 5, none⟩ = some (.slice (B 1) (m 1) (d 1)) ∧ wX.cell? ⟨gh, 6, none⟩ = some (.slice (B 2) (m 2) (d 2)) ∧ wX.cell? ⟨gt, 0, none⟩ = some (.int .i64 x.1) ∧ wX.cell? ⟨gt, 1, none⟩ = some (.int .u64 x.2) ∧ gt < wX.heap.size ∧ gh < wX.heap.size from by
      obtain ⟨z0, z1, z2, z3, z4, z5, z6, z7, z8, z9, z10, z11, z12⟩ := row13 HHW.out.row
      have hkg : ∀ j, gh ≤ j → j < wr.heap.size → wX.heap[j]? = wr.heap[j]? := fun j h1 h2 => hgX.2 j (⟨by have := HHW.out.lo; have := HL2.out; omega, by have := HHW.out.lo; have := HL2.out; omega⟩) h2
      have hk : ∀ j v, wr.cell? ⟨gh, j, none⟩ = some v → wX.cell? ⟨gh, j, none⟩ = some v := fun j v h => (cell_of_heap (hkg gh (Nat.le_refl _) HHW.out.row.lt)).trans h
      have hk2 : ∀ j v, wr.cell? ⟨gt, j, none⟩ = some v → wX.cell? ⟨gt, j, none⟩ = some v := fun j v h => (cell_of_heap (hkg gt (by have := HL4.out; omega) HRT.out.lt)).trans h
      exact ⟨hk _ _ z0, hk _ _ z1, hk _ _ z2, hk _ _ z3, hk _ _ z4, hk _ _ z5, hk _ _ z6, hk2 _ _ (row20 HRT.out), hk2 _ _ (row21 HRT.out), Nat.lt_of_lt_of_le HRT.out.lt hgX.1, Nat.lt_of_lt_of_le HHW.out.row.lt hgX.1⟩)
     have HBD := hide (Below.refl wr.heap.size wr).drew
     have HSD := hide (show StayF (fun j => j ≠ (W.heap.size + 1 + 1) ∧ j ≠ (W.heap.size + 1 + 1 + 1)) wr wr.drew from StayF.of_below HBD.out)
     have D3 := hide (R3.out.below HBD.out)
     have D4 := hide (R4.out.below HBD.out)
     have HHD := hide (HHW.out.below HBD.out)
     replace HB := hide (HB.out.trans (HBD.out.mono HB.out.size))
     refine wp_region_held_drew (S := fun wX => wX.cell? ⟨gh, 0, none⟩ = some (.slice B0 m0 d0) ∧ wX.cell? ⟨gh, 1, none⟩ = some (.int .u64 r2.e) ∧ wX.cell? ⟨gh, 2, none⟩ = some (.slice Bs ms ds) ∧ wX.cell? ⟨gh, 3, none⟩ = some (.int .u64 (r2.l.E : Int)) ∧ wX.cell? ⟨gh, 4, none⟩ = some (.slice (B 0) (m 0) (d 0)) ∧ wX.cell? ⟨gh, 5, none⟩ = some (.slice (B 1) (m 1) (d 1)) ∧ wX.cell? ⟨gh, 6, none⟩ = some (.slice (B 2) (m 2) (d 2)) ∧ wX.cell? ⟨gt, 0, none⟩ = some (.int .i64 x.1) ∧ wX.cell? ⟨gt, 1, none⟩ = some (.int .u64 x.2) ∧ gt < wX.heap.size ∧ gh < wX.heap.size) (by kernel_rfl) (HSX.out _ HSD.out) (fun hHeld => ?_)
     clear hHeld
     have hS0 := HSX.out _ HSD.out
     generalize wr.drew = wd at *
     (refine tkH (i := 0) (v := ?_) rfl (Or.inl ⟨by rfl, ?_⟩) ?_; rotate_left; (focus (intro w hSw; (try dsimp only at hSw); obtain ⟨a, b, c, d, e, f, g, h, i, j, k⟩ := hSw; go_simp; first | done | with_reducible rfl)); (try simp only [Act.put, Na, Nb, Nc, Nd, Nx, Nf]))
     (refine tkH (i := 1) (v := ?_) rfl (Or.inl ⟨by rfl, ?_⟩) ?_; rotate_left; (focus (intro w hSw; (try dsimp only at hSw); obtain ⟨a, b, c, d, e, f, g, h, i, j, k⟩ := hSw; go_simp; first | done | with_reducible rfl)); (try simp only [Act.put, Na, Nb, Nc, Nd, Nx, Nf]))
     (refine tkH (i := 2) (v := ?_) rfl (Or.inl ⟨by rfl, ?_⟩) ?_; rotate_left; (focus (intro w hSw; (try dsimp only at hSw); obtain ⟨a, b, c, d, e, f, g, h, i, j, k⟩ := hSw; go_simp; first | done | with_reducible rfl)); (try simp only [Act.put, Na, Nb, Nc, Nd, Nx, Nf]))
     (refine tkH (i := 3) (v := ?_) rfl (Or.inl ⟨by rfl, ?_⟩) ?_; rotate_left; (focus (intro w hSw; (try dsimp only at hSw); obtain ⟨a, b, c, d, e, f, g, h, i, j, k⟩ := hSw; go_simp; first | done | with_reducible rfl)); (try simp only [Act.put, Na, Nb, Nc, Nd, Nx, Nf]))
     (refine tkH (i := 4) (v := ?_) rfl (Or.inl ⟨by rfl, ?_⟩) ?_; rotate_left; (focus (intro w hSw; (try dsimp only at hSw); obtain ⟨a, b, c, d, e, f, g, h, i, j, k⟩ := hSw; go_simp; first | done | with_reducible rfl)); (try simp only [Act.put, Na, Nb, Nc, Nd, Nx, Nf]))
     refine wpAnyH_ready (rs := [5]) (by kernel_rfl) (by simp) ?_
     refine (AllReadyH.cons rfl (fun K0 hK0 => ?_) AllReadyH.nil)
     obtain ⟨y0, y1, y2, y3, y4, y5, y6⟩ := row7 D3.out
     have yl := D3.out.lt
     have yf0 := D3.out.frozen 0
     have yf1 := D3.out.frozen 1
     have yf2 := D3.out.frozen 2
     have yf3 := D3.out.frozen 3
     have yf4 := D3.out.frozen 4
     have yf5 := D3.out.frozen 5
     have yf6 := D3.out.frozen 6
     go_simp
     have hl1 := lp7 wd (W.heap.size + 1 + 1) (.slice B0 m0 d0) (.int .u64 r2.e) (.slice Bs ms ds) (.int .u64 (r2.l.E : Int)) (.slice (B 0) (m 0) (d 0)) (.slice (B 1) (m 1) (d 1)) (.slice (B 2) (m 2) (d 2))
     have hr3 := rp7 D3.out (.slice B0 m0 d0) (.int .u64 r2.e) (.slice Bs ms ds) (.int .u64 (r2.l.E : Int)) (.slice (B 0) (m 0) (d 0)) (.slice (B 1) (m 1) (d 1)) (.slice (B 2) (m 2) (d 2))
     have HS1 := hide (HSD.out.trans (hl1.stay (fun h => h.1 rfl)))
     have D4b := hide (show RowAt (((((((wd.setCell ⟨(W.heap.size + 1 + 1), 0, none⟩ (.slice B0 m0 d0)).setCell ⟨(W.heap.size + 1 + 1), 1, none⟩ (.int .u64 r2.e)).setCell ⟨(W.heap.size + 1 + 1), 2, none⟩ (.slice Bs ms ds)).setCell ⟨(W.heap.size + 1 + 1), 3, none⟩ (.int .u64 (r2.l.E : Int))).setCell ⟨(W.heap.size + 1 + 1), 4, none⟩ (.slice (B 0) (m 0) (d 0))).setCell ⟨(W.heap.size + 1 + 1), 5, none⟩ (.slice (B 1) (m 1) (d 1))).setCell ⟨(W.heap.size + 1 + 1), 6, none⟩ (.slice (B 2) (m 2) (d 2))) (W.heap.size + 1 + 1 + 1) 41 #[.int .i64 0, .int .u64 0] from (hl1.block _ (by omega)).trans D4.out)
     have HL1 := hide hl1
     have HR3 := hide hr3
     clear hl1 hr3 hS0 yl y0 yf0 y1 yf1 y2 yf2 y3 yf3 y4 yf4 y5 yf5 y6 yf6
     generalize World.setCell _ _ _ = w8 at *
     have hS0 := HSX.out _ HS1.out
     refine hK0.out _ _ (hS0) (fun _ => ?_)
     clear hK0 K0
     (try simp only [Act.put, Na, Nb, Nc, Nd, Nx, Nf])
     refine wpAnyH_ready (rs := [6]) (by kernel_rfl) (by simp) ?_
     refine (AllReadyH.cons rfl (fun K1 hK1 => ?_) AllReadyH.nil)
     have u0 := row20 D4b.out
     have u1 := row21 D4b.out
     have ul := D4b.out.lt
     have uf0 := D4b.out.frozen 0
     have uf1 := D4b.out.frozen 1
     go_simp
     have hl2 : LaidF (W.heap.size + 1 + 1 + 1) w8 ((w8.setCell ⟨(W.heap.size + 1 + 1 + 1), 0, none⟩ (.int .i64 x.1)).setCell ⟨(W.heap.size + 1 + 1 + 1), 1, none⟩ (.int .u64 x.2)) := (((laid0 (W.heap.size + 1 + 1 + 1) _).set 0 (.int .i64 x.1)).set 1 (.int .u64 x.2))
     have hr4 : RowAt ((w8.setCell ⟨(W.heap.size + 1 + 1 + 1), 0, none⟩ (.int .i64 x.1)).setCell ⟨(W.heap.size + 1 + 1 + 1), 1, none⟩ (.int .u64 x.2)) (W.heap.size + 1 + 1 + 1) 41 #[.int .i64 x.1, .int .u64 x.2] := by have h := ((D4b.out.set 0 (.int .i64 x.1)).set 1 (.int .u64 x.2)); simpa using h
     have HS2 := hide (HS1.out.trans (hl2.stay (fun h => h.2 rfl)))
     have HR3b := hide (show RowAt ((w8.setCell ⟨(W.heap.size + 1 + 1 + 1), 0, none⟩ (.int .i64 x.1)).setCell ⟨(W.heap.size + 1 + 1 + 1), 1, none⟩ (.int .u64 x.2)) (W.heap.size + 1 + 1) 34 #[.slice B0 m0 d0, .int .u64 r2.e, .slice Bs ms ds, .int .u64 (r2.l.E : Int), .slice (B 0) (m 0) (d 0), .slice (B 1) (m 1) (d 1), .slice (B 2) (m 2) (d 2)] from (hl2.block _ (by omega)).trans HR3.out)
     have HL9 := hide hl2
     have HR4 := hide hr4
     clear hl2 hr4 hS0 ul u0 u1 uf0 uf1
     generalize ((w8.setCell ⟨(W.heap.size + 1 + 1 + 1), 0, none⟩ (.int .i64 x.1)).setCell ⟨(W.heap.size + 1 + 1 + 1), 1, none⟩ (.int .u64 x.2)) = w9 at *
     have hS0 := HSX.out _ HS2.out
     refine hK1.out _ _ (hS0) (fun _ => ?_)
     clear hK1 K1
     (try simp only [Act.put, Na, Nb, Nc, Nd, Nx, Nf])
     refine wpAnyH_ready (rs := [7]) (by kernel_rfl) (by simp) ?_
     refine (AllReadyH.cons rfl (fun K2 hK2 => ?_) AllReadyH.nil)
     go_simp
     refine hK2.out _ _ (hS0) (fun _ => ?_)
     clear hK2 K2
     (try simp only [Act.put, Na, Nb, Nc, Nd, Nx, Nf])
     refine wpAnyH_done (by kernel_rfl) ?_ _
     obtain ⟨y0, y1, y2, y3, y4, y5, y6⟩ := row7 HR3b.out
     have yl := HR3b.out.lt
     go_wp2_with fail
     refine bodyPost_ret (v := .tuple #[.agg #[.slice B0 m0 d0, .int .u64 r2.e, .slice Bs ms ds, .int .u64 (r2.l.E : Int), .slice (B 0) (m 0) (d 0), .slice (B 1) (m 1) (d 1), .slice (B 2) (m 2) (d 2)], .agg #[.int .i64 x.1, .int .u64 x.2], .int .i64 0]) (by simp [results, Tryz.results13, go_sem, y0, y1, y2, y3, y4, y5, y6, yl, row20 HR4.out, row21 HR4.out, HR4.out.lt]) rfl ?_
     refine ⟨⟨.agg #[.slice B0 m0 d0, .int .u64 r2.e, .slice Bs ms ds, .int .u64 (r2.l.E : Int), .slice (B 0) (m 0) (d 0), .slice (B 1) (m 1) (d 1), .slice (B 2) (m 2) (d 2)], by rw [HD.out, ← hxx], ?_⟩, HB.out.trans ((HL1.out.below.mono (by omega)).trans (HL9.out.below.mono (by omega)))⟩
     rw [HD.out]
     exact ⟨_, _, _, _, _, _, _, _, _, rfl, ((HHD.out.all.up (G := fun j => w2.heap.size ≤ j) (fun j hj _ => hj.1)).stay ((StayF.less (F := fun j => j ≠ _) ⟨HL1.out.size, fun j hj _ => HL1.out.block j hj⟩ (fun j (hj : w2.heap.size ≤ j) _ => by have := HL2.out; omega)).trans (StayF.less (F := fun j => j ≠ _) ⟨HL9.out.size, fun j hj _ => HL9.out.block j hj⟩ (fun j (hj : w2.heap.size ≤ j) _ => by have := HL2.out; omega)))).up (fun j hj _ => by have := HL2.out; have hj : w2.heap.size ≤ j := hj; show W.heap.size ≤ j; omega)⟩
end Go.Proofs.YtkicidopjihjmaaGreat
set_option linter.unusedSimpArgs false
set_option linter.unusedVariables false
namespace Go.Proofs.YtkicidopjihjmaaGreat
open Go Go.RowKit
attribute [local go_sem] via_cell via_frozen
theorem least (p : Nat → Prop) : ∀ n, p n → ∃ k, p k ∧ ∀ m, p m → k ≤ m := by
 intro n
 induction n using Nat.strongRecOn with
 | _ n ih =>
  intro h
  by_cases h2 : ∃ m, m < n ∧ p m
  ·
   obtain ⟨m, h3, h4⟩ := h2
   exact ih m h3 h4
  ·
   exact ⟨n, h, fun m hm => Nat.le_of_not_lt (fun h3 => h2 ⟨m, h3, hm⟩)⟩
theorem wp_scope_rank {P : Program} {a : Act} {w : World} {Q : Exit → Act → World → Prop} {c rest : Code} (l : Nat) (J : Nat → Act → World → Prop) (hf : findLabel c l = some (Code.skip.seq rest))
  (pass : ∀ n a w, J n a w → rest.wp P (Exit.jump l (fun a' w' => ∃ m, m < n ∧ J m a' w') Q) a w)
  (first : (∀ n a w, J n a w → rest.wp P (Exit.jump l (fun a' w' => ∃ m, J m a' w') Q) a w) → c.wp P (Exit.jump l (fun a' w' => ∃ m, J m a' w') Q) a w) : (Code.scope c).wp P Q a w := by
 classical
 have hμ : ∀ a w, ∃ k : Nat, (∃ n, J n a w) → (J k a w ∧ ∀ m, J m a w → k ≤ m) := fun a w => by
  by_cases h : ∃ n, J n a w
  ·
   obtain ⟨n, hn⟩ := h
   obtain ⟨k, h1, h2⟩ := least (fun n => J n a w) n hn
   exact ⟨k, fun _ => ⟨h1, h2⟩⟩
  ·
   exact ⟨0, fun h2 => absurd h2 h⟩
 refine wp_scope_jumps l (fun a w => ∃ n, J n a w) (fun a w => (hμ a w).choose) hf (first fun n a w hJ => Code.wp_mono (fun e a' w' h => by
  cases e with
  | goto t => exact ⟨h.1, by obtain ⟨m, _, hm⟩ := h.2; exact ⟨m, hm⟩⟩
  | _ => exact h) (pass n a w hJ)) (fun a w hJ => wp_seq (wp_skip ?_))
 have hs := (hμ a w).choose_spec hJ
 refine Code.wp_mono (fun e a' w' h => ?_) (pass _ a w hs.1)
 cases e with
 | goto t =>
  refine ⟨h.1, ?_⟩
  obtain ⟨m, h1, h2⟩ := h.2
  exact ⟨⟨m, h2⟩, Nat.lt_of_le_of_lt (((hμ a' w').choose_spec ⟨m, h2⟩).2 m h2) h1⟩
 | _ => exact h
def TriesRes (gh base : Nat) (res : Rec × List Ent × Bool) (W : World) (e : Ending) (W' : World) : Prop :=
 e = .returned (.bool res.2.2) ∧ (∃ o3, HandX W' base gh o3 res.1 res.2.1) ∧ WfR res.1 ∧ Below base W W'
structure TryS (gh base : Nat) (res : Rec × List Ent × Bool) (W : World) (b : Bool) (r : Rec) (t : List Ent) (n : Nat) (w : World) : Prop where
 hand : ∃ o, HandX w base gh o r t
 wf : WfR r
 cont : contR b r t = res
 len : t.length + r.l.held.length ≤ 1000000
 rank : r.l.held.length + (if b = true then 0 else 1) = n
 below : Below base W w
theorem TryS.le {gh base : Nat} {res : Rec × List Ent × Bool} {W : World} {b : Bool} {r : Rec} {t : List Ent} {n : Nat} {w : World} (h : TryS gh base res W b r t n w) : base ≤ w.heap.size := by
 obtain ⟨o, A0, As, n0, c0, ns, cs, A, n, c, At, nt, ct, hh⟩ := h.hand
 exact Nat.le_trans hh.lo (Nat.le_of_lt hh.row.lt)
def TryJ (gh base : Nat) (res : Rec × List Ent × Bool) (W : World) (n : Nat) (a : Act) (w : World) : Prop :=
 ∃ (u1 u2 u4 u5 u6 u7 u8 u9 u10 u11 u12 u13 u14 u15 : Value) (b : Bool) (r : Rec) (t : List Ent), a = { tmps := #[.pointer (some ⟨gh, 0, none⟩), u1, u2, .bool b, u4, u5, u6, u7, u8, u9, u10, u11, u12, u13, u14, u15], defers := [] } ∧ TryS gh base res W b r t n w
theorem HandX.len {w : World} {base gh : Nat} {o : EOp} {r : Rec} {t : List Ent} (h : HandX w base gh o r t) : True := trivial
set_option maxHeartbeats 4000000 in
theorem tries_any (base gh : Nat) (o0 : EOp) (r : Rec) (told : List Ent) (W : World) (h : HandX W base gh o0 r told) (hw : WfR r) (hl : told.length + r.l.held.length ≤ 1000000) (res : Rec × List Ent × Bool) (hres : triesR r told = res) :
  Calls Tryz.prog 59 #[.pointer (some ⟨gh, 0, none⟩)] W (TriesRes gh base res W) := by
 have HS := hide (show TryS gh base res W false r told (r.l.held.length + 1) W from ⟨⟨o0, h⟩, hw, hres, hl, rfl, Below.refl _ _⟩)
 clear h hw hl hres
 go_enter Tryz.func59, Tryz.ntmps59
 go_wp2_with fail
 refine wp_scope_rank 0 (TryJ gh base res W) rfl ?pass ?first
 case first =>
  intro HP
  go_wp2_with fail
  go_step3
  simp only [Exit.then]
  rename_i hK
  refine hK _ _ (HP (r.l.held.length + 1) _ _ ?_)
  exact ⟨_, _, _, _, _, _, _, _, _, _, _, _, _, _, _, _, _, rfl, HS.out⟩
 case pass =>
  rintro n a' w' ⟨u1, u2, u4, u5, u6, u7, u8, u9, u10, u11, u12, u13, u14, u15, b, r1, t1, rfl, hs⟩
  have HJ := hide hs
  have HLT := hide (show (t1.length : Int) ≤ 1000000 from by have := hs.len; omega)
  obtain ⟨o1, hh⟩ := hs.hand
  have HF := hide (show Calls Tryz.prog 48 #[.pointer (some ⟨gh, 0, none⟩), .agg #[.int .i64 6, .int .i64 0, .int .u64 0, .int .i64 0, .int .u64 0]] w' (DoesX gh base r1 t1 oFree w') from doesX hh hs.wf oFree (Int.le_refl _) ⟨Int.le_refl _, by decide⟩ HLT.out)
  clear hs hh
  go_wp2_with fail
  with_reducible refine HF.out.mono ?_
  rintro e w2 ⟨rfl, hh, hb⟩
  have HH := hide hh
  have HB := hide (HJ.out.below.trans hb)
  have HLE := hide (Nat.le_trans HJ.out.le hb.size)
  clear hh hb HF
  rw [step_free] at HH ⊢
  cases hfr : freeR r1 t1 with
  | ok x =>
   obtain ⟨r2, t2⟩ := x
   rw [hfr] at HH
   have HN := hide (show TryS gh base res W b r2 t2 (r2.l.held.length + (if b = true then 0 else 1)) w2 from ⟨HH.out, (wf_free HJ.out.wf hfr).1, (contR_free HJ.out.wf hfr).symm.trans HJ.out.cont, by have h1 := free_held HJ.out.wf hfr; have := HJ.out.len; omega, rfl, HB.out⟩)
   have HR := hide (show r2.l.held.length + (if b = true then 0 else 1) < n from by have h1 := (free_held HJ.out.wf hfr).1; have h2 := HJ.out.rank; omega)
   have hok : okK (Except.ok (r2, t2)) = 0 := rfl
   try rw [hok]
   clear HH hfr
   go_wp2_with fail
   go_step3
   exact ⟨rfl, _, HR.out, _, _, _, _, _, _, _, _, _, _, _, _, _, _, _, _, _, rfl, HN.out⟩
  | error k =>
   rw [hfr] at HH
   have HFR := hide hfr
   have HK := hide (free_ne hfr)
   have hk : (k == 0) = false := by simpa using HK.out
   have hok : okK (Except.error k) = k := rfl
   try rw [hok]
   clear hfr
   cases b with
   | true =>
    go_wp2_with fail
    go_ret
    have hc := HJ.out.cont
    rw [contR_end HFR.out] at hc
    subst hc
    exact ⟨rfl, HH.out, HJ.out.wf, HB.out⟩
   | false =>
    obtain ⟨o2, hh⟩ := HH.out
    have HF := hide (show Calls Tryz.prog 48 #[.pointer (some ⟨gh, 0, none⟩), .agg #[.int .i64 7, .int .i64 0, .int .u64 0, .int .i64 0, .int .u64 0]] w2 (DoesX gh base r1 t1 oGo w2) from doesX hh HJ.out.wf oGo (Int.le_refl _) ⟨Int.le_refl _, by decide⟩ HLT.out)
    clear hh
    go_wp2_with fail
    with_reducible refine HF.out.mono ?_
    rintro e w3 ⟨rfl, hh, hb⟩
    have HH2 := hide hh
    have HB2 := hide (HB.out.trans hb)
    clear hh hb HF HH
    rw [step_go] at HH2 ⊢
    cases hgo : goR r1 t1 oGo with
    | ok x =>
     obtain ⟨r2, t2⟩ := x
     rw [hgo] at HH2
     obtain ⟨g1, g2, _⟩ := go_held HJ.out.wf hgo
     have HN := hide (show TryS gh base res W true r2 t2 r2.l.held.length w3 from ⟨HH2.out, wf_go HJ.out.wf hgo, (contR_go HFR.out hgo).symm.trans HJ.out.cont, by rw [g1, g2]; exact HJ.out.len, rfl, HB2.out⟩)
     have HR := hide (show r2.l.held.length < n from by rw [g1]; have h2 := HJ.out.rank; simp at h2; omega)
     have hok2 : okK (Except.ok (r2, t2)) = 0 := rfl
     try rw [hok2]
     clear HH2 hgo g1 g2
     go_wp2_with fail
     go_step3
     exact ⟨rfl, _, HR.out, _, _, _, _, _, _, _, _, _, _, _, _, _, _, _, _, _, rfl, HN.out⟩
    | error k2 =>
     rw [hgo] at HH2
     have HK2 := hide (go_ne hgo)
     have hk2 : (k2 == 0) = false := by simpa using HK2.out
     have hok2 : okK (Except.error k2) = k2 := rfl
     try rw [hok2]
     have hc := HJ.out.cont
     rw [contR_stay HFR.out hgo] at hc
     have HC := hide hc
     clear hgo hc
     go_wp2_with fail
     go_ret
     have hc := HC.out
     subst hc
     exact ⟨rfl, HH2.out, HJ.out.wf, HB2.out⟩
end Go.Proofs.YtkicidopjihjmaaGreat
set_option linter.unusedSimpArgs false
set_option linter.unusedVariables false
namespace Go.Proofs.YtkicidopjihjmaaGreat
open Go Go.RowKit
attribute [local go_sem] via_cell via_frozen
theorem own_back {w w' : World} {base b : Nat} {e : TypeId} {sz n : Nat} {v : Value} {xs : List Value} (h : w.ownsRow base e sz v n xs) (hk : ∀ j, base ≤ j → j < w.heap.size → w'.heap[j]? = w.heap[j]?) (hb : b ≤ base) : w'.ownsRow b e sz v n xs :=
 own_lo (own_kept h (fun g hg hl => hk g (own_typ h hg).1 hl)) hb
def TryRes (r : Rec) (W : World) (e : Ending) (W' : World) : Prop :=
 (∃ v At nt ct, e = .returned (.tuple #[v, .slice At nt ct, .bool (tryR r).2.2.1, .int .i64 (tryR r).2.2.2]) ∧ RecOut (From W.heap.size) W' v (tryR r).1 ∧ W'.ownsRow W.heap.size 41 2 (.slice At nt ct) nt (Cs encE (tryR r).2.1) ∧ (tryR r).2.1.length = nt) ∧ Below W.heap.size W W'
set_option maxRecDepth 20000 in
set_option maxHeartbeats 8000000 in
theorem Try_any (F : Nat → Prop) (A0 As : Option Addr) (n0 c0 ns cs : Nat) (A : Nat → Option Addr) (n c : Nat → Nat) (r : Rec) (W : World) (h : RecF F W A0 As n0 c0 ns cs A n c r) (hf : FitR r) (hg : ∀ s ∈ r.sl, 0 ≤ s.2) :
  Calls Tryz.prog 24 #[.agg (recC r.e r.l.E A0 As n0 c0 ns cs A n c)] W (TryRes r W) := by
 have b1 : Below W.heap.size W ((W.alloc (.cells #[.slice A0 n0 c0, .int .u64 r.e, .slice As ns cs, .int .u64 (r.l.E : Int), .slice (A 0) (n 0) (c 0), .slice (A 1) (n 1) (c 1), .slice (A 2) (n 2) (c 2)] 34)).alloc (.cells #[.slice none 0 0, .int .u64 0, .slice none 0 0, .int .u64 0, .slice none 0 0, .slice none 0 0, .slice none 0 0] 34)) := ((Below.refl _ _).alloc (Nat.le_refl _) _).alloc (by simp) _
 have R1 := hide (show RowAt ((W.alloc (.cells #[.slice A0 n0 c0, .int .u64 r.e, .slice As ns cs, .int .u64 (r.l.E : Int), .slice (A 0) (n 0) (c 0), .slice (A 1) (n 1) (c 1), .slice (A 2) (n 2) (c 2)] 34)).alloc (.cells #[.slice none 0 0, .int .u64 0, .slice none 0 0, .int .u64 0, .slice none 0 0, .slice none 0 0, .slice none 0 0] 34)) W.heap.size 34 #[.slice A0 n0 c0, .int .u64 r.e, .slice As ns cs, .int .u64 (r.l.E : Int), .slice (A 0) (n 0) (c 0), .slice (A 1) (n 1) (c 1), .slice (A 2) (n 2) (c 2)] from row_alloc (RowAt.new W 34 #[.slice A0 n0 c0, .int .u64 r.e, .slice As ns cs, .int .u64 (r.l.E : Int), .slice (A 0) (n 0) (c 0), .slice (A 1) (n 1) (c 1), .slice (A 2) (n 2) (c 2)]) _)
 have R3 := hide (show RowAt ((W.alloc (.cells #[.slice A0 n0 c0, .int .u64 r.e, .slice As ns cs, .int .u64 (r.l.E : Int), .slice (A 0) (n 0) (c 0), .slice (A 1) (n 1) (c 1), .slice (A 2) (n 2) (c 2)] 34)).alloc (.cells #[.slice none 0 0, .int .u64 0, .slice none 0 0, .int .u64 0, .slice none 0 0, .slice none 0 0, .slice none 0 0] 34)) (W.heap.size + 1) 34 #[.slice none 0 0, .int .u64 0, .slice none 0 0, .int .u64 0, .slice none 0 0, .slice none 0 0, .slice none 0 0] from by have h := RowAt.new (W.alloc (.cells #[.slice A0 n0 c0, .int .u64 r.e, .slice As ns cs, .int .u64 (r.l.E : Int), .slice (A 0) (n 0) (c 0), .slice (A 1) (n 1) (c 1), .slice (A 2) (n 2) (c 2)] 34)) 34 #[.slice none 0 0, .int .u64 0, .slice none 0 0, .int .u64 0, .slice none 0 0, .slice none 0 0, .slice none 0 0]; rw [World.size_alloc] at h; exact h)
 have HS1 := hide (show ((W.alloc (.cells #[.slice A0 n0 c0, .int .u64 r.e, .slice As ns cs, .int .u64 (r.l.E : Int), .slice (A 0) (n 0) (c 0), .slice (A 1) (n 1) (c 1), .slice (A 2) (n 2) (c 2)] 34)).alloc (.cells #[.slice none 0 0, .int .u64 0, .slice none 0 0, .int .u64 0, .slice none 0 0, .slice none 0 0, .slice none 0 0] 34)).heap.size = W.heap.size + 2 from by simp)
 have HB := hide b1
 have H := hide (h.below b1)
 have HF := hide hf
 have HG := hide hg
 clear b1 h hf hg
 go_enter Tryz.func24, Tryz.ntmps24
 go_upto_region 1 with (fail)
 generalize ((W.alloc (.cells #[.slice A0 n0 c0, .int .u64 r.e, .slice As ns cs, .int .u64 (r.l.E : Int), .slice (A 0) (n 0) (c 0), .slice (A 1) (n 1) (c 1), .slice (A 2) (n 2) (c 2)] 34)).alloc (.cells #[.slice none 0 0, .int .u64 0, .slice none 0 0, .int .u64 0, .slice none 0 0, .slice none 0 0, .slice none 0 0] 34)) = w1 at *
 obtain ⟨q0, q1, q2, q3, q4, q5, q6⟩ := row7 R1.out
 have ql := R1.out.lt
 go_wp2_with fail
 rcases Bool.eq_false_or_eq_true r.ok with ho | ho
 case inr =>
  have HD := hide (show tryR r = (rec0, [], false, 250) from by unfold tryR; rw [ho]; rfl)
  with_reducible refine (Check_any F A0 As n0 c0 ns cs A n c r _ H.out HF.out 250 (by rw [ho]; simp)).mono ?_
  rintro e w2 ⟨rfl, hb⟩
  replace R1 := hide (R1.out.below hb)
  replace R3 := hide (R3.out.below hb)
  replace H := hide (H.out.below hb)
  replace HB := hide (HB.out.trans (hb.mono HB.out.size))
  clear hb
  clear q0 q1 q2 q3 q4 q5 q6 ql
  obtain ⟨y0, y1, y2, y3, y4, y5, y6⟩ := row7 R3.out
  have yl := R3.out.lt
  have yf0 := R3.out.frozen 0
  have yf1 := R3.out.frozen 1
  have yf2 := R3.out.frozen 2
  have yf3 := R3.out.frozen 3
  have yf4 := R3.out.frozen 4
  have yf5 := R3.out.frozen 5
  have yf6 := R3.out.frozen 6
  go_wp2_with fail
  have hl1 := lp7 w2 (W.heap.size + 1) (.slice none 0 0) (.int .u64 0) (.slice none 0 0) (.int .u64 0) (.slice none 0 0) (.slice none 0 0) (.slice none 0 0)
  have hr3 := rp7 R3.out (.slice none 0 0) (.int .u64 0) (.slice none 0 0) (.int .u64 0) (.slice none 0 0) (.slice none 0 0) (.slice none 0 0)
  have hbF : Below W.heap.size W (((((((w2.setCell ⟨(W.heap.size + 1), 0, none⟩ (.slice none 0 0)).setCell ⟨(W.heap.size + 1), 1, none⟩ (.int .u64 0)).setCell ⟨(W.heap.size + 1), 2, none⟩ (.slice none 0 0)).setCell ⟨(W.heap.size + 1), 3, none⟩ (.int .u64 0)).setCell ⟨(W.heap.size + 1), 4, none⟩ (.slice none 0 0)).setCell ⟨(W.heap.size + 1), 5, none⟩ (.slice none 0 0)).setCell ⟨(W.heap.size + 1), 6, none⟩ (.slice none 0 0)) := HB.out.trans (hl1.below.mono (by omega))
  clear y0 y1 y2 y3 y4 y5 y6 yl
  clear yf0 yf1 yf2 yf3 yf4 yf5 yf6 hl1
  generalize World.setCell _ _ _ = wF at *
  obtain ⟨y0, y1, y2, y3, y4, y5, y6⟩ := row7 hr3
  have yl := hr3.lt
  refine bodyPost_ret (v := .tuple #[.agg #[.slice none 0 0, .int .u64 0, .slice none 0 0, .int .u64 0, .slice none 0 0, .slice none 0 0, .slice none 0 0], .slice none 0 0, .bool false, .int .i64 250]) (by simp [results, Tryz.results24, go_sem, y0, y1, y2, y3, y4, y5, y6, yl]) rfl ⟨⟨.agg #[.slice none 0 0, .int .u64 0, .slice none 0 0, .int .u64 0, .slice none 0 0, .slice none 0 0, .slice none 0 0], none, 0, 0, by rw [HD.out], by rw [HD.out]; exact zero_rec _ _, by rw [HD.out]; exact World.ownsRow_nil _ _ _ _, by rw [HD.out]; rfl⟩, hbF⟩
 case inl =>
  have HW := hide (show WfR r from ⟨ok_iff.1 ho, fun s hs => (HF.out.s s hs).1, HG.out⟩)
  with_reducible refine (Check_any F A0 As n0 c0 ns cs A n c r _ H.out HF.out 0 (by rw [ho]; simp)).mono ?_
  rintro e w2 ⟨rfl, hb⟩
  replace R1 := hide (R1.out.below hb)
  replace R3 := hide (R3.out.below hb)
  replace H := hide (H.out.below hb)
  replace HB := hide (HB.out.trans (hb.mono HB.out.size))
  clear hb
  clear q0 q1 q2 q3 q4 q5 q6 ql
  obtain ⟨q0, q1, q2, q3, q4, q5, q6⟩ := row7 R1.out
  have ql := R1.out.lt
  go_wp2_with fail
  with_reducible refine (own_any F A0 As n0 c0 ns cs A n c r w2 H.out HF.out).mono ?_
  rintro e w3 ⟨⟨gh, rfl, hx⟩, hb⟩
  have HX := hide (show HandX w3 w2.heap.size gh o00 r [] from by obtain ⟨B0, Bs, m0, d0, ms, ds, B, m, d, hh⟩ := hx; exact ⟨_, _, _, _, _, _, _, _, _, _, _, _, hh⟩)
  have HL2 := hide (show W.heap.size + 2 ≤ w2.heap.size from by have h1 := R3.out.lt; omega)
  replace R1 := hide (R1.out.below hb)
  replace R3 := hide (R3.out.below hb)
  replace H := hide (H.out.below hb)
  replace HB := hide (HB.out.trans (hb.mono HB.out.size))
  clear hb
  clear q0 q1 q2 q3 q4 q5 q6 ql
  clear hx
  have HD := hide (show tryR r = ((triesR r []).1, (triesR r []).2.1, (triesR r []).2.2, 0) from by unfold tryR; rw [ho]; rfl)
  obtain ⟨res, hres⟩ : ∃ res, triesR r [] = res := ⟨_, rfl⟩
  rw [hres] at HD
  obtain ⟨r2, t2, b2⟩ := res
  go_wp2_with fail
  with_reducible refine (tries_any w2.heap.size gh o00 r [] w3 HX.out HW.out (by have := Li.ok_held_len HW.out.ok.lm; simp; omega) (r2, t2, b2) hres).mono ?_
  rintro e w4 ⟨rfl, hh, _, hb⟩
  have HHW := hide hh
  replace R1 := hide (R1.out.heap (hb.block _ (by have := HL2.out; omega)))
  replace R3 := hide (R3.out.heap (hb.block _ (by have := HL2.out; omega)))
  replace HB := hide (HB.out.trans (hb.mono (by have := HL2.out; omega)))
  clear hb hh HX hres
  obtain ⟨o3, B0, Bs, m0, d0, ms, ds, B, m, d, At, nt, ct, hh⟩ := HHW.out
  replace HHW := hide (show HandR w4 w2.heap.size gh B0 Bs m0 d0 ms ds B m d o3 At nt ct r2 t2 from hh)
  clear hh
  go_upto_region 6 with (fail)
  have HSX := hide (fun (wX : World) (hgX : StayF (fun j => j ≠ (W.heap.size + 1)) w4 wX) => show wX.cell? ⟨gh, 0, none⟩ = some (.slice B0 m0 d0) ∧ wX.cell? ⟨gh, 1, none⟩ = some (.int .u64 r2.e) ∧ wX.cell? ⟨gh, 2, none⟩ = some (.slice Bs ms ds) ∧ wX.cell? ⟨gh, 3, none⟩ = some (.int .u64 (r2.l.E : Int)) ∧ wX.cell? ⟨gh, 4, none⟩ = some (.slice (B 0) (m 0) (d 0)) ∧ wX.cell? ⟨gh, 5, none⟩ = some (.slice (B 1) (m 1) (d 1)) ∧ wX.cell? ⟨gh, 6, none⟩ = some (.slice (B 2) (m 2) (d 2)) ∧ wX.cell? ⟨gh, 12, none⟩ = some (.slice At nt ct) ∧ gh < wX.heap.size from by
   obtain ⟨z0, z1, z2, z3, z4, z5, z6, z7, z8, z9, z10, z11, z12⟩ := row13 HHW.out.row
   have hkg : ∀ j, gh ≤ j → j < w4.heap.size → wX.heap[j]? = w4.heap[j]? := fun j h1 h2 => hgX.2 j (by have := HHW.out.lo; have := HL2.out; show j ≠ _; omega) h2
   have hk : ∀ j v, w4.cell? ⟨gh, j, none⟩ = some v → wX.cell? ⟨gh, j, none⟩ = some v := fun j v h => (cell_of_heap (hkg gh (Nat.le_refl _) HHW.out.row.lt)).trans h
   exact ⟨hk _ _ z0, hk _ _ z1, hk _ _ z2, hk _ _ z3, hk _ _ z4, hk _ _ z5, hk _ _ z6, hk _ _ z12, Nat.lt_of_lt_of_le HHW.out.row.lt hgX.1⟩)
  have HBD := hide (Below.refl w4.heap.size w4).drew
  have HSD := hide (show StayF (fun j => j ≠ (W.heap.size + 1)) w4 w4.drew from StayF.of_below HBD.out)
  have D3 := hide (R3.out.below HBD.out)
  have HHD := hide (HHW.out.below HBD.out)
  replace HB := hide (HB.out.trans (HBD.out.mono HB.out.size))
  refine wp_region_held_drew (S := fun wX => wX.cell? ⟨gh, 0, none⟩ = some (.slice B0 m0 d0) ∧ wX.cell? ⟨gh, 1, none⟩ = some (.int .u64 r2.e) ∧ wX.cell? ⟨gh, 2, none⟩ = some (.slice Bs ms ds) ∧ wX.cell? ⟨gh, 3, none⟩ = some (.int .u64 (r2.l.E : Int)) ∧ wX.cell? ⟨gh, 4, none⟩ = some (.slice (B 0) (m 0) (d 0)) ∧ wX.cell? ⟨gh, 5, none⟩ = some (.slice (B 1) (m 1) (d 1)) ∧ wX.cell? ⟨gh, 6, none⟩ = some (.slice (B 2) (m 2) (d 2)) ∧ wX.cell? ⟨gh, 12, none⟩ = some (.slice At nt ct) ∧ gh < wX.heap.size) (by kernel_rfl) (HSX.out _ HSD.out) (fun hHeld => ?_)
  clear hHeld
  have hS0 := HSX.out _ HSD.out
  generalize w4.drew = wd at *
  (refine tkH (i := 0) (v := ?_) rfl (Or.inl ⟨by rfl, ?_⟩) ?_; rotate_left; (focus (intro w hSw; (try dsimp only at hSw); obtain ⟨a, b, c, d, e, f, g, h, i⟩ := hSw; go_simp; first | done | with_reducible rfl)); (try simp only [Act.put, Na, Nb, Nc, Nd, Nx, Nf]))
  (refine tkH (i := 1) (v := ?_) rfl (Or.inl ⟨by rfl, ?_⟩) ?_; rotate_left; (focus (intro w hSw; (try dsimp only at hSw); obtain ⟨a, b, c, d, e, f, g, h, i⟩ := hSw; go_simp; first | done | with_reducible rfl)); (try simp only [Act.put, Na, Nb, Nc, Nd, Nx, Nf]))
  (refine tkH (i := 2) (v := ?_) rfl (Or.inl ⟨by rfl, ?_⟩) ?_; rotate_left; (focus (intro w hSw; (try dsimp only at hSw); obtain ⟨a, b, c, d, e, f, g, h, i⟩ := hSw; go_simp; first | done | with_reducible rfl)); (try simp only [Act.put, Na, Nb, Nc, Nd, Nx, Nf]))
  (refine tkH (i := 3) (v := ?_) rfl (Or.inl ⟨by rfl, ?_⟩) ?_; rotate_left; (focus (intro w hSw; (try dsimp only at hSw); obtain ⟨a, b, c, d, e, f, g, h, i⟩ := hSw; go_simp; first | done | with_reducible rfl)); (try simp only [Act.put, Na, Nb, Nc, Nd, Nx, Nf]))
  (refine tkH (i := 4) (v := ?_) rfl (Or.inl ⟨by rfl, ?_⟩) ?_; rotate_left; (focus (intro w hSw; (try dsimp only at hSw); obtain ⟨a, b, c, d, e, f, g, h, i⟩ := hSw; go_simp; first | done | with_reducible rfl)); (try simp only [Act.put, Na, Nb, Nc, Nd, Nx, Nf]))
  (refine tkH (i := 5) (v := ?_) rfl (Or.inl ⟨by rfl, ?_⟩) ?_; rotate_left; (focus (intro w hSw; (try dsimp only at hSw); obtain ⟨a, b, c, d, e, f, g, h, i⟩ := hSw; go_simp; first | done | with_reducible rfl)); (try simp only [Act.put, Na, Nb, Nc, Nd, Nx, Nf]))
  (refine tkH (i := 6) (v := ?_) rfl (Or.inl ⟨by rfl, ?_⟩) ?_; rotate_left; (focus (intro w hSw; (try dsimp only at hSw); obtain ⟨a, b, c, d, e, f, g, h, i⟩ := hSw; go_simp; first | done | with_reducible rfl)); (try simp only [Act.put, Na, Nb, Nc, Nd, Nx, Nf]))
  (refine tkH (i := 7) (v := ?_) rfl (Or.inl ⟨by rfl, ?_⟩) ?_; rotate_left; (focus (intro w hSw; (try dsimp only at hSw); obtain ⟨a, b, c, d, e, f, g, h, i⟩ := hSw; go_simp; first | done | with_reducible rfl)); (try simp only [Act.put, Na, Nb, Nc, Nd, Nx, Nf]))
  (refine tkH (i := 8) (v := ?_) rfl (Or.inl ⟨by rfl, ?_⟩) ?_; rotate_left; (focus (intro w hSw; (try dsimp only at hSw); obtain ⟨a, b, c, d, e, f, g, h, i⟩ := hSw; go_simp; first | done | with_reducible rfl)); (try simp only [Act.put, Na, Nb, Nc, Nd, Nx, Nf]))
  refine wpAnyH_ready (rs := [9]) (by kernel_rfl) (by simp) ?_
  refine (AllReadyH.cons rfl (fun K0 hK0 => ?_) AllReadyH.nil)
  obtain ⟨y0, y1, y2, y3, y4, y5, y6⟩ := row7 D3.out
  have yl := D3.out.lt
  have yf0 := D3.out.frozen 0
  have yf1 := D3.out.frozen 1
  have yf2 := D3.out.frozen 2
  have yf3 := D3.out.frozen 3
  have yf4 := D3.out.frozen 4
  have yf5 := D3.out.frozen 5
  have yf6 := D3.out.frozen 6
  go_simp
  have hl1 := lp7 wd (W.heap.size + 1) (.slice B0 m0 d0) (.int .u64 r2.e) (.slice Bs ms ds) (.int .u64 (r2.l.E : Int)) (.slice (B 0) (m 0) (d 0)) (.slice (B 1) (m 1) (d 1)) (.slice (B 2) (m 2) (d 2))
  have hr3 := rp7 D3.out (.slice B0 m0 d0) (.int .u64 r2.e) (.slice Bs ms ds) (.int .u64 (r2.l.E : Int)) (.slice (B 0) (m 0) (d 0)) (.slice (B 1) (m 1) (d 1)) (.slice (B 2) (m 2) (d 2))
  have HS1 := hide (HSD.out.trans (hl1.stay (fun h => h rfl)))
  have HL1 := hide hl1
  have HR3 := hide hr3
  clear hl1 hr3 hS0 yl y0 yf0 y1 yf1 y2 yf2 y3 yf3 y4 yf4 y5 yf5 y6 yf6
  generalize World.setCell _ _ _ = w8 at *
  have hS0 := HSX.out _ HS1.out
  refine hK0.out _ _ (hS0) (fun _ => ?_)
  clear hK0 K0
  (try simp only [Act.put, Na, Nb, Nc, Nd, Nx, Nf])
  refine wpAnyH_ready (rs := [10]) (by kernel_rfl) (by simp) ?_
  refine (AllReadyH.cons rfl (fun K1 hK1 => ?_) AllReadyH.nil)
  go_simp
  refine hK1.out _ _ (hS0) (fun _ => ?_)
  clear hK1 K1
  (try simp only [Act.put, Na, Nb, Nc, Nd, Nx, Nf])
  refine wpAnyH_ready (rs := [11]) (by kernel_rfl) (by simp) ?_
  refine (AllReadyH.cons rfl (fun K2 hK2 => ?_) AllReadyH.nil)
  go_simp
  refine hK2.out _ _ (hS0) (fun _ => ?_)
  clear hK2 K2
  (try simp only [Act.put, Na, Nb, Nc, Nd, Nx, Nf])
  refine wpAnyH_ready (rs := [12]) (by kernel_rfl) (by simp) ?_
  refine (AllReadyH.cons rfl (fun K3 hK3 => ?_) AllReadyH.nil)
  go_simp
  refine hK3.out _ _ (hS0) (fun _ => ?_)
  clear hK3 K3
  (try simp only [Act.put, Na, Nb, Nc, Nd, Nx, Nf])
  refine wpAnyH_done (by kernel_rfl) ?_ _
  obtain ⟨y0, y1, y2, y3, y4, y5, y6⟩ := row7 HR3.out
  have yl := HR3.out.lt
  go_wp2_with fail
  refine bodyPost_ret (v := .tuple #[.agg #[.slice B0 m0 d0, .int .u64 r2.e, .slice Bs ms ds, .int .u64 (r2.l.E : Int), .slice (B 0) (m 0) (d 0), .slice (B 1) (m 1) (d 1), .slice (B 2) (m 2) (d 2)], .slice At nt ct, .bool b2, .int .i64 0]) (by simp [results, Tryz.results24, go_sem, y0, y1, y2, y3, y4, y5, y6, yl]) rfl ?_
  have hk : ∀ j, w2.heap.size ≤ j → w8.heap[j]? = wd.heap[j]? := fun j hj => HL1.out.block j (by have := HL2.out; omega)
  refine ⟨⟨.agg #[.slice B0 m0 d0, .int .u64 r2.e, .slice Bs ms ds, .int .u64 (r2.l.E : Int), .slice (B 0) (m 0) (d 0), .slice (B 1) (m 1) (d 1), .slice (B 2) (m 2) (d 2)], At, nt, ct, by rw [HD.out], ?_, by rw [HD.out]; exact own_back HHD.out.own (fun j hj _ => hk j hj) (by have := HL2.out; omega), by rw [HD.out]; exact HHD.out.len⟩, HB.out.trans (HL1.out.below.mono (by omega))⟩
  rw [HD.out]
  exact ⟨_, _, _, _, _, _, _, _, _, rfl, ((HHD.out.all.up (G := fun j => w2.heap.size ≤ j) (fun j hj _ => hj.1)).stay ⟨HL1.out.size, fun j hj _ => hk j hj⟩).up (fun j hj _ => by have := HL2.out; have hj : w2.heap.size ≤ j := hj; show W.heap.size ≤ j; omega)⟩
end Go.Proofs.YtkicidopjihjmaaGreat
set_option linter.unusedSimpArgs false
set_option linter.unusedVariables false
namespace Go.Proofs.YtkicidopjihjmaaGreat
open Go Go.RowKit
attribute [local go_sem] via_cell via_frozen
def encP (o : EOp) : List Value := [.int .i64 o.k, .int .i64 o.g, .int .u64 o.b, .int .i64 o.x.1, .int .u64 o.x.2]
theorem encP_len : ∀ x, (encP x).length = 5 := fun _ => rfl
theorem Rd.op {w : World} {B m : Nat} {A : Option Addr} {xs : List EOp} (h : Rd w B 5 A m (Cs encP xs)) (hx : xs.length = m) {k : Nat} (hk : k < xs.length) :
  ∃ b o, A = some ⟨b, o, none⟩ ∧ b < B ∧ w.cell? ⟨b, o + k * 5, none⟩ = some (.int .i64 xs[k].k) ∧ w.cell? ⟨b, o + k * 5 + 1, none⟩ = some (.int .i64 xs[k].g) ∧ w.cell? ⟨b, o + k * 5 + 2, none⟩ = some (.int .u64 xs[k].b) ∧ w.cell? ⟨b, o + k * 5 + 3, none⟩ = some (.int .i64 xs[k].x.1) ∧ w.cell? ⟨b, o + k * 5 + 4, none⟩ = some (.int .u64 xs[k].x.2) := by
 subst hx
 obtain ⟨b, o, hA, hb, hc⟩ := h.elem encP_len hk
 refine ⟨b, o, hA, hb, ?_, ?_, ?_, ?_, ?_⟩
 ·
  have := hc 0 _ (by omega) rfl
  simpa using this
 ·
  exact hc 1 _ (by omega) rfl
 ·
  exact hc 2 _ (by omega) rfl
 ·
  exact hc 3 _ (by omega) rfl
 ·
  exact hc 4 _ (by omega) rfl
def RunRes (r : Rec) (l : List EOp) (W : World) (e : Ending) (W' : World) : Prop :=
 (∃ v At nt ct, e = .returned (.tuple #[v, .slice At nt ct, .int .i64 ((runR r l).2.2.1 : Int), .int .i64 (runR r l).2.2.2]) ∧ RecOut (From W.heap.size) W' v (runR r l).1 ∧ W'.ownsRow W.heap.size 41 2 (.slice At nt ct) nt (Cs encE (runR r l).2.1) ∧ (runR r l).2.1.length = nt) ∧ Below W.heap.size W W'
structure RunS (gh base : Nat) (res : Option (Rec × List Ent × Nat)) (l : List EOp) (W : World) (k : Nat) (r : Rec) (t : List Ent) (n : Nat) (w : World) : Prop where
 hand : ∃ o, HandX w base gh o r t
 wf : WfR r
 cont : runL r t n (l.drop k) = res
 len : t.length ≤ k
 num : n ≤ k
 below : Below base W w
theorem RunS.le {gh base : Nat} {res : Option (Rec × List Ent × Nat)} {l : List EOp} {W : World} {k : Nat} {r : Rec} {t : List Ent} {n : Nat} {w : World} (h : RunS gh base res l W k r t n w) : base ≤ w.heap.size := by
 obtain ⟨o, A0, As, n0, c0, ns, cs, A, n, c, At, nt, ct, hh⟩ := h.hand
 exact Nat.le_trans hh.lo (Nat.le_of_lt hh.row.lt)
set_option maxRecDepth 20000 in
set_option maxHeartbeats 8000000 in
theorem Run_any (F : Nat → Prop) (A0 As : Option Addr) (n0 c0 ns cs : Nat) (A : Nat → Option Addr) (n c : Nat → Nat) (r : Rec) (Al : Option Addr) (ml cl : Nat) (l : List EOp) (W : World) (h : RecF F W A0 As n0 c0 ns cs A n c r) (hf : FitR r) (hg : ∀ s ∈ r.sl, 0 ≤ s.2) (hl : Rd W W.heap.size 5 Al ml (Cs encP l)) (hm : l.length = ml) (hml : ml ≤ 4096) (hu : ∀ o ∈ l, 0 ≤ o.b ∧ U64 o.x.2) :
  Calls Tryz.prog 17 #[.agg (recC r.e r.l.E A0 As n0 c0 ns cs A n c), .slice Al ml cl] W (RunRes r l W) := by
 have b1 : Below W.heap.size W ((W.alloc (.cells #[.slice A0 n0 c0, .int .u64 r.e, .slice As ns cs, .int .u64 (r.l.E : Int), .slice (A 0) (n 0) (c 0), .slice (A 1) (n 1) (c 1), .slice (A 2) (n 2) (c 2)] 34)).alloc (.cells #[.slice none 0 0, .int .u64 0, .slice none 0 0, .int .u64 0, .slice none 0 0, .slice none 0 0, .slice none 0 0] 34)) := ((Below.refl _ _).alloc (Nat.le_refl _) _).alloc (by simp) _
 have R1 := hide (show RowAt ((W.alloc (.cells #[.slice A0 n0 c0, .int .u64 r.e, .slice As ns cs, .int .u64 (r.l.E : Int), .slice (A 0) (n 0) (c 0), .slice (A 1) (n 1) (c 1), .slice (A 2) (n 2) (c 2)] 34)).alloc (.cells #[.slice none 0 0, .int .u64 0, .slice none 0 0, .int .u64 0, .slice none 0 0, .slice none 0 0, .slice none 0 0] 34)) W.heap.size 34 #[.slice A0 n0 c0, .int .u64 r.e, .slice As ns cs, .int .u64 (r.l.E : Int), .slice (A 0) (n 0) (c 0), .slice (A 1) (n 1) (c 1), .slice (A 2) (n 2) (c 2)] from row_alloc (RowAt.new W 34 #[.slice A0 n0 c0, .int .u64 r.e, .slice As ns cs, .int .u64 (r.l.E : Int), .slice (A 0) (n 0) (c 0), .slice (A 1) (n 1) (c 1), .slice (A 2) (n 2) (c 2)]) _)
 have R3 := hide (show RowAt ((W.alloc (.cells #[.slice A0 n0 c0, .int .u64 r.e, .slice As ns cs, .int .u64 (r.l.E : Int), .slice (A 0) (n 0) (c 0), .slice (A 1) (n 1) (c 1), .slice (A 2) (n 2) (c 2)] 34)).alloc (.cells #[.slice none 0 0, .int .u64 0, .slice none 0 0, .int .u64 0, .slice none 0 0, .slice none 0 0, .slice none 0 0] 34)) (W.heap.size + 1) 34 #[.slice none 0 0, .int .u64 0, .slice none 0 0, .int .u64 0, .slice none 0 0, .slice none 0 0, .slice none 0 0] from by have h := RowAt.new (W.alloc (.cells #[.slice A0 n0 c0, .int .u64 r.e, .slice As ns cs, .int .u64 (r.l.E : Int), .slice (A 0) (n 0) (c 0), .slice (A 1) (n 1) (c 1), .slice (A 2) (n 2) (c 2)] 34)) 34 #[.slice none 0 0, .int .u64 0, .slice none 0 0, .int .u64 0, .slice none 0 0, .slice none 0 0, .slice none 0 0]; rw [World.size_alloc] at h; exact h)
 have HS1 := hide (show ((W.alloc (.cells #[.slice A0 n0 c0, .int .u64 r.e, .slice As ns cs, .int .u64 (r.l.E : Int), .slice (A 0) (n 0) (c 0), .slice (A 1) (n 1) (c 1), .slice (A 2) (n 2) (c 2)] 34)).alloc (.cells #[.slice none 0 0, .int .u64 0, .slice none 0 0, .int .u64 0, .slice none 0 0, .slice none 0 0, .slice none 0 0] 34)).heap.size = W.heap.size + 2 from by simp)
 have HB := hide b1
 have H := hide (h.below b1)
 have HF := hide hf
 have HG := hide hg
 have HL := hide hl
 have HM := hide hm
 have HU := hide hu
 have HML := hide hml
 clear b1 h hf hg hl hm hu
 go_enter Tryz.func17, Tryz.ntmps17
 go_upto_region 1 with (fail)
 generalize ((W.alloc (.cells #[.slice A0 n0 c0, .int .u64 r.e, .slice As ns cs, .int .u64 (r.l.E : Int), .slice (A 0) (n 0) (c 0), .slice (A 1) (n 1) (c 1), .slice (A 2) (n 2) (c 2)] 34)).alloc (.cells #[.slice none 0 0, .int .u64 0, .slice none 0 0, .int .u64 0, .slice none 0 0, .slice none 0 0, .slice none 0 0] 34)) = w1 at *
 obtain ⟨q0, q1, q2, q3, q4, q5, q6⟩ := row7 R1.out
 have ql := R1.out.lt
 go_wp2_with fail
 rcases Bool.eq_false_or_eq_true r.ok with ho | ho
 case inr =>
  have HD := hide (show runR r l = (rec0, [], 0, 250) from by unfold runR; rw [ho]; rfl)
  with_reducible refine (Check_any F A0 As n0 c0 ns cs A n c r _ H.out HF.out 250 (by rw [ho]; simp)).mono ?_
  rintro e w2 ⟨rfl, hb⟩
  replace R1 := hide (R1.out.below hb)
  replace R3 := hide (R3.out.below hb)
  replace H := hide (H.out.below hb)
  replace HB := hide (HB.out.trans (hb.mono HB.out.size))
  clear hb
  clear q0 q1 q2 q3 q4 q5 q6 ql
  obtain ⟨y0, y1, y2, y3, y4, y5, y6⟩ := row7 R3.out
  have yl := R3.out.lt
  have yf0 := R3.out.frozen 0
  have yf1 := R3.out.frozen 1
  have yf2 := R3.out.frozen 2
  have yf3 := R3.out.frozen 3
  have yf4 := R3.out.frozen 4
  have yf5 := R3.out.frozen 5
  have yf6 := R3.out.frozen 6
  go_wp2_with fail
  have hl1 := lp7 w2 (W.heap.size + 1) (.slice none 0 0) (.int .u64 0) (.slice none 0 0) (.int .u64 0) (.slice none 0 0) (.slice none 0 0) (.slice none 0 0)
  have hr3 := rp7 R3.out (.slice none 0 0) (.int .u64 0) (.slice none 0 0) (.int .u64 0) (.slice none 0 0) (.slice none 0 0) (.slice none 0 0)
  have hbF : Below W.heap.size W (((((((w2.setCell ⟨(W.heap.size + 1), 0, none⟩ (.slice none 0 0)).setCell ⟨(W.heap.size + 1), 1, none⟩ (.int .u64 0)).setCell ⟨(W.heap.size + 1), 2, none⟩ (.slice none 0 0)).setCell ⟨(W.heap.size + 1), 3, none⟩ (.int .u64 0)).setCell ⟨(W.heap.size + 1), 4, none⟩ (.slice none 0 0)).setCell ⟨(W.heap.size + 1), 5, none⟩ (.slice none 0 0)).setCell ⟨(W.heap.size + 1), 6, none⟩ (.slice none 0 0)) := HB.out.trans (hl1.below.mono (by omega))
  clear y0 y1 y2 y3 y4 y5 y6 yl
  clear yf0 yf1 yf2 yf3 yf4 yf5 yf6 hl1
  generalize World.setCell _ _ _ = wF at *
  obtain ⟨y0, y1, y2, y3, y4, y5, y6⟩ := row7 hr3
  have yl := hr3.lt
  refine bodyPost_ret (v := .tuple #[.agg #[.slice none 0 0, .int .u64 0, .slice none 0 0, .int .u64 0, .slice none 0 0, .slice none 0 0, .slice none 0 0], .slice none 0 0, .int .i64 0, .int .i64 250]) (by simp [results, Tryz.results17, go_sem, y0, y1, y2, y3, y4, y5, y6, yl]) rfl ⟨⟨.agg #[.slice none 0 0, .int .u64 0, .slice none 0 0, .int .u64 0, .slice none 0 0, .slice none 0 0, .slice none 0 0], none, 0, 0, by rw [HD.out]; rfl, by rw [HD.out]; exact zero_rec _ _, by rw [HD.out]; exact World.ownsRow_nil _ _ _ _, by rw [HD.out]; rfl⟩, hbF⟩
 case inl =>
  have HW := hide (show WfR r from ⟨ok_iff.1 ho, fun s hs => (HF.out.s s hs).1, HG.out⟩)
  with_reducible refine (Check_any F A0 As n0 c0 ns cs A n c r _ H.out HF.out 0 (by rw [ho]; simp)).mono ?_
  rintro e w2 ⟨rfl, hb⟩
  replace R1 := hide (R1.out.below hb)
  replace R3 := hide (R3.out.below hb)
  replace H := hide (H.out.below hb)
  replace HB := hide (HB.out.trans (hb.mono HB.out.size))
  clear hb
  clear q0 q1 q2 q3 q4 q5 q6 ql
  obtain ⟨q0, q1, q2, q3, q4, q5, q6⟩ := row7 R1.out
  have ql := R1.out.lt
  go_wp2_with fail
  with_reducible refine (own_any F A0 As n0 c0 ns cs A n c r w2 H.out HF.out).mono ?_
  rintro e w3 ⟨⟨gh, rfl, hx⟩, hb⟩
  have HX := hide (show HandX w3 w2.heap.size gh o00 r [] from by obtain ⟨B0, Bs, m0, d0, ms, ds, B, m, d, hh⟩ := hx; exact ⟨_, _, _, _, _, _, _, _, _, _, _, _, hh⟩)
  have HL2 := hide (show W.heap.size + 2 ≤ w2.heap.size from by have h1 := R3.out.lt; omega)
  replace R1 := hide (R1.out.below hb)
  replace R3 := hide (R3.out.below hb)
  replace H := hide (H.out.below hb)
  replace HB := hide (HB.out.trans (hb.mono HB.out.size))
  clear hb
  clear q0 q1 q2 q3 q4 q5 q6 ql
  clear hx
  obtain ⟨res, hres⟩ : ∃ res, runL r [] 0 l = res := ⟨_, rfl⟩
  have HD := hide (show runR r l = runOut res from by unfold runR; rw [if_pos ho, hres])
  have HJ := hide (show RunS gh w2.heap.size res l w3 0 r [] 0 w3 from ⟨⟨_, HX.out⟩, HW.out, hres, Nat.le_refl _, Nat.le_refl _, Below.refl _ _⟩)
  clear HX hres
  go_upto_region 6 with (fail)
  go_loopw [10, 23] (fun q i wr => ∃ k n r1 t1, k ≤ ml ∧ q = .int .i64 ((n : Nat) : Int) ∧ i = .int .i64 ((k : Nat) : Int) ∧ RunS gh w2.heap.size res l w3 k r1 t1 n wr) (fun _ i _ => ml - (intOf i).toNat)
  case atStart => exact ⟨0, 0, r, [], Nat.zero_le _, rfl, rfl, HJ.out⟩
  case round =>
   obtain ⟨k, n1, r1, t1, hk, rfl, rfl, hst⟩ := hrel
   have HST := hide hst
   clear hst
   by_cases hlt : k < ml
   ·
    have hki : (k : Int) < (ml : Int) := by omega
    have hkl : k < l.length := by rw [HM.out]; exact hlt
    have HBL := hide (show Below W.heap.size W wr from HB.out.trans (HST.out.below.mono (by have := HL2.out; omega)))
    obtain ⟨b, q, hAl, hbl, d0, d1, d2, d3, d4⟩ := Rd.op (HL.out.below HBL.out) HM.out hkl
    have hbl2 : b < wr.heap.size := Nat.lt_of_lt_of_le hbl HBL.out.size
    have HXX := hide (show l.drop k = l[k] :: l.drop (k + 1) from List.drop_eq_getElem_cons hkl)
    have HUX := hide (HU.out _ (List.getElem_mem hkl))
    generalize l[k] = x at *
    have HK := hide hlt
    clear hkl hk
    have hba : Below wr.heap.size wr (wr.alloc (.cells #[.int .i64 x.k, .int .i64 x.g, .int .u64 x.b, .int .i64 x.x.1, .int .u64 x.x.2] 43)) := (Below.refl _ _).alloc (Nat.le_refl _) _
    have ra := RowAt.new wr 43 #[.int .i64 x.k, .int .i64 x.g, .int .u64 x.b, .int .i64 x.x.1, .int .u64 x.x.2]
    obtain ⟨o1, A0', As', n0', c0', ns', cs', A', n', c', At', nt', ct', hh⟩ := HST.out.hand
    have HHA := hide (show HandX (wr.alloc (.cells #[.int .i64 x.k, .int .i64 x.g, .int .u64 x.b, .int .i64 x.x.1, .int .u64 x.x.2] 43)) w2.heap.size gh o1 r1 t1 from ⟨_, _, _, _, _, _, _, _, _, _, _, _, hh.below hba⟩)
    have HBA := hide (HST.out.below.trans (hba.mono HST.out.le))
    clear hh
    subst hAl
    go_upto_region 8 with (fail)
    have HRA := hide ra
    clear ra hba d0 d1 d2 d3 d4 hbl hbl2
    generalize (wr.alloc (.cells #[.int .i64 x.k, .int .i64 x.g, .int .u64 x.b, .int .i64 x.x.1, .int .u64 x.x.2] 43)) = wa at *
    obtain ⟨y0, y1, y2, y3, y4⟩ := row5 HRA.out
    have yl := HRA.out.lt
    go_wp2_with fail
    with_reducible refine (doesX HHA.out HST.out.wf x HUX.out.1 HUX.out.2 (by have := HST.out.len; have := HK.out; have := HML.out; omega)).mono ?_
    rintro e w5 ⟨rfl, hh, hb⟩
    have HH5 := hide hh
    have HB5 := hide (HBA.out.trans hb)
    clear hh hb y0 y1 y2 y3 y4 yl
    have HC := hide HST.out.cont
    rw [HXX.out] at HC
    cases hs : stepR r1 t1 x with
    | ok z =>
     obtain ⟨r2, t2⟩ := z
     rw [hs] at HH5
     have HT2 := hide (show t2.length ≤ t1.length + 1 from by rcases step_told HST.out.wf HUX.out.1 hs with h | ⟨y, h⟩ <;> rw [h] <;> simp)
     have HC2 := hide (show runL r2 t2 n1 (l.drop (k + 1)) = res from by rw [← HC.out]; show _ = (match stepR r1 t1 x with | .ok (r', t') => runL r' t' n1 (l.drop (k + 1)) | .error k2 => if k2 = 251 then none else runL r1 t1 (n1 + 1) (l.drop (k + 1))); rw [hs])
     have HN := hide (show RunS gh w2.heap.size res l w3 (k + 1) r2 t2 n1 w5 from ⟨HH5.out, wf_step HST.out.wf HUX.out.1 hs, HC2.out, by have := HT2.out; have := HST.out.len; omega, by have := HST.out.num; omega, HB5.out⟩)
     have hok : okK (Except.ok (r2, t2)) = 0 := rfl
     try rw [hok]
     clear hs
     go_wp2_with fail
     go_roundw
     case rel => exact ⟨k + 1, n1, r2, t2, HK.out, rfl, by have h1 := HK.out; have h3 := HML.out; go_num, HN.out⟩
     case measure => have := HK.out; have h3 := HML.out; simp [intOf]; omega
    | error e =>
     rw [hs] at HH5
     have HE := hide (step_ne hs)
     have he0 : (e == 0) = false := by simpa using HE.out
     have hok : okK (Except.error e) = e := rfl
     try rw [hok]
     by_cases h251 : e = 251
     ·
      subst h251
      have HD2 := hide (show res = none from by rw [← HC.out]; show (match stepR r1 t1 x with | .ok (r', t') => runL r' t' n1 (l.drop (k + 1)) | .error k2 => if k2 = 251 then none else runL r1 t1 (n1 + 1) (l.drop (k + 1))) = none; rw [hs]; rfl)
      rw [HD2.out] at HD
      clear hs
      have HDx := HD.out
      replace HD := hide (show runR r l = (rec0, [], 0, 251) from HDx)
      replace R1 := hide (R1.out.heap (HB5.out.block _ (by have := HL2.out; omega)))
      replace R3 := hide (R3.out.heap (HB5.out.block _ (by have := HL2.out; omega)))
      replace HB := hide (HB.out.trans (HB5.out.mono (by have := HL2.out; omega)))
      obtain ⟨y0, y1, y2, y3, y4, y5, y6⟩ := row7 R3.out
      have yl := R3.out.lt
      have yf0 := R3.out.frozen 0
      have yf1 := R3.out.frozen 1
      have yf2 := R3.out.frozen 2
      have yf3 := R3.out.frozen 3
      have yf4 := R3.out.frozen 4
      have yf5 := R3.out.frozen 5
      have yf6 := R3.out.frozen 6
      go_wp2_with fail
      have hl1 := lp7 w5 (W.heap.size + 1) (.slice none 0 0) (.int .u64 0) (.slice none 0 0) (.int .u64 0) (.slice none 0 0) (.slice none 0 0) (.slice none 0 0)
      have hr3 := rp7 R3.out (.slice none 0 0) (.int .u64 0) (.slice none 0 0) (.int .u64 0) (.slice none 0 0) (.slice none 0 0) (.slice none 0 0)
      have hbF : Below W.heap.size W (((((((w5.setCell ⟨(W.heap.size + 1), 0, none⟩ (.slice none 0 0)).setCell ⟨(W.heap.size + 1), 1, none⟩ (.int .u64 0)).setCell ⟨(W.heap.size + 1), 2, none⟩ (.slice none 0 0)).setCell ⟨(W.heap.size + 1), 3, none⟩ (.int .u64 0)).setCell ⟨(W.heap.size + 1), 4, none⟩ (.slice none 0 0)).setCell ⟨(W.heap.size + 1), 5, none⟩ (.slice none 0 0)).setCell ⟨(W.heap.size + 1), 6, none⟩ (.slice none 0 0)) := HB.out.trans (hl1.below.mono (by omega))
      clear y0 y1 y2 y3 y4 y5 y6 yl
      clear yf0 yf1 yf2 yf3 yf4 yf5 yf6 hl1
      generalize World.setCell _ _ _ = wF at *
      obtain ⟨y0, y1, y2, y3, y4, y5, y6⟩ := row7 hr3
      have yl := hr3.lt
      refine bodyPost_ret (v := .tuple #[.agg #[.slice none 0 0, .int .u64 0, .slice none 0 0, .int .u64 0, .slice none 0 0, .slice none 0 0, .slice none 0 0], .slice none 0 0, .int .i64 0, .int .i64 251]) (by simp [results, Tryz.results17, go_sem, y0, y1, y2, y3, y4, y5, y6, yl]) rfl ⟨⟨.agg #[.slice none 0 0, .int .u64 0, .slice none 0 0, .int .u64 0, .slice none 0 0, .slice none 0 0, .slice none 0 0], none, 0, 0, by rw [HD.out]; rfl, by rw [HD.out]; exact zero_rec _ _, by rw [HD.out]; exact World.ownsRow_nil _ _ _ _, by rw [HD.out]; rfl⟩, hbF⟩
     ·
      have he1 : (e == 251) = false := by simpa using h251
      have HC2 := hide (show runL r1 t1 (n1 + 1) (l.drop (k + 1)) = res from by rw [← HC.out]; show _ = (match stepR r1 t1 x with | .ok (r', t') => runL r' t' n1 (l.drop (k + 1)) | .error k2 => if k2 = 251 then none else runL r1 t1 (n1 + 1) (l.drop (k + 1))); rw [hs]; show _ = (if e = 251 then none else _); rw [if_neg h251])
      have HN := hide (show RunS gh w2.heap.size res l w3 (k + 1) r1 t1 (n1 + 1) w5 from ⟨HH5.out, HST.out.wf, HC2.out, by have := HST.out.len; omega, by have := HST.out.num; omega, HB5.out⟩)
      have HNM := hide HST.out.num
      have hn1 : (n1 : Int) ≤ 4096 := by have := HNM.out; have := HK.out; have := HML.out; omega
      clear hs
      go_wp2_with fail
      go_roundw
      case rel => exact ⟨k + 1, n1 + 1, r1, t1, HK.out, by have h1 := HK.out; have h2 := HNM.out; have h3 := HML.out; go_num, by have h1 := HK.out; have h3 := HML.out; go_num, HN.out⟩
      case measure => have := HK.out; have h3 := HML.out; simp [intOf]; omega
   ·
    have hkn : ml = k := by omega
    subst hkn
    have HC := hide HST.out.cont
    have hdr : l.drop ml = [] := by rw [← HM.out]; exact List.drop_length
    rw [hdr] at HC
    have HD2 := hide (show res = some (r1, t1, n1) from HC.out.symm)
    rw [HD2.out] at HD
    have HDx := HD.out
    replace HD := hide (show runR r l = (r1, t1, n1, 0) from HDx)
    clear HDx hdr HC
    have HB5 := hide HST.out.below
    obtain ⟨o9, hh9⟩ := HST.out.hand
    have HX5 := hide hh9
    clear hh9
    clear HD2
    generalize r1 = r2 at *
    generalize t1 = t2 at *
    go_upto_region 14 with (fail)
    have HHW := hide (⟨o9, HX5.out⟩ : ∃ o, HandX wr w2.heap.size gh o r2 t2)
    replace R1 := hide (R1.out.heap (HB5.out.block _ (by have := HL2.out; omega)))
    replace R3 := hide (R3.out.heap (HB5.out.block _ (by have := HL2.out; omega)))
    replace HB := hide (HB.out.trans (HB5.out.mono (by have := HL2.out; omega)))
    obtain ⟨o3, B0, Bs, m0, d0, ms, ds, B, m, d, At, nt, ct, hh⟩ := HHW.out
    replace HHW := hide (show HandR wr w2.heap.size gh B0 Bs m0 d0 ms ds B m d o3 At nt ct r2 t2 from hh)
    clear hh
    have HSX := hide (fun (wX : World) (hgX : StayF (fun j => j ≠ (W.heap.size + 1)) wr wX) => show wX.cell? ⟨gh, 0, none⟩ = some (.slice B0 m0 d0) ∧ wX.cell? ⟨gh, 1, none⟩ = some (.int .u64 r2.e) ∧ wX.cell? ⟨gh, 2, none⟩ = some (.slice Bs ms ds) ∧ wX.cell? ⟨gh, 3, none⟩ = some (.int .u64 (r2.l.E : Int)) ∧ wX.cell? ⟨gh, 4, none⟩ = some (.slice (B 0) (m 0) (d 0)) ∧ wX.cell? ⟨gh, 5, none⟩ = some (.slice (B 1) (m 1) (d 1)) ∧ wX.cell? ⟨gh, 6, none⟩ = some (.slice (B 2) (m 2) (d 2)) ∧ wX.cell? ⟨gh, 12, none⟩ = some (.slice At nt ct) ∧ gh < wX.heap.size from by
     obtain ⟨z0, z1, z2, z3, z4, z5, z6, z7, z8, z9, z10, z11, z12⟩ := row13 HHW.out.row
     have hkg : ∀ j, gh ≤ j → j < wr.heap.size → wX.heap[j]? = wr.heap[j]? := fun j h1 h2 => hgX.2 j (by have := HHW.out.lo; have := HL2.out; show j ≠ _; omega) h2
     have hk : ∀ j v, wr.cell? ⟨gh, j, none⟩ = some v → wX.cell? ⟨gh, j, none⟩ = some v := fun j v h => (cell_of_heap (hkg gh (Nat.le_refl _) HHW.out.row.lt)).trans h
     exact ⟨hk _ _ z0, hk _ _ z1, hk _ _ z2, hk _ _ z3, hk _ _ z4, hk _ _ z5, hk _ _ z6, hk _ _ z12, Nat.lt_of_lt_of_le HHW.out.row.lt hgX.1⟩)
    have HBD := hide (Below.refl wr.heap.size wr).drew
    have HSD := hide (show StayF (fun j => j ≠ (W.heap.size + 1)) wr wr.drew from StayF.of_below HBD.out)
    have D3 := hide (R3.out.below HBD.out)
    have HHD := hide (HHW.out.below HBD.out)
    replace HB := hide (HB.out.trans (HBD.out.mono HB.out.size))
    refine wp_region_held_drew (S := fun wX => wX.cell? ⟨gh, 0, none⟩ = some (.slice B0 m0 d0) ∧ wX.cell? ⟨gh, 1, none⟩ = some (.int .u64 r2.e) ∧ wX.cell? ⟨gh, 2, none⟩ = some (.slice Bs ms ds) ∧ wX.cell? ⟨gh, 3, none⟩ = some (.int .u64 (r2.l.E : Int)) ∧ wX.cell? ⟨gh, 4, none⟩ = some (.slice (B 0) (m 0) (d 0)) ∧ wX.cell? ⟨gh, 5, none⟩ = some (.slice (B 1) (m 1) (d 1)) ∧ wX.cell? ⟨gh, 6, none⟩ = some (.slice (B 2) (m 2) (d 2)) ∧ wX.cell? ⟨gh, 12, none⟩ = some (.slice At nt ct) ∧ gh < wX.heap.size) (by kernel_rfl) (HSX.out _ HSD.out) (fun hHeld => ?_)
    clear hHeld
    have hS0 := HSX.out _ HSD.out
    generalize wr.drew = wd at *
    (refine tkH (i := 0) (v := ?_) rfl (Or.inl ⟨by rfl, ?_⟩) ?_; rotate_left; (focus (intro w hSw; (try dsimp only at hSw); obtain ⟨a, b, c, d, e, f, g, h, i⟩ := hSw; go_simp; first | done | with_reducible rfl)); (try simp only [Act.put, Na, Nb, Nc, Nd, Nx, Nf]))
    (refine tkH (i := 1) (v := ?_) rfl (Or.inl ⟨by rfl, ?_⟩) ?_; rotate_left; (focus (intro w hSw; (try dsimp only at hSw); obtain ⟨a, b, c, d, e, f, g, h, i⟩ := hSw; go_simp; first | done | with_reducible rfl)); (try simp only [Act.put, Na, Nb, Nc, Nd, Nx, Nf]))
    (refine tkH (i := 2) (v := ?_) rfl (Or.inl ⟨by rfl, ?_⟩) ?_; rotate_left; (focus (intro w hSw; (try dsimp only at hSw); obtain ⟨a, b, c, d, e, f, g, h, i⟩ := hSw; go_simp; first | done | with_reducible rfl)); (try simp only [Act.put, Na, Nb, Nc, Nd, Nx, Nf]))
    (refine tkH (i := 3) (v := ?_) rfl (Or.inl ⟨by rfl, ?_⟩) ?_; rotate_left; (focus (intro w hSw; (try dsimp only at hSw); obtain ⟨a, b, c, d, e, f, g, h, i⟩ := hSw; go_simp; first | done | with_reducible rfl)); (try simp only [Act.put, Na, Nb, Nc, Nd, Nx, Nf]))
    (refine tkH (i := 4) (v := ?_) rfl (Or.inl ⟨by rfl, ?_⟩) ?_; rotate_left; (focus (intro w hSw; (try dsimp only at hSw); obtain ⟨a, b, c, d, e, f, g, h, i⟩ := hSw; go_simp; first | done | with_reducible rfl)); (try simp only [Act.put, Na, Nb, Nc, Nd, Nx, Nf]))
    (refine tkH (i := 5) (v := ?_) rfl (Or.inl ⟨by rfl, ?_⟩) ?_; rotate_left; (focus (intro w hSw; (try dsimp only at hSw); obtain ⟨a, b, c, d, e, f, g, h, i⟩ := hSw; go_simp; first | done | with_reducible rfl)); (try simp only [Act.put, Na, Nb, Nc, Nd, Nx, Nf]))
    (refine tkH (i := 6) (v := ?_) rfl (Or.inl ⟨by rfl, ?_⟩) ?_; rotate_left; (focus (intro w hSw; (try dsimp only at hSw); obtain ⟨a, b, c, d, e, f, g, h, i⟩ := hSw; go_simp; first | done | with_reducible rfl)); (try simp only [Act.put, Na, Nb, Nc, Nd, Nx, Nf]))
    (refine tkH (i := 7) (v := ?_) rfl (Or.inl ⟨by rfl, ?_⟩) ?_; rotate_left; (focus (intro w hSw; (try dsimp only at hSw); obtain ⟨a, b, c, d, e, f, g, h, i⟩ := hSw; go_simp; first | done | with_reducible rfl)); (try simp only [Act.put, Na, Nb, Nc, Nd, Nx, Nf]))
    (refine tkH (i := 8) (v := ?_) rfl (Or.inl ⟨by rfl, ?_⟩) ?_; rotate_left; (focus (intro w hSw; (try dsimp only at hSw); obtain ⟨a, b, c, d, e, f, g, h, i⟩ := hSw; go_simp; first | done | with_reducible rfl)); (try simp only [Act.put, Na, Nb, Nc, Nd, Nx, Nf]))
    refine wpAnyH_ready (rs := [9]) (by kernel_rfl) (by simp) ?_
    refine (AllReadyH.cons rfl (fun K0 hK0 => ?_) AllReadyH.nil)
    obtain ⟨y0, y1, y2, y3, y4, y5, y6⟩ := row7 D3.out
    have yl := D3.out.lt
    have yf0 := D3.out.frozen 0
    have yf1 := D3.out.frozen 1
    have yf2 := D3.out.frozen 2
    have yf3 := D3.out.frozen 3
    have yf4 := D3.out.frozen 4
    have yf5 := D3.out.frozen 5
    have yf6 := D3.out.frozen 6
    go_simp
    have hl1 := lp7 wd (W.heap.size + 1) (.slice B0 m0 d0) (.int .u64 r2.e) (.slice Bs ms ds) (.int .u64 (r2.l.E : Int)) (.slice (B 0) (m 0) (d 0)) (.slice (B 1) (m 1) (d 1)) (.slice (B 2) (m 2) (d 2))
    have hr3 := rp7 D3.out (.slice B0 m0 d0) (.int .u64 r2.e) (.slice Bs ms ds) (.int .u64 (r2.l.E : Int)) (.slice (B 0) (m 0) (d 0)) (.slice (B 1) (m 1) (d 1)) (.slice (B 2) (m 2) (d 2))
    have HS1 := hide (HSD.out.trans (hl1.stay (fun h => h rfl)))
    have HL1 := hide hl1
    have HR3 := hide hr3
    clear hl1 hr3 hS0 yl y0 yf0 y1 yf1 y2 yf2 y3 yf3 y4 yf4 y5 yf5 y6 yf6
    generalize World.setCell _ _ _ = w8 at *
    have hS0 := HSX.out _ HS1.out
    refine hK0.out _ _ (hS0) (fun _ => ?_)
    clear hK0 K0
    (try simp only [Act.put, Na, Nb, Nc, Nd, Nx, Nf])
    refine wpAnyH_ready (rs := [10]) (by kernel_rfl) (by simp) ?_
    refine (AllReadyH.cons rfl (fun K1 hK1 => ?_) AllReadyH.nil)
    go_simp
    refine hK1.out _ _ (hS0) (fun _ => ?_)
    clear hK1 K1
    (try simp only [Act.put, Na, Nb, Nc, Nd, Nx, Nf])
    refine wpAnyH_ready (rs := [11]) (by kernel_rfl) (by simp) ?_
    refine (AllReadyH.cons rfl (fun K2 hK2 => ?_) AllReadyH.nil)
    go_simp
    refine hK2.out _ _ (hS0) (fun _ => ?_)
    clear hK2 K2
    (try simp only [Act.put, Na, Nb, Nc, Nd, Nx, Nf])
    refine wpAnyH_ready (rs := [12]) (by kernel_rfl) (by simp) ?_
    refine (AllReadyH.cons rfl (fun K3 hK3 => ?_) AllReadyH.nil)
    go_simp
    refine hK3.out _ _ (hS0) (fun _ => ?_)
    clear hK3 K3
    (try simp only [Act.put, Na, Nb, Nc, Nd, Nx, Nf])
    refine wpAnyH_done (by kernel_rfl) ?_ _
    obtain ⟨y0, y1, y2, y3, y4, y5, y6⟩ := row7 HR3.out
    have yl := HR3.out.lt
    go_wp2_with fail
    refine bodyPost_ret (v := .tuple #[.agg #[.slice B0 m0 d0, .int .u64 r2.e, .slice Bs ms ds, .int .u64 (r2.l.E : Int), .slice (B 0) (m 0) (d 0), .slice (B 1) (m 1) (d 1), .slice (B 2) (m 2) (d 2)], .slice At nt ct, .int .i64 ((n1 : Nat) : Int), .int .i64 0]) (by simp [results, Tryz.results17, go_sem, y0, y1, y2, y3, y4, y5, y6, yl]) rfl ?_
    have hk : ∀ j, w2.heap.size ≤ j → w8.heap[j]? = wd.heap[j]? := fun j hj => HL1.out.block j (by have := HL2.out; omega)
    refine ⟨⟨.agg #[.slice B0 m0 d0, .int .u64 r2.e, .slice Bs ms ds, .int .u64 (r2.l.E : Int), .slice (B 0) (m 0) (d 0), .slice (B 1) (m 1) (d 1), .slice (B 2) (m 2) (d 2)], At, nt, ct, by rw [HD.out], ?_, by rw [HD.out]; exact own_back HHD.out.own (fun j hj _ => hk j hj) (by have := HL2.out; omega), by rw [HD.out]; exact HHD.out.len⟩, HB.out.trans (HL1.out.below.mono (by omega))⟩
    rw [HD.out]
    exact ⟨_, _, _, _, _, _, _, _, _, rfl, ((HHD.out.all.up (G := fun j => w2.heap.size ≤ j) (fun j hj _ => hj.1)).stay ⟨HL1.out.size, fun j hj _ => hk j hj⟩).up (fun j hj _ => by have := HL2.out; have hj : w2.heap.size ≤ j := hj; show W.heap.size ≤ j; omega)⟩
end Go.Proofs.YtkicidopjihjmaaGreat
set_option linter.unusedSimpArgs false
set_option linter.unusedVariables false
namespace Go.Proofs.YtkicidopjihjmaaGreat
open Go Go.RowKit
attribute [local go_sem] via_cell via_frozen
theorem recC_updm (e : Int) (E : Nat) (A0 As : Option Addr) (n0 c0 ns cs : Nat) (A : Nat → Option Addr) (n c : Nat → Nat) {k : Nat} (hk : k < 3) (A1 : Option Addr) (n1 c1 : Nat) :
  (recC e E A0 As n0 c0 ns cs A n c).setIfInBounds (4 + k) (.slice A1 n1 c1) = recC e E A0 As n0 c0 ns cs (fun j => if j = k then A1 else A j) (fun j => if j = k then n1 else n j) (fun j => if j = k then c1 else c j) := by
 match k, hk with
 | 0, _ => rfl
 | 1, _ => rfl
 | 2, _ => rfl
def cutR (r : Rec) : Rec := ⟨r.sl.take 130, r.e, r.S.take 10, ⟨r.l.E, fun k => (r.l.r k).take 130⟩⟩
theorem take_min {α : Type} (xs : List α) {n k m : Nat} (hx : xs.length = n) (hm : min n k = m) : xs.take k = xs.take m ∧ (xs.take k).length = m := by
 subst hm hx
 refine ⟨?_, by rw [List.length_take, Nat.min_comm]⟩
 rw [Nat.min_comm]; exact List.take_eq_take_min
theorem Rd.firstW {w : World} {B n k : Nat} {A : Option Addr} {X : List Int} (h : Rd w B 1 A n (Cs encW X)) (hx : X.length = n) (hk : k ≤ n) : Rd w B 1 A k (Cs encW (X.take k)) := by
 refine ⟨by rw [Cs_length encW_len, List.length_take, hx, Nat.min_eq_left hk], fun hp => ?_⟩
 obtain ⟨b, off, e, hb, hc⟩ := h.2 (by omega)
 refine ⟨b, off, e, hb, fun j u hu => hc j u ?_⟩
 have h1 : Cs encW X = Cs encW (X.take k) ++ Cs encW (X.drop k) := by rw [← Cs_append, List.take_append_drop]
 rw [h1, List.getElem?_append_left (List.getElem?_eq_some_iff.1 hu).1]
 exact hu
structure OwnL (W w : World) (gx k : Nat) (E : Nat) (A0 As : Option Addr) (n0 c0 ns cs : Nat) (A : Nat → Option Addr) (n c : Nat → Nat) (r : Rec) : Prop where
 row : RowAt w gx 34 (recC r.e E A0 As n0 c0 ns cs A n c)
 lo : W.heap.size + 1 < gx
 sl : RdF (fun j => W.heap.size + 2 ≤ j ∧ j ≠ gx) w 2 A0 n0 (Cs encE (cutR r).sl)
 l0 : (cutR r).sl.length = n0
 h0 : n0 ≤ c0
 S : RdF (fun j => W.heap.size + 2 ≤ j ∧ j ≠ gx) w 1 As ns (Cs encW (cutR r).S)
 ls : (cutR r).S.length = ns
 hs : ns ≤ cs ∧ cs ≤ MaxLen
 rw : ∀ j, j < k → j < 3 → RdF (fun i => W.heap.size + 2 ≤ i ∧ i ≠ gx) w 2 (A j) (n j) (Cs encE ((cutR r).l.r j)) ∧ ((cutR r).l.r j).length = n j ∧ n j ≤ c j ∧ c j ≤ MaxLen
 below : Below W.heap.size W w
theorem OwnL.next {W w w1 : World} {gx k E : Nat} {A0' As' : Option Addr} {n0 c0' ns cs' : Nat} {A : Nat → Option Addr} {n c : Nat → Nat} {r : Rec} (h : OwnL W w gx k E A0' As' n0 c0' ns cs' A n c r) (hk : k < 3) (hb : Below w.heap.size w w1) (A1 : Option Addr) (m c1 : Nat) (hown : w1.ownsRow w.heap.size 41 2 (.slice A1 m c1) m (Cs encE ((cutR r).l.r k))) (hl : ((cutR r).l.r k).length = m) (hc : m ≤ c1 ∧ c1 ≤ MaxLen) :
  OwnL W (w1.setCell ⟨gx, 4 + k, none⟩ (.slice A1 m c1)) gx (k + 1) E A0' As' n0 c0' ns cs' (fun j => if j = k then A1 else A j) (fun j => if j = k then m else n j) (fun j => if j = k then c1 else c j) r := by
 have hst : StayF (fun j => W.heap.size + 2 ≤ j ∧ j ≠ gx) w (w1.setCell ⟨gx, 4 + k, none⟩ (.slice A1 m c1)) := (StayF.of_below hb).trans (StayF.set (fun h => h.2 rfl))
 refine ⟨?_, h.lo, h.sl.stay hst, h.l0, h.h0, h.S.stay hst, h.ls, h.hs, fun j hj h3 => ?_, (h.below.trans (hb.mono h.below.size)).setCell (p := ⟨gx, 4 + k, none⟩) (by have := h.lo; simp; omega) _⟩
 ·
  have h1 := (h.row.below hb).set (4 + k) (.slice A1 m c1)
  rw [recC_updm _ _ _ _ _ _ _ _ _ _ _ hk] at h1
  exact h1
 ·
  by_cases e : j = k
  ·
   subst e
   simp only [if_true]
   exact ⟨((RdF.typ hown (h.row.below hb) (by decide)).up (fun j hj _ => ⟨by have h1 := h.lo; have h2 := h.row.lt; have h3 := hj.1; omega, hj.2⟩)).stay (StayF.set (fun h => h.2 rfl)), hl, hc⟩
  ·
   simp only [if_neg e]
   have h1 := h.rw j (by omega) h3
   exact ⟨h1.1.stay hst, h1.2⟩
theorem OwnL.epoch {W w : World} {gx k E E2 : Nat} {A0 As : Option Addr} {n0 c0 ns cs : Nat} {A : Nat → Option Addr} {n c : Nat → Nat} {r : Rec} (h : OwnL W w gx k E A0 As n0 c0 ns cs A n c r) : OwnL W (w.setCell ⟨gx, 3, none⟩ (.int .u64 (E2 : Int))) gx k E2 A0 As n0 c0 ns cs A n c r := by
 have hst : StayF (fun j => W.heap.size + 2 ≤ j ∧ j ≠ gx) w (w.setCell ⟨gx, 3, none⟩ (.int .u64 (E2 : Int))) := StayF.set (fun h => h.2 rfl)
 refine ⟨by have h1 := h.row.set 3 (.int .u64 (E2 : Int)); simpa using h1, h.lo, h.sl.stay hst, h.l0, h.h0, h.S.stay hst, h.ls, h.hs, fun j hj h3 => ⟨(h.rw j hj h3).1.stay hst, (h.rw j hj h3).2⟩, h.below.setCell (p := ⟨gx, 3, none⟩) (by have := h.lo; simp; omega) _⟩
theorem RdF.laid1 {W w w' : World} {gx sz n : Nat} {A : Option Addr} {xs : List Value} (h : RdF (fun j => W.heap.size + 2 ≤ j ∧ j ≠ gx) w sz A n xs) (hl : LaidF (W.heap.size + 1) w w') : RdF (From W.heap.size) w' sz A n xs :=
 (h.stay (hl.stay (fun h => by have := h.1; omega))).up (fun j hj _ => by have h1 := hj.1; show W.heap.size ≤ j; omega)
def LownRes (r : Rec) (W : World) (e : Ending) (W' : World) : Prop := (∃ v, e = .returned v ∧ RecOut (From W.heap.size) W' v (cutR r)) ∧ Below W.heap.size W W'
set_option maxRecDepth 20000 in
set_option maxHeartbeats 8000000 in
theorem lown_any (F : Nat → Prop) (A0 As : Option Addr) (n0 c0 ns cs : Nat) (A : Nat → Option Addr) (n c : Nat → Nat) (r : Rec) (W : World) (h : RecF F W A0 As n0 c0 ns cs A n c r) :
  Calls Tryz.prog 10 #[.agg (recC r.e r.l.E A0 As n0 c0 ns cs A n c)] W (LownRes r W) := by
 have hb1 : Below W.heap.size W ((W.alloc (.cells #[.slice A0 n0 c0, .int .u64 r.e, .slice As ns cs, .int .u64 (r.l.E : Int), .slice (A 0) (n 0) (c 0), .slice (A 1) (n 1) (c 1), .slice (A 2) (n 2) (c 2)] 34)).alloc (.cells #[.slice none 0 0, .int .u64 0, .slice none 0 0, .int .u64 0, .slice none 0 0, .slice none 0 0, .slice none 0 0] 34)) := ((Below.refl _ _).alloc (Nat.le_refl _) _).alloc (by simp) _
 have R1 := hide (show RowAt ((W.alloc (.cells #[.slice A0 n0 c0, .int .u64 r.e, .slice As ns cs, .int .u64 (r.l.E : Int), .slice (A 0) (n 0) (c 0), .slice (A 1) (n 1) (c 1), .slice (A 2) (n 2) (c 2)] 34)).alloc (.cells #[.slice none 0 0, .int .u64 0, .slice none 0 0, .int .u64 0, .slice none 0 0, .slice none 0 0, .slice none 0 0] 34)) W.heap.size 34 #[.slice A0 n0 c0, .int .u64 r.e, .slice As ns cs, .int .u64 (r.l.E : Int), .slice (A 0) (n 0) (c 0), .slice (A 1) (n 1) (c 1), .slice (A 2) (n 2) (c 2)] from row_alloc (RowAt.new W 34 #[.slice A0 n0 c0, .int .u64 r.e, .slice As ns cs, .int .u64 (r.l.E : Int), .slice (A 0) (n 0) (c 0), .slice (A 1) (n 1) (c 1), .slice (A 2) (n 2) (c 2)]) _)
 have R0 := hide (show RowAt ((W.alloc (.cells #[.slice A0 n0 c0, .int .u64 r.e, .slice As ns cs, .int .u64 (r.l.E : Int), .slice (A 0) (n 0) (c 0), .slice (A 1) (n 1) (c 1), .slice (A 2) (n 2) (c 2)] 34)).alloc (.cells #[.slice none 0 0, .int .u64 0, .slice none 0 0, .int .u64 0, .slice none 0 0, .slice none 0 0, .slice none 0 0] 34)) (W.heap.size + 1) 34 #[.slice none 0 0, .int .u64 0, .slice none 0 0, .int .u64 0, .slice none 0 0, .slice none 0 0, .slice none 0 0] from by have h := RowAt.new (W.alloc (.cells #[.slice A0 n0 c0, .int .u64 r.e, .slice As ns cs, .int .u64 (r.l.E : Int), .slice (A 0) (n 0) (c 0), .slice (A 1) (n 1) (c 1), .slice (A 2) (n 2) (c 2)] 34)) 34 #[.slice none 0 0, .int .u64 0, .slice none 0 0, .int .u64 0, .slice none 0 0, .slice none 0 0, .slice none 0 0]; rw [World.size_alloc] at h; exact h)
 have HB1 := hide hb1
 have H := hide (h.below hb1)
 have HS1 := hide (show ((W.alloc (.cells #[.slice A0 n0 c0, .int .u64 r.e, .slice As ns cs, .int .u64 (r.l.E : Int), .slice (A 0) (n 0) (c 0), .slice (A 1) (n 1) (c 1), .slice (A 2) (n 2) (c 2)] 34)).alloc (.cells #[.slice none 0 0, .int .u64 0, .slice none 0 0, .int .u64 0, .slice none 0 0, .slice none 0 0, .slice none 0 0] 34)).heap.size = W.heap.size + 2 from by simp)
 obtain ⟨m0, hm0⟩ : ∃ m, min n0 130 = m := ⟨_, rfl⟩
 obtain ⟨ms, hms⟩ : ∃ m, min ns 10 = m := ⟨_, rfl⟩
 obtain ⟨t0, l0⟩ := take_min r.sl h.l0 hm0
 obtain ⟨ts, ls⟩ := take_min r.S h.ls hms
 have T0 := hide t0
 have L0 := hide l0
 have TS := hide ts
 have LS := hide ls
 have hm1 : min (n0 : Int) 130 = (m0 : Int) := by omega
 have hm2 : min (ns : Int) 10 = (ms : Int) := by omega
 have hm3 : m0 ≤ n0 := by omega
 have hm4 : ms ≤ ns := by omega
 have hm5 : (m0 : Int) ≤ (c0 : Int) := by have := h.h0; omega
 have hm6 : (ms : Int) ≤ (cs : Int) := by have := h.hs.1; omega
 have hm7 : m0 ≤ 130 := by omega
 have hm8 : ms ≤ 10 := by omega
 clear hb1 h t0 l0 ts ls hm0 hms
 go_enter Tryz.func10, Tryz.ntmps10
 go_upto_region 1 with (fail)
 generalize ((W.alloc (.cells #[.slice A0 n0 c0, .int .u64 r.e, .slice As ns cs, .int .u64 (r.l.E : Int), .slice (A 0) (n 0) (c 0), .slice (A 1) (n 1) (c 1), .slice (A 2) (n 2) (c 2)] 34)).alloc (.cells #[.slice none 0 0, .int .u64 0, .slice none 0 0, .int .u64 0, .slice none 0 0, .slice none 0 0, .slice none 0 0] 34)) = w1 at *
 go_cut [3] from 6 to 31 (fun s3 wx => ∃ gx A0' As' c0' cs', s3 = .pointer (some ⟨gx, 0, none⟩) ∧ Below w1.heap.size w1 wx ∧ OwnL W wx gx 0 0 A0' As' m0 c0' ms cs' (fun _ => none) (fun _ => 0) (fun _ => 0) r)
 case first =>
  have HSX := hide (fun (wX : World) (hgX : Below w1.heap.size w1 wX) => show wX.cell? ⟨W.heap.size, 0, none⟩ = some (.slice A0 n0 c0) ∧ wX.cell? ⟨W.heap.size, 1, none⟩ = some (.int .u64 r.e) ∧ wX.cell? ⟨W.heap.size, 2, none⟩ = some (.slice As ns cs) ∧ wX.cell? ⟨W.heap.size, 3, none⟩ = some (.int .u64 (r.l.E : Int)) ∧ wX.cell? ⟨W.heap.size, 4, none⟩ = some (.slice (A 0) (n 0) (c 0)) ∧ wX.cell? ⟨W.heap.size, 5, none⟩ = some (.slice (A 1) (n 1) (c 1)) ∧ wX.cell? ⟨W.heap.size, 6, none⟩ = some (.slice (A 2) (n 2) (c 2)) ∧ W.heap.size < wX.heap.size from by
   obtain ⟨z0, z1, z2, z3, z4, z5, z6⟩ := row7 R1.out
   exact ⟨kept hgX z0, kept hgX z1, kept hgX z2, kept hgX z3, kept hgX z4, kept hgX z5, kept hgX z6, Nat.lt_of_lt_of_le R1.out.lt hgX.size⟩)
  have HX := hide ((Below.refl w1.heap.size w1).drew)
  refine wp_region_held_drew (S := fun wX => wX.cell? ⟨W.heap.size, 0, none⟩ = some (.slice A0 n0 c0) ∧ wX.cell? ⟨W.heap.size, 1, none⟩ = some (.int .u64 r.e) ∧ wX.cell? ⟨W.heap.size, 2, none⟩ = some (.slice As ns cs) ∧ wX.cell? ⟨W.heap.size, 3, none⟩ = some (.int .u64 (r.l.E : Int)) ∧ wX.cell? ⟨W.heap.size, 4, none⟩ = some (.slice (A 0) (n 0) (c 0)) ∧ wX.cell? ⟨W.heap.size, 5, none⟩ = some (.slice (A 1) (n 1) (c 1)) ∧ wX.cell? ⟨W.heap.size, 6, none⟩ = some (.slice (A 2) (n 2) (c 2)) ∧ W.heap.size < wX.heap.size) (by kernel_rfl) (HSX.out _ HX.out) (fun hHeld => ?_)
  clear hHeld
  have hS0 := HSX.out _ HX.out
  generalize w1.drew = wd at *
  (refine tkH (i := 0) (v := ?_) rfl (Or.inl ⟨by rfl, ?_⟩) ?_; rotate_left; (focus (intro w hSw; (try dsimp only at hSw); obtain ⟨a, b, c, d, e, f, g, h⟩ := hSw; go_simp; first | done | with_reducible rfl)); (try simp only [Act.put, Na, Nb, Nc, Nd, Nx, Nf]))
  (refine tkH (i := 1) (v := ?_) rfl (Or.inl ⟨by rfl, ?_⟩) ?_; rotate_left; (focus (intro w hSw; (try dsimp only at hSw); obtain ⟨a, b, c, d, e, f, g, h⟩ := hSw; go_simp; first | done | with_reducible rfl)); (try simp only [Act.put, Na, Nb, Nc, Nd, Nx, Nf]))
  (refine tkH (i := 2) (v := ?_) rfl (Or.inl ⟨by rfl, ?_⟩) ?_; rotate_left; (focus (intro w hSw; (try dsimp only at hSw); obtain ⟨a, b, c, d, e, f, g, h⟩ := hSw; go_simp; first | done | with_reducible rfl)); (try simp only [Act.put, Na, Nb, Nc, Nd, Nx, Nf]))
  (refine tkH (i := 3) (v := ?_) rfl (Or.inl ⟨by rfl, ?_⟩) ?_; rotate_left; (focus (intro w hSw; (try dsimp only at hSw); obtain ⟨a, b, c, d, e, f, g, h⟩ := hSw; go_simp; first | done | with_reducible rfl)); (try simp only [Act.put, Na, Nb, Nc, Nd, Nx, Nf]))
  (refine tkH (i := 4) (v := ?_) rfl (Or.inl ⟨by rfl, ?_⟩) ?_; rotate_left; (focus (intro w hSw; (try dsimp only at hSw); obtain ⟨a, b, c, d, e, f, g, h⟩ := hSw; go_simp; first | done | with_reducible rfl)); (try simp only [Act.put, Na, Nb, Nc, Nd, Nx, Nf]))
  (refine tkH (i := 5) (v := ?_) rfl (Or.inl ⟨by rfl, ?_⟩) ?_; rotate_left; (focus (intro w hSw; (try dsimp only at hSw); obtain ⟨a, b, c, d, e, f, g, h⟩ := hSw; go_simp; first | done | with_reducible rfl)); (try simp only [Act.put, Na, Nb, Nc, Nd, Nx, Nf]))
  (refine tkH (i := 6) (v := ?_) rfl (Or.inl ⟨by rfl, ?_⟩) ?_; rotate_left; (focus (intro w hSw; (try dsimp only at hSw); obtain ⟨a, b, c, d, e, f, g, h⟩ := hSw; go_simp; first | done | with_reducible rfl)); (try simp only [Act.put, Na, Nb, Nc, Nd, Nx, Nf]))
  (refine tkH (i := 7) (v := ?_) rfl (Or.inl ⟨by rfl, ?_⟩) ?_; rotate_left; (focus (intro w hSw; (try dsimp only at hSw); obtain ⟨a, b, c, d, e, f, g, h⟩ := hSw; go_simp; first | done | with_reducible rfl)); (try simp only [Act.put, Na, Nb, Nc, Nd, Nx, Nf]))
  (refine tkH (i := 8) (v := ?_) rfl (Or.inl ⟨by rfl, ?_⟩) ?_; rotate_left; (focus (intro w hSw; (try dsimp only at hSw); obtain ⟨a, b, c, d, e, f, g, h⟩ := hSw; go_simp; first | done | with_reducible rfl)); (try simp only [Act.put, Na, Nb, Nc, Nd, Nx, Nf]))
  (refine tkH (i := 11) (v := ?_) rfl (Or.inl ⟨by rfl, ?_⟩) ?_; rotate_left; (focus (intro w hSw; (try dsimp only at hSw); obtain ⟨a, b, c, d, e, f, g, h⟩ := hSw; go_simp; first | done | with_reducible rfl)); (try simp only [Act.put, Na, Nb, Nc, Nd, Nx, Nf]))
  (refine tkH (i := 12) (v := ?_) rfl (Or.inl ⟨by rfl, ?_⟩) ?_; rotate_left; (focus (intro w hSw; (try dsimp only at hSw); obtain ⟨a, b, c, d, e, f, g, h⟩ := hSw; go_simp; first | done | with_reducible rfl)); (try simp only [Act.put, Na, Nb, Nc, Nd, Nx, Nf]))
  (refine tkH (i := 13) (v := ?_) rfl (Or.inl ⟨by rfl, ?_⟩) ?_; rotate_left; (focus (intro w hSw; (try dsimp only at hSw); obtain ⟨a, b, c, d, e, f, g, h⟩ := hSw; go_simp; first | done | with_reducible rfl)); (try simp only [Act.put, Na, Nb, Nc, Nd, Nx, Nf]))
  (refine tkH (i := 14) (v := ?_) rfl (Or.inl ⟨by rfl, ?_⟩) ?_; rotate_left; (focus (intro w hSw; (try dsimp only at hSw); obtain ⟨a, b, c, d, e, f, g, h⟩ := hSw; go_simp; first | done | with_reducible rfl)); (try simp only [Act.put, Na, Nb, Nc, Nd, Nx, Nf]))
  (refine tkH (i := 15) (v := ?_) rfl (Or.inl ⟨by rfl, ?_⟩) ?_; rotate_left; (focus (intro w hSw; (try dsimp only at hSw); obtain ⟨a, b, c, d, e, f, g, h⟩ := hSw; go_simp; first | done | with_reducible rfl)); (try simp only [Act.put, Na, Nb, Nc, Nd, Nx, Nf]))
  (refine tkH (i := 16) (v := ?_) rfl (Or.inl ⟨by rfl, ?_⟩) ?_; rotate_left; (focus (intro w hSw; (try dsimp only at hSw); obtain ⟨a, b, c, d, e, f, g, h⟩ := hSw; go_simp; first | done | with_reducible rfl)); (try simp only [Act.put, Na, Nb, Nc, Nd, Nx, Nf]))
  (refine tkH (i := 17) (v := ?_) rfl (Or.inl ⟨by rfl, ?_⟩) ?_; rotate_left; (focus (intro w hSw; (try dsimp only at hSw); obtain ⟨a, b, c, d, e, f, g, h⟩ := hSw; go_simp; first | done | with_reducible rfl)); (try simp only [Act.put, Na, Nb, Nc, Nd, Nx, Nf]))
  (refine tkH (i := 18) (v := ?_) rfl (Or.inl ⟨by rfl, ?_⟩) ?_; rotate_left; (focus (intro w hSw; (try dsimp only at hSw); obtain ⟨a, b, c, d, e, f, g, h⟩ := hSw; go_simp; first | done | with_reducible rfl)); (try simp only [Act.put, Na, Nb, Nc, Nd, Nx, Nf]))
  (refine tkH (i := 19) (v := ?_) rfl (Or.inl ⟨by rfl, ?_⟩) ?_; rotate_left; (focus (intro w hSw; (try dsimp only at hSw); obtain ⟨a, b, c, d, e, f, g, h⟩ := hSw; go_simp; first | done | with_reducible rfl)); (try simp only [Act.put, Na, Nb, Nc, Nd, Nx, Nf]))
  (refine tkH (i := 20) (v := ?_) rfl (Or.inl ⟨by rfl, ?_⟩) ?_; rotate_left; (focus (intro w hSw; (try dsimp only at hSw); obtain ⟨a, b, c, d, e, f, g, h⟩ := hSw; go_simp; first | done | with_reducible rfl)); (try simp only [Act.put, Na, Nb, Nc, Nd, Nx, Nf]))
  (refine tkH (i := 21) (v := ?_) rfl (Or.inl ⟨by rfl, ?_⟩) ?_; rotate_left; (focus (intro w hSw; (try dsimp only at hSw); obtain ⟨a, b, c, d, e, f, g, h⟩ := hSw; go_simp; first | done | with_reducible rfl)); (try simp only [Act.put, Na, Nb, Nc, Nd, Nx, Nf]))
  (refine tkH (i := 22) (v := ?_) rfl (Or.inl ⟨by rfl, ?_⟩) ?_; rotate_left; (focus (intro w hSw; (try dsimp only at hSw); obtain ⟨a, b, c, d, e, f, g, h⟩ := hSw; go_simp; first | done | with_reducible rfl)); (try simp only [Act.put, Na, Nb, Nc, Nd, Nx, Nf]))
  refine wpAnyH_ready (rs := [9, 26]) (by kernel_rfl) (by simp) ?_
  refine (AllReadyH.cons rfl (fun K0 hK0 => ?_) (AllReadyH.cons rfl (fun K1 hK1 => ?_) AllReadyH.nil))
  ·
   go_simp
   with_reducible refine (CloneS wd.heap.size A0 m0 c0 (Cs encE (r.sl.take 130)) wd (by rw [T0.out]; exact ((H.out.sl.rd.first H.out.l0 hm3).below HX.out |>.more HX.out.size)) (Nat.le_refl _) (Cs_one_cell encE_one _) (by omega)).mono ?_
   rintro e wc0 ⟨v, rfl, hown, hb⟩
   obtain ⟨A0', c0', rfl, hca1, hca2⟩ := own_form2 hown
   have HC1 := hide hca1
   have O1 := hide (own_lo (b := W.heap.size + 2) hown (by have h1 := HS1.out; have h2 := HX.out.size; omega))
   have hX2 := HX.out.trans (hb.mono HX.out.size)
   replace HX := hide hX2
   clear hX2 hS0 hown hb hca1 hca2
   have hS0 := HSX.out _ HX.out
   refine hK0.out _ _ (hS0) (fun _ => ?_)
   clear hK0 K0
   (try simp only [Act.put, Na, Nb, Nc, Nd, Nx, Nf])
   (refine tkH (i := 10) (v := ?_) rfl (Or.inl ⟨by rfl, ?_⟩) ?_; rotate_left; (focus (intro w hSw; (try dsimp only at hSw); obtain ⟨a, b, c, d, e, f, g, h⟩ := hSw; go_simp; first | done | with_reducible rfl)); (try simp only [Act.put, Na, Nb, Nc, Nd, Nx, Nf]))
   refine wpAnyH_ready (rs := [23, 26]) (by kernel_rfl) (by simp) ?_
   refine (AllReadyH.cons rfl (fun K2 hK2 => ?_) (AllReadyH.cons rfl (fun K3 hK3 => ?_) AllReadyH.nil))
   ·
    go_simp
    with_reducible refine (Pn.CloneW wc0.heap.size As ms cs (Cs encW (r.S.take 10)) wc0 (by rw [TS.out]; exact ((H.out.S.rd.firstW H.out.ls hm4).below HX.out |>.more HX.out.size)) (Nat.le_refl _) (Cs_one_cell encW_one _) (by omega)).mono ?_
    rintro e wc1 ⟨v, rfl, hown, hb⟩
    obtain ⟨As', cs', rfl, hca1, hca2⟩ := own_form2 hown
    have HC2 := hide (And.intro hca1 hca2)
    replace O1 := hide (own_keepB O1.out hb)
    have O2 := hide (own_lo (b := W.heap.size + 2) hown (by have h1 := HS1.out; have h2 := HX.out.size; omega))
    have hX2 := HX.out.trans (hb.mono HX.out.size)
    replace HX := hide hX2
    clear hX2 hS0 hown hb hca1 hca2
    have hS0 := HSX.out _ HX.out
    refine hK2.out _ _ (hS0) (fun _ => ?_)
    clear hK2 K2
    (try simp only [Act.put, Na, Nb, Nc, Nd, Nx, Nf])
    (refine tkH (i := 24) (v := ?_) rfl (Or.inl ⟨by rfl, ?_⟩) ?_; rotate_left; (focus (intro w hSw; (try dsimp only at hSw); obtain ⟨a, b, c, d, e, f, g, h⟩ := hSw; go_simp; first | done | with_reducible rfl)); (try simp only [Act.put, Na, Nb, Nc, Nd, Nx, Nf]))
    (refine tkH (i := 25) (v := ?_) rfl (Or.inl ⟨by rfl, ?_⟩) ?_; rotate_left; (focus (intro w hSw; (try dsimp only at hSw); obtain ⟨a, b, c, d, e, f, g, h⟩ := hSw; go_simp; first | done | with_reducible rfl)); (try simp only [Act.put, Na, Nb, Nc, Nd, Nx, Nf]))
    refine wpAnyH_ready (rs := [26]) (by kernel_rfl) (by simp) ?_
    refine (AllReadyH.cons rfl (fun K4 hK4 => ?_) AllReadyH.nil)
    go_simp
    have RXX := hide (RowAt.new wc1 34 #[.slice none 0 0, .int .u64 0, .slice none 0 0, .int .u64 0, .slice none 0 0, .slice none 0 0, .slice none 0 0])
    have HG := hide ((Below.refl wc1.heap.size wc1).alloc (Nat.le_refl _) (.cells #[.slice none 0 0, .int .u64 0, .slice none 0 0, .int .u64 0, .slice none 0 0, .slice none 0 0, .slice none 0 0] 34))
    obtain ⟨gx, hgx⟩ : ∃ gx, wc1.heap.size = gx := ⟨_, rfl⟩
    have HGX := hide (show w1.heap.size ≤ gx from by rw [← hgx]; exact HX.out.size)
    rw [hgx] at RXX ⊢
    have hX2 := HX.out.trans (HG.out.mono HX.out.size)
    replace HX := hide hX2
    clear hX2 hS0
    replace O1 := hide (own_keepB O1.out HG.out)
    replace O2 := hide (own_keepB O2.out HG.out)
    generalize wc1.alloc (.cells #[.slice none 0 0, .int .u64 0, .slice none 0 0, .int .u64 0, .slice none 0 0, .slice none 0 0, .slice none 0 0] 34) = wa2 at *
    clear HG hgx
    have hS0 := HSX.out _ HX.out
    refine hK4.out _ _ (hS0) (fun _ => ?_)
    clear hK4 K4
    (try simp only [Act.put, Na, Nb, Nc, Nd, Nx, Nf])
    refine wpAnyH_ready (rs := [27]) (by kernel_rfl) (by simp) ?_
    refine (AllReadyH.cons rfl (fun K5 hK5 => ?_) AllReadyH.nil)
    have RX := RXX.out
    obtain ⟨y0, y1, y2, y3, y4, y5, y6⟩ := row7 RX
    have yl := RX.lt
    have yf0 := RX.frozen 0
    have yf1 := RX.frozen 1
    have yf2 := RX.frozen 2
    have yf3 := RX.frozen 3
    have yf4 := RX.frozen 4
    have yf5 := RX.frozen 5
    have yf6 := RX.frozen 6
    clear hS0
    go_simp
    have hst : StayF (fun j => W.heap.size + 2 ≤ j ∧ j ≠ gx) wa2 (((((((wa2.setCell ⟨gx, 0, none⟩ (.slice A0' m0 c0')).setCell ⟨gx, 1, none⟩ (.int .u64 r.e)).setCell ⟨gx, 2, none⟩ (.slice As' ms cs')).setCell ⟨gx, 3, none⟩ (.int .u64 0)).setCell ⟨gx, 4, none⟩ (.slice none 0 0)).setCell ⟨gx, 5, none⟩ (.slice none 0 0)).setCell ⟨gx, 6, none⟩ (.slice none 0 0)) := ((((((((StayF.refl _ _).trans (StayF.set (fun h => h.2 rfl))).trans (StayF.set (fun h => h.2 rfl))).trans (StayF.set (fun h => h.2 rfl))).trans (StayF.set (fun h => h.2 rfl))).trans (StayF.set (fun h => h.2 rfl))).trans (StayF.set (fun h => h.2 rfl))).trans (StayF.set (fun h => h.2 rfl)))
    have hb9 : Below w1.heap.size w1 (((((((wa2.setCell ⟨gx, 0, none⟩ (.slice A0' m0 c0')).setCell ⟨gx, 1, none⟩ (.int .u64 r.e)).setCell ⟨gx, 2, none⟩ (.slice As' ms cs')).setCell ⟨gx, 3, none⟩ (.int .u64 0)).setCell ⟨gx, 4, none⟩ (.slice none 0 0)).setCell ⟨gx, 5, none⟩ (.slice none 0 0)).setCell ⟨gx, 6, none⟩ (.slice none 0 0)) := (((((((HX.out.setCell (p := ⟨gx, 0, none⟩) (by have := HGX.out; simp; omega) _).setCell (p := ⟨gx, 1, none⟩) (by have := HGX.out; simp; omega) _).setCell (p := ⟨gx, 2, none⟩) (by have := HGX.out; simp; omega) _).setCell (p := ⟨gx, 3, none⟩) (by have := HGX.out; simp; omega) _).setCell (p := ⟨gx, 4, none⟩) (by have := HGX.out; simp; omega) _).setCell (p := ⟨gx, 5, none⟩) (by have := HGX.out; simp; omega) _).setCell (p := ⟨gx, 6, none⟩) (by have := HGX.out; simp; omega) _)
    have HO := hide (show OwnL W (((((((wa2.setCell ⟨gx, 0, none⟩ (.slice A0' m0 c0')).setCell ⟨gx, 1, none⟩ (.int .u64 r.e)).setCell ⟨gx, 2, none⟩ (.slice As' ms cs')).setCell ⟨gx, 3, none⟩ (.int .u64 0)).setCell ⟨gx, 4, none⟩ (.slice none 0 0)).setCell ⟨gx, 5, none⟩ (.slice none 0 0)).setCell ⟨gx, 6, none⟩ (.slice none 0 0)) gx 0 0 A0' As' m0 c0' ms cs' (fun _ => none) (fun _ => 0) (fun _ => 0) r from ⟨(show RowAt (((((((wa2.setCell ⟨gx, 0, none⟩ (.slice A0' m0 c0')).setCell ⟨gx, 1, none⟩ (.int .u64 r.e)).setCell ⟨gx, 2, none⟩ (.slice As' ms cs')).setCell ⟨gx, 3, none⟩ (.int .u64 0)).setCell ⟨gx, 4, none⟩ (.slice none 0 0)).setCell ⟨gx, 5, none⟩ (.slice none 0 0)).setCell ⟨gx, 6, none⟩ (.slice none 0 0)) gx 34 #[.slice A0' m0 c0', .int .u64 r.e, .slice As' ms cs', .int .u64 0, .slice none 0 0, .slice none 0 0, .slice none 0 0] from by have h := (((((((RX.set 0 (.slice A0' m0 c0')).set 1 (.int .u64 r.e)).set 2 (.slice As' ms cs')).set 3 (.int .u64 0)).set 4 (.slice none 0 0)).set 5 (.slice none 0 0)).set 6 (.slice none 0 0)); simpa using h), by have := HGX.out; have := HS1.out; omega, (RdF.typ O1.out RX (by decide)).stay hst, L0.out, HC1.out, (RdF.typ O2.out RX (by decide)).stay hst, LS.out, HC2.out, fun j hj => absurd hj (by omega), HB1.out.trans (hb9.mono (by have := HS1.out; omega))⟩)
    have HB9 := hide hb9
    clear hb9 hst RX y0 y1 y2 y3 y4 y5 y6 yf0 yf1 yf2 yf3 yf4 yf5 yf6 yl
    generalize World.setCell _ _ _ = w9 at *
    refine hK5.out _ _ (HSX.out _ HB9.out) (fun _ => ?_)
    clear hK5 K5
    (try simp only [Act.put, Na, Nb, Nc, Nd, Nx, Nf])
    refine wpAnyH_done (by kernel_rfl) ?_ _
    go_wp2_with fail
    go_meet
    case rel => exact ⟨gx, A0', As', c0', cs', rfl, HB9.out, HO.out⟩
   ·
    go_simp
    have RXX := hide (RowAt.new wc0 34 #[.slice none 0 0, .int .u64 0, .slice none 0 0, .int .u64 0, .slice none 0 0, .slice none 0 0, .slice none 0 0])
    have HG := hide ((Below.refl wc0.heap.size wc0).alloc (Nat.le_refl _) (.cells #[.slice none 0 0, .int .u64 0, .slice none 0 0, .int .u64 0, .slice none 0 0, .slice none 0 0, .slice none 0 0] 34))
    obtain ⟨gx, hgx⟩ : ∃ gx, wc0.heap.size = gx := ⟨_, rfl⟩
    have HGX := hide (show w1.heap.size ≤ gx from by rw [← hgx]; exact HX.out.size)
    rw [hgx] at RXX ⊢
    have hX2 := HX.out.trans (HG.out.mono HX.out.size)
    replace HX := hide hX2
    clear hX2 hS0
    replace O1 := hide (own_keepB O1.out HG.out)
    generalize wc0.alloc (.cells #[.slice none 0 0, .int .u64 0, .slice none 0 0, .int .u64 0, .slice none 0 0, .slice none 0 0, .slice none 0 0] 34) = wa1 at *
    clear HG hgx
    have hS0 := HSX.out _ HX.out
    refine hK3.out _ _ (hS0) (fun _ => ?_)
    clear hK3 K3
    (try simp only [Act.put, Na, Nb, Nc, Nd, Nx, Nf])
    refine wpAnyH_ready (rs := [23]) (by kernel_rfl) (by simp) ?_
    refine (AllReadyH.cons rfl (fun K6 hK6 => ?_) AllReadyH.nil)
    go_simp
    with_reducible refine (Pn.CloneW wa1.heap.size As ms cs (Cs encW (r.S.take 10)) wa1 (by rw [TS.out]; exact ((H.out.S.rd.firstW H.out.ls hm4).below HX.out |>.more HX.out.size)) (Nat.le_refl _) (Cs_one_cell encW_one _) (by omega)).mono ?_
    rintro e wc2 ⟨v, rfl, hown, hb⟩
    obtain ⟨As', cs', rfl, hca1, hca2⟩ := own_form2 hown
    have HC2 := hide (And.intro hca1 hca2)
    replace O1 := hide (own_keepB O1.out hb)
    replace RXX := hide (RXX.out.below hb)
    have O2 := hide (own_lo (b := W.heap.size + 2) hown (by have h1 := HS1.out; have h2 := HX.out.size; omega))
    have hX2 := HX.out.trans (hb.mono HX.out.size)
    replace HX := hide hX2
    clear hX2 hS0 hown hb hca1 hca2
    have hS0 := HSX.out _ HX.out
    refine hK6.out _ _ (hS0) (fun _ => ?_)
    clear hK6 K6
    (try simp only [Act.put, Na, Nb, Nc, Nd, Nx, Nf])
    (refine tkH (i := 24) (v := ?_) rfl (Or.inl ⟨by rfl, ?_⟩) ?_; rotate_left; (focus (intro w hSw; (try dsimp only at hSw); obtain ⟨a, b, c, d, e, f, g, h⟩ := hSw; go_simp; first | done | with_reducible rfl)); (try simp only [Act.put, Na, Nb, Nc, Nd, Nx, Nf]))
    (refine tkH (i := 25) (v := ?_) rfl (Or.inl ⟨by rfl, ?_⟩) ?_; rotate_left; (focus (intro w hSw; (try dsimp only at hSw); obtain ⟨a, b, c, d, e, f, g, h⟩ := hSw; go_simp; first | done | with_reducible rfl)); (try simp only [Act.put, Na, Nb, Nc, Nd, Nx, Nf]))
    refine wpAnyH_ready (rs := [27]) (by kernel_rfl) (by simp) ?_
    refine (AllReadyH.cons rfl (fun K7 hK7 => ?_) AllReadyH.nil)
    have RX := RXX.out
    obtain ⟨y0, y1, y2, y3, y4, y5, y6⟩ := row7 RX
    have yl := RX.lt
    have yf0 := RX.frozen 0
    have yf1 := RX.frozen 1
    have yf2 := RX.frozen 2
    have yf3 := RX.frozen 3
    have yf4 := RX.frozen 4
    have yf5 := RX.frozen 5
    have yf6 := RX.frozen 6
    clear hS0
    go_simp
    have hst : StayF (fun j => W.heap.size + 2 ≤ j ∧ j ≠ gx) wc2 (((((((wc2.setCell ⟨gx, 0, none⟩ (.slice A0' m0 c0')).setCell ⟨gx, 1, none⟩ (.int .u64 r.e)).setCell ⟨gx, 2, none⟩ (.slice As' ms cs')).setCell ⟨gx, 3, none⟩ (.int .u64 0)).setCell ⟨gx, 4, none⟩ (.slice none 0 0)).setCell ⟨gx, 5, none⟩ (.slice none 0 0)).setCell ⟨gx, 6, none⟩ (.slice none 0 0)) := ((((((((StayF.refl _ _).trans (StayF.set (fun h => h.2 rfl))).trans (StayF.set (fun h => h.2 rfl))).trans (StayF.set (fun h => h.2 rfl))).trans (StayF.set (fun h => h.2 rfl))).trans (StayF.set (fun h => h.2 rfl))).trans (StayF.set (fun h => h.2 rfl))).trans (StayF.set (fun h => h.2 rfl)))
    have hb9 : Below w1.heap.size w1 (((((((wc2.setCell ⟨gx, 0, none⟩ (.slice A0' m0 c0')).setCell ⟨gx, 1, none⟩ (.int .u64 r.e)).setCell ⟨gx, 2, none⟩ (.slice As' ms cs')).setCell ⟨gx, 3, none⟩ (.int .u64 0)).setCell ⟨gx, 4, none⟩ (.slice none 0 0)).setCell ⟨gx, 5, none⟩ (.slice none 0 0)).setCell ⟨gx, 6, none⟩ (.slice none 0 0)) := (((((((HX.out.setCell (p := ⟨gx, 0, none⟩) (by have := HGX.out; simp; omega) _).setCell (p := ⟨gx, 1, none⟩) (by have := HGX.out; simp; omega) _).setCell (p := ⟨gx, 2, none⟩) (by have := HGX.out; simp; omega) _).setCell (p := ⟨gx, 3, none⟩) (by have := HGX.out; simp; omega) _).setCell (p := ⟨gx, 4, none⟩) (by have := HGX.out; simp; omega) _).setCell (p := ⟨gx, 5, none⟩) (by have := HGX.out; simp; omega) _).setCell (p := ⟨gx, 6, none⟩) (by have := HGX.out; simp; omega) _)
    have HO := hide (show OwnL W (((((((wc2.setCell ⟨gx, 0, none⟩ (.slice A0' m0 c0')).setCell ⟨gx, 1, none⟩ (.int .u64 r.e)).setCell ⟨gx, 2, none⟩ (.slice As' ms cs')).setCell ⟨gx, 3, none⟩ (.int .u64 0)).setCell ⟨gx, 4, none⟩ (.slice none 0 0)).setCell ⟨gx, 5, none⟩ (.slice none 0 0)).setCell ⟨gx, 6, none⟩ (.slice none 0 0)) gx 0 0 A0' As' m0 c0' ms cs' (fun _ => none) (fun _ => 0) (fun _ => 0) r from ⟨(show RowAt (((((((wc2.setCell ⟨gx, 0, none⟩ (.slice A0' m0 c0')).setCell ⟨gx, 1, none⟩ (.int .u64 r.e)).setCell ⟨gx, 2, none⟩ (.slice As' ms cs')).setCell ⟨gx, 3, none⟩ (.int .u64 0)).setCell ⟨gx, 4, none⟩ (.slice none 0 0)).setCell ⟨gx, 5, none⟩ (.slice none 0 0)).setCell ⟨gx, 6, none⟩ (.slice none 0 0)) gx 34 #[.slice A0' m0 c0', .int .u64 r.e, .slice As' ms cs', .int .u64 0, .slice none 0 0, .slice none 0 0, .slice none 0 0] from by have h := (((((((RX.set 0 (.slice A0' m0 c0')).set 1 (.int .u64 r.e)).set 2 (.slice As' ms cs')).set 3 (.int .u64 0)).set 4 (.slice none 0 0)).set 5 (.slice none 0 0)).set 6 (.slice none 0 0)); simpa using h), by have := HGX.out; have := HS1.out; omega, (RdF.typ O1.out RX (by decide)).stay hst, L0.out, HC1.out, (RdF.typ O2.out RX (by decide)).stay hst, LS.out, HC2.out, fun j hj => absurd hj (by omega), HB1.out.trans (hb9.mono (by have := HS1.out; omega))⟩)
    have HB9 := hide hb9
    clear hb9 hst RX y0 y1 y2 y3 y4 y5 y6 yf0 yf1 yf2 yf3 yf4 yf5 yf6 yl
    generalize World.setCell _ _ _ = w9 at *
    refine hK7.out _ _ (HSX.out _ HB9.out) (fun _ => ?_)
    clear hK7 K7
    (try simp only [Act.put, Na, Nb, Nc, Nd, Nx, Nf])
    refine wpAnyH_done (by kernel_rfl) ?_ _
    go_wp2_with fail
    go_meet
    case rel => exact ⟨gx, A0', As', c0', cs', rfl, HB9.out, HO.out⟩
  ·
   go_simp
   have RXX := hide (RowAt.new wd 34 #[.slice none 0 0, .int .u64 0, .slice none 0 0, .int .u64 0, .slice none 0 0, .slice none 0 0, .slice none 0 0])
   have HG := hide ((Below.refl wd.heap.size wd).alloc (Nat.le_refl _) (.cells #[.slice none 0 0, .int .u64 0, .slice none 0 0, .int .u64 0, .slice none 0 0, .slice none 0 0, .slice none 0 0] 34))
   obtain ⟨gx, hgx⟩ : ∃ gx, wd.heap.size = gx := ⟨_, rfl⟩
   have HGX := hide (show w1.heap.size ≤ gx from by rw [← hgx]; exact HX.out.size)
   rw [hgx] at RXX ⊢
   have hX2 := HX.out.trans (HG.out.mono HX.out.size)
   replace HX := hide hX2
   clear hX2 hS0
   generalize wd.alloc (.cells #[.slice none 0 0, .int .u64 0, .slice none 0 0, .int .u64 0, .slice none 0 0, .slice none 0 0, .slice none 0 0] 34) = wa0 at *
   clear HG hgx
   have hS0 := HSX.out _ HX.out
   refine hK1.out _ _ (hS0) (fun _ => ?_)
   clear hK1 K1
   (try simp only [Act.put, Na, Nb, Nc, Nd, Nx, Nf])
   refine wpAnyH_ready (rs := [9]) (by kernel_rfl) (by simp) ?_
   refine (AllReadyH.cons rfl (fun K8 hK8 => ?_) AllReadyH.nil)
   go_simp
   with_reducible refine (CloneS wa0.heap.size A0 m0 c0 (Cs encE (r.sl.take 130)) wa0 (by rw [T0.out]; exact ((H.out.sl.rd.first H.out.l0 hm3).below HX.out |>.more HX.out.size)) (Nat.le_refl _) (Cs_one_cell encE_one _) (by omega)).mono ?_
   rintro e wc1 ⟨v, rfl, hown, hb⟩
   obtain ⟨A0', c0', rfl, hca1, hca2⟩ := own_form2 hown
   have HC1 := hide hca1
   replace RXX := hide (RXX.out.below hb)
   have O1 := hide (own_lo (b := W.heap.size + 2) hown (by have h1 := HS1.out; have h2 := HX.out.size; omega))
   have hX2 := HX.out.trans (hb.mono HX.out.size)
   replace HX := hide hX2
   clear hX2 hS0 hown hb hca1 hca2
   have hS0 := HSX.out _ HX.out
   refine hK8.out _ _ (hS0) (fun _ => ?_)
   clear hK8 K8
   (try simp only [Act.put, Na, Nb, Nc, Nd, Nx, Nf])
   (refine tkH (i := 10) (v := ?_) rfl (Or.inl ⟨by rfl, ?_⟩) ?_; rotate_left; (focus (intro w hSw; (try dsimp only at hSw); obtain ⟨a, b, c, d, e, f, g, h⟩ := hSw; go_simp; first | done | with_reducible rfl)); (try simp only [Act.put, Na, Nb, Nc, Nd, Nx, Nf]))
   refine wpAnyH_ready (rs := [23]) (by kernel_rfl) (by simp) ?_
   refine (AllReadyH.cons rfl (fun K9 hK9 => ?_) AllReadyH.nil)
   go_simp
   with_reducible refine (Pn.CloneW wc1.heap.size As ms cs (Cs encW (r.S.take 10)) wc1 (by rw [TS.out]; exact ((H.out.S.rd.firstW H.out.ls hm4).below HX.out |>.more HX.out.size)) (Nat.le_refl _) (Cs_one_cell encW_one _) (by omega)).mono ?_
   rintro e wc2 ⟨v, rfl, hown, hb⟩
   obtain ⟨As', cs', rfl, hca1, hca2⟩ := own_form2 hown
   have HC2 := hide (And.intro hca1 hca2)
   replace O1 := hide (own_keepB O1.out hb)
   replace RXX := hide (RXX.out.below hb)
   have O2 := hide (own_lo (b := W.heap.size + 2) hown (by have h1 := HS1.out; have h2 := HX.out.size; omega))
   have hX2 := HX.out.trans (hb.mono HX.out.size)
   replace HX := hide hX2
   clear hX2 hS0 hown hb hca1 hca2
   have hS0 := HSX.out _ HX.out
   refine hK9.out _ _ (hS0) (fun _ => ?_)
   clear hK9 K9
   (try simp only [Act.put, Na, Nb, Nc, Nd, Nx, Nf])
   (refine tkH (i := 24) (v := ?_) rfl (Or.inl ⟨by rfl, ?_⟩) ?_; rotate_left; (focus (intro w hSw; (try dsimp only at hSw); obtain ⟨a, b, c, d, e, f, g, h⟩ := hSw; go_simp; first | done | with_reducible rfl)); (try simp only [Act.put, Na, Nb, Nc, Nd, Nx, Nf]))
   (refine tkH (i := 25) (v := ?_) rfl (Or.inl ⟨by rfl, ?_⟩) ?_; rotate_left; (focus (intro w hSw; (try dsimp only at hSw); obtain ⟨a, b, c, d, e, f, g, h⟩ := hSw; go_simp; first | done | with_reducible rfl)); (try simp only [Act.put, Na, Nb, Nc, Nd, Nx, Nf]))
   refine wpAnyH_ready (rs := [27]) (by kernel_rfl) (by simp) ?_
   refine (AllReadyH.cons rfl (fun K10 hK10 => ?_) AllReadyH.nil)
   have RX := RXX.out
   obtain ⟨y0, y1, y2, y3, y4, y5, y6⟩ := row7 RX
   have yl := RX.lt
   have yf0 := RX.frozen 0
   have yf1 := RX.frozen 1
   have yf2 := RX.frozen 2
   have yf3 := RX.frozen 3
   have yf4 := RX.frozen 4
   have yf5 := RX.frozen 5
   have yf6 := RX.frozen 6
   clear hS0
   go_simp
   have hst : StayF (fun j => W.heap.size + 2 ≤ j ∧ j ≠ gx) wc2 (((((((wc2.setCell ⟨gx, 0, none⟩ (.slice A0' m0 c0')).setCell ⟨gx, 1, none⟩ (.int .u64 r.e)).setCell ⟨gx, 2, none⟩ (.slice As' ms cs')).setCell ⟨gx, 3, none⟩ (.int .u64 0)).setCell ⟨gx, 4, none⟩ (.slice none 0 0)).setCell ⟨gx, 5, none⟩ (.slice none 0 0)).setCell ⟨gx, 6, none⟩ (.slice none 0 0)) := ((((((((StayF.refl _ _).trans (StayF.set (fun h => h.2 rfl))).trans (StayF.set (fun h => h.2 rfl))).trans (StayF.set (fun h => h.2 rfl))).trans (StayF.set (fun h => h.2 rfl))).trans (StayF.set (fun h => h.2 rfl))).trans (StayF.set (fun h => h.2 rfl))).trans (StayF.set (fun h => h.2 rfl)))
   have hb9 : Below w1.heap.size w1 (((((((wc2.setCell ⟨gx, 0, none⟩ (.slice A0' m0 c0')).setCell ⟨gx, 1, none⟩ (.int .u64 r.e)).setCell ⟨gx, 2, none⟩ (.slice As' ms cs')).setCell ⟨gx, 3, none⟩ (.int .u64 0)).setCell ⟨gx, 4, none⟩ (.slice none 0 0)).setCell ⟨gx, 5, none⟩ (.slice none 0 0)).setCell ⟨gx, 6, none⟩ (.slice none 0 0)) := (((((((HX.out.setCell (p := ⟨gx, 0, none⟩) (by have := HGX.out; simp; omega) _).setCell (p := ⟨gx, 1, none⟩) (by have := HGX.out; simp; omega) _).setCell (p := ⟨gx, 2, none⟩) (by have := HGX.out; simp; omega) _).setCell (p := ⟨gx, 3, none⟩) (by have := HGX.out; simp; omega) _).setCell (p := ⟨gx, 4, none⟩) (by have := HGX.out; simp; omega) _).setCell (p := ⟨gx, 5, none⟩) (by have := HGX.out; simp; omega) _).setCell (p := ⟨gx, 6, none⟩) (by have := HGX.out; simp; omega) _)
   have HO := hide (show OwnL W (((((((wc2.setCell ⟨gx, 0, none⟩ (.slice A0' m0 c0')).setCell ⟨gx, 1, none⟩ (.int .u64 r.e)).setCell ⟨gx, 2, none⟩ (.slice As' ms cs')).setCell ⟨gx, 3, none⟩ (.int .u64 0)).setCell ⟨gx, 4, none⟩ (.slice none 0 0)).setCell ⟨gx, 5, none⟩ (.slice none 0 0)).setCell ⟨gx, 6, none⟩ (.slice none 0 0)) gx 0 0 A0' As' m0 c0' ms cs' (fun _ => none) (fun _ => 0) (fun _ => 0) r from ⟨(show RowAt (((((((wc2.setCell ⟨gx, 0, none⟩ (.slice A0' m0 c0')).setCell ⟨gx, 1, none⟩ (.int .u64 r.e)).setCell ⟨gx, 2, none⟩ (.slice As' ms cs')).setCell ⟨gx, 3, none⟩ (.int .u64 0)).setCell ⟨gx, 4, none⟩ (.slice none 0 0)).setCell ⟨gx, 5, none⟩ (.slice none 0 0)).setCell ⟨gx, 6, none⟩ (.slice none 0 0)) gx 34 #[.slice A0' m0 c0', .int .u64 r.e, .slice As' ms cs', .int .u64 0, .slice none 0 0, .slice none 0 0, .slice none 0 0] from by have h := (((((((RX.set 0 (.slice A0' m0 c0')).set 1 (.int .u64 r.e)).set 2 (.slice As' ms cs')).set 3 (.int .u64 0)).set 4 (.slice none 0 0)).set 5 (.slice none 0 0)).set 6 (.slice none 0 0)); simpa using h), by have := HGX.out; have := HS1.out; omega, (RdF.typ O1.out RX (by decide)).stay hst, L0.out, HC1.out, (RdF.typ O2.out RX (by decide)).stay hst, LS.out, HC2.out, fun j hj => absurd hj (by omega), HB1.out.trans (hb9.mono (by have := HS1.out; omega))⟩)
   have HB9 := hide hb9
   clear hb9 hst RX y0 y1 y2 y3 y4 y5 y6 yf0 yf1 yf2 yf3 yf4 yf5 yf6 yl
   generalize World.setCell _ _ _ = w9 at *
   refine hK10.out _ _ (HSX.out _ HB9.out) (fun _ => ?_)
   clear hK10 K10
   (try simp only [Act.put, Na, Nb, Nc, Nd, Nx, Nf])
   refine wpAnyH_done (by kernel_rfl) ?_ _
   go_wp2_with fail
   go_meet
   case rel => exact ⟨gx, A0', As', c0', cs', rfl, HB9.out, HO.out⟩
 case rest =>
  rename_i K hK
  refine hK _ _ ?_
  clear hK K
  obtain ⟨w2, hw2⟩ : ∃ w, w = wc := ⟨_, rfl⟩
  subst hw2
  obtain ⟨gx, A0', As', c0', cs', rfl, hbx, hst⟩ := hcut
  have HGB := hide (show w1.heap.size ≤ gx from by have := hst.lo; have := HS1.out; omega)
  have HST0 := hide (hst.epoch (E2 := r.l.E))
  have HBX := hide (hbx.setCell (p := ⟨gx, 3, none⟩) HGB.out (.int .u64 (r.l.E : Int)))
  have R2 := hide (R1.out.below hbx)
  have hgl := hst.row.lt
  have hgf := hst.row.frozen 3
  have hg3 := (row7 hst.row).2.2.2.1
  clear hbx hst hm1 hm2 hm3 hm4 hm5 hm6 hm7 hm8
  obtain ⟨z0, z1, z2, z3, z4, z5, z6⟩ := row7 R2.out
  have zl := R2.out.lt
  go_upto_region 3 with (fail)
  clear z0 z1 z2 z3 z4 z5 z6 zl hgl hgf hg3 R2
  generalize w2.setCell ⟨gx, 3, none⟩ (.int .u64 (r.l.E : Int)) = w4 at *
  have R4 := hide (R1.out.below HBX.out)
  obtain ⟨z0, z1, z2, z3, z4, z5, z6⟩ := row7 R4.out
  have zl := R4.out.lt
  go_upto_region 4 with (fail)
  clear z0 z1 z2 z3 z4 z5 z6 zl
  go_loopw [40] (fun i wr => ∃ (k : Nat), k ≤ 3 ∧ i = .int .i64 (k : Int) ∧ Below w1.heap.size w1 wr ∧ ∃ A1 n1 c1, OwnL W wr gx k r.l.E A0' As' m0 c0' ms cs' A1 n1 c1 r) (fun i _ => 3 - (intOf i).toNat)
  case atStart => exact ⟨0, by omega, rfl, HBX.out, _, _, _, HST0.out⟩
  case round =>
   obtain ⟨k, hk, rfl, hbw, A1, n1, c1, hst⟩ := hrel
   have HST := hide hst
   have HBW := hide hbw
   clear hst hbw
   by_cases hlt : k < 3
   ·
    have hki : (k : Int) < 3 := by omega
    have hix := Li.index_rows A n c k hlt
    obtain ⟨m, hm⟩ : ∃ m, min (n k) 130 = m := ⟨_, rfl⟩
    obtain ⟨tk0, lk0⟩ := take_min (r.l.r k) (H.out.ll k hlt) hm
    have LK := hide lk0
    have TK := hide tk0
    have hm1 : min (n k : Int) 130 = (m : Int) := by omega
    have hm3 : m ≤ n k := by omega
    have hm5 : (m : Int) ≤ (c k : Int) := by have := (H.out.hl k hlt).1; omega
    have hm9 : (c k : Int) ≤ 9223372036854775807 := by have := (H.out.hl k hlt).2; unfold MaxLen at this; omega
    have HCL := hide (CloneE wr.heap.size (A k) m (c k) (Cs encE ((r.l.r k).take 130)) wr (by rw [TK.out]; exact ((((H.out.rw k hlt).rd.first (H.out.ll k hlt) hm3).below HBW.out).more HBW.out.size)) (Nat.le_refl _) (Cs_one_cell encE_one _) (by omega))
    clear tk0 lk0 hm
    go_wp2_with fail
    with_reducible refine HCL.out.mono ?_
    rintro e w3 ⟨v, rfl, hown, hb⟩
    obtain ⟨A3, c3, rfl, hc3, hcm3⟩ := own_form2 hown
    have HN := hide (HST.out.next hlt hb A3 m c3 hown LK.out ⟨hc3, hcm3⟩)
    have HBN := hide ((HBW.out.trans (hb.mono HBW.out.size)).setCell (p := ⟨gx, 4 + k, none⟩) (HGB.out) (.slice A3 m c3))
    have hc0 : w3.cell? ⟨gx, 4 + k, none⟩ = some (.slice (A1 k) (n1 k) (c1 k)) := ((HST.out.row.below hb).cell (4 + k)).trans (recC_at _ _ _ _ _ _ _ _ _ _ _ hlt)
    have hcl := (HST.out.row.below hb).lt
    have hcf := (HST.out.row.below hb).frozen (4 + k)
    clear hown hb HCL hix hm1 hm3 hm5 hm9
    go_wp2_with fail
    go_roundw
    case rel => exact ⟨k + 1, by omega, by go_num, HBN.out, _, _, _, HN.out⟩
    case measure => simp [intOf]; omega
   ·
    obtain rfl : k = 3 := by omega
    obtain ⟨z0, z1, z2, z3, z4, z5, z6⟩ := row7 HST.out.row
    have zl := HST.out.row.lt
    have R0w : RowAt wr (W.heap.size + 1) 34 #[.slice none 0 0, .int .u64 0, .slice none 0 0, .int .u64 0, .slice none 0 0, .slice none 0 0, .slice none 0 0] := R0.out.below HBW.out
    obtain ⟨y0, y1, y2, y3, y4, y5, y6⟩ := row7 R0w
    have yl := R0w.lt
    have yf0 := R0w.frozen 0
    have yf1 := R0w.frozen 1
    have yf2 := R0w.frozen 2
    have yf3 := R0w.frozen 3
    have yf4 := R0w.frozen 4
    have yf5 := R0w.frozen 5
    have yf6 := R0w.frozen 6
    go_wp2_with fail
    have hl := lp7 wr (W.heap.size + 1) (.slice A0' m0 c0') (.int .u64 r.e) (.slice As' ms cs') (.int .u64 (r.l.E : Int)) (.slice (A1 0) (n1 0) (c1 0)) (.slice (A1 1) (n1 1) (c1 1)) (.slice (A1 2) (n1 2) (c1 2))
    have hr := rp7 R0w (.slice A0' m0 c0') (.int .u64 r.e) (.slice As' ms cs') (.int .u64 (r.l.E : Int)) (.slice (A1 0) (n1 0) (c1 0)) (.slice (A1 1) (n1 1) (c1 1)) (.slice (A1 2) (n1 2) (c1 2))
    clear y0 yf0 y1 yf1 y2 yf2 y3 yf3 y4 yf4 y5 yf5 y6 yf6 yl zl z0 z1 z2 z3 z4 z5 z6
    generalize World.setCell _ _ _ = wF at *
    obtain ⟨y0, y1, y2, y3, y4, y5, y6⟩ := row7 hr
    have yl := hr.lt
    refine bodyPost_ret (v := .agg #[.slice A0' m0 c0', .int .u64 r.e, .slice As' ms cs', .int .u64 (r.l.E : Int), .slice (A1 0) (n1 0) (c1 0), .slice (A1 1) (n1 1) (c1 1), .slice (A1 2) (n1 2) (c1 2)]) (by simp [results, Tryz.results10, go_sem, y0, y1, y2, y3, y4, y5, y6, yl]) rfl ⟨⟨_, rfl, ?_⟩, HST.out.below.trans (hl.below.mono (by omega))⟩
    skip
    exact ⟨A0', As', m0, c0', ms, cs', A1, n1, c1, rfl, RdF.laid1 HST.out.sl hl, HST.out.l0, HST.out.h0, RdF.laid1 HST.out.S hl, HST.out.ls, HST.out.hs, fun j hj => RdF.laid1 (HST.out.rw j hj hj).1 hl, fun j hj => (HST.out.rw j hj hj).2.1, fun j hj => (HST.out.rw j hj hj).2.2⟩
end Go.Proofs.YtkicidopjihjmaaGreat
set_option linter.unusedVariables false
set_option linter.unusedSimpArgs false
namespace Go.Proofs.YtkicidopjihjmaaGreat
open Go Go.RowKit Go.WideShapes Go.ChangeShapes Go.ChangeAt Go.Joins Go.Deep
structure NumR (r : Rec) : Prop where
 e : U64 r.e
 E : r.l.E < 18446744073709551616
 sl : ∀ s ∈ r.sl, U64 s.2
 S : ∀ s ∈ r.S, U64 s
 g : ∀ k, k < 3 → ∀ x ∈ r.l.r k, U64 x.2
theorem NumR.cut {r : Rec} (h : NumR r) : FitR (cutR r) ∧ ∀ s ∈ (cutR r).sl, 0 ≤ s.2 := by
 have he := h.e
 unfold U64 at he
 refine ⟨⟨?_, ?_, fun k hk => ?_, he, fun x hx => h.S x (List.mem_of_mem_take hx), h.E, fun k hk x hx => ?_⟩, fun s hs => (h.sl s (List.mem_of_mem_take hs)).1⟩
 ·
  show (r.sl.take 130).length ≤ 4096
  rw [List.length_take]; omega
 ·
  show (r.S.take 10).length ≤ 4096
  rw [List.length_take]; omega
 ·
  show ((r.l.r k).take 130).length ≤ 4096
  rw [List.length_take]; omega
 ·
  have hx : x ∈ (r.l.r k).take 130 := hx
  have := h.g k hk x (List.mem_of_mem_take hx)
  unfold U64 at this
  exact this
section
variable {H : Type} {enc : TypeId × Value → H} {w : World} {base : Nat} {spare : Nat → Bool} {held : Bool}
theorem decI1 (n : Nat) (cs' : List Value) (y : DataW H × List MemPlace) (hl : cs'.length = 1) (h : DataW.trod enc Tryz.prog w base spare held n 25 cs' = some y) : ∃ z : Int, cs' = encW z ∧ U64 z := by
 obtain ⟨x, hx, hw⟩ := dec_int Tryz.underlying25 hl h
 exact ⟨x, by simpa [encW] using hx, u64_bounds hw⟩
theorem decSl (n : Nat) (cs' : List Value) (y : DataW H × List MemPlace) (hl : cs'.length = 2) (h : DataW.trod enc Tryz.prog w base spare held n 84 cs' = some y) : ∃ z : Int × Int, cs' = encE z ∧ U64 z.2 := by
 obtain ⟨a, ha, wa⟩ := dec_field_int Tryz.underlying84 (by kernel_rfl) hl h 0 _ rfl Tryz.underlying3
 obtain ⟨b, hb, wb⟩ := dec_field_int Tryz.underlying84 (by kernel_rfl) hl h 1 _ rfl Tryz.underlying25
 match cs', hl with
 | [u, v], _ =>
  simp at ha hb
  subst ha hb
  exact ⟨(a, b), rfl, u64_bounds wb⟩
theorem decEn (n : Nat) (cs' : List Value) (y : DataW H × List MemPlace) (hl : cs'.length = 2) (h : DataW.trod enc Tryz.prog w base spare held n 41 cs' = some y) : ∃ z : Int × Int, cs' = encE z ∧ U64 z.2 := by
 obtain ⟨a, ha, wa⟩ := dec_field_int Tryz.underlying41 (by kernel_rfl) hl h 0 _ rfl Tryz.underlying3
 obtain ⟨b, hb, wb⟩ := dec_field_int Tryz.underlying41 (by kernel_rfl) hl h 1 _ rfl Tryz.underlying25
 match cs', hl with
 | [u, v], _ =>
  simp at ha hb
  subst ha hb
  exact ⟨(a, b), rfl, u64_bounds wb⟩
theorem dec_at {fs : Array Field} {e : TypeId} (hs : Tryz.prog.underlying e = some (.struct fs)) {n : Nat} {cs' : List Value} {y : DataW H × List MemPlace} (h : DataW.trod enc Tryz.prog w base spare held n e cs' = some y)
  (j : Nat) (f : Field) (hj : fs[j]? = some f) (o k : Nat) (ho : f.offset = o) (hk : Tryz.prog.cellsOf f.type = k) : ∃ (y' : DataW H × List MemPlace) (n' : Nat), DataW.trod enc Tryz.prog w base spare held n' f.type ((cs'.drop o).take k) = some y' := by
 obtain ⟨ys, n', hn', hy, hlen, hyl, hf⟩ := DataW.trod_struct hs h
 have hjl : j < fs.size := (Array.getElem?_eq_some_iff.1 hj).1
 have h1 := hf j f hj
 rw [ho, hk] at h1
 have hys : ys[j]? = some (ys[j]'(by omega)) := List.getElem?_eq_getElem (by omega)
 exact ⟨_, n', h1.trans hys⟩
def of3 {α : Type} (a b c : α) (k : Nat) : α := if k = 0 then a else if k = 1 then b else c
set_option maxRecDepth 20000 in
theorem open_rec {v : Value} {d : DataW H} {p : List MemPlace} {b0 : Nat} (hv : Value.okWide Tryz.prog w .any b0 34 v) (h : DataW.Trod enc Tryz.prog w base spare held 34 v d p) :
  ∃ (r : Rec), RecOut (fun _ => True) w v r ∧ NumR r := by
 obtain ⟨cs, rfl, hsz⟩ := okWide_struct Tryz.underlying34 hv
 obtain ⟨fuel, hf⟩ := h
 have hl : (Value.agg cs).cells.toList.length = 7 := by
  have : Tryz.prog.cellsOf 34 = 7 := by kernel_rfl
  simp [Value.cells]; omega
 obtain ⟨l⟩ := cs
 have hl7 : l.length = 7 := by simpa [Value.cells] using hl
 match l, hl7 with
 | [u0, u1, u2, u3, u4, u5, u6], _ =>
  have hf : DataW.trod enc Tryz.prog w base spare held fuel 34 [u0, u1, u2, u3, u4, u5, u6] = some (d, p) := by simpa [Value.cells] using hf
  obtain ⟨y0, m0, h0⟩ := dec_at Tryz.underlying34 hf 0 _ rfl 0 1 (by kernel_rfl) (by kernel_rfl)
  obtain ⟨y1, m1, h1⟩ := dec_at Tryz.underlying34 hf 1 _ rfl 1 2 (by kernel_rfl) (by kernel_rfl)
  obtain ⟨y2, m2, h2⟩ := dec_at Tryz.underlying34 hf 2 _ rfl 3 4 (by kernel_rfl) (by kernel_rfl)
  have h0 : DataW.trod enc Tryz.prog w base spare held m0 24 [u0] = some y0 := h0
  have h1 : DataW.trod enc Tryz.prog w base spare held m1 28 [u1, u2] = some y1 := h1
  have h2 : DataW.trod enc Tryz.prog w base spare held m2 32 [u3, u4, u5, u6] = some y2 := h2
  obtain ⟨v0, z0, k0, hv0, ht0⟩ := dec_fields Tryz.underlying24 (by kernel_rfl) (cs' := [u0]) rfl h0 0 _ rfl
  obtain ⟨A0, n0, c0, x0, e0, hn0, hm0, hx0, hr0, hw0⟩ := open_rd Tryz.underlying22 (by kernel_rfl) (by omega) decSl ht0
  obtain ⟨e, he, we⟩ := dec_field_int Tryz.underlying28 (by kernel_rfl) (cs' := [u1, u2]) rfl h1 0 _ rfl Tryz.underlying25
  obtain ⟨v1, z1, k1, hv1, ht1⟩ := dec_fields Tryz.underlying28 (by kernel_rfl) (cs' := [u1, u2]) rfl h1 1 _ rfl
  obtain ⟨As, ns, cs, S, e1, hns, hms, hxs, hrs, hws⟩ := open_rd Tryz.underlying26 (by kernel_rfl) (by omega) decI1 ht1
  obtain ⟨z2, k2, h20⟩ := dec_at Tryz.underlying32 h2 0 _ rfl 0 1 (by kernel_rfl) (by kernel_rfl)
  obtain ⟨z3, k3, h21⟩ := dec_at Tryz.underlying32 h2 1 _ rfl 1 3 (by kernel_rfl) (by kernel_rfl)
  have h21 : DataW.trod enc Tryz.prog w base spare held k3 30 [u4, u5, u6] = some z3 := h21
  obtain ⟨z, hz, hw⟩ := dec_int (k := .u64) Tryz.underlying25 (cs' := [u3]) rfl h20
  simp at hz hv0 hv1 he
  subst hz hv0 hv1 he
  obtain ⟨zl, zh⟩ := u64_bounds hw
  obtain ⟨E, rfl⟩ : ∃ E : Nat, z = (E : Int) := ⟨z.toNat, by omega⟩
  obtain ⟨q0, q1, q2, m, _, t0, t1, t2⟩ := trod_array3 Tryz.underlying30 (by kernel_rfl) h21
  obtain ⟨B0, p0, k0', b0', f0, hp0, hc0, hb0, hr0', hw0'⟩ := open_rd Tryz.underlying29 (by kernel_rfl) (by omega) decEn t0
  obtain ⟨B1, p1, k1', b1', f1, hp1, hc1, hb1, hr1', hw1'⟩ := open_rd Tryz.underlying29 (by kernel_rfl) (by omega) decEn t1
  obtain ⟨B2, p2, k2', b2', f2, hp2, hc2, hb2, hr2', hw2'⟩ := open_rd Tryz.underlying29 (by kernel_rfl) (by omega) decEn t2
  simp only [List.cons.injEq, and_true] at e0 e1 f0 f1 f2
  subst e0 e1 f0 f1 f2
  unfold maxLen at hm0 hms hc0 hc1 hc2
  have three : ∀ {C : Nat → Prop}, C 0 → C 1 → C 2 → ∀ k, k < 3 → C k := fun a b c k hk => by
   match k, hk with
   | 0, _ => exact a
   | 1, _ => exact b
   | 2, _ => exact c
  refine ⟨⟨x0, e, S, ⟨E, of3 b0' b1' b2'⟩⟩, ⟨A0, As, n0, c0, ns, cs, of3 B0 B1 B2, of3 p0 p1 p2, of3 k0' k1' k2', rfl, ⟨RdF.all hr0, hx0, hn0, RdF.all hrs, hxs, ⟨hns, hms⟩, three (RdF.all hr0') (RdF.all hr1') (RdF.all hr2'), three hb0 hb1 hb2, three ⟨hp0, hc0⟩ ⟨hp1, hc1⟩ ⟨hp2, hc2⟩⟩⟩, ⟨u64_bounds we, by show E < _; omega, hw0, hws, three hw0' hw1' hw2'⟩⟩
set_option maxRecDepth 20000 in
theorem open_pair {v : Value} {d : DataW H} {p : List MemPlace} {b0 : Nat} (hv : Value.okWide Tryz.prog w .any b0 68 v) (h : DataW.Trod enc Tryz.prog w base spare held 68 v d p) :
  ∃ a b : Int, v = .agg #[.int .i64 a, .int .i64 b] ∧ I64 a ∧ I64 b := by
 have hu : Tryz.prog.underlying 68 = some (.array 2 3) := by kernel_rfl
 simp only [Value.okWide, hu] at hv
 obtain ⟨cs, rfl, hsz, _⟩ := hv
 obtain ⟨fuel, hf⟩ := h
 have hl : (Value.agg cs).cells.toList.length = 2 := by
  have : Tryz.prog.cellsOf 68 = 2 := by kernel_rfl
  simp [Value.cells]; omega
 obtain ⟨a, ha, wa⟩ := dec_array_int hu (by kernel_rfl) Tryz.underlying3 hl (by simpa [Value.cells] using hf) 0 (by omega)
 obtain ⟨b, hb, wb⟩ := dec_array_int hu (by kernel_rfl) Tryz.underlying3 hl (by simpa [Value.cells] using hf) 1 (by omega)
 refine ⟨a, b, ?_, i64_bounds wa, i64_bounds wb⟩
 obtain ⟨l⟩ := cs
 match l, hl with
 | [u, x], _ =>
  simp [Value.cells] at ha hb
  rw [ha, hb]
end
end Go.Proofs.YtkicidopjihjmaaGreat
set_option linter.unusedSimpArgs false
set_option linter.unusedVariables false
namespace Go.Proofs.YtkicidopjihjmaaGreat
open Go Go.RowKit
attribute [local go_sem] via_cell via_frozen
set_option maxHeartbeats 2000000 in
theorem op_any (k g x1 x2 : Int) (W : World) : Calls Tryz.prog 22 #[.int .i64 k, .int .i64 g, .agg #[.int .i64 x1, .int .u64 x2]] W fun e W' => e = .returned (.agg #[.int .i64 k, .int .i64 g, .int .u64 0, .int .i64 x1, .int .u64 x2]) ∧ Below W.heap.size W W' := by
 have hb : Below W.heap.size W ((W.alloc (.cells #[.int .i64 x1, .int .u64 x2] 41)).alloc (.cells #[.int .i64 k, .int .i64 g, .int .u64 0, .int .i64 x1, .int .u64 x2] 43)) := ((Below.refl _ _).alloc (Nat.le_refl _) _).alloc (by simp) _
 have hr : RowAt ((W.alloc (.cells #[.int .i64 x1, .int .u64 x2] 41)).alloc (.cells #[.int .i64 k, .int .i64 g, .int .u64 0, .int .i64 x1, .int .u64 x2] 43)) (W.heap.size + 1) 43 #[.int .i64 k, .int .i64 g, .int .u64 0, .int .i64 x1, .int .u64 x2] := by have h := RowAt.new (W.alloc (.cells #[.int .i64 x1, .int .u64 x2] 41)) 43 #[.int .i64 k, .int .i64 g, .int .u64 0, .int .i64 x1, .int .u64 x2]; rw [World.size_alloc] at h; exact h
 have HB := hide hb
 have HR := hide hr
 clear hb hr
 go_enter Tryz.func22, Tryz.ntmps22
 go_wp2_with fail
 generalize ((W.alloc (.cells #[.int .i64 x1, .int .u64 x2] 41)).alloc (.cells #[.int .i64 k, .int .i64 g, .int .u64 0, .int .i64 x1, .int .u64 x2] 43)) = wF at *
 obtain ⟨y0, y1, y2, y3, y4⟩ := row5 HR.out
 have yl := HR.out.lt
 exact bodyPost_ret (v := .agg #[.int .i64 k, .int .i64 g, .int .u64 0, .int .i64 x1, .int .u64 x2]) (by simp [results, Tryz.results22, go_sem, y0, y1, y2, y3, y4, yl]) rfl ⟨rfl, HB.out⟩
structure FitV (r : Rec) : Prop where
 fit : FitR r
 gn : ∀ s ∈ r.sl, 0 ≤ s.2
theorem WfR.fitV {r : Rec} (h : WfR r) : FitV r := ⟨h.fit, h.gn⟩
theorem vDo {F : Nat → Prop} {w : World} {v : Value} {r : Rec} (h : RecOut F w v r) (hf : FitV r) (o : EOp) (hb : 0 ≤ o.b) (hx : U64 o.x.2) : Calls Tryz.prog 13 #[v, .agg #[.int .i64 o.k, .int .i64 o.g, .int .u64 o.b, .int .i64 o.x.1, .int .u64 o.x.2]] w (DoRes r o w) := by
 obtain ⟨A0, As, n0, c0, ns, cs, A, n, c, rfl, h⟩ := h
 exact Do_any F A0 As n0 c0 ns cs A n c r o w h hf.fit hf.gn hb hx
theorem vTry {F : Nat → Prop} {w : World} {v : Value} {r : Rec} (h : RecOut F w v r) (hf : FitV r) : Calls Tryz.prog 24 #[v] w (TryRes r w) := by
 obtain ⟨A0, As, n0, c0, ns, cs, A, n, c, rfl, h⟩ := h
 exact Try_any F A0 As n0 c0 ns cs A n c r w h hf.fit hf.gn
theorem vRun {F : Nat → Prop} {w : World} {v : Value} {r : Rec} (h : RecOut F w v r) (hf : FitV r) (Al : Option Addr) (ml cl : Nat) (l : List EOp) (hl : Rd w w.heap.size 5 Al ml (Cs encP l)) (hm : l.length = ml) (hml : ml ≤ 4096) (hu : ∀ o ∈ l, 0 ≤ o.b ∧ U64 o.x.2) : Calls Tryz.prog 17 #[v, .slice Al ml cl] w (RunRes r l w) := by
 obtain ⟨A0, As, n0, c0, ns, cs, A, n, c, rfl, h⟩ := h
 exact Run_any F A0 As n0 c0 ns cs A n c r Al ml cl l w h hf.fit hf.gn hl hm hml hu
theorem vOwn {F : Nat → Prop} {w : World} {v : Value} {r : Rec} (h : RecOut F w v r) : Calls Tryz.prog 10 #[v] w (LownRes r w) := by
 obtain ⟨A0, As, n0, c0, ns, cs, A, n, c, rfl, h⟩ := h
 exact lown_any F A0 As n0 c0 ns cs A n c r w h
theorem wf_rec0 : FitV rec0 := ⟨⟨Nat.zero_le _, Nat.zero_le _, fun k _ => Nat.zero_le _, ⟨Int.le_refl _, (by decide)⟩, fun x hx => (by cases hx), (by decide), fun k _ x hx => (by cases hx)⟩, fun s hs => (by cases hs)⟩
theorem wf_do {r : Rec} (hf : FitV r) (o : EOp) (hb : 0 ≤ o.b) (h0 : (doR r o).2.2 = 0) : WfR (doR r o).1 := by
 unfold doR at h0 ⊢
 rcases Bool.eq_false_or_eq_true r.ok with ho | ho
 ·
  have hw : WfR r := ⟨ok_iff.1 ho, fun s hs => (hf.fit.s s hs).1, hf.gn⟩
  rw [if_pos ho] at h0 ⊢
  cases hs : stepR r [] o with
  | error k => rw [hs] at h0; exact absurd h0 (step_ne hs)
  | ok x => exact wf_step hw hb (r' := x.1) (t' := x.2) hs
 ·
  rw [ho] at h0; simp at h0
theorem fit_do {r : Rec} (hf : FitV r) (o : EOp) (hb : 0 ≤ o.b) : FitV (doR r o).1 := by
 by_cases h0 : (doR r o).2.2 = 0
 ·
  exact (wf_do hf o hb h0).fitV
 ·
  have : (doR r o).1 = rec0 := by
   unfold doR at h0 ⊢
   split
   ·
    rename_i ho
    rw [if_pos ho] at h0
    cases hs : stepR r [] o with
    | error k => rfl
    | ok x => rw [hs] at h0; exact absurd rfl h0
   ·
    rfl
  rw [this]; exact wf_rec0
theorem fit_try {r : Rec} (hf : FitV r) : FitV (tryR r).1 := by
 unfold tryR
 rcases Bool.eq_false_or_eq_true r.ok with ho | ho
 ·
  have hw : WfR r := ⟨ok_iff.1 ho, fun s hs => (hf.fit.s s hs).1, hf.gn⟩
  rw [if_pos ho]
  exact (tries_ind (P := fun _ _ => True) (fun _ _ _ _ _ _ _ => trivial) (fun _ _ _ _ _ _ _ => trivial) hw (t := []) trivial).2.fitV
 ·
  rw [if_neg (by rw [ho]; decide)]; exact wf_rec0
theorem wf_runL : ∀ (l : List EOp) (r : Rec) (t : List Ent) (n : Nat) (x : Rec × List Ent × Nat), WfR r → (∀ o ∈ l, 0 ≤ o.b) → runL r t n l = some x → WfR x.1
 | [], r, t, n, x, h, _, hs => by injection hs with hs; rw [← hs]; exact h
 | o :: l, r, t, n, x, h, hb, hs => by
  unfold runL at hs
  split at hs
  ·
   rename_i r' t' h1
   exact wf_runL l r' t' n x (wf_step h (hb o (by simp)) h1) (fun q hq => hb q (by simp [hq])) hs
  ·
   split at hs
   ·
    cases hs
   ·
    exact wf_runL l r t (n + 1) x h (fun q hq => hb q (by simp [hq])) hs
theorem fit_run {r : Rec} (hf : FitV r) (l : List EOp) (hb : ∀ o ∈ l, 0 ≤ o.b) : FitV (runR r l).1 := by
 unfold runR
 rcases Bool.eq_false_or_eq_true r.ok with ho | ho
 ·
  have hw : WfR r := ⟨ok_iff.1 ho, fun s hs => (hf.fit.s s hs).1, hf.gn⟩
  rw [if_pos ho]
  cases hs : runL r [] 0 l with
  | none => exact wf_rec0
  | some x => exact (wf_runL l r [] 0 x hw hb hs).fitV
 ·
  rw [if_neg (by rw [ho]; decide)]; exact wf_rec0
theorem fit_new (g n : Nat) (hg : g ≤ 8) (hn : n ≤ 128) : FitV (newR g n) := by
 refine ⟨⟨by simp [newR]; omega, by simp [newR]; omega, fun k _ => Nat.zero_le _, ⟨Int.le_refl _, by show (0 : Int) < _; omega⟩, fun x hx => ?_, by show (0 : Nat) < _; omega, fun k _ x hx => by cases hx⟩, fun s hs => ?_⟩
 ·
  have hx : x ∈ List.replicate g 0 := hx
  rw [List.mem_replicate] at hx
  rw [hx.2]; exact ⟨Int.le_refl _, by omega⟩
 ·
  have hs : s ∈ List.replicate n ((0, 0) : Ent) := hs
  rw [List.mem_replicate] at hs
  rw [hs.2]; exact Int.le_refl _
def wkO : List EOp := [⟨3, 0, 0, (0, 0)⟩, ⟨3, 0, 0, (0, 0)⟩, ⟨1, 0, 0, (0, 0)⟩, ⟨5, 0, 0, (0, 0)⟩]
def wk0 : Rec := newR 2 3
def wk1 : Rec := (runR wk0 wkO).1
def wk2 : Rec := (tryR wk1).1
def wk3 : Rec := (tryR wk2).1
def wk4 : Rec := (doR wk3 ⟨2, 0, 0, (0, 0)⟩).1
def wk5 : Rec := (tryR wk4).1
theorem wkOb : ∀ o ∈ wkO, 0 ≤ o.b := by intro o ho; simp [wkO] at ho; rcases ho with rfl | rfl | rfl <;> exact Int.le_refl _
theorem wkOu : ∀ o ∈ wkO, 0 ≤ o.b ∧ U64 o.x.2 := by intro o ho; simp [wkO] at ho; rcases ho with rfl | rfl | rfl <;> exact ⟨Int.le_refl _, Int.le_refl _, by decide⟩
theorem wkF0 : FitV wk0 := fit_new 2 3 (by omega) (by omega)
theorem wkF1 : FitV wk1 := fit_run wkF0 _ wkOb
theorem wkF2 : FitV wk2 := fit_try wkF1
theorem wkF3 : FitV wk3 := fit_try wkF2
theorem wkF4 : FitV wk4 := fit_do wkF3 _ (Int.le_refl _)
theorem wkF5 : FitV wk5 := fit_try wkF4
theorem wkR1 : runR wk0 wkO = (wk1, [(0, 0), (1, 0)], 0, 0) := by
 have h : (runR wk0 wkO).2 = ([(0, 0), (1, 0)], 0, 0) := by kernel_rfl
 exact Prod.ext rfl h
theorem wkR2 : tryR wk1 = (wk2, [], true, 0) := by
 have h : (tryR wk1).2 = ([], true, 0) := by kernel_rfl
 exact Prod.ext rfl h
theorem wkR3 : tryR wk2 = (wk3, [], false, 0) := by
 have h : (tryR wk2).2 = ([], false, 0) := by kernel_rfl
 exact Prod.ext rfl h
theorem wkR3n : waitsR wk3 = 1 := by kernel_rfl
theorem wkR4 : doR wk3 ⟨2, 0, 0, (0, 0)⟩ = (wk4, (0, 0), 0) := by
 have h : (doR wk3 ⟨2, 0, 0, (0, 0)⟩).2 = ((0, 0), 0) := by kernel_rfl
 exact Prod.ext rfl h
theorem wkR5 : tryR wk4 = (wk5, [(0, 0)], true, 0) := by
 have h : (tryR wk4).2 = ([(0, 0)], true, 0) := by kernel_rfl
 exact Prod.ext rfl h
theorem wkR6 : doR wk5 ⟨6, 0, 0, (0, 0)⟩ = (rec0, (0, 0), 4) := by
 have h : (doR wk5 ⟨6, 0, 0, (0, 0)⟩).2 = ((0, 0), 4) := by kernel_rfl
 have h1 : (doR wk5 ⟨6, 0, 0, (0, 0)⟩).1 = rec0 := by kernel_rfl
 exact Prod.ext h1 h
def BoxR (w : World) (g : Nat) (r : Rec) : Prop := ∃ A0 As n0 c0 ns cs A n c, RowAt w g 34 (recC r.e r.l.E A0 As n0 c0 ns cs A n c) ∧ RecF (fun j => j ≠ g) w A0 As n0 c0 ns cs A n c r
theorem BoxR.below {w w' : World} {g : Nat} {r : Rec} (h : BoxR w g r) (hb : Below w.heap.size w w') : BoxR w' g r := by
 obtain ⟨A0, As, n0, c0, ns, cs, A, n, c, h1, h2⟩ := h
 exact ⟨A0, As, n0, c0, ns, cs, A, n, c, h1.below hb, h2.below hb⟩
end Go.Proofs.YtkicidopjihjmaaGreat
set_option linter.unusedVariables false
set_option linter.unusedSimpArgs false
namespace Go.Proofs.YtkicidopjihjmaaGreat
open Go Go.RowKit
section
variable {P : Program} {ops : Array Oper} {Q : Exit → Act → World → Prop} {md : Region.Mode} {S : World → Prop} {z : Nat}
def wpAnyZ (P : Program) (md : Region.Mode) (ops : Array Oper) (Q : Exit → Act → World → Prop) (S : World → Prop) (z : Nat) : Nat → Array Bool → Act → World → Prop
 | 0, listed, a, w => Region.ready md ops listed = [] ∧ Q .normal a w
 | fuel + 1, listed, a, w =>
  (Region.ready md ops listed = [] → Q .normal a w) ∧
  ∀ i ∈ Region.ready md ops listed, wpOp P ops Q i (fun a' w' => (i ≠ z → listed.getD z true = false → S w') ∧ wpAnyZ P md ops Q S z fuel (listed.setIfInBounds i true) a' w') a w
theorem wpAny_of_Z : ∀ (fuel : Nat) (listed : Array Bool) (a : Act) (w : World), wpAnyZ P md ops Q S z fuel listed a w → wpAny P md ops Q fuel listed a w
 | 0, _, _, _, h => h
 | fuel + 1, _, _, _, h => ⟨h.1, fun i hi => wpOp_mono (fun a' w' h' => wpAny_of_Z fuel _ a' w' h'.2) (h.2 i hi)⟩
theorem wpAnyZ_first {i : Nat} {oi : Oper} {v : Value} (hi : ops[i]? = some oi) (hsel : ∀ (j : Nat) (o : Oper) cs b, ops[j]? = some o → o.op ≠ .select cs b) (hz : waitsB md ops z i = true)
  (hQ : ∀ c a w, Q (.panic c) (a.put oi.dst v) w → Q (.panic c) a w) :
  ∀ (fuel : Nat) (listed : Array Bool) (a : Act) (w : World),
   (∀ j oj, ops[j]? = some oj → j ≠ i → listed.getD j true = false → (∀ e ∈ oj.after, Region.binds md e = true → e.on ≠ i) → oi.apart ops oj = true) →
   i ∈ Region.ready md ops listed → listed.getD z true = false → YieldsIf P ops S oi v a → S w →
   wpAnyZ P md ops Q S z fuel (listed.setIfInBounds i true) (a.put oi.dst v) w → wpAnyZ P md ops Q S z (fuel + 1) listed a w := by
 intro fuel
 induction fuel with
 | zero =>
  intro listed a w _ hr hzl hy hS H
  refine ⟨fun h => (by rw [h] at hr; cases hr), fun j hj => ?_⟩
  by_cases hji : j = i
  ·
   subst hji; exact hy.wpOp hi hS ⟨fun _ _ => hS, H⟩
  ·
   have := ready_mono hj hji
   rw [H.1] at this
   cases this
 | succ fuel ih =>
  intro listed a w hfree hr hzl hy hS H
  refine ⟨fun h => (by rw [h] at hr; cases hr), fun j hj => ?_⟩
  by_cases hji : j = i
  ·
   subst hji; exact hy.wpOp hi hS ⟨fun _ _ => hS, H⟩
  ·
   have h1 := H.2 j (ready_mono hj hji)
   obtain ⟨hjun, oj, hoj, hall⟩ := mem_ready.1 hj
   have hnot : ∀ e ∈ oj.after, Region.binds md e = true → e.on ≠ i := fun e he hb heq => by
    have h1 := hall e he hb
    have h0 := (mem_ready.1 hr).1
    rw [heq] at h1
    rcases Nat.lt_or_ge i listed.size with h' | h'
    ·
     simp [h'] at h0 h1; rw [h0] at h1; cases h1
    ·
     simp [Array.getElem?_eq_none h'] at h1
   have hjz : j ≠ z := by
    intro e
    subst e
    unfold waitsB at hz
    rw [hoj] at hz
    simp only [Bool.and_eq_true, List.any_eq_true, beq_iff_eq] at hz
    obtain ⟨⟨e, he, hb, hon⟩, _⟩ := hz
    exact hnot e (by simpa using he) hb hon
   have h2 := wpOp_putIf hoj (hfree j oj hoj hji hjun hnot) (fun cs b => hsel i oi cs b hi) (fun cs b => hsel j oj cs b hoj) hQ hy h1
   have hfree' : ∀ k ok, ops[k]? = some ok → k ≠ i → (listed.setIfInBounds j true).getD k true = false →
     (∀ e ∈ ok.after, Region.binds md e = true → e.on ≠ i) → oi.apart ops ok = true := fun k ok hk hki hun hno => by
    refine hfree k ok hk hki ?_ hno
    by_cases hjk : j = k
    ·
     subst hjk; exact hjun
    ·
     rw [getD_set_ne true hjk] at hun; exact hun
   have hiz : i ≠ z := by
    intro e
    subst e
    unfold waitsB at hz
    split at hz <;> simp at hz
   refine wpOp_mono (fun a' w' h3 => ⟨fun h4 h5 => h3.2.1 h4 (by rw [getD_set_ne true hiz]; exact h5), ih (listed.setIfInBounds j true) a' w' hfree' (ready_mono hr (Ne.symm hji)) (by rw [getD_set_ne true hjz]; exact hzl) h3.1 (h3.2.1 hjz (by rw [getD_set_ne true hiz]; exact hzl)) ?_⟩) h2
   rw [Array.setIfInBounds_comm _ _ hji]
   exact h3.2.2
theorem wpAnyZ_take {i : Nat} {oi : Oper} {v : Value} {fuel : Nat} {listed : Array Bool} {a : Act} {w : World} (hi : ops[i]? = some oi)
  (hs : Region.noSelect ops = true) (hf : Region.free md ops listed i = true) (hr : (Region.ready md ops listed).contains i = true) (hz : waitsB md ops z i = true) (hzl : listed.getD z true = false)
  (hQ : ∀ c a w, Q (.panic c) (a.put oi.dst v) w → Q (.panic c) a w) (hy : YieldsIf P ops S oi v a) (hS : S w)
  (h : wpAnyZ P md ops Q S z fuel (listed.setIfInBounds i true) (a.put oi.dst v) w) : wpAnyZ P md ops Q S z (fuel + 1) listed a w :=
 wpAnyZ_first hi (Region.noSelect_spec hs) hz hQ fuel listed a w (Region.free_spec hi hf) (by simpa using hr) hzl hy hS h
theorem getD_set_eq_true (l : Array Bool) (j : Nat) : (l.setIfInBounds j true).getD j true = true := by
 rcases Nat.lt_or_ge j l.size with h | h
 ·
  simp [h]
 ·
  simp [Array.getElem?_eq_none h]
theorem wpAnyZ_firstF {i : Nat} {oi : Oper} {v : Value} (hi : ops[i]? = some oi) (hsel : ∀ (j : Nat) (o : Oper) cs b, ops[j]? = some o → o.op ≠ .select cs b) (hiz : i ≠ z)
  (hQ : ∀ c a w, Q (.panic c) (a.put oi.dst v) w → Q (.panic c) a w) :
  ∀ (fuel : Nat) (listed : Array Bool) (a : Act) (w : World),
   (∀ j oj, ops[j]? = some oj → j ≠ i → listed.getD j true = false → (∀ e ∈ oj.after, Region.binds md e = true → e.on ≠ i) → oi.apart ops oj = true) →
   i ∈ Region.ready md ops listed → YieldsIf P ops (fun _ => True) oi v a → (listed.getD z true = false → S w) →
   wpAnyZ P md ops Q S z fuel (listed.setIfInBounds i true) (a.put oi.dst v) w → wpAnyZ P md ops Q S z (fuel + 1) listed a w := by
 intro fuel
 induction fuel with
 | zero =>
  intro listed a w _ hr hy hS H
  refine ⟨fun h => (by rw [h] at hr; cases hr), fun j hj => ?_⟩
  by_cases hji : j = i
  ·
   subst hji; exact hy.wpOp hi trivial ⟨fun _ h => hS h, H⟩
  ·
   have := ready_mono hj hji
   rw [H.1] at this
   cases this
 | succ fuel ih =>
  intro listed a w hfree hr hy hS H
  refine ⟨fun h => (by rw [h] at hr; cases hr), fun j hj => ?_⟩
  by_cases hji : j = i
  ·
   subst hji; exact hy.wpOp hi trivial ⟨fun _ h => hS h, H⟩
  ·
   have h1 := H.2 j (ready_mono hj hji)
   obtain ⟨hjun, oj, hoj, hall⟩ := mem_ready.1 hj
   have hnot : ∀ e ∈ oj.after, Region.binds md e = true → e.on ≠ i := fun e he hb heq => by
    have h1 := hall e he hb
    have h0 := (mem_ready.1 hr).1
    rw [heq] at h1
    rcases Nat.lt_or_ge i listed.size with h' | h'
    ·
     simp [h'] at h0 h1; rw [h0] at h1; cases h1
    ·
     simp [Array.getElem?_eq_none h'] at h1
   have h2 := wpOp_putIf hoj (hfree j oj hoj hji hjun hnot) (fun cs b => hsel i oi cs b hi) (fun cs b => hsel j oj cs b hoj) hQ hy h1
   have hfree' : ∀ k ok, ops[k]? = some ok → k ≠ i → (listed.setIfInBounds j true).getD k true = false →
     (∀ e ∈ ok.after, Region.binds md e = true → e.on ≠ i) → oi.apart ops ok = true := fun k ok hk hki hun hno => by
    refine hfree k ok hk hki ?_ hno
    by_cases hjk : j = k
    ·
     subst hjk; exact hjun
    ·
     rw [getD_set_ne true hjk] at hun; exact hun
   refine wpOp_mono (fun a' w' h3 => ⟨fun h4 h5 => h3.2.1 h4 (by rw [getD_set_ne true hiz]; exact h5), ih (listed.setIfInBounds j true) a' w' hfree' (ready_mono hr (Ne.symm hji)) h3.1 (fun h5 => ?_) ?_⟩) h2
   ·
    by_cases hjz : j = z
    ·
     subst hjz
     rw [getD_set_eq_true] at h5
     cases h5
    ·
     rw [getD_set_ne true hjz] at h5
     exact h3.2.1 hjz (by rw [getD_set_ne true hiz]; exact h5)
   rw [Array.setIfInBounds_comm _ _ hji]
   exact h3.2.2
theorem wpAnyZ_takeF {i : Nat} {oi : Oper} {v : Value} {fuel : Nat} {listed : Array Bool} {a : Act} {w : World} (hi : ops[i]? = some oi)
  (hs : Region.noSelect ops = true) (hf : Region.free md ops listed i = true) (hr : (Region.ready md ops listed).contains i = true) (hiz : (i == z) = false)
  (hQ : ∀ c a w, Q (.panic c) (a.put oi.dst v) w → Q (.panic c) a w) (hy : YieldsIf P ops (fun _ => True) oi v a) (hS : listed.getD z true = false → S w)
  (h : wpAnyZ P md ops Q S z fuel (listed.setIfInBounds i true) (a.put oi.dst v) w) : wpAnyZ P md ops Q S z (fuel + 1) listed a w :=
 wpAnyZ_firstF hi (Region.noSelect_spec hs) (by simpa using hiz) hQ fuel listed a w (Region.free_spec hi hf) (by simpa using hr) hy hS h
theorem wpAnyZ_one {i : Nat} {o : Oper} {fuel : Nat} {listed : Array Bool} {a : Act} {w : World} (ho : ops[i]? = some o) (hr : Region.ready md ops listed = [i])
  (h : ∀ K' : Act → World → Prop, Shut (∀ a w, (i ≠ z → listed.getD z true = false → S w) → wpAnyZ P md ops Q S z fuel (listed.setIfInBounds i true) a w → K' a w) → if Region.wanted o (yielded ops a.tmps) = true then Oper.wp P o a w K' Q else K' (a.put o.dst undef) w) : wpAnyZ P md ops Q S z (fuel + 1) listed a w :=
 ⟨fun h0 => (by rw [hr] at h0; cases h0), by
  rw [hr]
  intro j hj
  obtain rfl := List.mem_singleton.1 hj
  exact wpOp_step ho (fun K' hK => h K' (fun a w hS hW => hK a w ⟨hS, hW⟩))⟩
theorem wpAnyZ_two {i j : Nat} {oi oj : Oper} {fuel : Nat} {listed : Array Bool} {a : Act} {w : World} (hoi : ops[i]? = some oi) (hoj : ops[j]? = some oj) (hr : Region.ready md ops listed = [i, j])
  (h1 : ∀ K' : Act → World → Prop, Shut (∀ a w, (i ≠ z → listed.getD z true = false → S w) → wpAnyZ P md ops Q S z fuel (listed.setIfInBounds i true) a w → K' a w) → if Region.wanted oi (yielded ops a.tmps) = true then Oper.wp P oi a w K' Q else K' (a.put oi.dst undef) w)
  (h2 : ∀ K' : Act → World → Prop, Shut (∀ a w, (j ≠ z → listed.getD z true = false → S w) → wpAnyZ P md ops Q S z fuel (listed.setIfInBounds j true) a w → K' a w) → if Region.wanted oj (yielded ops a.tmps) = true then Oper.wp P oj a w K' Q else K' (a.put oj.dst undef) w) : wpAnyZ P md ops Q S z (fuel + 1) listed a w :=
 ⟨fun h0 => (by rw [hr] at h0; cases h0), by
  rw [hr]
  intro k hk
  rcases List.mem_cons.1 hk with rfl | hk
  ·
   exact wpOp_step hoi (fun K' hK => h1 K' (fun a w hS hW => hK a w ⟨hS, hW⟩))
  ·
   obtain rfl := List.mem_singleton.1 hk
   exact wpOp_step hoj (fun K' hK => h2 K' (fun a w hS hW => hK a w ⟨hS, hW⟩))⟩
theorem wpAnyZ_done {listed : Array Bool} {a : Act} {w : World} (hr : Region.ready md ops listed = []) (h : Q .normal a w) : ∀ fuel, wpAnyZ P md ops Q S z fuel listed a w
 | 0 => ⟨hr, h⟩
 | _ + 1 => ⟨fun _ => h, by rw [hr]; simp⟩
theorem wp_region_Z (S : World → Prop) (z : Nat) {id : Nat} {a : Act} {w : World} (hm : P.follows .mixedOrders = true) (hS : S w.drew)
  (h : S w.drew → wpAnyZ P .any ops Q S z ops.size (Array.replicate ops.size false) a w.drew) : (Code.region id ops true).wp P Q a w :=
 wp_region_any hm (wpAny_of_Z _ _ _ _ (h hS))
end
end Go.Proofs.YtkicidopjihjmaaGreat
