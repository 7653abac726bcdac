/-
  Part of a proof: ZOps says of what.
-/
import Derived.Deep.Strs
import Derived.Laws.IdiomArrays
import Derived.Test.YtkicidopjihjmaaGreatZOpsC
set_option maxHeartbeats 16000000
set_option linter.unusedSimpArgs false
set_option linter.unusedVariables false
namespace Go.Proofs.YtkicidopjihjmaaGreat
open Go Go.RowKit
attribute [local go_sem] via_cell via_frozen
@[local go_sem] theorem wpmfE (fn : Fn) (first cap : Array Value) (w : World) : (Instr.makeFunc fn first cap).run Tryz.prog w = .ok (.func fn first cap) w := rfl
@[local go_sem] theorem assert_errnoE (k : Int) (W : World) : (Instr.typeAssert (.iface 44 (.int .i64 k)) 20 44 true).run Tryz.prog W = .ok (.tuple #[.int .i64 k, .bool true]) W := by
 simp [Instr.typeAssert]
theorem ecatch_idle (p q s : Addr) (w : World) :
  CallsD Tryz.prog 75 #[.pointer (some p), .pointer (some q), .pointer (some s)] .returning w fun e u' w' => e = .returned (.tuple #[]) ∧ u' = .returning ∧ w' = w := by
 refine callsD_of_wpS Tryz.func75 rfl fun c₀ cs hu => ?_
 apply wpS_seq
 apply wpS_region
 simp [wpOpsS, go_sem, recoverD, hu, Tryz.ntmps75, Exit.thenS]
 refine wpS_of_wp ?_
 simp only [List.size_toArray, List.length_cons, List.length_nil, Nat.reduceAdd, Nat.reduceSub, Array.replicate_succ, Array.replicate_zero, List.push_toArray, List.append_toArray, List.nil_append, List.cons_append, List.setIfInBounds_toArray, List.set_cons_succ, List.set_cons_zero]
 go_wp2
 cases c₀
 simp_all [bodyPostS, results, Tryz.results75]
structure CaughtE (gh ge : Nat) (k : Int) (C : Array Value) (w w' : World) : Prop where
 hand : RowAt w' gh 95 C
 err : RowAt w' ge 44 #[.int .i64 k]
 os : w'.os = w.os
 tape : w'.tape = w.tape
 output : w'.output = w.output
 size : w.heap.size ≤ w'.heap.size
 block : ∀ j, j ≠ gh → j ≠ ge → j < w.heap.size → w'.heap[j]? = w.heap[j]?
set_option maxRecDepth 100000 in
theorem ecatch_err (gw gb ge gh : Nat) (k : Int) (v0 v1 v2 v3 v4 v5 v6 v7 v8 v9 v10 v11 v12 : Value) (h1 : (#[v0, v1, v2, v3, v4, v5, v6, v7, v8, v9, v10, v11, v12] : Array Value).all (·.oneCell') = true) (cs : Array Value) (w : World) (hw : RowAt w gw 95 #[v0, v1, v2, v3, v4, v5, v6, v7, v8, v9, v10, v11, v12]) (hb : RowAt w gb 91 #[.pointer (some ⟨gh, 0, none⟩)]) (he : RowAt w ge 44 #[.int .i64 0]) (hh : RowAt w gh 95 cs) (hsz : cs.size = 13) (hne : gh ≠ ge) :
  CallsD Tryz.prog 75 #[.pointer (some ⟨gw, 0, none⟩), .pointer (some ⟨gb, 0, none⟩), .pointer (some ⟨ge, 0, none⟩)] (.panicking (errX k)) w fun e u' w' =>
   e = .returned (.tuple #[]) ∧ u' = .panicking [{ v := .iface 44 (.int .i64 k), recovered := true }] ∧ CaughtE gh ge k #[v0, v1, v2, v3, v4, v5, v6, v7, v8, v9, v10, v11, v12] w w' := by
 obtain ⟨z0, z1, z2, z3, z4, z5, z6, z7, z8, z9, z10, z11, z12⟩ := row13 hw
 have zl := hw.lt
 have b0 := row1 hb
 have bl := hb.lt
 have e0 := row1 he
 have el := he.lt
 have ef := he.frozen 0
 have HH := Hi hh
 have HE := Hi he
 have HSZ := Hi hsz
 have H1 := Hi h1
 have HNE := Hi hne
 clear hw hb he hh hsz h1
 refine callsD_of_wpS Tryz.func75 rfl fun c₀ cs hu => ?_
 apply wpS_seq
 apply wpS_region
 simp [wpOpsS, go_sem, recoverD, hu, Tryz.ntmps75, Exit.thenS, errX]
 refine wpS_of_wp ?_
 simp only [List.size_toArray, List.length_cons, List.length_nil, Nat.reduceAdd, Nat.reduceSub, Array.replicate_succ, Array.replicate_zero, List.push_toArray, List.append_toArray, List.nil_append, List.cons_append, List.setIfInBounds_toArray, List.set_cons_succ, List.set_cons_zero]
 go_wp2_with (refine wpList_store_rowAt rfl 95 _ _ rfl gh 95 _ #[v0, v1, v2, v3, v4, v5, v6, v7, v8, v9, v10, v11, v12] rfl rfl HH.out (by rw [HSZ.out]; rfl) (by kernel_rfl) H1.out ?_; intro w1 hr1 hp1; have HR1 := Hi hr1; have HP1 := Hi hp1; have he1 := HE.out.past hp1 (Ne.symm HNE.out); have HE1 := Hi he1; have y0 := row1 he1; have yf := he1.frozen 0; have yl := he1.lt; clear hr1 hp1 he1)
 have HC : Hid (CaughtE gh ge k #[v0, v1, v2, v3, v4, v5, v6, v7, v8, v9, v10, v11, v12] w (w1.setCell ⟨ge, 0, none⟩ (.int .i64 k))) := Hi ⟨HR1.out.setNe HNE.out, by have h := HE1.out.set 0 (.int .i64 k); simpa using h, HP1.out.below.os, HP1.out.below.tape, HP1.out.below.output, by have := HP1.out.size; simpa using this, fun j h1 h2 hl => (heap_setCell_ne _ _ _ _ h2).trans (HP1.out.block j h1 hl)⟩
 simp [bodyPostS, results, Tryz.results75]
 exact HC.out
abbrev kindsE (gh : Nat) : Array MapEntry := #[⟨.int .i64 1, .func (.func 76) #[.pointer (some ⟨gh, 0, none⟩)] #[], 0⟩, ⟨.int .i64 2, .func (.func 77) #[.pointer (some ⟨gh, 0, none⟩)] #[], 1⟩, ⟨.int .i64 3, .func (.func 78) #[.pointer (some ⟨gh, 0, none⟩)] #[], 2⟩, ⟨.int .i64 4, .func (.func 79) #[.pointer (some ⟨gh, 0, none⟩)] #[], 3⟩, ⟨.int .i64 5, .func (.func 80) #[.pointer (some ⟨gh, 0, none⟩)] #[], 4⟩, ⟨.int .i64 6, .func (.func 81) #[.pointer (some ⟨gh, 0, none⟩)] #[], 5⟩, ⟨.int .i64 7, .func (.func 82) #[.pointer (some ⟨gh, 0, none⟩)] #[], 6⟩]
theorem run_ins (w : World) (es : Array MapEntry) (c : Nat) (k : Int) (v : Value) (h : Instr.findNow (.int .i64) (.int .i64 k) es.toList 0 = some none) :
  (Instr.mapUpdate 123 (.map (some w.heap.size)) (.int .i64 k) v).run Tryz.prog (w.alloc (.map es c)) = .ok () (w.alloc (.map (es.push ⟨.int .i64 k, v, c⟩) (c + 1))) := by
 have hb : (w.alloc (.map es c)).heap[w.heap.size]? = some (.map es c) := heap_alloc_new w _
 have hs : ({ w.alloc (.map es c) with heap := (w.alloc (.map es c)).heap.setIfInBounds w.heap.size (.map (es.push ⟨.int .i64 k, v, c⟩) (c + 1)) } : World) = w.alloc (.map (es.push ⟨.int .i64 k, v, c⟩) (c + 1)) := by
  have e1 : (w.alloc (.map es c)).heap = w.heap.push (.map es c) := rfl
  rw [e1]
  have e2 : (w.heap.push (Obj.map es c)).setIfInBounds w.heap.size (.map (es.push ⟨.int .i64 k, v, c⟩) (c + 1)) = w.heap.push (.map (es.push ⟨.int .i64 k, v, c⟩) (c + 1)) := by
   apply Array.ext_getElem?
   intro i
   rw [Array.getElem?_setIfInBounds, Array.getElem?_push, Array.getElem?_push]
   by_cases hi : i = w.heap.size
   · subst hi; simp
   · rw [if_neg (fun e => hi e.symm), if_neg hi, if_neg hi]
  rw [e2]
  rfl
 simp [Instr.mapUpdate, run_underlying Tryz.underlying123, MapKept.run_getObj_map hb, MapKept.run_checkKey (k := .int .i64 k) Tryz.underlying3 rfl, MapKept.run_findKey Tryz.underlying3 h, MapKept.run_setObj_map _ hb, Result.andThen]
 exact hs
theorem run_look (w : World) (g : Nat) (es : Array MapEntry) (c : Nat) (k : Int) (v : Value) (i : Nat) (hw : w.heap[g]? = some (.map es c)) (h : Instr.findNow (.int .i64) (.int .i64 k) es.toList 0 = some (some (i, v))) :
  (Instr.lookup 123 (.map (some g)) (.int .i64 k) true).run Tryz.prog w = .ok (.tuple #[v, .bool true]) w := by
 simp [Instr.lookup, run_underlying Tryz.underlying123, MapKept.run_getObj_map hw, MapKept.run_checkKey (k := .int .i64 k) Tryz.underlying3 rfl, MapKept.run_findKey Tryz.underlying3 h, Result.andThen]
theorem run_lookn (w : World) (g : Nat) (es : Array MapEntry) (c : Nat) (k : Int) (hw : w.heap[g]? = some (.map es c)) (h : Instr.findNow (.int .i64) (.int .i64 k) es.toList 0 = some none) :
  (Instr.lookup 123 (.map (some g)) (.int .i64 k) true).run Tryz.prog w = .ok (.tuple #[.nilFunc, .bool false]) w := by
 have hz : (zeroValue 1).run Tryz.prog w = .ok .nilFunc w := by kernel_rfl
 simp [Instr.lookup, run_underlying Tryz.underlying123, MapKept.run_getObj_map hw, MapKept.run_checkKey (k := .int .i64 k) Tryz.underlying3 rfl, MapKept.run_findKey Tryz.underlying3 h, Result.andThen, hz]
theorem row_alloc {w : World} {g : Nat} {t : TypeId} {cs : Array Value} (h : RowAt w g t cs) (x : Obj) : RowAt (w.alloc x) g t cs := h.below ((Below.refl w.heap.size w).alloc (Nat.le_refl _) x)
theorem row5 {w : World} {g : Nat} {t : TypeId} {v0 v1 v2 v3 v4 : Value} (h : RowAt w g t #[v0, v1, v2, v3, v4]) : w.cell? ⟨g, 0, none⟩ = some v0 ∧ w.cell? ⟨g, 1, none⟩ = some v1 ∧ w.cell? ⟨g, 2, none⟩ = some v2 ∧ w.cell? ⟨g, 3, none⟩ = some v3 ∧ w.cell? ⟨g, 4, none⟩ = some v4 := by
 refine ⟨?_, ?_, ?_, ?_, ?_⟩
 · have := h.cell 0; simpa using this
 · have := h.cell 1; simpa using this
 · have := h.cell 2; simpa using this
 · have := h.cell 3; simpa using this
 · have := h.cell 4; simpa using this
def okK (res : Except Int (Rec × List Ent)) : Int := match res with | .ok _ => 0 | .error k => k
def okR (r : Rec) (told : List Ent) (res : Except Int (Rec × List Ent)) : Rec × List Ent := match res with | .ok x => x | .error _ => (r, told)
theorem HandR.box {w : World} {base gh : Nat} {A0 As : Option Addr} {n0 c0 ns cs : Nat} {A : Nat → Option Addr} {n c : Nat → Nat} {o : EOp} {At : Option Addr} {nt ct : Nat} {r : Rec} {told : List Ent} {ge : Nat} {z : Int} (h : HandR w base gh A0 As n0 c0 ns cs A n c o At nt ct r told) (hg : RowAt w ge 44 #[.int .i64 z]) (hne : gh ≠ ge) (hz : ge ≠ 0) (v : Value) : HandR (w.setCell ⟨ge, 0, none⟩ v) base gh A0 As n0 c0 ns cs A n c o At nt ct r told := by
 refine ⟨h.row.setNe hne, ((h.all.apart hg hz).stay (StayF.set (fun hf => hf.2 rfl))).up (fun j hj _ => hj.1), own_kept h.own (fun g hg' hl => heap_setCell_ne _ _ _ _ (fun e => ?_)), h.len, h.lo⟩
 obtain ⟨_, cs', h2⟩ := own_typ h.own hg'
 have e : g = ge := e
 subst e
 exact absurd (row_typ h2 hg) (by decide)
theorem PastH.up {gh ge : Nat} {At : Option Addr} {w w' : World} (h : PastH gh At w w') (hg : w.heap.size ≤ ge) (v : Value) : PastH gh At w (w'.setCell ⟨ge, 0, none⟩ v) :=
 ⟨h.os, h.tape, h.output, by have := h.size; simpa using this, fun j hj hl => (heap_setCell_ne _ _ _ _ (fun e => by have e : j = ge := e; omega)).trans (h.block j hj hl)⟩
theorem PastH.trans2 {gh ge : Nat} {k : Int} {C : Array Value} {At : Option Addr} {w w' w2 : World} (h : PastH gh At w w') (hc : CaughtE gh ge k C w' w2) (hg : w.heap.size ≤ ge) : PastH gh At w w2 :=
 ⟨hc.os.trans h.os, hc.tape.trans h.tape, hc.output.trans h.output, Nat.le_trans h.size hc.size, fun j hj hl => (hc.block j hj.1 (by omega) (Nat.lt_of_lt_of_le hl h.size)).trans (h.block j hj hl)⟩
theorem HandR.caught {w w' : World} {base gh ge : Nat} {A0 As : Option Addr} {n0 c0 ns cs : Nat} {A : Nat → Option Addr} {n c : Nat → Nat} {o0 : EOp} {At : Option Addr} {nt ct : Nat} {r : Rec} {told : List Ent} {k z : Int} (h : RecF (OffB base gh At) w A0 As n0 c0 ns cs A n c r) (ho : w.ownsRow base 41 2 (.slice At nt ct) nt (Cs encE told)) (hl : told.length = nt) (hlo : base ≤ gh) (hat : ∀ q, At = some q → q.block ≠ gh) (hg : RowAt w ge 44 #[.int .i64 z]) (hz : ge ≠ 0) (hc : CaughtE gh ge k (handC r.e r.l.E A0 As n0 c0 ns cs A n c o0 At nt ct) w w') : HandR w' base gh A0 As n0 c0 ns cs A n c o0 At nt ct r told := by
 refine ⟨hc.hand, ((h.apart hg hz).stay ⟨hc.size, fun j hj hl => hc.block j hj.1.2.1 hj.2 hl⟩).up (fun j hj _ => hj.1), own_kept ho (fun g hg' hl => hc.block g (fun e => ?_) (fun e => ?_) hl), hl, hlo⟩
 ·
  rw [own_block] at hg'
  cases At with
  | none => cases hg'
  | some q => injection hg' with hg'; exact hat q rfl (hg'.trans e)
 ·
  obtain ⟨_, cs', h2⟩ := own_typ ho hg'
  subst e
  exact absurd (row_typ h2 hg) (by decide)
def EDoesRes (gh base : Nat) (At : Option Addr) (r : Rec) (told : List Ent) (res : Except Int (Rec × List Ent)) (W : World) (e : Ending) (W' : World) : Prop :=
 e = .returned (.int .i64 (okK res)) ∧ (∃ o3, HandX W' base gh o3 (okR r told res).1 (okR r told res).2) ∧ PastH gh At W W'
theorem in0s (w5 : World) (gh : Nat) : (Instr.mapUpdate 123 (.map (some w5.heap.size)) (.int .i64 1) (.func (.func 76) #[.pointer (some ⟨gh, 0, none⟩)] #[])).run Tryz.prog (w5.alloc (.map #[] 0)) = .ok () (w5.alloc (.map #[⟨.int .i64 1, .func (.func 76) #[.pointer (some ⟨gh, 0, none⟩)] #[], 0⟩] 1)) := run_ins w5 #[] 0 1 (.func (.func 76) #[.pointer (some ⟨gh, 0, none⟩)] #[]) rfl
theorem in1s (w5 : World) (gh : Nat) : (Instr.mapUpdate 123 (.map (some w5.heap.size)) (.int .i64 2) (.func (.func 77) #[.pointer (some ⟨gh, 0, none⟩)] #[])).run Tryz.prog (w5.alloc (.map #[⟨.int .i64 1, .func (.func 76) #[.pointer (some ⟨gh, 0, none⟩)] #[], 0⟩] 1)) = .ok () (w5.alloc (.map #[⟨.int .i64 1, .func (.func 76) #[.pointer (some ⟨gh, 0, none⟩)] #[], 0⟩, ⟨.int .i64 2, .func (.func 77) #[.pointer (some ⟨gh, 0, none⟩)] #[], 1⟩] 2)) := run_ins w5 #[⟨.int .i64 1, .func (.func 76) #[.pointer (some ⟨gh, 0, none⟩)] #[], 0⟩] 1 2 (.func (.func 77) #[.pointer (some ⟨gh, 0, none⟩)] #[]) rfl
theorem in2s (w5 : World) (gh : Nat) : (Instr.mapUpdate 123 (.map (some w5.heap.size)) (.int .i64 3) (.func (.func 78) #[.pointer (some ⟨gh, 0, none⟩)] #[])).run Tryz.prog (w5.alloc (.map #[⟨.int .i64 1, .func (.func 76) #[.pointer (some ⟨gh, 0, none⟩)] #[], 0⟩, ⟨.int .i64 2, .func (.func 77) #[.pointer (some ⟨gh, 0, none⟩)] #[], 1⟩] 2)) = .ok () (w5.alloc (.map #[⟨.int .i64 1, .func (.func 76) #[.pointer (some ⟨gh, 0, none⟩)] #[], 0⟩, ⟨.int .i64 2, .func (.func 77) #[.pointer (some ⟨gh, 0, none⟩)] #[], 1⟩, ⟨.int .i64 3, .func (.func 78) #[.pointer (some ⟨gh, 0, none⟩)] #[], 2⟩] 3)) := run_ins w5 #[⟨.int .i64 1, .func (.func 76) #[.pointer (some ⟨gh, 0, none⟩)] #[], 0⟩, ⟨.int .i64 2, .func (.func 77) #[.pointer (some ⟨gh, 0, none⟩)] #[], 1⟩] 2 3 (.func (.func 78) #[.pointer (some ⟨gh, 0, none⟩)] #[]) rfl
theorem in3s (w5 : World) (gh : Nat) : (Instr.mapUpdate 123 (.map (some w5.heap.size)) (.int .i64 4) (.func (.func 79) #[.pointer (some ⟨gh, 0, none⟩)] #[])).run Tryz.prog (w5.alloc (.map #[⟨.int .i64 1, .func (.func 76) #[.pointer (some ⟨gh, 0, none⟩)] #[], 0⟩, ⟨.int .i64 2, .func (.func 77) #[.pointer (some ⟨gh, 0, none⟩)] #[], 1⟩, ⟨.int .i64 3, .func (.func 78) #[.pointer (some ⟨gh, 0, none⟩)] #[], 2⟩] 3)) = .ok () (w5.alloc (.map #[⟨.int .i64 1, .func (.func 76) #[.pointer (some ⟨gh, 0, none⟩)] #[], 0⟩, ⟨.int .i64 2, .func (.func 77) #[.pointer (some ⟨gh, 0, none⟩)] #[], 1⟩, ⟨.int .i64 3, .func (.func 78) #[.pointer (some ⟨gh, 0, none⟩)] #[], 2⟩, ⟨.int .i64 4, .func (.func 79) #[.pointer (some ⟨gh, 0, none⟩)] #[], 3⟩] 4)) := run_ins w5 #[⟨.int .i64 1, .func (.func 76) #[.pointer (some ⟨gh, 0, none⟩)] #[], 0⟩, ⟨.int .i64 2, .func (.func 77) #[.pointer (some ⟨gh, 0, none⟩)] #[], 1⟩, ⟨.int .i64 3, .func (.func 78) #[.pointer (some ⟨gh, 0, none⟩)] #[], 2⟩] 3 4 (.func (.func 79) #[.pointer (some ⟨gh, 0, none⟩)] #[]) rfl
theorem in4s (w5 : World) (gh : Nat) : (Instr.mapUpdate 123 (.map (some w5.heap.size)) (.int .i64 5) (.func (.func 80) #[.pointer (some ⟨gh, 0, none⟩)] #[])).run Tryz.prog (w5.alloc (.map #[⟨.int .i64 1, .func (.func 76) #[.pointer (some ⟨gh, 0, none⟩)] #[], 0⟩, ⟨.int .i64 2, .func (.func 77) #[.pointer (some ⟨gh, 0, none⟩)] #[], 1⟩, ⟨.int .i64 3, .func (.func 78) #[.pointer (some ⟨gh, 0, none⟩)] #[], 2⟩, ⟨.int .i64 4, .func (.func 79) #[.pointer (some ⟨gh, 0, none⟩)] #[], 3⟩] 4)) = .ok () (w5.alloc (.map #[⟨.int .i64 1, .func (.func 76) #[.pointer (some ⟨gh, 0, none⟩)] #[], 0⟩, ⟨.int .i64 2, .func (.func 77) #[.pointer (some ⟨gh, 0, none⟩)] #[], 1⟩, ⟨.int .i64 3, .func (.func 78) #[.pointer (some ⟨gh, 0, none⟩)] #[], 2⟩, ⟨.int .i64 4, .func (.func 79) #[.pointer (some ⟨gh, 0, none⟩)] #[], 3⟩, ⟨.int .i64 5, .func (.func 80) #[.pointer (some ⟨gh, 0, none⟩)] #[], 4⟩] 5)) := run_ins w5 #[⟨.int .i64 1, .func (.func 76) #[.pointer (some ⟨gh, 0, none⟩)] #[], 0⟩, ⟨.int .i64 2, .func (.func 77) #[.pointer (some ⟨gh, 0, none⟩)] #[], 1⟩, ⟨.int .i64 3, .func (.func 78) #[.pointer (some ⟨gh, 0, none⟩)] #[], 2⟩, ⟨.int .i64 4, .func (.func 79) #[.pointer (some ⟨gh, 0, none⟩)] #[], 3⟩] 4 5 (.func (.func 80) #[.pointer (some ⟨gh, 0, none⟩)] #[]) rfl
theorem in5s (w5 : World) (gh : Nat) : (Instr.mapUpdate 123 (.map (some w5.heap.size)) (.int .i64 6) (.func (.func 81) #[.pointer (some ⟨gh, 0, none⟩)] #[])).run Tryz.prog (w5.alloc (.map #[⟨.int .i64 1, .func (.func 76) #[.pointer (some ⟨gh, 0, none⟩)] #[], 0⟩, ⟨.int .i64 2, .func (.func 77) #[.pointer (some ⟨gh, 0, none⟩)] #[], 1⟩, ⟨.int .i64 3, .func (.func 78) #[.pointer (some ⟨gh, 0, none⟩)] #[], 2⟩, ⟨.int .i64 4, .func (.func 79) #[.pointer (some ⟨gh, 0, none⟩)] #[], 3⟩, ⟨.int .i64 5, .func (.func 80) #[.pointer (some ⟨gh, 0, none⟩)] #[], 4⟩] 5)) = .ok () (w5.alloc (.map #[⟨.int .i64 1, .func (.func 76) #[.pointer (some ⟨gh, 0, none⟩)] #[], 0⟩, ⟨.int .i64 2, .func (.func 77) #[.pointer (some ⟨gh, 0, none⟩)] #[], 1⟩, ⟨.int .i64 3, .func (.func 78) #[.pointer (some ⟨gh, 0, none⟩)] #[], 2⟩, ⟨.int .i64 4, .func (.func 79) #[.pointer (some ⟨gh, 0, none⟩)] #[], 3⟩, ⟨.int .i64 5, .func (.func 80) #[.pointer (some ⟨gh, 0, none⟩)] #[], 4⟩, ⟨.int .i64 6, .func (.func 81) #[.pointer (some ⟨gh, 0, none⟩)] #[], 5⟩] 6)) := run_ins w5 #[⟨.int .i64 1, .func (.func 76) #[.pointer (some ⟨gh, 0, none⟩)] #[], 0⟩, ⟨.int .i64 2, .func (.func 77) #[.pointer (some ⟨gh, 0, none⟩)] #[], 1⟩, ⟨.int .i64 3, .func (.func 78) #[.pointer (some ⟨gh, 0, none⟩)] #[], 2⟩, ⟨.int .i64 4, .func (.func 79) #[.pointer (some ⟨gh, 0, none⟩)] #[], 3⟩, ⟨.int .i64 5, .func (.func 80) #[.pointer (some ⟨gh, 0, none⟩)] #[], 4⟩] 5 6 (.func (.func 81) #[.pointer (some ⟨gh, 0, none⟩)] #[]) rfl
theorem in6s (w5 : World) (gh : Nat) : (Instr.mapUpdate 123 (.map (some w5.heap.size)) (.int .i64 7) (.func (.func 82) #[.pointer (some ⟨gh, 0, none⟩)] #[])).run Tryz.prog (w5.alloc (.map #[⟨.int .i64 1, .func (.func 76) #[.pointer (some ⟨gh, 0, none⟩)] #[], 0⟩, ⟨.int .i64 2, .func (.func 77) #[.pointer (some ⟨gh, 0, none⟩)] #[], 1⟩, ⟨.int .i64 3, .func (.func 78) #[.pointer (some ⟨gh, 0, none⟩)] #[], 2⟩, ⟨.int .i64 4, .func (.func 79) #[.pointer (some ⟨gh, 0, none⟩)] #[], 3⟩, ⟨.int .i64 5, .func (.func 80) #[.pointer (some ⟨gh, 0, none⟩)] #[], 4⟩, ⟨.int .i64 6, .func (.func 81) #[.pointer (some ⟨gh, 0, none⟩)] #[], 5⟩] 6)) = .ok () (w5.alloc (.map #[⟨.int .i64 1, .func (.func 76) #[.pointer (some ⟨gh, 0, none⟩)] #[], 0⟩, ⟨.int .i64 2, .func (.func 77) #[.pointer (some ⟨gh, 0, none⟩)] #[], 1⟩, ⟨.int .i64 3, .func (.func 78) #[.pointer (some ⟨gh, 0, none⟩)] #[], 2⟩, ⟨.int .i64 4, .func (.func 79) #[.pointer (some ⟨gh, 0, none⟩)] #[], 3⟩, ⟨.int .i64 5, .func (.func 80) #[.pointer (some ⟨gh, 0, none⟩)] #[], 4⟩, ⟨.int .i64 6, .func (.func 81) #[.pointer (some ⟨gh, 0, none⟩)] #[], 5⟩, ⟨.int .i64 7, .func (.func 82) #[.pointer (some ⟨gh, 0, none⟩)] #[], 6⟩] 7)) := run_ins w5 #[⟨.int .i64 1, .func (.func 76) #[.pointer (some ⟨gh, 0, none⟩)] #[], 0⟩, ⟨.int .i64 2, .func (.func 77) #[.pointer (some ⟨gh, 0, none⟩)] #[], 1⟩, ⟨.int .i64 3, .func (.func 78) #[.pointer (some ⟨gh, 0, none⟩)] #[], 2⟩, ⟨.int .i64 4, .func (.func 79) #[.pointer (some ⟨gh, 0, none⟩)] #[], 3⟩, ⟨.int .i64 5, .func (.func 80) #[.pointer (some ⟨gh, 0, none⟩)] #[], 4⟩, ⟨.int .i64 6, .func (.func 81) #[.pointer (some ⟨gh, 0, none⟩)] #[], 5⟩] 6 7 (.func (.func 82) #[.pointer (some ⟨gh, 0, none⟩)] #[]) rfl
set_option maxRecDepth 100000 in
theorem does_way (F i : Nat) (base gh : Nat) (A0 As : Option Addr) (n0 c0 ns cs : Nat) (A : Nat → Option Addr) (n c : Nat → Nat) (o0 o : EOp) (At : Option Addr) (nt ct : Nat) (r : Rec) (told : List Ent) (W : World) (h : HandR W base gh A0 As n0 c0 ns cs A n c o0 At nt ct r told) (res : Except Int (Rec × List Ent))
  (hk : Instr.findNow (.int .i64) (.int .i64 o.k) (kindsE gh).toList 0 = some (some (i, .func (.func F) #[.pointer (some ⟨gh, 0, none⟩)] #[])))
  (hg : ∀ args w, (callFunc F args).run Tryz.prog w = .ok (.enter F args) w)
  (HC : ∀ w, HandR w base gh A0 As n0 c0 ns cs A n c o At nt ct r told → Calls Tryz.prog F #[.pointer (some ⟨gh, 0, none⟩)] w (MthRes gh base o At res w)) :
  Calls Tryz.prog 48 #[.pointer (some ⟨gh, 0, none⟩), .agg #[.int .i64 o.k, .int .i64 o.g, .int .u64 o.b, .int .i64 o.x.1, .int .u64 o.x.2]] W (EDoesRes gh base At r told res W) := by
 have H := Hi h
 have HCC := Hi HC
 have HKK := Hi hk
 clear h HC hk
 go_enter_defers Tryz.func48, Tryz.ntmps48
 go_upto_region 1 with (fail)
 have b1 : Below W.heap.size W (((W.alloc (.cells #[.pointer (some ⟨gh, 0, none⟩)] 91)).alloc (.cells #[.int .i64 o.k, .int .i64 o.g, .int .u64 o.b, .int .i64 o.x.1, .int .u64 o.x.2] 43)).alloc (.cells #[.int .i64 0] 44)) := (((Below.refl _ _).alloc (Nat.le_refl _) _).alloc (by simp) _).alloc (by simp; omega) _
 have al := al3 W #[.pointer (some ⟨gh, 0, none⟩)] 91 #[.int .i64 o.k, .int .i64 o.g, .int .u64 o.b, .int .i64 o.x.1, .int .u64 o.x.2] 43 #[.int .i64 0] 44
 have RP := Hi al.1.1
 clear al
 have RO := Hi (show RowAt (((W.alloc (.cells #[.pointer (some ⟨gh, 0, none⟩)] 91)).alloc (.cells #[.int .i64 o.k, .int .i64 o.g, .int .u64 o.b, .int .i64 o.x.1, .int .u64 o.x.2] 43)).alloc (.cells #[.int .i64 0] 44)) (W.heap.size + 1) 43 #[.int .i64 o.k, .int .i64 o.g, .int .u64 o.b, .int .i64 o.x.1, .int .u64 o.x.2] from by
  have h := row_alloc (RowAt.new (W.alloc (.cells #[.pointer (some ⟨gh, 0, none⟩)] 91)) 43 #[.int .i64 o.k, .int .i64 o.g, .int .u64 o.b, .int .i64 o.x.1, .int .u64 o.x.2]) (.cells #[.int .i64 0] 44)
  rw [World.size_alloc] at h; exact h)
 have RE := Hi (show RowAt (((W.alloc (.cells #[.pointer (some ⟨gh, 0, none⟩)] 91)).alloc (.cells #[.int .i64 o.k, .int .i64 o.g, .int .u64 o.b, .int .i64 o.x.1, .int .u64 o.x.2] 43)).alloc (.cells #[.int .i64 0] 44)) (W.heap.size + 1 + 1) 44 #[.int .i64 0] from by
  have h := RowAt.new ((W.alloc (.cells #[.pointer (some ⟨gh, 0, none⟩)] 91)).alloc (.cells #[.int .i64 o.k, .int .i64 o.g, .int .u64 o.b, .int .i64 o.x.1, .int .u64 o.x.2] 43)) 44 #[.int .i64 0]
  rw [World.size_alloc, World.size_alloc] at h; exact h)
 have HS1 := Hi (show (((W.alloc (.cells #[.pointer (some ⟨gh, 0, none⟩)] 91)).alloc (.cells #[.int .i64 o.k, .int .i64 o.g, .int .u64 o.b, .int .i64 o.x.1, .int .u64 o.x.2] 43)).alloc (.cells #[.int .i64 0] 44)).heap.size = W.heap.size + 3 from by simp)
 have HB1 := Hi b1
 have H1 := Hi (H.out.below b1)
 have HWL := Hi H.out.row.lt
 clear b1
 generalize ((W.alloc _).alloc _).alloc _ = w1 at *
 obtain ⟨z0, z1, z2, z3, z4, z5, z6, z7, z8, z9, z10, z11, z12⟩ := row13 H1.out.row
 have zl := H1.out.row.lt
 have p0 := row1 RP.out
 have pl := RP.out.lt
 go_upto_region 2 with (fail)
 have RW := Hi (RowAt.new w1 95 (handC r.e r.l.E A0 As n0 c0 ns cs A n c o0 At nt ct))
 have HB2 := Hi ((Below.refl w1.heap.size w1).alloc (Nat.le_refl _) (.cells (handC r.e r.l.E A0 As n0 c0 ns cs A n c o0 At nt ct) 95))
 obtain ⟨w2, hw2⟩ : ∃ w2, w1.alloc (.cells (handC r.e r.l.E A0 As n0 c0 ns cs A n c o0 At nt ct) 95) = w2 := ⟨_, rfl⟩
 dsimp only [handC] at hw2
 rw [hw2]
 rw [show w1.alloc (.cells (handC r.e r.l.E A0 As n0 c0 ns cs A n c o0 At nt ct) 95) = w2 from hw2] at RW HB2
 have HS2 := Hi (show w2.heap.size = w1.heap.size + 1 from by rw [← hw2]; simp)
 clear hw2 z0 z1 z2 z3 z4 z5 z6 z7 z8 z9 z10 z11 z12 zl p0 pl
 have H2 := Hi (H1.out.below HB2.out)
 have RP2 := Hi (RP.out.below HB2.out)
 have RO2 := Hi (RO.out.below HB2.out)
 have RE2 := Hi (RE.out.below HB2.out)
 obtain ⟨gw, hgw⟩ : ∃ gw, w1.heap.size = gw := ⟨_, rfl⟩
 rw [hgw] at RW HS2 ⊢
 obtain ⟨z0, z1, z2, z3, z4, z5, z6, z7, z8, z9, z10, z11, z12⟩ := row13 H2.out.row
 have zl := H2.out.row.lt
 have zf7 := H2.out.row.frozen 7
 have zf8 := H2.out.row.frozen 8
 have zf9 := H2.out.row.frozen 9
 have zf10 := H2.out.row.frozen 10
 have zf11 := H2.out.row.frozen 11
 have p0 := row1 RP2.out
 have pl := RP2.out.lt
 obtain ⟨y0, y1, y2, y3, y4⟩ := row5 RO2.out
 have yl := RO2.out.lt
 go_upto_region 4 with (fail)
 have hp5 : Past gh w2 (((((w2.setCell ⟨gh, 7, none⟩ (.int .i64 o.k)).setCell ⟨gh, 8, none⟩ (.int .i64 o.g)).setCell ⟨gh, 9, none⟩ (.int .u64 o.b)).setCell ⟨gh, 10, none⟩ (.int .i64 o.x.1)).setCell ⟨gh, 11, none⟩ (.int .u64 o.x.2)) := ((((Past.set 7 (.int .i64 o.k)).trans (Past.set 8 (.int .i64 o.g))).trans (Past.set 9 (.int .u64 o.b))).trans (Past.set 10 (.int .i64 o.x.1))).trans (Past.set 11 (.int .u64 o.x.2))
 have hr5 : RowAt (((((w2.setCell ⟨gh, 7, none⟩ (.int .i64 o.k)).setCell ⟨gh, 8, none⟩ (.int .i64 o.g)).setCell ⟨gh, 9, none⟩ (.int .u64 o.b)).setCell ⟨gh, 10, none⟩ (.int .i64 o.x.1)).setCell ⟨gh, 11, none⟩ (.int .u64 o.x.2)) gh 95 (handC r.e r.l.E A0 As n0 c0 ns cs A n c o At nt ct) := by
  have h := ((((H2.out.row.set 7 (.int .i64 o.k)).set 8 (.int .i64 o.g)).set 9 (.int .u64 o.b)).set 10 (.int .i64 o.x.1)).set 11 (.int .u64 o.x.2)
  simpa using h
 have H5 := Hi (H2.out.past hp5 hr5 H2.out.all)
 have HP5 := Hi hp5
 clear hp5 hr5 z0 z1 z2 z3 z4 z5 z6 z7 z8 z9 z10 z11 z12 zl zf7 zf8 zf9 zf10 zf11 p0 pl y0 y1 y2 y3 y4 yl
 generalize ((((w2.setCell _ _).setCell _ _).setCell _ _).setCell _ _).setCell _ _ = w5 at *
 have HGW := Hi (show gw < w2.heap.size from by rw [HS2.out]; omega)
 have hne : W.heap.size ≠ gh := by have := HWL.out; omega
 have hneo : W.heap.size + 1 ≠ gh := by have := HWL.out; omega
 have hnee : W.heap.size + 1 + 1 ≠ gh := by have := HWL.out; omega
 have hnew : gw ≠ gh := by have := HWL.out; have := HS1.out; have := HB1.out.size; omega
 have RP5 := Hi (RP2.out.past HP5.out hne)
 have RO5 := Hi (RO2.out.past HP5.out hneo)
 have RE5 := Hi (RE2.out.past HP5.out hnee)
 have RW5 := Hi (RW.out.past HP5.out hnew)
 have mk := run_makeMap (P := Tryz.prog) 123 w5
 obtain ⟨pc0, pl0⟩ := rl (row_alloc RP5.out (.map #[] 0))
 obtain ⟨pc1, pl1⟩ := rl (row_alloc RP5.out (.map #[⟨.int .i64 1, .func (.func 76) #[.pointer (some ⟨gh, 0, none⟩)] #[], 0⟩] 1))
 obtain ⟨pc2, pl2⟩ := rl (row_alloc RP5.out (.map #[⟨.int .i64 1, .func (.func 76) #[.pointer (some ⟨gh, 0, none⟩)] #[], 0⟩, ⟨.int .i64 2, .func (.func 77) #[.pointer (some ⟨gh, 0, none⟩)] #[], 1⟩] 2))
 obtain ⟨pc3, pl3⟩ := rl (row_alloc RP5.out (.map #[⟨.int .i64 1, .func (.func 76) #[.pointer (some ⟨gh, 0, none⟩)] #[], 0⟩, ⟨.int .i64 2, .func (.func 77) #[.pointer (some ⟨gh, 0, none⟩)] #[], 1⟩, ⟨.int .i64 3, .func (.func 78) #[.pointer (some ⟨gh, 0, none⟩)] #[], 2⟩] 3))
 obtain ⟨pc4, pl4⟩ := rl (row_alloc RP5.out (.map #[⟨.int .i64 1, .func (.func 76) #[.pointer (some ⟨gh, 0, none⟩)] #[], 0⟩, ⟨.int .i64 2, .func (.func 77) #[.pointer (some ⟨gh, 0, none⟩)] #[], 1⟩, ⟨.int .i64 3, .func (.func 78) #[.pointer (some ⟨gh, 0, none⟩)] #[], 2⟩, ⟨.int .i64 4, .func (.func 79) #[.pointer (some ⟨gh, 0, none⟩)] #[], 3⟩] 4))
 obtain ⟨pc5, pl5⟩ := rl (row_alloc RP5.out (.map #[⟨.int .i64 1, .func (.func 76) #[.pointer (some ⟨gh, 0, none⟩)] #[], 0⟩, ⟨.int .i64 2, .func (.func 77) #[.pointer (some ⟨gh, 0, none⟩)] #[], 1⟩, ⟨.int .i64 3, .func (.func 78) #[.pointer (some ⟨gh, 0, none⟩)] #[], 2⟩, ⟨.int .i64 4, .func (.func 79) #[.pointer (some ⟨gh, 0, none⟩)] #[], 3⟩, ⟨.int .i64 5, .func (.func 80) #[.pointer (some ⟨gh, 0, none⟩)] #[], 4⟩] 5))
 obtain ⟨pc6, pl6⟩ := rl (row_alloc RP5.out (.map #[⟨.int .i64 1, .func (.func 76) #[.pointer (some ⟨gh, 0, none⟩)] #[], 0⟩, ⟨.int .i64 2, .func (.func 77) #[.pointer (some ⟨gh, 0, none⟩)] #[], 1⟩, ⟨.int .i64 3, .func (.func 78) #[.pointer (some ⟨gh, 0, none⟩)] #[], 2⟩, ⟨.int .i64 4, .func (.func 79) #[.pointer (some ⟨gh, 0, none⟩)] #[], 3⟩, ⟨.int .i64 5, .func (.func 80) #[.pointer (some ⟨gh, 0, none⟩)] #[], 4⟩, ⟨.int .i64 6, .func (.func 81) #[.pointer (some ⟨gh, 0, none⟩)] #[], 5⟩] 6))
 obtain ⟨pc7, pl7⟩ := rl (row_alloc RP5.out (.map #[⟨.int .i64 1, .func (.func 76) #[.pointer (some ⟨gh, 0, none⟩)] #[], 0⟩, ⟨.int .i64 2, .func (.func 77) #[.pointer (some ⟨gh, 0, none⟩)] #[], 1⟩, ⟨.int .i64 3, .func (.func 78) #[.pointer (some ⟨gh, 0, none⟩)] #[], 2⟩, ⟨.int .i64 4, .func (.func 79) #[.pointer (some ⟨gh, 0, none⟩)] #[], 3⟩, ⟨.int .i64 5, .func (.func 80) #[.pointer (some ⟨gh, 0, none⟩)] #[], 4⟩, ⟨.int .i64 6, .func (.func 81) #[.pointer (some ⟨gh, 0, none⟩)] #[], 5⟩, ⟨.int .i64 7, .func (.func 82) #[.pointer (some ⟨gh, 0, none⟩)] #[], 6⟩] 7))
 have in0 := in0s w5 gh
 have in1 := in1s w5 gh
 have in2 := in2s w5 gh
 have in3 := in3s w5 gh
 have in4 := in4s w5 gh
 have in5 := in5s w5 gh
 have in6 := in6s w5 gh
 go_upto_region 5 with (fail)
 have lk := run_look (w5.alloc (.map #[⟨.int .i64 1, .func (.func 76) #[.pointer (some ⟨gh, 0, none⟩)] #[], 0⟩, ⟨.int .i64 2, .func (.func 77) #[.pointer (some ⟨gh, 0, none⟩)] #[], 1⟩, ⟨.int .i64 3, .func (.func 78) #[.pointer (some ⟨gh, 0, none⟩)] #[], 2⟩, ⟨.int .i64 4, .func (.func 79) #[.pointer (some ⟨gh, 0, none⟩)] #[], 3⟩, ⟨.int .i64 5, .func (.func 80) #[.pointer (some ⟨gh, 0, none⟩)] #[], 4⟩, ⟨.int .i64 6, .func (.func 81) #[.pointer (some ⟨gh, 0, none⟩)] #[], 5⟩, ⟨.int .i64 7, .func (.func 82) #[.pointer (some ⟨gh, 0, none⟩)] #[], 6⟩] 7)) w5.heap.size #[⟨.int .i64 1, .func (.func 76) #[.pointer (some ⟨gh, 0, none⟩)] #[], 0⟩, ⟨.int .i64 2, .func (.func 77) #[.pointer (some ⟨gh, 0, none⟩)] #[], 1⟩, ⟨.int .i64 3, .func (.func 78) #[.pointer (some ⟨gh, 0, none⟩)] #[], 2⟩, ⟨.int .i64 4, .func (.func 79) #[.pointer (some ⟨gh, 0, none⟩)] #[], 3⟩, ⟨.int .i64 5, .func (.func 80) #[.pointer (some ⟨gh, 0, none⟩)] #[], 4⟩, ⟨.int .i64 6, .func (.func 81) #[.pointer (some ⟨gh, 0, none⟩)] #[], 5⟩, ⟨.int .i64 7, .func (.func 82) #[.pointer (some ⟨gh, 0, none⟩)] #[], 6⟩] 7 o.k _ i (heap_alloc_new w5 _) HKK.out
 have b6 := ba w5 (.map #[⟨.int .i64 1, .func (.func 76) #[.pointer (some ⟨gh, 0, none⟩)] #[], 0⟩, ⟨.int .i64 2, .func (.func 77) #[.pointer (some ⟨gh, 0, none⟩)] #[], 1⟩, ⟨.int .i64 3, .func (.func 78) #[.pointer (some ⟨gh, 0, none⟩)] #[], 2⟩, ⟨.int .i64 4, .func (.func 79) #[.pointer (some ⟨gh, 0, none⟩)] #[], 3⟩, ⟨.int .i64 5, .func (.func 80) #[.pointer (some ⟨gh, 0, none⟩)] #[], 4⟩, ⟨.int .i64 6, .func (.func 81) #[.pointer (some ⟨gh, 0, none⟩)] #[], 5⟩, ⟨.int .i64 7, .func (.func 82) #[.pointer (some ⟨gh, 0, none⟩)] #[], 6⟩] 7)
 have H6 := Hi (H5.out.below b6)
 have HB6 := Hi b6
 have RP6 := Hi (RP5.out.below b6)
 have RO6 := Hi (RO5.out.below b6)
 have RE6 := Hi (RE5.out.below b6)
 have RW6 := Hi (RW5.out.below b6)
 clear pc0 pl0 pc1 pl1 pc2 pl2 pc3 pl3 pc4 pl4 pc5 pl5 pc6 pl6 pc7 pl7 in0 in1 in2 in3 in4 in5 in6 mk b6
 generalize w5.alloc _ = w6 at *
 obtain ⟨y0, y1, y2, y3, y4⟩ := row5 RO6.out
 have yl := RO6.out.lt
 go_upto_region 6 with (fail)
 go_wp2_with fail
 with_reducible refine (eneed_ok 251 w6).mono ?_
 rintro e w7 ⟨rfl, rfl⟩
 go_wp2_with fail
 have HP6 := Hi ((((PastH.of_below (gh := gh) (At := At) HB1.out).trans (PastH.of_below HB2.out)).trans (PastH.of_past HP5.out)).trans (PastH.of_below HB6.out))
 have HAT := Hi (told_lt H.out.own)
 have HNEE := Hi hnee
 have hoff : ∀ k, W.heap.size + k ≠ gh → Off gh At (W.heap.size + k) := fun k hk => ⟨hk, fun q hq => by have := (HAT.out q hq).2; omega⟩
 have HATG := Hi (told_ne H6.out.own H6.out.row)
 refine (HCC.out w6 H6.out).mono ?_
 rintro e w8 (⟨r', t', hr, rfl, hx, hp⟩ | ⟨k, hr, rfl, ⟨cs8, hc8, hs8⟩, hp⟩)
 focus
  have re8 : RowAt w8 (W.heap.size + 1 + 1) 44 #[.int .i64 0] := RE6.out.heap (hp.block _ (hoff 2 hnee) RE6.out.lt)
  have HX := Hi hx
  have HP8 := Hi (HP6.out.trans hp)
  have c2 := row1 re8
  have f2 := re8.frozen 0
  have l2 := re8.lt
  have RE8 := Hi re8
  clear hx hp re8 HCC HKK
  subst hr
  go_wp2_with fail
  refine leaves_cons (f := 75) (args := #[.pointer (some ⟨gw, 0, none⟩), .pointer (some ⟨W.heap.size, 0, none⟩), .pointer (some ⟨W.heap.size + 1 + 1, 0, none⟩)]) (by simp) (by simp [go_sem]) ?_
  refine (ecatch_idle ⟨gw, 0, none⟩ ⟨W.heap.size, 0, none⟩ ⟨W.heap.size + 1 + 1, 0, none⟩ _).mono ?_
  rintro x u' w'' ⟨rfl, rfl, rfl⟩
  have hr2 : RowAt (w8.setCell ⟨W.heap.size + 1 + 1, 0, none⟩ (.int .i64 0)) (W.heap.size + 1 + 1) 44 #[.int .i64 0] := by have h := RE8.out.set 0 (.int .i64 0); simpa using h
  have hpF := HP8.out.up (ge := W.heap.size + 1 + 1) (by omega) (.int .i64 0)
  obtain ⟨a0, a1, a2, a3, a4, a5, a6, a7, a8, a9, a10, a11, H8⟩ := HX.out
  have hxF := H8.box RE8.out (Ne.symm HNEE.out) (by omega) (.int .i64 0)
  generalize w8.setCell _ _ = wF at *
 rotate_left
 focus
  have re8 : RowAt w8 (W.heap.size + 1 + 1) 44 #[.int .i64 0] := RE6.out.past hp hnee
  have RE8 := Hi re8
  have RW8 := Hi (RW6.out.past hp hnew)
  have RP8 := Hi (RP6.out.past hp hne)
  have HC8 := Hi hc8
  have HS8 := Hi hs8
  have HP8 := Hi (HP6.out.trans (PastH.of_past hp))
  have HA8 := Hi (H6.out.all.stay ((PastH.of_past (At := At) hp).stayB base))
  have HO8 := Hi (own_kept H6.out.own (fun g hg' hl => hp.block g (fun e => by
   rw [own_block] at hg'
   cases At with
   | none => cases hg'
   | some q => injection hg' with hg'; exact HATG.out q rfl (hg'.trans e)) hl))
  subst hr
  clear re8 hc8 hs8 hp HCC HKK
  dsimp only
  refine leaves_cons (f := 75) (args := #[.pointer (some ⟨gw, 0, none⟩), .pointer (some ⟨W.heap.size, 0, none⟩), .pointer (some ⟨W.heap.size + 1 + 1, 0, none⟩)]) (by simp) (by simp [go_sem]) ?_
  refine (ecatch_err gw W.heap.size (W.heap.size + 1 + 1) gh k _ _ _ _ _ _ _ _ _ _ _ _ _ (by simp [Value.oneCell']) cs8 w8 RW8.out RP8.out RE8.out HC8.out HS8.out (Ne.symm HNEE.out)).mono ?_
  rintro x u' w'' ⟨rfl, rfl, hca⟩
  have hxF := HandR.caught HA8.out HO8.out H.out.len H.out.lo HATG.out RE8.out (by omega) hca
  have hr2 := hca.err
  have hpF : PastH gh At W w'' := HP8.out.trans2 hca (by omega)
 rotate_left
 all_goals
  simp [Leaves, settle, results, Tryz.results48, go_sem, row1 hr2, hr2.lt]
  exact ⟨rfl, ⟨_, _, _, _, _, _, _, _, _, _, _, _, _, hxF⟩, hpF⟩
set_option maxRecDepth 100000 in
theorem does_bad (base gh : Nat) (A0 As : Option Addr) (n0 c0 ns cs : Nat) (A : Nat → Option Addr) (n c : Nat → Nat) (o0 o : EOp) (At : Option Addr) (nt ct : Nat) (r : Rec) (told : List Ent) (W : World) (h : HandR W base gh A0 As n0 c0 ns cs A n c o0 At nt ct r told)
  (hk : Instr.findNow (.int .i64) (.int .i64 o.k) (kindsE gh).toList 0 = some none) :
  Calls Tryz.prog 48 #[.pointer (some ⟨gh, 0, none⟩), .agg #[.int .i64 o.k, .int .i64 o.g, .int .u64 o.b, .int .i64 o.x.1, .int .u64 o.x.2]] W (EDoesRes gh base At r told (.error 251) W) := by
 have H := Hi h
 have HKK := Hi hk
 clear h hk
 go_enter_defers Tryz.func48, Tryz.ntmps48
 go_upto_region 1 with (fail)
 have b1 : Below W.heap.size W (((W.alloc (.cells #[.pointer (some ⟨gh, 0, none⟩)] 91)).alloc (.cells #[.int .i64 o.k, .int .i64 o.g, .int .u64 o.b, .int .i64 o.x.1, .int .u64 o.x.2] 43)).alloc (.cells #[.int .i64 0] 44)) := (((Below.refl _ _).alloc (Nat.le_refl _) _).alloc (by simp) _).alloc (by simp; omega) _
 have al := al3 W #[.pointer (some ⟨gh, 0, none⟩)] 91 #[.int .i64 o.k, .int .i64 o.g, .int .u64 o.b, .int .i64 o.x.1, .int .u64 o.x.2] 43 #[.int .i64 0] 44
 have RP := Hi al.1.1
 clear al
 have RO := Hi (show RowAt (((W.alloc (.cells #[.pointer (some ⟨gh, 0, none⟩)] 91)).alloc (.cells #[.int .i64 o.k, .int .i64 o.g, .int .u64 o.b, .int .i64 o.x.1, .int .u64 o.x.2] 43)).alloc (.cells #[.int .i64 0] 44)) (W.heap.size + 1) 43 #[.int .i64 o.k, .int .i64 o.g, .int .u64 o.b, .int .i64 o.x.1, .int .u64 o.x.2] from by
  have h := row_alloc (RowAt.new (W.alloc (.cells #[.pointer (some ⟨gh, 0, none⟩)] 91)) 43 #[.int .i64 o.k, .int .i64 o.g, .int .u64 o.b, .int .i64 o.x.1, .int .u64 o.x.2]) (.cells #[.int .i64 0] 44)
  rw [World.size_alloc] at h; exact h)
 have RE := Hi (show RowAt (((W.alloc (.cells #[.pointer (some ⟨gh, 0, none⟩)] 91)).alloc (.cells #[.int .i64 o.k, .int .i64 o.g, .int .u64 o.b, .int .i64 o.x.1, .int .u64 o.x.2] 43)).alloc (.cells #[.int .i64 0] 44)) (W.heap.size + 1 + 1) 44 #[.int .i64 0] from by
  have h := RowAt.new ((W.alloc (.cells #[.pointer (some ⟨gh, 0, none⟩)] 91)).alloc (.cells #[.int .i64 o.k, .int .i64 o.g, .int .u64 o.b, .int .i64 o.x.1, .int .u64 o.x.2] 43)) 44 #[.int .i64 0]
  rw [World.size_alloc, World.size_alloc] at h; exact h)
 have HS1 := Hi (show (((W.alloc (.cells #[.pointer (some ⟨gh, 0, none⟩)] 91)).alloc (.cells #[.int .i64 o.k, .int .i64 o.g, .int .u64 o.b, .int .i64 o.x.1, .int .u64 o.x.2] 43)).alloc (.cells #[.int .i64 0] 44)).heap.size = W.heap.size + 3 from by simp)
 have HB1 := Hi b1
 have H1 := Hi (H.out.below b1)
 have HWL := Hi H.out.row.lt
 clear b1
 generalize ((W.alloc _).alloc _).alloc _ = w1 at *
 obtain ⟨z0, z1, z2, z3, z4, z5, z6, z7, z8, z9, z10, z11, z12⟩ := row13 H1.out.row
 have zl := H1.out.row.lt
 have p0 := row1 RP.out
 have pl := RP.out.lt
 go_upto_region 2 with (fail)
 have RW := Hi (RowAt.new w1 95 (handC r.e r.l.E A0 As n0 c0 ns cs A n c o0 At nt ct))
 have HB2 := Hi ((Below.refl w1.heap.size w1).alloc (Nat.le_refl _) (.cells (handC r.e r.l.E A0 As n0 c0 ns cs A n c o0 At nt ct) 95))
 obtain ⟨w2, hw2⟩ : ∃ w2, w1.alloc (.cells (handC r.e r.l.E A0 As n0 c0 ns cs A n c o0 At nt ct) 95) = w2 := ⟨_, rfl⟩
 dsimp only [handC] at hw2
 rw [hw2]
 rw [show w1.alloc (.cells (handC r.e r.l.E A0 As n0 c0 ns cs A n c o0 At nt ct) 95) = w2 from hw2] at RW HB2
 have HS2 := Hi (show w2.heap.size = w1.heap.size + 1 from by rw [← hw2]; simp)
 clear hw2 z0 z1 z2 z3 z4 z5 z6 z7 z8 z9 z10 z11 z12 zl p0 pl
 have H2 := Hi (H1.out.below HB2.out)
 have RP2 := Hi (RP.out.below HB2.out)
 have RO2 := Hi (RO.out.below HB2.out)
 have RE2 := Hi (RE.out.below HB2.out)
 obtain ⟨gw, hgw⟩ : ∃ gw, w1.heap.size = gw := ⟨_, rfl⟩
 rw [hgw] at RW HS2 ⊢
 obtain ⟨z0, z1, z2, z3, z4, z5, z6, z7, z8, z9, z10, z11, z12⟩ := row13 H2.out.row
 have zl := H2.out.row.lt
 have zf7 := H2.out.row.frozen 7
 have zf8 := H2.out.row.frozen 8
 have zf9 := H2.out.row.frozen 9
 have zf10 := H2.out.row.frozen 10
 have zf11 := H2.out.row.frozen 11
 have p0 := row1 RP2.out
 have pl := RP2.out.lt
 obtain ⟨y0, y1, y2, y3, y4⟩ := row5 RO2.out
 have yl := RO2.out.lt
 go_upto_region 4 with (fail)
 have hp5 : Past gh w2 (((((w2.setCell ⟨gh, 7, none⟩ (.int .i64 o.k)).setCell ⟨gh, 8, none⟩ (.int .i64 o.g)).setCell ⟨gh, 9, none⟩ (.int .u64 o.b)).setCell ⟨gh, 10, none⟩ (.int .i64 o.x.1)).setCell ⟨gh, 11, none⟩ (.int .u64 o.x.2)) := ((((Past.set 7 (.int .i64 o.k)).trans (Past.set 8 (.int .i64 o.g))).trans (Past.set 9 (.int .u64 o.b))).trans (Past.set 10 (.int .i64 o.x.1))).trans (Past.set 11 (.int .u64 o.x.2))
 have hr5 : RowAt (((((w2.setCell ⟨gh, 7, none⟩ (.int .i64 o.k)).setCell ⟨gh, 8, none⟩ (.int .i64 o.g)).setCell ⟨gh, 9, none⟩ (.int .u64 o.b)).setCell ⟨gh, 10, none⟩ (.int .i64 o.x.1)).setCell ⟨gh, 11, none⟩ (.int .u64 o.x.2)) gh 95 (handC r.e r.l.E A0 As n0 c0 ns cs A n c o At nt ct) := by
  have h := ((((H2.out.row.set 7 (.int .i64 o.k)).set 8 (.int .i64 o.g)).set 9 (.int .u64 o.b)).set 10 (.int .i64 o.x.1)).set 11 (.int .u64 o.x.2)
  simpa using h
 have H5 := Hi (H2.out.past hp5 hr5 H2.out.all)
 have HP5 := Hi hp5
 clear hp5 hr5 z0 z1 z2 z3 z4 z5 z6 z7 z8 z9 z10 z11 z12 zl zf7 zf8 zf9 zf10 zf11 p0 pl y0 y1 y2 y3 y4 yl
 generalize ((((w2.setCell _ _).setCell _ _).setCell _ _).setCell _ _).setCell _ _ = w5 at *
 have HGW := Hi (show gw < w2.heap.size from by rw [HS2.out]; omega)
 have hne : W.heap.size ≠ gh := by have := HWL.out; omega
 have hneo : W.heap.size + 1 ≠ gh := by have := HWL.out; omega
 have hnee : W.heap.size + 1 + 1 ≠ gh := by have := HWL.out; omega
 have hnew : gw ≠ gh := by have := HWL.out; have := HS1.out; have := HB1.out.size; omega
 have RP5 := Hi (RP2.out.past HP5.out hne)
 have RO5 := Hi (RO2.out.past HP5.out hneo)
 have RE5 := Hi (RE2.out.past HP5.out hnee)
 have RW5 := Hi (RW.out.past HP5.out hnew)
 have mk := run_makeMap (P := Tryz.prog) 123 w5
 obtain ⟨pc0, pl0⟩ := rl (row_alloc RP5.out (.map #[] 0))
 obtain ⟨pc1, pl1⟩ := rl (row_alloc RP5.out (.map #[⟨.int .i64 1, .func (.func 76) #[.pointer (some ⟨gh, 0, none⟩)] #[], 0⟩] 1))
 obtain ⟨pc2, pl2⟩ := rl (row_alloc RP5.out (.map #[⟨.int .i64 1, .func (.func 76) #[.pointer (some ⟨gh, 0, none⟩)] #[], 0⟩, ⟨.int .i64 2, .func (.func 77) #[.pointer (some ⟨gh, 0, none⟩)] #[], 1⟩] 2))
 obtain ⟨pc3, pl3⟩ := rl (row_alloc RP5.out (.map #[⟨.int .i64 1, .func (.func 76) #[.pointer (some ⟨gh, 0, none⟩)] #[], 0⟩, ⟨.int .i64 2, .func (.func 77) #[.pointer (some ⟨gh, 0, none⟩)] #[], 1⟩, ⟨.int .i64 3, .func (.func 78) #[.pointer (some ⟨gh, 0, none⟩)] #[], 2⟩] 3))
 obtain ⟨pc4, pl4⟩ := rl (row_alloc RP5.out (.map #[⟨.int .i64 1, .func (.func 76) #[.pointer (some ⟨gh, 0, none⟩)] #[], 0⟩, ⟨.int .i64 2, .func (.func 77) #[.pointer (some ⟨gh, 0, none⟩)] #[], 1⟩, ⟨.int .i64 3, .func (.func 78) #[.pointer (some ⟨gh, 0, none⟩)] #[], 2⟩, ⟨.int .i64 4, .func (.func 79) #[.pointer (some ⟨gh, 0, none⟩)] #[], 3⟩] 4))
 obtain ⟨pc5, pl5⟩ := rl (row_alloc RP5.out (.map #[⟨.int .i64 1, .func (.func 76) #[.pointer (some ⟨gh, 0, none⟩)] #[], 0⟩, ⟨.int .i64 2, .func (.func 77) #[.pointer (some ⟨gh, 0, none⟩)] #[], 1⟩, ⟨.int .i64 3, .func (.func 78) #[.pointer (some ⟨gh, 0, none⟩)] #[], 2⟩, ⟨.int .i64 4, .func (.func 79) #[.pointer (some ⟨gh, 0, none⟩)] #[], 3⟩, ⟨.int .i64 5, .func (.func 80) #[.pointer (some ⟨gh, 0, none⟩)] #[], 4⟩] 5))
 obtain ⟨pc6, pl6⟩ := rl (row_alloc RP5.out (.map #[⟨.int .i64 1, .func (.func 76) #[.pointer (some ⟨gh, 0, none⟩)] #[], 0⟩, ⟨.int .i64 2, .func (.func 77) #[.pointer (some ⟨gh, 0, none⟩)] #[], 1⟩, ⟨.int .i64 3, .func (.func 78) #[.pointer (some ⟨gh, 0, none⟩)] #[], 2⟩, ⟨.int .i64 4, .func (.func 79) #[.pointer (some ⟨gh, 0, none⟩)] #[], 3⟩, ⟨.int .i64 5, .func (.func 80) #[.pointer (some ⟨gh, 0, none⟩)] #[], 4⟩, ⟨.int .i64 6, .func (.func 81) #[.pointer (some ⟨gh, 0, none⟩)] #[], 5⟩] 6))
 obtain ⟨pc7, pl7⟩ := rl (row_alloc RP5.out (.map #[⟨.int .i64 1, .func (.func 76) #[.pointer (some ⟨gh, 0, none⟩)] #[], 0⟩, ⟨.int .i64 2, .func (.func 77) #[.pointer (some ⟨gh, 0, none⟩)] #[], 1⟩, ⟨.int .i64 3, .func (.func 78) #[.pointer (some ⟨gh, 0, none⟩)] #[], 2⟩, ⟨.int .i64 4, .func (.func 79) #[.pointer (some ⟨gh, 0, none⟩)] #[], 3⟩, ⟨.int .i64 5, .func (.func 80) #[.pointer (some ⟨gh, 0, none⟩)] #[], 4⟩, ⟨.int .i64 6, .func (.func 81) #[.pointer (some ⟨gh, 0, none⟩)] #[], 5⟩, ⟨.int .i64 7, .func (.func 82) #[.pointer (some ⟨gh, 0, none⟩)] #[], 6⟩] 7))
 have in0 := in0s w5 gh
 have in1 := in1s w5 gh
 have in2 := in2s w5 gh
 have in3 := in3s w5 gh
 have in4 := in4s w5 gh
 have in5 := in5s w5 gh
 have in6 := in6s w5 gh
 go_upto_region 5 with (fail)
 have lk := run_lookn (w5.alloc (.map #[⟨.int .i64 1, .func (.func 76) #[.pointer (some ⟨gh, 0, none⟩)] #[], 0⟩, ⟨.int .i64 2, .func (.func 77) #[.pointer (some ⟨gh, 0, none⟩)] #[], 1⟩, ⟨.int .i64 3, .func (.func 78) #[.pointer (some ⟨gh, 0, none⟩)] #[], 2⟩, ⟨.int .i64 4, .func (.func 79) #[.pointer (some ⟨gh, 0, none⟩)] #[], 3⟩, ⟨.int .i64 5, .func (.func 80) #[.pointer (some ⟨gh, 0, none⟩)] #[], 4⟩, ⟨.int .i64 6, .func (.func 81) #[.pointer (some ⟨gh, 0, none⟩)] #[], 5⟩, ⟨.int .i64 7, .func (.func 82) #[.pointer (some ⟨gh, 0, none⟩)] #[], 6⟩] 7)) w5.heap.size #[⟨.int .i64 1, .func (.func 76) #[.pointer (some ⟨gh, 0, none⟩)] #[], 0⟩, ⟨.int .i64 2, .func (.func 77) #[.pointer (some ⟨gh, 0, none⟩)] #[], 1⟩, ⟨.int .i64 3, .func (.func 78) #[.pointer (some ⟨gh, 0, none⟩)] #[], 2⟩, ⟨.int .i64 4, .func (.func 79) #[.pointer (some ⟨gh, 0, none⟩)] #[], 3⟩, ⟨.int .i64 5, .func (.func 80) #[.pointer (some ⟨gh, 0, none⟩)] #[], 4⟩, ⟨.int .i64 6, .func (.func 81) #[.pointer (some ⟨gh, 0, none⟩)] #[], 5⟩, ⟨.int .i64 7, .func (.func 82) #[.pointer (some ⟨gh, 0, none⟩)] #[], 6⟩] 7 o.k (heap_alloc_new w5 _) HKK.out
 have b6 := ba w5 (.map #[⟨.int .i64 1, .func (.func 76) #[.pointer (some ⟨gh, 0, none⟩)] #[], 0⟩, ⟨.int .i64 2, .func (.func 77) #[.pointer (some ⟨gh, 0, none⟩)] #[], 1⟩, ⟨.int .i64 3, .func (.func 78) #[.pointer (some ⟨gh, 0, none⟩)] #[], 2⟩, ⟨.int .i64 4, .func (.func 79) #[.pointer (some ⟨gh, 0, none⟩)] #[], 3⟩, ⟨.int .i64 5, .func (.func 80) #[.pointer (some ⟨gh, 0, none⟩)] #[], 4⟩, ⟨.int .i64 6, .func (.func 81) #[.pointer (some ⟨gh, 0, none⟩)] #[], 5⟩, ⟨.int .i64 7, .func (.func 82) #[.pointer (some ⟨gh, 0, none⟩)] #[], 6⟩] 7)
 have H6 := Hi (H5.out.below b6)
 have HB6 := Hi b6
 have RP6 := Hi (RP5.out.below b6)
 have RO6 := Hi (RO5.out.below b6)
 have RE6 := Hi (RE5.out.below b6)
 have RW6 := Hi (RW5.out.below b6)
 clear pc0 pl0 pc1 pl1 pc2 pl2 pc3 pl3 pc4 pl4 pc5 pl5 pc6 pl6 pc7 pl7 in0 in1 in2 in3 in4 in5 in6 mk b6
 generalize w5.alloc _ = w6 at *
 obtain ⟨y0, y1, y2, y3, y4⟩ := row5 RO6.out
 have yl := RO6.out.lt
 go_upto_region 6 with (fail)
 go_wp2_with fail
 have HP6 := Hi ((((PastH.of_below (gh := gh) (At := At) HB1.out).trans (PastH.of_below HB2.out)).trans (PastH.of_past HP5.out)).trans (PastH.of_below HB6.out))
 have HNEE := Hi hnee
 have HATG := Hi (told_ne H6.out.own H6.out.row)
 with_reducible refine (eneed_no 251 w6).mono ?_
 rintro e w7 ⟨rfl, rfl⟩
 dsimp only
 refine leaves_cons (f := 75) (args := #[.pointer (some ⟨gw, 0, none⟩), .pointer (some ⟨W.heap.size, 0, none⟩), .pointer (some ⟨W.heap.size + 1 + 1, 0, none⟩)]) (by simp) (by simp [go_sem]) ?_
 refine (ecatch_err gw W.heap.size (W.heap.size + 1 + 1) gh 251 _ _ _ _ _ _ _ _ _ _ _ _ _ (by simp [Value.oneCell']) _ w6 RW6.out RP6.out RE6.out H6.out.row rfl (Ne.symm HNEE.out)).mono ?_
 rintro x u' w'' ⟨rfl, rfl, hca⟩
 have hxF := HandR.caught H6.out.all H6.out.own H.out.len H.out.lo HATG.out RE6.out (by omega) hca
 have hr2 := hca.err
 have hpF : PastH gh At W w'' := HP6.out.trans2 hca (by omega)
 simp [Leaves, settle, results, Tryz.results48, go_sem, row1 hr2, hr2.lt]
 exact ⟨rfl, ⟨_, _, _, _, _, _, _, _, _, _, _, _, _, hxF⟩, hpF⟩
theorem callF {P : Program} {f : FuncId} {fn : Func} (hf : P.funcs[f]? = some fn) (hname : (fn.name == "runtime.NumGoroutine") = false) (hb : fn.body.isNone = false) (args : Array Value) (w : World) : (callFunc f args).run P w = .ok (.enter f args) w := by
 have h1 : (fn.name = "runtime.NumGoroutine") = False := by simpa using hname
 have hb2 : fn.body ≠ none := by intro e; rw [e] at hb; cases hb
 simp [callFunc, hf, h1, hb2]
structure FitO (r : Rec) (o : EOp) : Prop where
 b : 0 ≤ o.b
 x : U64 o.x.2
 tk : (tkL r.sl 1).length ≤ 4096
theorem does_any (base gh : Nat) (A0 As : Option Addr) (n0 c0 ns cs : Nat) (A : Nat → Option Addr) (n c : Nat → Nat) (o0 o : EOp) (At : Option Addr) (nt ct : Nat) (r : Rec) (told : List Ent) (W : World) (h : HandR W base gh A0 As n0 c0 ns cs A n c o0 At nt ct r told) (hf : FitR r) (ho : FitO r o) (ht : (nt : Int) ≤ 1000000) :
  Calls Tryz.prog 48 #[.pointer (some ⟨gh, 0, none⟩), .agg #[.int .i64 o.k, .int .i64 o.g, .int .u64 o.b, .int .i64 o.x.1, .int .u64 o.x.2]] W (EDoesRes gh base At r told (stepR r told o) W) := by
 by_cases hk : 1 ≤ o.k ∧ o.k ≤ 7
 ·
  have hk7 : o.k = 1 ∨ o.k = 2 ∨ o.k = 3 ∨ o.k = 4 ∨ o.k = 5 ∨ o.k = 6 ∨ o.k = 7 := by omega
  rcases hk7 with e | e | e | e | e | e | e
  ·
   rw [show stepR r told o = pinR r told o 1 from by simp [stepR, e]]
   exact does_way 76 0 base gh A0 As n0 c0 ns cs A n c o0 o At nt ct r told W h _ (by rw [e]; rfl) (callF Tryz.func76 (by kernel_rfl) (by kernel_rfl)) (fun w hw => pin_any base gh A0 As n0 c0 ns cs A n c o At nt ct r told w hw hf ho.b _ rfl)
  ·
   rw [show stepR r told o = pinR r told o 2 from by simp [stepR, e]]
   exact does_way 77 1 base gh A0 As n0 c0 ns cs A n c o0 o At nt ct r told W h _ (by rw [e]; rfl) (callF Tryz.func77 (by kernel_rfl) (by kernel_rfl)) (fun w hw => unpin_any base gh A0 As n0 c0 ns cs A n c o At nt ct r told w hw hf ho.b _ rfl)
  ·
   rw [show stepR r told o = takeR r told from by simp [stepR, e]]
   exact does_way 78 2 base gh A0 As n0 c0 ns cs A n c o0 o At nt ct r told W h _ (by rw [e]; rfl) (callF Tryz.func78 (by kernel_rfl) (by kernel_rfl)) (fun w hw => etake_any base gh A0 As n0 c0 ns cs A n c o At nt ct r told w hw hf ht ho.tk _ rfl)
  ·
   rw [show stepR r told o = backR r told o.x from by simp [stepR, e]]
   exact does_way 79 3 base gh A0 As n0 c0 ns cs A n c o0 o At nt ct r told W h _ (by rw [e]; rfl) (callF Tryz.func79 (by kernel_rfl) (by kernel_rfl)) (fun w hw => eback_any base gh A0 As n0 c0 ns cs A n c o At nt ct r told w hw hf ho.x _ rfl)
  ·
   rw [show stepR r told o = retiR r told o.x from by simp [stepR, e]]
   exact does_way 80 4 base gh A0 As n0 c0 ns cs A n c o0 o At nt ct r told W h _ (by rw [e]; rfl) (callF Tryz.func80 (by kernel_rfl) (by kernel_rfl)) (fun w hw => eretire_any base gh A0 As n0 c0 ns cs A n c o At nt ct r told w hw hf ho.x _ rfl)
  ·
   rw [show stepR r told o = freeR r told from by simp [stepR, e]]
   exact does_way 81 5 base gh A0 As n0 c0 ns cs A n c o0 o At nt ct r told W h _ (by rw [e]; rfl) (callF Tryz.func81 (by kernel_rfl) (by kernel_rfl)) (fun w hw => efree_any base gh A0 As n0 c0 ns cs A n c o At nt ct r told w hw hf ht _ rfl)
  ·
   rw [show stepR r told o = goR r told o from by simp [stepR, e]]
   exact does_way 82 6 base gh A0 As n0 c0 ns cs A n c o0 o At nt ct r told W h _ (by rw [e]; rfl) (callF Tryz.func82 (by kernel_rfl) (by kernel_rfl)) (fun w hw => egoes_any base gh A0 As n0 c0 ns cs A n c o At nt ct r told w hw hf ho.b _ rfl)
 ·
  rw [show stepR r told o = .error 251 from by unfold stepR; rw [if_neg (by omega), if_neg (by omega), if_neg (by omega), if_neg (by omega), if_neg (by omega), if_neg (by omega), if_neg (by omega)]]
  refine does_bad base gh A0 As n0 c0 ns cs A n c o0 o At nt ct r told W h ?_
  have h1 : ∀ k : Int, 1 ≤ k → k ≤ 7 → (o.k == k) = false := fun k h1 h2 => by simp; omega
  simp [kindsE, Instr.findNow, Instr.sameNow, h1]
def o00 : EOp := ⟨0, 0, 0, (0, 0)⟩
theorem recC_updn (e : Int) (E : Nat) (A0 As : Option Addr) (n0 c0 ns cs : Nat) (A : Nat → Option Addr) (n c : Nat → Nat) {k : Nat} (hk : k < 3) (A1 : Option Addr) (c1 : Nat) :
  (recC e E A0 As n0 c0 ns cs A n c).setIfInBounds (4 + k) (.slice A1 (n k) c1) = recC e E A0 As n0 c0 ns cs (fun j => if j = k then A1 else A j) n (fun j => if j = k then c1 else c j) := by
 match k, hk with
 | 0, _ => rfl
 | 1, _ => rfl
 | 2, _ => rfl
theorem recC_at (e : Int) (E : Nat) (A0 As : Option Addr) (n0 c0 ns cs : Nat) (A : Nat → Option Addr) (n c : Nat → Nat) {k : Nat} (hk : k < 3) : (recC e E A0 As n0 c0 ns cs A n c)[4 + k]? = some (.slice (A k) (n k) (c k)) := by
 match k, hk with
 | 0, _ => rfl
 | 1, _ => rfl
 | 2, _ => rfl
theorem row7 {w : World} {g : Nat} {t : TypeId} {v0 v1 v2 v3 v4 v5 v6 : Value} (h : RowAt w g t #[v0, v1, v2, v3, v4, v5, v6]) : w.cell? ⟨g, 0, none⟩ = some v0 ∧ w.cell? ⟨g, 1, none⟩ = some v1 ∧ w.cell? ⟨g, 2, none⟩ = some v2 ∧ w.cell? ⟨g, 3, none⟩ = some v3 ∧ w.cell? ⟨g, 4, none⟩ = some v4 ∧ w.cell? ⟨g, 5, none⟩ = some v5 ∧ w.cell? ⟨g, 6, none⟩ = some v6 := by
 refine ⟨?_, ?_, ?_, ?_, ?_, ?_, ?_⟩
 · have := h.cell 0; simpa using this
 · have := h.cell 1; simpa using this
 · have := h.cell 2; simpa using this
 · have := h.cell 3; simpa using this
 · have := h.cell 4; simpa using this
 · have := h.cell 5; simpa using this
 · have := h.cell 6; simpa using this
theorem RdF.typ {w : World} {base g : Nat} {e t : TypeId} {sz n c : Nat} {A : Option Addr} {xs : List Value} {C : Array Value} (h : w.ownsRow base e sz (.slice A n c) n xs) (hg : RowAt w g t C) (hne : e ≠ t) : RdF (fun j => base ≤ j ∧ j ≠ g) w sz A n xs :=
 RdF.of (Rd.of_own h) (fun hn q hq => ⟨(own_typ (g := q.block) h (by rw [hq]; rfl)).1, fun hj => by
  obtain ⟨_, cs, h2⟩ := own_typ (g := q.block) h (by rw [hq]; rfl)
  rw [hj] at h2
  exact hne (row_typ h2 hg)⟩) (fun _ _ q hq => by
  obtain ⟨_, cs, h2⟩ := own_typ (g := q.block) h (by rw [hq]; rfl)
  exact ⟨_, _, h2⟩)
theorem own_lo {w : World} {base b : Nat} {e : TypeId} {sz n : Nat} {v : Value} {xs : List Value} (h : w.ownsRow base e sz v n xs) (hb : b ≤ base) : w.ownsRow b e sz v n xs :=
 ⟨h.1, h.2.imp id (fun ⟨g, cap, cur, hv, hg, r⟩ => ⟨g, cap, cur, hv, Nat.le_trans hb hg, r⟩)⟩
structure OwnS (W w : World) (gx k : Nat) (A0' As' : Option Addr) (n0 c0' ns cs' : Nat) (A : Nat → Option Addr) (n c : Nat → Nat) (r : Rec) : Prop where
 row : RowAt w gx 34 (recC r.e r.l.E A0' As' n0 c0' ns cs' A n c)
 lo : W.heap.size < gx
 sl : RdF (fun j => W.heap.size ≤ j ∧ j ≠ gx) w 2 A0' n0 (Cs encE r.sl)
 h0 : n0 ≤ c0'
 S : RdF (fun j => W.heap.size ≤ j ∧ j ≠ gx) w 1 As' ns (Cs encW r.S)
 hs : ns ≤ cs' ∧ cs' ≤ MaxLen
 rw : ∀ j, j < k → j < 3 → RdF (fun i => W.heap.size ≤ i ∧ i ≠ gx) w 2 (A j) (n j) (Cs encE (r.l.r j)) ∧ n j ≤ c j ∧ c j ≤ MaxLen
 below : Below W.heap.size W w
theorem OwnS.next {W w w1 : World} {gx k : Nat} {A0' As' : Option Addr} {n0 c0' ns cs' : Nat} {A : Nat → Option Addr} {n c : Nat → Nat} {r : Rec} (h : OwnS W w gx k A0' As' n0 c0' ns cs' A n c r) (hk : k < 3) (hb : Below w.heap.size w w1) (A1 : Option Addr) (c1 : Nat) (hown : w1.ownsRow w.heap.size 41 2 (.slice A1 (n k) c1) (n k) (Cs encE (r.l.r k))) (hc : n k ≤ c1 ∧ c1 ≤ MaxLen) :
  OwnS W (w1.setCell ⟨gx, 4 + k, none⟩ (.slice A1 (n k) c1)) gx (k + 1) A0' As' n0 c0' ns cs' (fun j => if j = k then A1 else A j) n (fun j => if j = k then c1 else c j) r := by
 have hst : StayF (fun j => W.heap.size ≤ j ∧ j ≠ gx) w (w1.setCell ⟨gx, 4 + k, none⟩ (.slice A1 (n k) c1)) := (StayF.of_below hb).trans (StayF.set (fun h => h.2 rfl))
 refine ⟨?_, h.lo, h.sl.stay hst, h.h0, h.S.stay hst, h.hs, fun j hj h3 => ?_, (h.below.trans (hb.mono h.below.size)).setCell (p := ⟨gx, 4 + k, none⟩) (by have := h.lo; simp; omega) _⟩
 ·
  have h1 := (h.row.below hb).set (4 + k) (.slice A1 (n k) c1)
  rw [recC_updn _ _ _ _ _ _ _ _ _ _ _ hk] at h1
  exact h1
 ·
  by_cases e : j = k
  ·
   subst e
   simp only [if_true]
   exact ⟨((RdF.typ hown (h.row.below hb) (by decide)).up (fun j hj _ => ⟨Nat.le_trans h.below.size hj.1, hj.2⟩)).stay (StayF.set (fun h => h.2 rfl)), hc⟩
  ·
   simp only [if_neg e]
   have h1 := h.rw j (by omega) h3
   exact ⟨h1.1.stay hst, h1.2⟩
def OwnRes (r : Rec) (W : World) (e : Ending) (W' : World) : Prop := (∃ gh, e = .returned (.pointer (some ⟨gh, 0, none⟩)) ∧ ∃ A0 As n0 c0 ns cs A n c, HandR W' W.heap.size gh A0 As n0 c0 ns cs A n c o00 none 0 0 r []) ∧ Below W.heap.size W W'
set_option maxRecDepth 20000 in
theorem own_any (F : Nat → Prop) (A0 As : Option Addr) (n0 c0 ns cs : Nat) (A : Nat → Option Addr) (n c : Nat → Nat) (r : Rec) (W : World) (h : RecF F W A0 As n0 c0 ns cs A n c r) (hf : FitR r) :
  Calls Tryz.prog 47 #[.agg (recC r.e r.l.E A0 As n0 c0 ns cs A n c)] W (OwnRes r W) := by
 have hb1 := ba W (.cells #[.slice A0 n0 c0, .int .u64 r.e, .slice As ns cs, .int .u64 (r.l.E : Int), .slice (A 0) (n 0) (c 0), .slice (A 1) (n 1) (c 1), .slice (A 2) (n 2) (c 2)] 34)
 have R1 := Hi (RowAt.new W 34 #[.slice A0 n0 c0, .int .u64 r.e, .slice As ns cs, .int .u64 (r.l.E : Int), .slice (A 0) (n 0) (c 0), .slice (A 1) (n 1) (c 1), .slice (A 2) (n 2) (c 2)])
 have HB1 := Hi hb1
 have H := Hi (h.below hb1)
 have HF := Hi hf
 have HS1 := Hi (show (W.alloc (.cells #[.slice A0 n0 c0, .int .u64 r.e, .slice As ns cs, .int .u64 (r.l.E : Int), .slice (A 0) (n 0) (c 0), .slice (A 1) (n 1) (c 1), .slice (A 2) (n 2) (c 2)] 34)).heap.size = W.heap.size + 1 from by simp)
 clear hb1 h hf
 go_enter Tryz.func47, Tryz.ntmps47
 go_upto_region 1 with (fail)
 generalize W.alloc _ = w1 at *
 go_cut [3] from 6 to 21 (fun s3 wx => ∃ gx A0' As' c0' cs', s3 = .pointer (some ⟨gx, 0, none⟩) ∧ Below w1.heap.size w1 wx ∧ OwnS W wx gx 0 A0' As' n0 c0' ns cs' A n c r)
 case first =>
  have HSX := Hi (fun (wX : World) (hgX : Below w1.heap.size w1 wX) => show wX.cell? ⟨W.heap.size, 0, none⟩ = some (.slice A0 n0 c0) ∧ wX.cell? ⟨W.heap.size, 1, none⟩ = some (.int .u64 r.e) ∧ wX.cell? ⟨W.heap.size, 2, none⟩ = some (.slice As ns cs) ∧ wX.cell? ⟨W.heap.size, 3, none⟩ = some (.int .u64 (r.l.E : Int)) ∧ wX.cell? ⟨W.heap.size, 4, none⟩ = some (.slice (A 0) (n 0) (c 0)) ∧ wX.cell? ⟨W.heap.size, 5, none⟩ = some (.slice (A 1) (n 1) (c 1)) ∧ wX.cell? ⟨W.heap.size, 6, none⟩ = some (.slice (A 2) (n 2) (c 2)) ∧ W.heap.size < wX.heap.size from by
   obtain ⟨z0, z1, z2, z3, z4, z5, z6⟩ := row7 R1.out
   exact ⟨kept hgX z0, kept hgX z1, kept hgX z2, kept hgX z3, kept hgX z4, kept hgX z5, kept hgX z6, Nat.lt_of_lt_of_le R1.out.lt hgX.size⟩)
  have HX := Hi ((Below.refl w1.heap.size w1).drew)
  refine wp_region_held_drew (S := fun wX => wX.cell? ⟨W.heap.size, 0, none⟩ = some (.slice A0 n0 c0) ∧ wX.cell? ⟨W.heap.size, 1, none⟩ = some (.int .u64 r.e) ∧ wX.cell? ⟨W.heap.size, 2, none⟩ = some (.slice As ns cs) ∧ wX.cell? ⟨W.heap.size, 3, none⟩ = some (.int .u64 (r.l.E : Int)) ∧ wX.cell? ⟨W.heap.size, 4, none⟩ = some (.slice (A 0) (n 0) (c 0)) ∧ wX.cell? ⟨W.heap.size, 5, none⟩ = some (.slice (A 1) (n 1) (c 1)) ∧ wX.cell? ⟨W.heap.size, 6, none⟩ = some (.slice (A 2) (n 2) (c 2)) ∧ W.heap.size < wX.heap.size) (by kernel_rfl) (HSX.out _ HX.out) (fun hHeld => ?_)
  clear hHeld
  have hS0 := HSX.out _ HX.out
  generalize w1.drew = wd at *
  refine tkI (i := 0) rfl ?_
  refine tkI (i := 1) rfl ?_
  refine tkI (i := 2) rfl ?_
  refine tkI (i := 5) rfl ?_
  refine tkI (i := 6) rfl ?_
  refine tkI (i := 7) rfl ?_
  refine tkI (i := 8) rfl ?_
  refine tkI (i := 9) rfl ?_
  refine tkI (i := 10) rfl ?_
  refine tkI (i := 13) rfl ?_
  refine tkI (i := 14) rfl ?_
  refine wpAnyH_ready (rs := [3, 16]) (by kernel_rfl) (by simp) ?_
  refine (AllReadyH.cons rfl (fun K0 hK0 => ?_) (AllReadyH.cons rfl (fun K1 hK1 => ?_) AllReadyH.nil))
  focus
   go_simp
   with_reducible refine (CloneS wd.heap.size A0 n0 c0 (Cs encE r.sl) wd (H.out.sl.rd.below HX.out |>.more HX.out.size) (Nat.le_refl _) (Cs_one_cell encE_one _) (by rw [← H.out.l0]; exact HF.out.sl)).mono ?_
   rintro e wc0 ⟨v, rfl, hown, hb⟩
   obtain ⟨A0', c0', rfl, hca1, hca2⟩ := own_form2 hown
   have HC1 := Hi hca1
   have O1 := Hi (own_lo (b := W.heap.size) hown (Nat.le_trans HB1.out.size HX.out.size))
   have hX2 := HX.out.trans (hb.mono HX.out.size)
   replace HX := Hi hX2
   clear hX2 hS0 hown hb hca1 hca2
   have hS0 := HSX.out _ HX.out
   refine hK0.out _ _ hS0 (fun _ => wnH ?_)
   clear hK0 K0
   refine tkI (i := 4) rfl ?_
   refine wpAnyH_ready (rs := [11, 16]) (by kernel_rfl) (by simp) ?_
   refine (AllReadyH.cons rfl (fun K2 hK2 => ?_) (AllReadyH.cons rfl (fun K3 hK3 => ?_) AllReadyH.nil))
   focus
    go_simp
    with_reducible refine (Pn.CloneW wc0.heap.size As ns cs (Cs encW r.S) wc0 (H.out.S.rd.below HX.out |>.more HX.out.size) (Nat.le_refl _) (Cs_one_cell encW_one _) (by rw [← H.out.ls]; exact HF.out.S)).mono ?_
    rintro e wc1 ⟨v, rfl, hown, hb⟩
    obtain ⟨As', cs', rfl, hca1, hca2⟩ := own_form2 hown
    have HC2 := Hi (And.intro hca1 hca2)
    replace O1 := Hi (own_keepB O1.out hb)
    have O2 := Hi (own_lo (b := W.heap.size) hown (Nat.le_trans HB1.out.size HX.out.size))
    have hX2 := HX.out.trans (hb.mono HX.out.size)
    replace HX := Hi hX2
    clear hX2 hS0 hown hb hca1 hca2
    have hS0 := HSX.out _ HX.out
    refine hK2.out _ _ hS0 (fun _ => wnH ?_)
    clear hK2 K2
    refine tkI (i := 12) rfl ?_
    refine tkI (i := 15) rfl ?_
    refine ryH (i := 16) rfl (fun K4 hK4 => ?_)
    go_simp
    have RXX := Hi (RowAt.new wc1 34 #[.slice none 0 0, .int .u64 0, .slice none 0 0, .int .u64 0, .slice none 0 0, .slice none 0 0, .slice none 0 0])
    have HG := Hi ((Below.refl wc1.heap.size wc1).alloc (Nat.le_refl _) (.cells #[.slice none 0 0, .int .u64 0, .slice none 0 0, .int .u64 0, .slice none 0 0, .slice none 0 0, .slice none 0 0] 34))
    obtain ⟨gx, hgx⟩ : ∃ gx, wc1.heap.size = gx := ⟨_, rfl⟩
    have HGX := Hi (show w1.heap.size ≤ gx from by rw [← hgx]; exact HX.out.size)
    rw [hgx] at RXX ⊢
    have hX2 := HX.out.trans (HG.out.mono HX.out.size)
    replace HX := Hi hX2
    clear hX2 hS0
    replace O1 := Hi (own_keepB O1.out HG.out)
    replace O2 := Hi (own_keepB O2.out HG.out)
    generalize wc1.alloc _ = wa2 at *
    clear HG hgx
    have hS0 := HSX.out _ HX.out
    refine hK4.out _ _ hS0 (fun _ => wnH ?_)
    clear hK4 K4
    obtain ⟨zq1, hzq⟩ : ∃ w, w = wa2 := ⟨_, rfl⟩
    subst hzq
   rotate_left
   focus
    go_simp
    have RXX := Hi (RowAt.new wc0 34 #[.slice none 0 0, .int .u64 0, .slice none 0 0, .int .u64 0, .slice none 0 0, .slice none 0 0, .slice none 0 0])
    have HG := Hi ((Below.refl wc0.heap.size wc0).alloc (Nat.le_refl _) (.cells #[.slice none 0 0, .int .u64 0, .slice none 0 0, .int .u64 0, .slice none 0 0, .slice none 0 0, .slice none 0 0] 34))
    obtain ⟨gx, hgx⟩ : ∃ gx, wc0.heap.size = gx := ⟨_, rfl⟩
    have HGX := Hi (show w1.heap.size ≤ gx from by rw [← hgx]; exact HX.out.size)
    rw [hgx] at RXX ⊢
    have hX2 := HX.out.trans (HG.out.mono HX.out.size)
    replace HX := Hi hX2
    clear hX2 hS0
    replace O1 := Hi (own_keepB O1.out HG.out)
    generalize wc0.alloc _ = wa1 at *
    clear HG hgx
    have hS0 := HSX.out _ HX.out
    refine hK3.out _ _ hS0 (fun _ => wnH ?_)
    clear hK3 K3
    refine ryH (i := 11) rfl (fun K6 hK6 => ?_)
    go_simp
    with_reducible refine (Pn.CloneW wa1.heap.size As ns cs (Cs encW r.S) wa1 (H.out.S.rd.below HX.out |>.more HX.out.size) (Nat.le_refl _) (Cs_one_cell encW_one _) (by rw [← H.out.ls]; exact HF.out.S)).mono ?_
    rintro e wc2 ⟨v, rfl, hown, hb⟩
    obtain ⟨As', cs', rfl, hca1, hca2⟩ := own_form2 hown
    have HC2 := Hi (And.intro hca1 hca2)
    replace O1 := Hi (own_keepB O1.out hb)
    replace RXX := Hi (RXX.out.below hb)
    have O2 := Hi (own_lo (b := W.heap.size) hown (Nat.le_trans HB1.out.size HX.out.size))
    have hX2 := HX.out.trans (hb.mono HX.out.size)
    replace HX := Hi hX2
    clear hX2 hS0 hown hb hca1 hca2
    have hS0 := HSX.out _ HX.out
    refine hK6.out _ _ hS0 (fun _ => wnH ?_)
    clear hK6 K6
    refine tkI (i := 12) rfl ?_
    refine tkI (i := 15) rfl ?_
    obtain ⟨zq1, hzq⟩ : ∃ w, w = wc2 := ⟨_, rfl⟩
    subst hzq
   rotate_left
  rotate_left 2
  focus
   go_simp
   have RXX := Hi (RowAt.new wd 34 #[.slice none 0 0, .int .u64 0, .slice none 0 0, .int .u64 0, .slice none 0 0, .slice none 0 0, .slice none 0 0])
   have HG := Hi ((Below.refl wd.heap.size wd).alloc (Nat.le_refl _) (.cells #[.slice none 0 0, .int .u64 0, .slice none 0 0, .int .u64 0, .slice none 0 0, .slice none 0 0, .slice none 0 0] 34))
   obtain ⟨gx, hgx⟩ : ∃ gx, wd.heap.size = gx := ⟨_, rfl⟩
   have HGX := Hi (show w1.heap.size ≤ gx from by rw [← hgx]; exact HX.out.size)
   rw [hgx] at RXX ⊢
   have hX2 := HX.out.trans (HG.out.mono HX.out.size)
   replace HX := Hi hX2
   clear hX2 hS0
   generalize wd.alloc _ = wa0 at *
   clear HG hgx
   have hS0 := HSX.out _ HX.out
   refine hK1.out _ _ hS0 (fun _ => wnH ?_)
   clear hK1 K1
   refine ryH (i := 3) rfl (fun K8 hK8 => ?_)
   go_simp
   with_reducible refine (CloneS wa0.heap.size A0 n0 c0 (Cs encE r.sl) wa0 (H.out.sl.rd.below HX.out |>.more HX.out.size) (Nat.le_refl _) (Cs_one_cell encE_one _) (by rw [← H.out.l0]; exact HF.out.sl)).mono ?_
   rintro e wc1 ⟨v, rfl, hown, hb⟩
   obtain ⟨A0', c0', rfl, hca1, hca2⟩ := own_form2 hown
   have HC1 := Hi hca1
   replace RXX := Hi (RXX.out.below hb)
   have O1 := Hi (own_lo (b := W.heap.size) hown (Nat.le_trans HB1.out.size HX.out.size))
   have hX2 := HX.out.trans (hb.mono HX.out.size)
   replace HX := Hi hX2
   clear hX2 hS0 hown hb hca1 hca2
   have hS0 := HSX.out _ HX.out
   refine hK8.out _ _ hS0 (fun _ => wnH ?_)
   clear hK8 K8
   refine tkI (i := 4) rfl ?_
   refine ryH (i := 11) rfl (fun K9 hK9 => ?_)
   go_simp
   with_reducible refine (Pn.CloneW wc1.heap.size As ns cs (Cs encW r.S) wc1 (H.out.S.rd.below HX.out |>.more HX.out.size) (Nat.le_refl _) (Cs_one_cell encW_one _) (by rw [← H.out.ls]; exact HF.out.S)).mono ?_
   rintro e wc2 ⟨v, rfl, hown, hb⟩
   obtain ⟨As', cs', rfl, hca1, hca2⟩ := own_form2 hown
   have HC2 := Hi (And.intro hca1 hca2)
   replace O1 := Hi (own_keepB O1.out hb)
   replace RXX := Hi (RXX.out.below hb)
   have O2 := Hi (own_lo (b := W.heap.size) hown (Nat.le_trans HB1.out.size HX.out.size))
   have hX2 := HX.out.trans (hb.mono HX.out.size)
   replace HX := Hi hX2
   clear hX2 hS0 hown hb hca1 hca2
   have hS0 := HSX.out _ HX.out
   refine hK9.out _ _ hS0 (fun _ => wnH ?_)
   clear hK9 K9
   refine tkI (i := 12) rfl ?_
   refine tkI (i := 15) rfl ?_
   obtain ⟨zq1, hzq⟩ : ∃ w, w = wc2 := ⟨_, rfl⟩
   subst hzq
  rotate_left
  all_goals
   refine ryH (i := 17) rfl (fun K5 hK5 => ?_)
   have RX := RXX.out
   obtain ⟨y0, y1, y2, y3, y4, y5, y6⟩ := row7 RX
   have yl := RX.lt
   obtain ⟨yf0, yf1, yf2, yf3, yf4, yf5, yf6⟩ := fz RX
   clear hS0
   go_simp
   have hst : StayF (fun j => W.heap.size ≤ j ∧ j ≠ gx) zq1 (((((((zq1.setCell ⟨gx, 0, none⟩ (.slice A0' n0 c0')).setCell ⟨gx, 1, none⟩ (.int .u64 r.e)).setCell ⟨gx, 2, none⟩ (.slice As' ns cs')).setCell ⟨gx, 3, none⟩ (.int .u64 (r.l.E : Int))).setCell ⟨gx, 4, none⟩ (.slice (A 0) (n 0) (c 0))).setCell ⟨gx, 5, none⟩ (.slice (A 1) (n 1) (c 1))).setCell ⟨gx, 6, none⟩ (.slice (A 2) (n 2) (c 2))) := ((((((((StayF.refl _ _).trans (StayF.set (fun h => h.2 rfl))).trans (StayF.set (fun h => h.2 rfl))).trans (StayF.set (fun h => h.2 rfl))).trans (StayF.set (fun h => h.2 rfl))).trans (StayF.set (fun h => h.2 rfl))).trans (StayF.set (fun h => h.2 rfl))).trans (StayF.set (fun h => h.2 rfl)))
   have hb9 : Below w1.heap.size w1 (((((((zq1.setCell ⟨gx, 0, none⟩ (.slice A0' n0 c0')).setCell ⟨gx, 1, none⟩ (.int .u64 r.e)).setCell ⟨gx, 2, none⟩ (.slice As' ns cs')).setCell ⟨gx, 3, none⟩ (.int .u64 (r.l.E : Int))).setCell ⟨gx, 4, none⟩ (.slice (A 0) (n 0) (c 0))).setCell ⟨gx, 5, none⟩ (.slice (A 1) (n 1) (c 1))).setCell ⟨gx, 6, none⟩ (.slice (A 2) (n 2) (c 2))) := (((((((HX.out.setCell (p := ⟨gx, 0, none⟩) (by have := HGX.out; simp; omega) _).setCell (p := ⟨gx, 1, none⟩) (by have := HGX.out; simp; omega) _).setCell (p := ⟨gx, 2, none⟩) (by have := HGX.out; simp; omega) _).setCell (p := ⟨gx, 3, none⟩) (by have := HGX.out; simp; omega) _).setCell (p := ⟨gx, 4, none⟩) (by have := HGX.out; simp; omega) _).setCell (p := ⟨gx, 5, none⟩) (by have := HGX.out; simp; omega) _).setCell (p := ⟨gx, 6, none⟩) (by have := HGX.out; simp; omega) _)
   have HO := Hi (show OwnS W (((((((zq1.setCell ⟨gx, 0, none⟩ (.slice A0' n0 c0')).setCell ⟨gx, 1, none⟩ (.int .u64 r.e)).setCell ⟨gx, 2, none⟩ (.slice As' ns cs')).setCell ⟨gx, 3, none⟩ (.int .u64 (r.l.E : Int))).setCell ⟨gx, 4, none⟩ (.slice (A 0) (n 0) (c 0))).setCell ⟨gx, 5, none⟩ (.slice (A 1) (n 1) (c 1))).setCell ⟨gx, 6, none⟩ (.slice (A 2) (n 2) (c 2))) gx 0 A0' As' n0 c0' ns cs' A n c r from ⟨by have h := (((((((RX.set 0 (.slice A0' n0 c0')).set 1 (.int .u64 r.e)).set 2 (.slice As' ns cs')).set 3 (.int .u64 (r.l.E : Int))).set 4 (.slice (A 0) (n 0) (c 0))).set 5 (.slice (A 1) (n 1) (c 1))).set 6 (.slice (A 2) (n 2) (c 2))); simpa using h, by have := HGX.out; have := HS1.out; omega, (RdF.typ O1.out RX (by decide)).stay hst, HC1.out, (RdF.typ O2.out RX (by decide)).stay hst, HC2.out, fun j hj => absurd hj (by omega), HB1.out.trans (hb9.mono (by have := HS1.out; omega))⟩)
   have HB9 := Hi hb9
   clear hb9 hst RX y0 y1 y2 y3 y4 y5 y6 yf0 yf1 yf2 yf3 yf4 yf5 yf6 yl
   generalize World.setCell _ _ _ = w9 at *
   refine hK5.out _ _ (HSX.out _ HB9.out) (fun _ => wnH ?_)
   clear hK5 K5
   refine wpAnyH_done (by kernel_rfl) ?_ _
   go_wp2_with fail
   go_meet
   case rel => exact ⟨gx, A0', As', c0', cs', rfl, HB9.out, HO.out⟩
 case rest =>
  rename_i K hK
  refine hK _ _ ?_
  clear hK K
  obtain ⟨w2, hw2⟩ : ∃ w, w = wc := ⟨_, rfl⟩
  subst hw2
  obtain ⟨gx, A0', As', c0', cs', rfl, hbx, hst⟩ := hcut
  have HBX := Hi hbx
  have HST0 := Hi hst
  have HGB := Hi (show w1.heap.size ≤ gx from by have := hst.lo; have := HS1.out; omega)
  have R2 := Hi (R1.out.below hbx)
  have H2 := Hi (H.out.below hbx)
  clear hbx hst
  obtain ⟨z0, z1, z2, z3, z4, z5, z6⟩ := row7 R2.out
  have zl := R2.out.lt
  go_upto_region 3 with (fail)
  clear z0 z1 z2 z3 z4 z5 z6 zl
  go_loopw [25] (fun i wr => ∃ (k : Nat), k ≤ 3 ∧ i = .int .i64 (k : Int) ∧ Below w1.heap.size w1 wr ∧ ∃ A1 c1, OwnS W wr gx k A0' As' n0 c0' ns cs' A1 n c1 r) (fun i _ => 3 - (intOf i).toNat)
  case atStart => exact ⟨0, by omega, rfl, HBX.out, A, c, HST0.out⟩
  case round =>
   obtain ⟨k, hk, rfl, hbw, A1, c1, hst⟩ := hrel
   have HST := Hi hst
   have HBW := Hi hbw
   clear hst hbw
   by_cases hlt : k < 3
   ·
    have hki : (k : Int) < 3 := by omega
    have hix := Li.index_rows A n c k hlt
    have HCL := Hi (CloneE wr.heap.size (A k) (n k) (c k) (Cs encE (r.l.r k)) wr (((H.out.rw k hlt).rd.below HBW.out).more HBW.out.size) (Nat.le_refl _) (Cs_one_cell encE_one _) (by rw [← H.out.ll k hlt]; exact HF.out.rw k hlt))
    go_wp2_with fail
    with_reducible refine HCL.out.mono ?_
    rintro e w3 ⟨v, rfl, hown, hb⟩
    obtain ⟨A3, c3, rfl, hc3, hcm3⟩ := own_form2 hown
    have HN := Hi (HST.out.next hlt hb A3 c3 hown ⟨hc3, hcm3⟩)
    have HBN := Hi ((HBW.out.trans (hb.mono HBW.out.size)).setCell (p := ⟨gx, 4 + k, none⟩) (HGB.out) (.slice A3 (n k) c3))
    have hc0 : w3.cell? ⟨gx, 4 + k, none⟩ = some (.slice (A1 k) (n k) (c1 k)) := ((HST.out.row.below hb).cell (4 + k)).trans (recC_at _ _ _ _ _ _ _ _ _ _ _ hlt)
    have hcl := (HST.out.row.below hb).lt
    have hcf := (HST.out.row.below hb).frozen (4 + k)
    clear hown hb HCL hix
    go_wp2_with fail
    go_roundw
    case rel => exact ⟨k + 1, by omega, by go_num, HBN.out, _, _, HN.out⟩
    case measure => simp [intOf]; omega
   ·
    obtain rfl : k = 3 := by omega
    obtain ⟨z0, z1, z2, z3, z4, z5, z6⟩ := row7 HST.out.row
    have zl := HST.out.row.lt
    go_wp2_with fail
    have HR9 := Hi (RowAt.new wr 95 (handC r.e r.l.E A0' As' n0 c0' ns cs' A1 n c1 o00 none 0 0))
    have HB9 := Hi ((Below.refl wr.heap.size wr).alloc (Nat.le_refl _) (.cells (handC r.e r.l.E A0' As' n0 c0' ns cs' A1 n c1 o00 none 0 0) 95))
    obtain ⟨w9, hw9⟩ : ∃ w9, wr.alloc (.cells (handC r.e r.l.E A0' As' n0 c0' ns cs' A1 n c1 o00 none 0 0) 95) = w9 := ⟨_, rfl⟩
    dsimp only [handC, o00] at hw9
    rw [hw9]
    rw [show wr.alloc (.cells (handC r.e r.l.E A0' As' n0 c0' ns cs' A1 n c1 o00 none 0 0) 95) = w9 from hw9] at HR9 HB9
    clear z0 z1 z2 z3 z4 z5 z6 zl hw9
    go_ret
    refine ⟨⟨_, rfl, A0', As', n0, c0', ns, cs', A1, n, c1, HR9.out, ?_, ?_, rfl, HST.out.below.size⟩, HST.out.below.trans (HB9.out.mono HST.out.below.size)⟩
    ·
     have hst : StayF (fun j => W.heap.size ≤ j ∧ j ≠ gx) wr w9 := StayF.of_below HB9.out
     have up : ∀ j, (W.heap.size ≤ j ∧ j ≠ gx) → j < wr.heap.size → OffB W.heap.size wr.heap.size none j := fun j hj hl => ⟨hj.1, by omega, fun q hq => by cases hq⟩
     refine ⟨(HST.out.sl.up up).stay (StayF.of_below HB9.out), H.out.l0, HST.out.h0, (HST.out.S.up up).stay (StayF.of_below HB9.out), H.out.ls, HST.out.hs, fun j hj => ((HST.out.rw j hj hj).1.up up).stay (StayF.of_below HB9.out), H.out.ll, fun j hj => (HST.out.rw j hj hj).2⟩
    · exact World.ownsRow_nil _ _ _ _
end Go.Proofs.YtkicidopjihjmaaGreat
namespace Go.Proofs.YtkicidopjihjmaaGreat
def setAll (t : Int) (d : Int) (xs l : List (Int × Int)) : List (Int × Int) := l.foldl (fun ys e => ys.set e.1.toNat (t, e.2 + d)) xs
structure Fit (xs : List (Int × Int)) (tag : Int) (l : List (Int × Int)) : Prop where
 nodup : (l.map fun e => e.1.toNat).Nodup
 at_ : ∀ e ∈ l, 0 ≤ e.1 ∧ xs[e.1.toNat]? = some (tag, e.2)
theorem Fit.tail {xs : List (Int × Int)} {tag : Int} {e : Int × Int} {l : List (Int × Int)} (h : Fit xs tag (e :: l)) (s : Int × Int) : Fit (xs.set e.1.toNat s) tag l := by
 have hn := h.nodup
 rw [List.map_cons, List.nodup_cons] at hn
 refine ⟨hn.2, fun x hx => ?_⟩
 have h1 := h.at_ x (by simp [hx])
 refine ⟨h1.1, ?_⟩
 rw [List.getElem?_set_ne]
 · exact h1.2
 ·
  intro he
  exact hn.1 (by rw [List.mem_map]; exact ⟨x, hx, he.symm⟩)
theorem Fit.lt {xs : List (Int × Int)} {tag : Int} {e : Int × Int} {l : List (Int × Int)} (h : Fit xs tag l) (he : e ∈ l) : e.1.toNat < xs.length := (List.getElem?_eq_some_iff.1 (h.at_ e he).2).1
theorem setAll_off (t d : Int) : ∀ (l xs : List (Int × Int)) (i : Nat), i ∉ l.map (fun e => e.1.toNat) → (setAll t d xs l)[i]? = xs[i]?
 | [], xs, i, _ => rfl
 | e :: l, xs, i, h => by
  rw [List.map_cons, List.mem_cons, not_or] at h
  have := setAll_off t d l (xs.set e.1.toNat (t, e.2 + d)) i h.2
  have h2 : (setAll t d xs (e :: l)) = setAll t d (xs.set e.1.toNat (t, e.2 + d)) l := rfl
  rw [h2, this, List.getElem?_set_ne (fun hh => h.1 hh.symm)]
theorem setAll_at (t d : Int) : ∀ (l xs : List (Int × Int)), (l.map fun e => e.1.toNat).Nodup → ∀ e ∈ l, e.1.toNat < xs.length → (setAll t d xs l)[e.1.toNat]? = some (t, e.2 + d)
 | [], _, _, _, h, _ => by cases h
 | x :: l, xs, hn, e, he, hl => by
  rw [List.map_cons, List.nodup_cons] at hn
  have h2 : (setAll t d xs (x :: l)) = setAll t d (xs.set x.1.toNat (t, x.2 + d)) l := rfl
  rw [h2]
  rcases List.mem_cons.1 he with rfl | he
  · rw [setAll_off _ _ _ _ _ hn.1, List.getElem?_set_self (by simpa using hl)]
  · exact setAll_at t d l _ hn.2 e he (by simpa using hl)
theorem Fit.set {xs : List (Int × Int)} {tag : Int} {l : List (Int × Int)} (h : Fit xs tag l) (t : Int) : Fit (setAll t 0 xs l) t l :=
 ⟨h.nodup, fun e he => ⟨(h.at_ e he).1, by rw [setAll_at t 0 l xs h.nodup e he (h.lt he), Int.add_zero]⟩⟩
def cnt (xs : List (Int × Int)) (t : Int) : Nat := xs.countP fun s => decide (s.1 = t)
theorem entsF_cnt (tag : Int) : ∀ (xs : List (Int × Int)) (i : Nat), (entsF tag i xs).length = cnt xs tag
 | [], _ => rfl
 | s :: xs, i => by
  have := entsF_cnt tag xs (i + 1)
  unfold cnt at *
  simp only [entsF, List.countP_cons]
  by_cases h : s.1 = tag <;> simp [h, this]
theorem ents_cnt (xs : List (Int × Int)) (tag : Int) : (ents xs tag).length = cnt xs tag := entsF_cnt tag xs 0
theorem cnt_set (xs : List (Int × Int)) (t : Int) (k : Nat) (s old : Int × Int) (hk : xs[k]? = some old) : cnt (xs.set k s) t + (if old.1 = t then 1 else 0) = cnt xs t + (if s.1 = t then 1 else 0) := by
 induction xs generalizing k with
 | nil => simp at hk
 | cons x xs ih =>
  cases k with
  | zero =>
   simp at hk; subst hk
   simp only [cnt, List.set_cons_zero, List.countP_cons, decide_eq_true_eq]
   omega
  | succ k =>
   have := ih k (by simpa using hk)
   simp only [cnt, List.set_cons_succ, List.countP_cons, decide_eq_true_eq] at this ⊢
   omega
end Go.Proofs.YtkicidopjihjmaaGreat
namespace Go.Proofs.YtkicidopjihjmaaGreat
open Go Go.RowKit
theorem entsF_iff (tag : Int) : ∀ (ss : List Ent) (i : Nat) (e : Ent), e ∈ entsF tag i ss ↔ ∃ j, e.1 = ((i + j : Nat) : Int) ∧ ss[j]? = some (tag, e.2)
 | [], i, e => by simp [entsF]
 | s :: ss, i, e => by
  constructor
  ·
   intro h
   obtain ⟨j, h1, h2, h3⟩ := entsF_mem tag (s :: ss) i e h
   exact ⟨j, h2, h3⟩
  ·
   rintro ⟨j, h1, h2⟩
   simp only [entsF]
   cases j with
   | zero =>
    simp at h2
    rw [if_pos (by rw [h2])]
    refine List.mem_cons.2 (.inl ?_)
    rw [h2]
    exact Prod.ext h1 rfl
   | succ j =>
    have h3 : e ∈ entsF tag (i + 1) ss := (entsF_iff tag ss (i + 1) e).2 ⟨j, by rw [h1]; omega, by simpa using h2⟩
    split
    · exact List.mem_cons.2 (.inr h3)
    · exact h3
theorem ents_iff {ss : List Ent} {tag : Int} {e : Ent} : e ∈ ents ss tag ↔ 0 ≤ e.1 ∧ ss[e.1.toNat]? = some (tag, e.2) := by
 unfold ents
 rw [entsF_iff]
 constructor
 ·
  rintro ⟨j, h1, h2⟩
  rw [Nat.zero_add] at h1
  refine ⟨by omega, ?_⟩
  rw [h1, Int.toNat_natCast]
  exact h2
 ·
  rintro ⟨h1, h2⟩
  exact ⟨e.1.toNat, by omega, h2⟩
theorem ents_off {ss : List Ent} {k : Nat} {s old : Ent} {u : Int} (hk : ss[k]? = some old) (h1 : old.1 ≠ u) (h2 : s.1 ≠ u) : (∀ y, y ∈ ents (ss.set k s) u ↔ y ∈ ents ss u) ∧ (ents (ss.set k s) u).length = (ents ss u).length := by
 refine ⟨fun y => ?_, ?_⟩
 ·
  rw [ents_iff, ents_iff, List.getElem?_set]
  by_cases e : k = y.1.toNat
  ·
   rw [if_pos e]
   subst e
   rw [if_pos (List.getElem?_eq_some_iff.1 hk).1, hk]
   simp only [Option.some.injEq]
   constructor
   · rintro ⟨_, h⟩; rw [h] at h2; exact absurd rfl h2
   · rintro ⟨_, h⟩; rw [h] at h1; exact absurd rfl h1
  · rw [if_neg e]
 ·
  rw [ents_cnt, ents_cnt]
  have := cnt_set ss u k s old hk
  rw [if_neg h1, if_neg h2] at this
  omega
theorem ents_in {ss : List Ent} {k : Nat} {s old : Ent} {u : Int} (hk : ss[k]? = some old) (h1 : old.1 ≠ u) (h2 : s.1 = u) : (∀ y, y ∈ ents ss u → y ∈ ents (ss.set k s) u) ∧ (((k : Nat) : Int), s.2) ∈ ents (ss.set k s) u ∧ (ents (ss.set k s) u).length = (ents ss u).length + 1 := by
 refine ⟨fun y hy => ?_, ?_, ?_⟩
 ·
  rw [ents_iff] at hy ⊢
  refine ⟨hy.1, ?_⟩
  rw [List.getElem?_set, if_neg (fun e => by rw [e, hy.2] at hk; injection hk with hk; rw [← hk] at h1; exact h1 rfl)]
  exact hy.2
 ·
  rw [ents_iff]
  refine ⟨by simp, ?_⟩
  rw [List.getElem?_set]
  simp only [Int.toNat_natCast, if_true]
  rw [if_pos (List.getElem?_eq_some_iff.1 hk).1, ← h2]
 ·
  rw [ents_cnt, ents_cnt]
  have := cnt_set ss u k s old hk
  rw [if_neg h1, if_pos h2] at this
  omega
theorem ents_out {ss : List Ent} {k : Nat} {s old : Ent} {u : Int} (hk : ss[k]? = some old) (h1 : old.1 = u) (h2 : s.1 ≠ u) : (∀ y, y ∈ ents ss u → y.1 ≠ (k : Int) → y ∈ ents (ss.set k s) u) ∧ (ents (ss.set k s) u).length + 1 = (ents ss u).length := by
 refine ⟨fun y hy hne => ?_, ?_⟩
 ·
  rw [ents_iff] at hy ⊢
  refine ⟨hy.1, ?_⟩
  rw [List.getElem?_set, if_neg (by omega)]
  exact hy.2
 ·
  rw [ents_cnt, ents_cnt]
  have := cnt_set ss u k s old hk
  rw [if_pos h1, if_neg h2] at this
  omega
theorem meant_at {ss : List Ent} {e : Ent} (h : meantB ss e = true) : 0 ≤ e.1 ∧ ss[e.1.toNat]? = some (tagOf ss e, e.2) := by
 obtain ⟨k, h1, h2, h3⟩ := meantB_out h
 refine ⟨by omega, ?_⟩
 rw [h1, Int.toNat_natCast]
 unfold tagOf
 rw [h1, Int.toNat_natCast, ← h3]
 rw [List.getD_eq_getElem?_getD, List.getElem?_eq_getElem h2]
 rfl
structure WfR (r : Rec) : Prop where
 ok : OkR r
 sn : ∀ s ∈ r.S, 0 ≤ s
 gn : ∀ s ∈ r.sl, 0 ≤ s.2
theorem held_row {l : Li.Lim} {k : Nat} (hk : k < 3) {x : Ent} (hx : x ∈ l.r k) : x ∈ l.held := by
 obtain ⟨a, ha, h⟩ : ∃ a, a < 3 ∧ Li.rowN l.E a = k := by
  unfold Li.rowN
  have h3 := Nat.mod_lt l.E (show 0 < 3 by omega)
  exact ⟨(l.E + 3 - k) % 3, Nat.mod_lt _ (by omega), by omega⟩
 have h2 : x ∈ l.at a := by unfold Li.Lim.at; rw [h]; exact hx
 unfold Li.Lim.held
 simp only [List.mem_append]
 obtain rfl | rfl | rfl : a = 0 ∨ a = 1 ∨ a = 2 := by omega
 · exact .inr (.inr h2)
 · exact .inr (.inl h2)
 · exact .inl h2
theorem WfR.fit {r : Rec} (h : WfR r) : FitR r := by
 obtain ⟨a1, a2, a3⟩ := arOk_out h.ok.ar
 obtain ⟨p1, p2, p3, p4⟩ := Pn.pOk_out h.ok.pn
 obtain ⟨l1, _⟩ := Li.ok_out h.ok.lm
 have he := h.ok.ep
 have hL : r.l.E ≤ 4611686018427387904 := l1
 refine ⟨by omega, by omega, fun k hk => by have := Li.row_len h.ok.lm hk; omega, ⟨by omega, by omega⟩, fun x hx => ?_, by omega, fun k hk x hx => ?_⟩
 ·
  have := p4 x hx
  have := h.sn x hx
  unfold U64; omega
 ·
  obtain ⟨_, _, h3⟩ := ents_mem (h.ok.sub x (held_row hk hx))
  have hm := List.mem_of_getElem? h3
  have := h.gn _ hm
  have h4 := slabOk_out (a3 _ hm)
  exact ⟨this, by have := h4.2.2; dsimp only at this; omega⟩
theorem gn_set {ss : List Ent} (h : ∀ s ∈ ss, 0 ≤ s.2) {k : Nat} {s : Ent} (hs : 0 ≤ s.2) : ∀ x ∈ ss.set k s, 0 ≤ x.2 := fun x hx => by
 rcases List.mem_or_eq_of_mem_set hx with hx | rfl
 · exact h x hx
 · exact hs
theorem wf_sl {r : Rec} (h : WfR r) {k : Nat} {s old : Ent} (hk : r.sl[k]? = some old) (h1 : old.1 ≠ 2) (h2 : s.1 ≠ 2) (hs : slabOk s = true) (hg : 0 ≤ s.2) : WfR ⟨r.sl.set k s, r.e, r.S, r.l⟩ := by
 obtain ⟨e1, e2⟩ := ents_off hk h1 h2
 exact ⟨⟨arOk_set h.ok.ar k s hs, h.ok.pn, h.ok.lm, h.ok.ep, fun x hx => (e1 x).2 (h.ok.sub x hx), h.ok.len.trans e2.symm⟩, h.sn, gn_set h.gn hg⟩
theorem wf_pin {r r' : Rec} {told t' : List Ent} {o : EOp} {k : Int} (h : WfR r) (hk : k = 1 ∨ k = 2) (hb : 0 ≤ o.b) (hs : pinR r told o k = .ok (r', t')) : WfR r' ∧ t' = told := by
 unfold pinR at hs
 split at hs
 ·
  rename_i h0
  injection hs with hs
  injection hs with hs1 hs2
  subst hs1
  have hd : Pn.dE r.e r.S k o.g o.b = 0 := by unfold Pn.doE at h0; rw [if_pos h.ok.pn] at h0; exact h0
  have he : 0 ≤ r.e := by have := h.ok.ep; omega
  have hx : Pn.doX r.e r.S k o.g o.b = r.e := by unfold Pn.doX; rw [if_pos h0]; unfold Pn.dX; rw [if_neg (by omega)]
  have hS : Pn.doS r.e r.S k o.g o.b = Pn.dS r.e r.S k o.g o.b := by unfold Pn.doS; rw [if_pos h0]
  have hp := Pn.pOk_do h.ok.pn he hb hd
  have hn := Pn.dS_nonneg h.sn hd he
  refine ⟨⟨⟨h.ok.ar, ?_, h.ok.lm, ?_, h.ok.sub, h.ok.len⟩, ?_, h.gn⟩, hs2.symm⟩
  ·
   show Pn.pOk (Pn.doX _ _ _ _ _) (Pn.doS _ _ _ _ _) = true
   rw [hx, hS]
   have : Pn.dX r.e k = r.e := by unfold Pn.dX; rw [if_neg (by omega)]
   rwa [this] at hp
  ·
   show (r.l.E : Int) = Pn.doX _ _ _ _ _
   rw [hx]; exact h.ok.ep
  ·
   show ∀ s ∈ Pn.doS _ _ _ _ _, 0 ≤ s
   rw [hS]; exact hn
 · cases hs
theorem wf_take {r r' : Rec} {told t' : List Ent} (h : WfR r) (hs : takeR r told = .ok (r', t')) : WfR r' ∧ ∃ e, e ∈ ents r.sl 0 ∧ t' = told ++ [e] ∧ r' = ⟨r.sl.set e.1.toNat (1, e.2), r.e, r.S, r.l⟩ := by
 unfold takeR at hs
 split at hs
 ·
  rename_i h0
  injection hs with hs
  injection hs with hs1 hs2
  have hl : 0 < (ents r.sl 0).length := by unfold tkE at h0; rw [if_pos h.ok.ar] at h0; split at h0 <;> first | omega | (split at h0 <;> omega)
  have e1 : tkA r.sl 1 = put1 1 r.sl (ents r.sl 0)[0] := by unfold tkA; rw [if_pos h0]; exact tk_succ r.sl 0 hl
  have e2 : tkL r.sl 1 = [(ents r.sl 0)[0]] := by
   unfold tkL; rw [if_pos h0]
   show (ents r.sl 0).take 1 = _
   rw [List.take_one, List.head?_eq_getElem?, List.getElem?_eq_getElem hl]; rfl
  have hm : (ents r.sl 0)[0] ∈ ents r.sl 0 := List.getElem_mem _
  obtain ⟨m1, m2⟩ := ents_iff.1 hm
  have hmm := List.mem_of_getElem? m2
  have hg := h.gn _ hmm
  have hsl := slabOk_out ((arOk_out h.ok.ar).2.2 _ hmm)
  have hr : r' = ⟨r.sl.set (ents r.sl 0)[0].1.toNat (1, (ents r.sl 0)[0].2), r.e, r.S, r.l⟩ := by rw [← hs1, e1]; rfl
  refine ⟨?_, _, hm, by rw [← hs2, e2], hr⟩
  rw [hr]
  exact wf_sl h m2 (show (0 : Int) ≠ 2 by omega) (show (1 : Int) ≠ 2 by omega) (slabOk_mk (by omega) (by omega) hsl.2.2) hg
 · cases hs
theorem giv_one {ss ys : List Ent} {x : Ent} (ho : arOk ss = true) (h0 : gvE ss [x] = 0) : meantB ss x = true ∧ tagOf ss x ≠ 0 ∧ x.2 < 1099511627775 ∧ gvA ss [x] = ss.set x.1.toNat (0, x.2 + 1) := by
 unfold gvE at h0
 unfold gvA
 rw [if_pos ho] at h0 ⊢
 simp only [givS] at h0 ⊢
 by_cases h1 : meantB ss x = true ∧ tagOf ss x ≠ 0
 ·
  rw [if_pos h1] at h0 ⊢
  by_cases h2 : x.2 < 1099511627775
  ·
   rw [if_pos h2] at h0 ⊢
   exact ⟨h1.1, h1.2, h2, rfl⟩
  · rw [if_neg h2] at h0; simp at h0
 · rw [if_neg h1] at h0; simp at h0
theorem ret_one {ss : List Ent} {x : Ent} (ho : arOk ss = true) (h0 : rtE ss [x] = 0) : meantB ss x = true ∧ tagOf ss x = 1 ∧ rtA ss [x] = ss.set x.1.toNat (2, x.2) := by
 unfold rtE at h0
 unfold rtA
 rw [if_pos ho] at h0 ⊢
 simp only [retS] at h0 ⊢
 by_cases h1 : meantB ss x = true ∧ tagOf ss x = 1
 ·
  rw [if_pos h1]
  exact ⟨h1.1, h1.2, rfl⟩
 · rw [if_neg h1] at h0; simp at h0
theorem wf_back {r r' : Rec} {told t' : List Ent} {x : Ent} (h : WfR r) (hs : backR r told x = .ok (r', t')) : WfR r' ∧ t' = told ∧ meantB r.sl x = true ∧ tagOf r.sl x = 1 ∧ x.2 < 1099511627775 ∧ r' = ⟨r.sl.set x.1.toNat (0, x.2 + 1), r.e, r.S, r.l⟩ := by
 unfold backR at hs
 split at hs
 ·
  rename_i hm
  split at hs
  ·
   rename_i h0
   injection hs with hs
   injection hs with hs1 hs2
   obtain ⟨g1, g2, g3, g4⟩ := giv_one (ys := []) h.ok.ar h0
   obtain ⟨m1, m2⟩ := meant_at g1
   have hmm := List.mem_of_getElem? m2
   have hg := h.gn _ hmm
   rw [hm.2] at m2
   rw [g4] at hs1
   refine ⟨?_, hs2.symm, g1, hm.2, g3, hs1.symm⟩
   rw [← hs1]
   exact wf_sl h m2 (show (1 : Int) ≠ 2 by omega) (show (0 : Int) ≠ 2 by omega) (slabOk_mk (by omega) (by omega) (by omega)) (by have hg : 0 ≤ x.2 := hg; show 0 ≤ x.2 + 1; omega)
  · cases hs
 · cases hs
theorem wf_reti {r r' : Rec} {told t' : List Ent} {x : Ent} (h : WfR r) (hs : retiR r told x = .ok (r', t')) : WfR r' ∧ t' = told ∧ meantB r.sl x = true ∧ tagOf r.sl x = 1 ∧ ∃ l, Li.doRet r.l x = .ok l ∧ r' = ⟨r.sl.set x.1.toNat (2, x.2), r.e, r.S, l⟩ := by
 unfold retiR at hs
 split at hs
 ·
  rename_i h0
  obtain ⟨g1, g2, g3⟩ := ret_one h.ok.ar h0
  split at hs
  ·
   rename_i l hl
   injection hs with hs
   injection hs with hs1 hs2
   have hl : Li.doRet r.l x = .ok l := by unfold Li.retR at hl; rw [if_pos h.ok.lm] at hl; exact hl
   obtain ⟨m1, m2⟩ := meant_at g1
   have hmm := List.mem_of_getElem? m2
   have hg : 0 ≤ x.2 := h.gn (tagOf r.sl x, x.2) hmm
   have hsl := slabOk_out ((arOk_out h.ok.ar).2.2 _ hmm)
   rw [g2] at m2
   rw [g3] at hs1
   obtain ⟨e1, e2, e3⟩ := ents_in (s := (2, x.2)) (u := 2) m2 (show (1 : Int) ≠ 2 by omega) rfl
   have hh := Li.held_ret hl
   have hE := (Li.each_ret hl).2.1
   refine ⟨?_, hs2.symm, g1, g2, l, hl, hs1.symm⟩
   rw [← hs1]
   refine ⟨⟨arOk_set h.ok.ar _ _ (slabOk_mk (by omega) (by omega) hsl.2.2), h.ok.pn, Li.ok_ret h.ok.lm hl, ?_, fun y hy => ?_, ?_⟩, h.sn, gn_set h.gn hg⟩
   ·
    show (l.E : Int) = r.e
    rw [hE]; exact h.ok.ep
   ·
    have hy : y ∈ l.held := hy
    rw [hh, List.mem_append, List.mem_singleton] at hy
    rcases hy with hy | rfl
    · exact e1 y (h.ok.sub y hy)
    ·
     have : ((y.1.toNat : Nat) : Int) = y.1 := by omega
     rw [this] at e2
     exact e2
   ·
    show l.held.length = _
    rw [hh, List.length_append, h.ok.len]
    exact e3.symm
  · cases hs
 · cases hs
theorem okP_apart {E : Nat} : ∀ {l : List (Nat × Ent)} {met : List Int}, Li.okP E l met = true → ∀ p ∈ l, p.2.1 ∈ met → False
 | [], _, _, _, hp, _ => by cases hp
 | q :: l, met, h, p, hp, hm => by
  simp only [Li.okP, Bool.and_eq_true] at h
  rcases List.mem_cons.1 hp with rfl | hp
  ·
   have h1 := h.1.2.2
   simp at h1
   exact h1 hm
  · exact okP_apart h.2 p hp (List.mem_cons_of_mem _ hm)
theorem tak_out {l l' : Li.Lim} {x : Ent} (ho : l.ok = true) (h : Li.takR l = .ok (l', x)) : Li.doTake l = .ok (l', x) := by
 unfold Li.takR at h; rw [if_pos ho] at h; exact h
theorem wf_free {r r' : Rec} {told t' : List Ent} (h : WfR r) (hs : freeR r told = .ok (r', t')) : WfR r' ∧ ∃ l x, Li.doTake r.l = .ok (l, x) ∧ x ∈ ents r.sl 2 ∧ x.2 < 1099511627775 ∧ t' = told ++ [x] ∧ r' = ⟨r.sl.set x.1.toNat (0, x.2 + 1), r.e, r.S, l⟩ := by
 unfold freeR at hs
 split at hs
 ·
  rename_i l x hl
  split at hs
  ·
   rename_i h0
   injection hs with hs
   injection hs with hs1 hs2
   have hl := tak_out h.ok.lm hl
   obtain ⟨g1, g2, g3, g4⟩ := giv_one (ys := []) h.ok.ar h0
   have hh := Li.held_take hl
   have hx : x ∈ ents r.sl 2 := h.ok.sub x (by rw [hh]; simp)
   obtain ⟨m1, m2⟩ := ents_iff.1 hx
   have hg : 0 ≤ x.2 := h.gn (2, x.2) (List.mem_of_getElem? m2)
   rw [g4] at hs1
   obtain ⟨e1, e2⟩ := ents_out (s := (0, x.2 + 1)) (u := 2) m2 rfl (show (0 : Int) ≠ 2 by omega)
   refine ⟨?_, l, x, hl, hx, g3, hs2.symm, hs1.symm⟩
   rw [← hs1]
   refine ⟨⟨arOk_set h.ok.ar _ _ (slabOk_mk (by omega) (by omega) (by omega)), h.ok.pn, Li.ok_take h.ok.lm hl, ?_, fun y hy => ?_, ?_⟩, h.sn, gn_set h.gn (by show 0 ≤ x.2 + 1; omega)⟩
   ·
    show (l.E : Int) = r.e
    rw [(Li.each_take hl).2.1]; exact h.ok.ep
   ·
    have hy : y ∈ l.held := hy
    refine e1 y (h.ok.sub y (by rw [hh]; simp [hy])) (fun hc => ?_)
    have h1 := (Li.ok_out h.ok.lm).2
    rw [(Li.each_take hl).1] at h1
    have h2 : y ∈ l.each.map (·.2) := by rw [Li.each_held]; exact hy
    obtain ⟨p, hp, rfl⟩ := List.mem_map.1 h2
    rw [show ((2, x) :: l.each : List (Nat × Ent)) = [(2, x)] ++ l.each from rfl, Li.okP_append] at h1
    simp only [Bool.and_eq_true] at h1
    refine okP_apart h1.2 p hp (by simp [Li.metOf]; omega)
   ·
    show l.held.length = _
    have := h.ok.len
    rw [hh, List.length_cons] at this
    show l.held.length = (ents (r.sl.set x.1.toNat (0, x.2 + 1)) 2).length
    omega
  · cases hs
 · cases hs
theorem go_parts {r r' : Rec} {told t' : List Ent} {o : EOp} (h : WfR r) (hs : goR r told o = .ok (r', t')) : t' = told ∧ r.l.at 2 = [] ∧ r.S.any (Pn.heldB r.e) = false ∧ r.e ≠ 4611686018427387904 ∧ ∃ l, Li.doAdv r.l = .ok l ∧ r' = ⟨r.sl, r.e + 1, r.S, l⟩ := by
 unfold goR at hs
 rw [if_pos h.ok.lm] at hs
 split at hs
 ·
  rename_i hl
  have hl : r.l.at 2 = [] := List.length_eq_zero_iff.1 hl
  split at hs
  ·
   rename_i r1 t1 hp
   unfold pinR at hp
   split at hp
   ·
    rename_i h0
    injection hp with hp
    injection hp with hp1 hp2
    have hd : Pn.dE r.e r.S 3 o.g o.b = 0 := by unfold Pn.doE at h0; rw [if_pos h.ok.pn] at h0; exact h0
    have hx : Pn.doX r.e r.S 3 o.g o.b = r.e + 1 := by unfold Pn.doX; rw [if_pos h0]; rfl
    have hS : Pn.doS r.e r.S 3 o.g o.b = r.S := by unfold Pn.doS; rw [if_pos h0]; rfl
    rw [hx, hS] at hp1
    subst hp1
    split at hs
    ·
     rename_i l hl2
     injection hs with hs
     injection hs with hs1 hs2
     have hl2 : Li.doAdv r.l = .ok l := by unfold Li.advR at hl2; rw [if_pos h.ok.lm] at hl2; exact hl2
     have hc := Pn.dE_cases r.e r.S 3 o.g o.b hd
     simp at hc
     exact ⟨by rw [← hs2, hp2], hl, by simpa using hc.1, hc.2, l, hl2, hs1.symm⟩
    · cases hs
   · cases hp
  · cases hs
 · cases hs
theorem wf_go {r r' : Rec} {told t' : List Ent} {o : EOp} (h : WfR r) (hs : goR r told o = .ok (r', t')) : WfR r' := by
 obtain ⟨_, hl, hS, he, l, hl2, rfl⟩ := go_parts h hs
 obtain ⟨p1, p2, p3, p4⟩ := Pn.pOk_out h.ok.pn
 refine ⟨⟨h.ok.ar, Pn.pOk_mk ⟨p1, p2, by show r.e + 1 ≤ _; omega, fun s hs => by have := p4 s hs; show s ≤ r.e + 1 + 1; omega⟩, Li.ok_adv h.ok.lm hl2, ?_, fun x hx => ?_, ?_⟩, h.sn, h.gn⟩
 ·
  show (l.E : Int) = r.e + 1
  rw [(Li.each_adv hl2).2.1]
  have := h.ok.ep; omega
 ·
  have hx : x ∈ l.held := hx
  rw [Li.held_adv hl2] at hx
  exact h.ok.sub x hx
 ·
  show l.held.length = _
  rw [Li.held_adv hl2]
  exact h.ok.len
theorem wf_step {r r' : Rec} {told t' : List Ent} {o : EOp} (h : WfR r) (hb : 0 ≤ o.b) (hs : stepR r told o = .ok (r', t')) : WfR r' := by
 unfold stepR at hs
 split at hs
 · exact (wf_pin h (.inl rfl) hb hs).1
 split at hs
 · exact (wf_pin h (.inr rfl) hb hs).1
 split at hs
 · exact (wf_take h hs).1
 split at hs
 · exact (wf_back h hs).1
 split at hs
 · exact (wf_reti h hs).1
 split at hs
 · exact (wf_free h hs).1
 split at hs
 · exact wf_go h hs
 · cases hs
theorem pin_ne {r : Rec} {told : List Ent} {o : EOp} {k e : Int} (h : pinR r told o k = .error e) : e ≠ 0 := by
 unfold pinR at h
 split at h
 · cases h
 · rename_i h0; injection h with h; rw [← h]; exact h0
theorem free_ne {r : Rec} {told : List Ent} {e : Int} (h : freeR r told = .error e) : e ≠ 0 := by
 unfold freeR at h
 split at h
 ·
  split at h
  · cases h
  · rename_i h0; injection h with h; rw [← h]; exact h0
 ·
  rename_i k hk
  injection h with h
  subst h
  unfold Li.takR at hk
  split at hk
  ·
   unfold Li.doTake at hk
   split at hk
   · injection hk with hk; omega
   · cases hk
  · injection hk with hk; omega
theorem reti_ne {r : Rec} {told : List Ent} {x : Ent} {e : Int} (h : retiR r told x = .error e) : e ≠ 0 := by
 unfold retiR at h
 split at h
 ·
  split at h
  · cases h
  ·
   rename_i k hk
   injection h with h
   subst h
   unfold Li.retR at hk
   split at hk
   · exact Li.doRet_ne hk
   · injection hk with hk; omega
 · rename_i h0; injection h with h; rw [← h]; exact h0
theorem go_ne {r : Rec} {told : List Ent} {o : EOp} {e : Int} (h : goR r told o = .error e) : e ≠ 0 := by
 unfold goR at h
 generalize (if r.l.ok = true then r.l.at 2 else []).length = n at h
 split at h
 ·
  split at h
  ·
   split at h
   · cases h
   ·
    rename_i k hk
    injection h with h
    subst h
    unfold Li.advR at hk
    split at hk
    ·
     unfold Li.doAdv at hk
     split at hk
     · injection hk with hk; omega
     ·
      split at hk
      · cases hk
      · injection hk with hk; omega
    · injection hk with hk; omega
  ·
   rename_i hp
   injection h with h
   subst h
   exact pin_ne hp
 · injection h with h; omega
theorem step_ne {r : Rec} {told : List Ent} {o : EOp} {e : Int} (h : stepR r told o = .error e) : e ≠ 0 := by
 unfold stepR at h
 split at h
 · exact pin_ne h
 split at h
 · exact pin_ne h
 split at h
 ·
  unfold takeR at h
  split at h
  · cases h
  · rename_i h0; injection h with h; rw [← h]; exact h0
 split at h
 ·
  unfold backR at h
  split at h
  ·
   split at h
   · cases h
   · rename_i h0; injection h with h; rw [← h]; exact h0
  · injection h with h; omega
 split at h
 · exact reti_ne h
 split at h
 · exact free_ne h
 split at h
 · exact go_ne h
 · injection h with h; omega
theorem step_told {r r' : Rec} {told t' : List Ent} {o : EOp} (h : WfR r) (hb : 0 ≤ o.b) (hs : stepR r told o = .ok (r', t')) : t' = told ∨ ∃ x, t' = told ++ [x] := by
 unfold stepR at hs
 split at hs
 · exact .inl (wf_pin h (.inl rfl) hb hs).2
 split at hs
 · exact .inl (wf_pin h (.inr rfl) hb hs).2
 split at hs
 · obtain ⟨_, e, _, h1, _⟩ := wf_take h hs; exact .inr ⟨e, h1⟩
 split at hs
 · exact .inl (wf_back h hs).2.1
 split at hs
 · exact .inl (wf_reti h hs).2.1
 split at hs
 · obtain ⟨_, l, x, _, _, _, h1, _⟩ := wf_free h hs; exact .inr ⟨x, h1⟩
 split at hs
 · exact .inl (go_parts h hs).1
 · cases hs
theorem fitO {r : Rec} {o : EOp} (hb : 0 ≤ o.b) (hx : U64 o.x.2) : (tkL r.sl 1).length ≤ 4096 := by
 unfold tkL
 split
 · rw [List.length_take]; show min 1 _ ≤ _; omega
 · exact Nat.zero_le _
def oFree : EOp := ⟨6, 0, 0, (0, 0)⟩
def oGo : EOp := ⟨7, 0, 0, (0, 0)⟩
theorem step_free (r : Rec) (t : List Ent) : stepR r t oFree = freeR r t := rfl
theorem step_go (r : Rec) (t : List Ent) : stepR r t oGo = goR r t oGo := rfl
def freesF : Nat → Rec → List Ent → Rec × List Ent
 | 0, r, t => (r, t)
 | n + 1, r, t => match freeR r t with
  | .ok (r', t') => freesF n r' t'
  | .error _ => (r, t)
def freesR (r : Rec) (t : List Ent) : Rec × List Ent := freesF r.l.held.length r t
theorem free_held {r r' : Rec} {t t' : List Ent} (h : WfR r) (hs : freeR r t = .ok (r', t')) : r.l.held.length = r'.l.held.length + 1 ∧ t'.length = t.length + 1 := by
 obtain ⟨_, l, x, hl, _, _, h1, h2⟩ := wf_free h hs
 rw [h2, h1, Li.held_take hl]
 simp
theorem freesR_ok {r r' : Rec} {t t' : List Ent} (h : WfR r) (hs : freeR r t = .ok (r', t')) : freesR r t = freesR r' t' := by
 unfold freesR
 rw [(free_held h hs).1]
 show (match freeR r t with | .ok (r', t') => freesF _ r' t' | .error _ => (r, t)) = _
 rw [hs]
theorem freesR_no {r : Rec} {t : List Ent} {k : Int} (hs : freeR r t = .error k) : freesR r t = (r, t) := by
 unfold freesR
 cases r.l.held.length with
 | zero => rfl
 | succ n =>
  show (match freeR r t with | .ok (r', t') => freesF _ r' t' | .error _ => (r, t)) = _
  rw [hs]
theorem frees_ind {P : Rec → List Ent → Prop} (step : ∀ r t r' t', WfR r → P r t → freeR r t = .ok (r', t') → P r' t') : ∀ (n : Nat) (r : Rec) (t : List Ent), WfR r → r.l.held.length = n → P r t → P (freesR r t).1 (freesR r t).2 ∧ WfR (freesR r t).1 ∧ ∃ k, freeR (freesR r t).1 (freesR r t).2 = .error k := by
 intro n
 induction n with
 | zero =>
  intro r t h hn hp
  have h0 : freesR r t = (r, t) := by unfold freesR; rw [hn]; rfl
  rw [h0]
  refine ⟨hp, h, ?_⟩
  cases hs : freeR r t with
  | error k => exact ⟨k, rfl⟩
  | ok x => have := (free_held h (r' := x.1) (t' := x.2) hs).1; omega
 | succ n ih =>
  intro r t h hn hp
  cases hs : freeR r t with
  | error k => rw [freesR_no hs]; exact ⟨hp, h, k, hs⟩
  | ok x =>
   rw [freesR_ok h (r' := x.1) (t' := x.2) hs]
   have hl := (free_held h (r' := x.1) (t' := x.2) hs).1
   exact ih x.1 x.2 (wf_free h (r' := x.1) (t' := x.2) hs).1 (by omega) (step r t x.1 x.2 h hp hs)
def triesR (r : Rec) (t : List Ent) : Rec × List Ent × Bool :=
 match goR (freesR r t).1 (freesR r t).2 oGo with
 | .ok (r', t') => ((freesR r' t').1, (freesR r' t').2, true)
 | .error _ => ((freesR r t).1, (freesR r t).2, false)
def contR (b : Bool) (r : Rec) (t : List Ent) : Rec × List Ent × Bool := if b = true then ((freesR r t).1, (freesR r t).2, true) else triesR r t
theorem contR_free {b : Bool} {r r' : Rec} {t t' : List Ent} (h : WfR r) (hs : freeR r t = .ok (r', t')) : contR b r t = contR b r' t' := by
 unfold contR triesR
 rw [freesR_ok h hs]
theorem contR_go {r r' : Rec} {t t' : List Ent} {k : Int} (hs : freeR r t = .error k) (hg : goR r t oGo = .ok (r', t')) : contR false r t = contR true r' t' := by
 unfold contR triesR
 simp only [Bool.false_eq_true, if_false, if_true]
 rw [freesR_no hs]
 simp only [hg]
theorem contR_stay {r : Rec} {t : List Ent} {k k2 : Int} (hs : freeR r t = .error k) (hg : goR r t oGo = .error k2) : contR false r t = (r, t, false) := by
 unfold contR triesR
 simp only [Bool.false_eq_true, if_false]
 rw [freesR_no hs]
 simp only [hg]
theorem contR_end {r : Rec} {t : List Ent} {k : Int} (hs : freeR r t = .error k) : contR true r t = (r, t, true) := by
 unfold contR
 simp only [if_true]
 rw [freesR_no hs]
theorem go_held {r r' : Rec} {t t' : List Ent} (h : WfR r) (hs : goR r t oGo = .ok (r', t')) : r'.l.held = r.l.held ∧ t' = t ∧ r'.l.E = r.l.E + 1 ∧ r.l.E < Li.LAST := by
 obtain ⟨h1, _, _, _, l, hl, rfl⟩ := go_parts h hs
 exact ⟨Li.held_adv hl, h1, (Li.each_adv hl).2.1, (Li.each_adv hl).2.2.1⟩
theorem tries_ind {P : Rec → List Ent → Prop} (step : ∀ r t r' t', WfR r → P r t → freeR r t = .ok (r', t') → P r' t') (go : ∀ r t r' t', WfR r → P r t → goR r t oGo = .ok (r', t') → P r' t') {r : Rec} {t : List Ent} (h : WfR r) (hp : P r t) : P (triesR r t).1 (triesR r t).2.1 ∧ WfR (triesR r t).1 := by
 obtain ⟨h1, h2, _⟩ := frees_ind step _ r t h rfl hp
 unfold triesR
 cases hg : goR (freesR r t).1 (freesR r t).2 oGo with
 | error k => exact ⟨h1, h2⟩
 | ok x =>
  have h3 := wf_go h2 (r' := x.1) (t' := x.2) hg
  obtain ⟨h4, h5, _⟩ := frees_ind step _ x.1 x.2 h3 rfl (go _ _ x.1 x.2 h2 h1 hg)
  exact ⟨h4, h5⟩
def lastT (t : List Ent) : Ent := t.getLastD (0, 0)
def doR (r : Rec) (o : EOp) : Rec × Ent × Int :=
 if r.ok = true then (match stepR r [] o with
  | .ok (r', t) => (r', lastT t, 0)
  | .error k => (rec0, (0, 0), k))
 else (rec0, (0, 0), 250)
def runL : Rec → List Ent → Nat → List EOp → Option (Rec × List Ent × Nat)
 | r, t, n, [] => some (r, t, n)
 | r, t, n, o :: l => match stepR r t o with
  | .ok (r', t') => runL r' t' n l
  | .error k => if k = 251 then none else runL r t (n + 1) l
def runOut : Option (Rec × List Ent × Nat) → Rec × List Ent × Nat × Int
 | some x => (x.1, x.2.1, x.2.2, 0)
 | none => (rec0, [], 0, 251)
def runR (r : Rec) (l : List EOp) : Rec × List Ent × Nat × Int :=
 if r.ok = true then runOut (runL r [] 0 l) else (rec0, [], 0, 250)
def tryR (r : Rec) : Rec × List Ent × Bool × Int := if r.ok = true then ((triesR r []).1, (triesR r []).2.1, (triesR r []).2.2, 0) else (rec0, [], false, 250)
end Go.Proofs.YtkicidopjihjmaaGreat
namespace Go.Proofs.YtkicidopjihjmaaGreat
open Go Go.RowKit
attribute [local go_sem] via_cell via_frozen
def DoesX (gh base : Nat) (r : Rec) (told : List Ent) (o : EOp) (W : World) (e : Ending) (W' : World) : Prop :=
 e = .returned (.int .i64 (okK (stepR r told o))) ∧ (∃ o3, HandX W' base gh o3 (okR r told (stepR r told o)).1 (okR r told (stepR r told o)).2) ∧ Below base W W'
theorem doesX {W : World} {base gh : Nat} {o0 : EOp} {r : Rec} {told : List Ent} (h : HandX W base gh o0 r told) (hw : WfR r) (o : EOp) (hb : 0 ≤ o.b) (hx : U64 o.x.2) (ht : (told.length : Int) ≤ 1000000) :
  Calls Tryz.prog 48 #[.pointer (some ⟨gh, 0, none⟩), .agg #[.int .i64 o.k, .int .i64 o.g, .int .u64 o.b, .int .i64 o.x.1, .int .u64 o.x.2]] W (DoesX gh base r told o W) := by
 obtain ⟨A0, As, n0, c0, ns, cs, A, n, c, At, nt, ct, h⟩ := h
 refine (does_any base gh A0 As n0 c0 ns cs A n c o0 o At nt ct r told W h hw.fit ⟨hb, hx, fitO hb hx⟩ (by rw [← h.len]; exact ht)).mono ?_
 rintro e w ⟨rfl, hh, hp⟩
 exact ⟨rfl, hh, hp.to_below h.lo (fun q hq => (told_lt h.own q hq).1) (Nat.le_trans h.lo (Nat.le_of_lt h.row.lt))⟩
theorem HandR.out {w : World} {base gh : Nat} {A0 As : Option Addr} {n0 c0 ns cs : Nat} {A : Nat → Option Addr} {n c : Nat → Nat} {o : EOp} {At : Option Addr} {nt ct : Nat} {r : Rec} {told : List Ent} (h : HandR w base gh A0 As n0 c0 ns cs A n c o At nt ct r told) : RecF (From base) w A0 As n0 c0 ns cs A n c r := h.all.up (fun j hj _ => hj.1)
structure LaidF (g : Nat) (w w' : World) : Prop where
 below : Below g w w'
 block : ∀ j, j ≠ g → w'.heap[j]? = w.heap[j]?
theorem LaidF.size {g : Nat} {w w' : World} (h : LaidF g w w') : w.heap.size ≤ w'.heap.size := h.below.size
theorem laid0 (g : Nat) (w : World) : LaidF g w w := ⟨Below.refl _ _, fun _ _ => rfl⟩
theorem LaidF.set {g : Nat} {w w' : World} (h : LaidF g w w') (k : Nat) (v : Value) : LaidF g w (w'.setCell ⟨g, k, none⟩ v) := ⟨h.below.setCell (p := ⟨g, k, none⟩) (Nat.le_refl _) v, fun j hj => (heap_setCell_ne _ _ _ _ hj).trans (h.block j hj)⟩
theorem LaidF.stay {F : Nat → Prop} {g : Nat} {w w' : World} (h : LaidF g w w') (hg : ¬ F g) : StayF F w w' := ⟨h.size, fun j hj _ => h.block j (fun e => hg (by rw [← e]; exact hj))⟩
theorem lp7 (w : World) (g : Nat) (v0 v1 v2 v3 v4 v5 v6 : Value) : LaidF g w (((((((w.setCell ⟨g, 0, none⟩ v0).setCell ⟨g, 1, none⟩ v1).setCell ⟨g, 2, none⟩ v2).setCell ⟨g, 3, none⟩ v3).setCell ⟨g, 4, none⟩ v4).setCell ⟨g, 5, none⟩ v5).setCell ⟨g, 6, none⟩ v6) := (((((((laid0 g w).set 0 v0).set 1 v1).set 2 v2).set 3 v3).set 4 v4).set 5 v5).set 6 v6
theorem HandR.laid {w w' : World} {base gh g : Nat} {A0 As : Option Addr} {n0 c0 ns cs : Nat} {A : Nat → Option Addr} {n c : Nat → Nat} {o : EOp} {At : Option Addr} {nt ct : Nat} {r : Rec} {told : List Ent} (h : HandR w base gh A0 As n0 c0 ns cs A n c o At nt ct r told) (hl : StayF (fun j => j ≠ g) w w') (h1 : gh ≠ g) (h2 : ∀ q, At = some q → q.block ≠ g) (h3 : RecF (fun j => OffB base gh At j ∧ j ≠ g) w A0 As n0 c0 ns cs A n c r) : HandR w' base gh A0 As n0 c0 ns cs A n c o At nt ct r told := by
 refine ⟨(hl.2 _ h1 h.row.lt).trans h.row, (h3.stay ⟨hl.1, fun j hj => hl.2 j hj.2⟩).up (fun j hj _ => hj.1), own_kept h.own (fun j hj => hl.2 j (fun e => ?_)), h.len, h.lo⟩
 rw [own_block] at hj
 cases At with
 | none => cases hj
 | some q => injection hj with hj; exact h2 q rfl (hj.trans e)
def DoRes (r : Rec) (o : EOp) (W : World) (e : Ending) (W' : World) : Prop :=
 (∃ v, e = .returned (.tuple #[v, .agg #[.int .i64 (doR r o).2.1.1, .int .u64 (doR r o).2.1.2], .int .i64 (doR r o).2.2]) ∧ RecOut (From W.heap.size) W' v (doR r o).1) ∧ Below W.heap.size W W'
set_option maxRecDepth 20000 in
theorem Do_any (F : Nat → Prop) (A0 As : Option Addr) (n0 c0 ns cs : Nat) (A : Nat → Option Addr) (n c : Nat → Nat) (r : Rec) (o : EOp) (W : World) (h : RecF F W A0 As n0 c0 ns cs A n c r) (hf : FitR r) (hg : ∀ s ∈ r.sl, 0 ≤ s.2) (hb : 0 ≤ o.b) (hx : U64 o.x.2) :
  Calls Tryz.prog 13 #[.agg (recC r.e r.l.E A0 As n0 c0 ns cs A n c), .agg #[.int .i64 o.k, .int .i64 o.g, .int .u64 o.b, .int .i64 o.x.1, .int .u64 o.x.2]] W (DoRes r o W) := by
 have b1 : Below W.heap.size W ((((W.alloc (.cells #[.slice A0 n0 c0, .int .u64 r.e, .slice As ns cs, .int .u64 (r.l.E : Int), .slice (A 0) (n 0) (c 0), .slice (A 1) (n 1) (c 1), .slice (A 2) (n 2) (c 2)] 34)).alloc (.cells #[.int .i64 o.k, .int .i64 o.g, .int .u64 o.b, .int .i64 o.x.1, .int .u64 o.x.2] 43)).alloc (.cells #[.slice none 0 0, .int .u64 0, .slice none 0 0, .int .u64 0, .slice none 0 0, .slice none 0 0, .slice none 0 0] 34)).alloc (.cells #[.int .i64 0, .int .u64 0] 41)) := ((((Below.refl _ _).alloc (Nat.le_refl _) _).alloc (by simp) _).alloc (by simp; omega) _).alloc (by simp; omega) _
 have al := al4 W #[.slice A0 n0 c0, .int .u64 r.e, .slice As ns cs, .int .u64 (r.l.E : Int), .slice (A 0) (n 0) (c 0), .slice (A 1) (n 1) (c 1), .slice (A 2) (n 2) (c 2)] 34 #[.int .i64 o.k, .int .i64 o.g, .int .u64 o.b, .int .i64 o.x.1, .int .u64 o.x.2] 43 #[.slice none 0 0, .int .u64 0, .slice none 0 0, .int .u64 0, .slice none 0 0, .slice none 0 0, .slice none 0 0] 34 #[.int .i64 0, .int .u64 0] 41
 have R1 := Hi al.1.1
 have R2 := Hi al.1.2.1
 have R3 := Hi al.1.2.2.1
 have R4 := Hi al.1.2.2.2
 clear al
 have HS1 := Hi (show ((((W.alloc (.cells #[.slice A0 n0 c0, .int .u64 r.e, .slice As ns cs, .int .u64 (r.l.E : Int), .slice (A 0) (n 0) (c 0), .slice (A 1) (n 1) (c 1), .slice (A 2) (n 2) (c 2)] 34)).alloc (.cells #[.int .i64 o.k, .int .i64 o.g, .int .u64 o.b, .int .i64 o.x.1, .int .u64 o.x.2] 43)).alloc (.cells #[.slice none 0 0, .int .u64 0, .slice none 0 0, .int .u64 0, .slice none 0 0, .slice none 0 0, .slice none 0 0] 34)).alloc (.cells #[.int .i64 0, .int .u64 0] 41)).heap.size = W.heap.size + 4 from by simp)
 have HB := Hi b1
 have H := Hi (h.below b1)
 have HF := Hi hf
 have HG := Hi hg
 have HOB := Hi hb
 have HOX := Hi hx
 clear b1 h hf hg hb hx
 go_enter Tryz.func13, Tryz.ntmps13
 go_upto_region 1 with (fail)
 generalize (((W.alloc _).alloc _).alloc _).alloc _ = w1 at *
 obtain ⟨q0, q1, q2, q3, q4, q5, q6⟩ := row7 R1.out
 have ql := R1.out.lt
 go_wp2_with fail
 rcases Bool.eq_false_or_eq_true r.ok with ho | ho
 case inr =>
  have HD := Hi (show doR r o = (rec0, (0, 0), 250) from by unfold doR; rw [ho]; rfl)
  with_reducible refine (Check_any F A0 As n0 c0 ns cs A n c r _ H.out HF.out 250 (by rw [ho]; simp)).mono ?_
  rintro e w2 ⟨rfl, hb⟩
  replace R1 := Hi (R1.out.below hb)
  replace R2 := Hi (R2.out.below hb)
  replace R3 := Hi (R3.out.below hb)
  replace R4 := Hi (R4.out.below hb)
  replace H := Hi (H.out.below hb)
  have HSZ := Hi hb.size
  replace HB := bt HB hb
  clear hb
  clear q0 q1 q2 q3 q4 q5 q6 ql
  obtain ⟨y0, y1, y2, y3, y4, y5, y6⟩ := row7 R3.out
  have yl := R3.out.lt
  obtain ⟨yf0, yf1, yf2, yf3, yf4, yf5, yf6⟩ := fz R3.out
  have u0 := row20 R4.out
  have u1 := row21 R4.out
  have ul := R4.out.lt
  have uf0 := R4.out.frozen 0
  have uf1 := R4.out.frozen 1
  go_wp2_with fail
  have hl1 := lp7 w2 (W.heap.size + 1 + 1) (.slice none 0 0) (.int .u64 0) (.slice none 0 0) (.int .u64 0) (.slice none 0 0) (.slice none 0 0) (.slice none 0 0)
  have hl2 : LaidF (W.heap.size + 1 + 1 + 1) (((((((w2.setCell ⟨(W.heap.size + 1 + 1), 0, none⟩ (.slice none 0 0)).setCell ⟨(W.heap.size + 1 + 1), 1, none⟩ (.int .u64 0)).setCell ⟨(W.heap.size + 1 + 1), 2, none⟩ (.slice none 0 0)).setCell ⟨(W.heap.size + 1 + 1), 3, none⟩ (.int .u64 0)).setCell ⟨(W.heap.size + 1 + 1), 4, none⟩ (.slice none 0 0)).setCell ⟨(W.heap.size + 1 + 1), 5, none⟩ (.slice none 0 0)).setCell ⟨(W.heap.size + 1 + 1), 6, none⟩ (.slice none 0 0)) (((((((((w2.setCell ⟨(W.heap.size + 1 + 1), 0, none⟩ (.slice none 0 0)).setCell ⟨(W.heap.size + 1 + 1), 1, none⟩ (.int .u64 0)).setCell ⟨(W.heap.size + 1 + 1), 2, none⟩ (.slice none 0 0)).setCell ⟨(W.heap.size + 1 + 1), 3, none⟩ (.int .u64 0)).setCell ⟨(W.heap.size + 1 + 1), 4, none⟩ (.slice none 0 0)).setCell ⟨(W.heap.size + 1 + 1), 5, none⟩ (.slice none 0 0)).setCell ⟨(W.heap.size + 1 + 1), 6, none⟩ (.slice none 0 0)).setCell ⟨(W.heap.size + 1 + 1 + 1), 0, none⟩ (.int .i64 0)).setCell ⟨(W.heap.size + 1 + 1 + 1), 1, none⟩ (.int .u64 0)) := (((laid0 (W.heap.size + 1 + 1 + 1) _).set 0 (.int .i64 0)).set 1 (.int .u64 0))
  have hr3 : RowAt (((((((((w2.setCell ⟨(W.heap.size + 1 + 1), 0, none⟩ (.slice none 0 0)).setCell ⟨(W.heap.size + 1 + 1), 1, none⟩ (.int .u64 0)).setCell ⟨(W.heap.size + 1 + 1), 2, none⟩ (.slice none 0 0)).setCell ⟨(W.heap.size + 1 + 1), 3, none⟩ (.int .u64 0)).setCell ⟨(W.heap.size + 1 + 1), 4, none⟩ (.slice none 0 0)).setCell ⟨(W.heap.size + 1 + 1), 5, none⟩ (.slice none 0 0)).setCell ⟨(W.heap.size + 1 + 1), 6, none⟩ (.slice none 0 0)).setCell ⟨(W.heap.size + 1 + 1 + 1), 0, none⟩ (.int .i64 0)).setCell ⟨(W.heap.size + 1 + 1 + 1), 1, none⟩ (.int .u64 0)) (W.heap.size + 1 + 1) 34 #[.slice none 0 0, .int .u64 0, .slice none 0 0, .int .u64 0, .slice none 0 0, .slice none 0 0, .slice none 0 0] := (hl2.block _ (by omega)).trans (show RowAt (((((((w2.setCell ⟨(W.heap.size + 1 + 1), 0, none⟩ (.slice none 0 0)).setCell ⟨(W.heap.size + 1 + 1), 1, none⟩ (.int .u64 0)).setCell ⟨(W.heap.size + 1 + 1), 2, none⟩ (.slice none 0 0)).setCell ⟨(W.heap.size + 1 + 1), 3, none⟩ (.int .u64 0)).setCell ⟨(W.heap.size + 1 + 1), 4, none⟩ (.slice none 0 0)).setCell ⟨(W.heap.size + 1 + 1), 5, none⟩ (.slice none 0 0)).setCell ⟨(W.heap.size + 1 + 1), 6, none⟩ (.slice none 0 0)) (W.heap.size + 1 + 1) 34 #[.slice none 0 0, .int .u64 0, .slice none 0 0, .int .u64 0, .slice none 0 0, .slice none 0 0, .slice none 0 0] from by have h := (((((((R3.out.set 0 (.slice none 0 0)).set 1 (.int .u64 0)).set 2 (.slice none 0 0)).set 3 (.int .u64 0)).set 4 (.slice none 0 0)).set 5 (.slice none 0 0)).set 6 (.slice none 0 0)); simpa using h)
  have hr4 : RowAt (((((((((w2.setCell ⟨(W.heap.size + 1 + 1), 0, none⟩ (.slice none 0 0)).setCell ⟨(W.heap.size + 1 + 1), 1, none⟩ (.int .u64 0)).setCell ⟨(W.heap.size + 1 + 1), 2, none⟩ (.slice none 0 0)).setCell ⟨(W.heap.size + 1 + 1), 3, none⟩ (.int .u64 0)).setCell ⟨(W.heap.size + 1 + 1), 4, none⟩ (.slice none 0 0)).setCell ⟨(W.heap.size + 1 + 1), 5, none⟩ (.slice none 0 0)).setCell ⟨(W.heap.size + 1 + 1), 6, none⟩ (.slice none 0 0)).setCell ⟨(W.heap.size + 1 + 1 + 1), 0, none⟩ (.int .i64 0)).setCell ⟨(W.heap.size + 1 + 1 + 1), 1, none⟩ (.int .u64 0)) (W.heap.size + 1 + 1 + 1) 41 #[.int .i64 0, .int .u64 0] := by have h := (((show RowAt (((((((w2.setCell ⟨(W.heap.size + 1 + 1), 0, none⟩ (.slice none 0 0)).setCell ⟨(W.heap.size + 1 + 1), 1, none⟩ (.int .u64 0)).setCell ⟨(W.heap.size + 1 + 1), 2, none⟩ (.slice none 0 0)).setCell ⟨(W.heap.size + 1 + 1), 3, none⟩ (.int .u64 0)).setCell ⟨(W.heap.size + 1 + 1), 4, none⟩ (.slice none 0 0)).setCell ⟨(W.heap.size + 1 + 1), 5, none⟩ (.slice none 0 0)).setCell ⟨(W.heap.size + 1 + 1), 6, none⟩ (.slice none 0 0)) (W.heap.size + 1 + 1 + 1) 41 #[.int .i64 0, .int .u64 0] from (hl1.block _ (by omega)).trans R4.out).set 0 (.int .i64 0)).set 1 (.int .u64 0)); simpa using h
  have hbF : Below W.heap.size W (((((((((w2.setCell ⟨(W.heap.size + 1 + 1), 0, none⟩ (.slice none 0 0)).setCell ⟨(W.heap.size + 1 + 1), 1, none⟩ (.int .u64 0)).setCell ⟨(W.heap.size + 1 + 1), 2, none⟩ (.slice none 0 0)).setCell ⟨(W.heap.size + 1 + 1), 3, none⟩ (.int .u64 0)).setCell ⟨(W.heap.size + 1 + 1), 4, none⟩ (.slice none 0 0)).setCell ⟨(W.heap.size + 1 + 1), 5, none⟩ (.slice none 0 0)).setCell ⟨(W.heap.size + 1 + 1), 6, none⟩ (.slice none 0 0)).setCell ⟨(W.heap.size + 1 + 1 + 1), 0, none⟩ (.int .i64 0)).setCell ⟨(W.heap.size + 1 + 1 + 1), 1, none⟩ (.int .u64 0)) := HB.out.trans ((hl1.below.mono (by omega)).trans (hl2.below.mono (by omega)))
  clear y0 y1 y2 y3 y4 y5 y6 yl
  clear yf0 yf1 yf2 yf3 yf4 yf5 yf6 u0 u1 ul uf0 uf1 hl1 hl2
  generalize World.setCell _ _ _ = wF at *
  obtain ⟨y0, y1, y2, y3, y4, y5, y6⟩ := row7 hr3
  have yl := hr3.lt
  refine bodyPost_ret (v := .tuple #[.agg #[.slice none 0 0, .int .u64 0, .slice none 0 0, .int .u64 0, .slice none 0 0, .slice none 0 0, .slice none 0 0], .agg #[.int .i64 0, .int .u64 0], .int .i64 (250)]) (by simp [results, Tryz.results13, go_sem, y0, y1, y2, y3, y4, y5, y6, yl, row20 hr4, row21 hr4, hr4.lt]) rfl ?_
  exact ⟨⟨.agg #[.slice none 0 0, .int .u64 0, .slice none 0 0, .int .u64 0, .slice none 0 0, .slice none 0 0, .slice none 0 0], by rw [HD.out], by rw [HD.out]; exact zero_rec _ _⟩, hbF⟩
 case inl =>
  have HW := Hi (show WfR r from ⟨ok_iff.1 ho, fun s hs => (HF.out.s s hs).1, HG.out⟩)
  with_reducible refine (Check_any F A0 As n0 c0 ns cs A n c r _ H.out HF.out 0 (by rw [ho]; simp)).mono ?_
  rintro e w2 ⟨rfl, hb⟩
  replace R1 := Hi (R1.out.below hb)
  replace R2 := Hi (R2.out.below hb)
  replace R3 := Hi (R3.out.below hb)
  replace R4 := Hi (R4.out.below hb)
  replace H := Hi (H.out.below hb)
  have HSZ := Hi hb.size
  replace HB := bt HB hb
  clear hb
  clear q0 q1 q2 q3 q4 q5 q6 ql
  clear HSZ
  obtain ⟨q0, q1, q2, q3, q4, q5, q6⟩ := row7 R1.out
  have ql := R1.out.lt
  go_wp2_with fail
  with_reducible refine (own_any F A0 As n0 c0 ns cs A n c r w2 H.out HF.out).mono ?_
  rintro e w3 ⟨⟨gh, rfl, hx⟩, hb⟩
  have HX := Hi (show HandX w3 w2.heap.size gh o00 r [] from by obtain ⟨B0, Bs, m0, d0, ms, ds, B, m, d, hh⟩ := hx; exact ⟨_, _, _, _, _, _, _, _, _, _, _, _, hh⟩)
  have HL2 := Hi (show W.heap.size + 4 ≤ w2.heap.size from by have h1 := R4.out.lt; omega)
  replace R1 := Hi (R1.out.below hb)
  replace R2 := Hi (R2.out.below hb)
  replace R3 := Hi (R3.out.below hb)
  replace R4 := Hi (R4.out.below hb)
  replace H := Hi (H.out.below hb)
  have HSZ := Hi hb.size
  replace HB := bt HB hb
  clear hb
  clear q0 q1 q2 q3 q4 q5 q6 ql
  clear HSZ hx
  obtain ⟨y0, y1, y2, y3, y4⟩ := row5 R2.out
  have yl := R2.out.lt
  go_wp2_with fail
  with_reducible refine (doesX HX.out HW.out o HOB.out HOX.out (by simp)).mono ?_
  rintro e w4 ⟨rfl, hh, hb⟩
  replace R1 := Hi (R1.out.heap (hb.block _ (by have := HL2.out; omega)))
  replace R2 := Hi (R2.out.heap (hb.block _ (by have := HL2.out; omega)))
  replace R3 := Hi (R3.out.heap (hb.block _ (by have := HL2.out; omega)))
  replace R4 := Hi (R4.out.heap (hb.block _ (by have := HL2.out; omega)))
  replace HB := Hi (HB.out.trans (hb.mono (by have := HL2.out; omega)))
  have HH := Hi hh
  clear hb hh y0 y1 y2 y3 y4 yl HX
  cases hs : stepR r [] o with
  | error k =>
   have HD := Hi (show doR r o = (rec0, (0, 0), k) from by unfold doR; rw [ho, hs]; rfl)
   have HK := Hi (step_ne hs)
   have hk : (k == 0) = false := by simpa using HK.out
   have hok : okK (Except.error k) = k := rfl
   rw [hs] at HH
   try rw [hok]
   clear hs
   skip
   obtain ⟨y0, y1, y2, y3, y4, y5, y6⟩ := row7 R3.out
   have yl := R3.out.lt
   obtain ⟨yf0, yf1, yf2, yf3, yf4, yf5, yf6⟩ := fz R3.out
   have u0 := row20 R4.out
   have u1 := row21 R4.out
   have ul := R4.out.lt
   have uf0 := R4.out.frozen 0
   have uf1 := R4.out.frozen 1
   go_wp2_with fail
   have hl1 := lp7 w4 (W.heap.size + 1 + 1) (.slice none 0 0) (.int .u64 0) (.slice none 0 0) (.int .u64 0) (.slice none 0 0) (.slice none 0 0) (.slice none 0 0)
   have hl2 : LaidF (W.heap.size + 1 + 1 + 1) (((((((w4.setCell ⟨(W.heap.size + 1 + 1), 0, none⟩ (.slice none 0 0)).setCell ⟨(W.heap.size + 1 + 1), 1, none⟩ (.int .u64 0)).setCell ⟨(W.heap.size + 1 + 1), 2, none⟩ (.slice none 0 0)).setCell ⟨(W.heap.size + 1 + 1), 3, none⟩ (.int .u64 0)).setCell ⟨(W.heap.size + 1 + 1), 4, none⟩ (.slice none 0 0)).setCell ⟨(W.heap.size + 1 + 1), 5, none⟩ (.slice none 0 0)).setCell ⟨(W.heap.size + 1 + 1), 6, none⟩ (.slice none 0 0)) (((((((((w4.setCell ⟨(W.heap.size + 1 + 1), 0, none⟩ (.slice none 0 0)).setCell ⟨(W.heap.size + 1 + 1), 1, none⟩ (.int .u64 0)).setCell ⟨(W.heap.size + 1 + 1), 2, none⟩ (.slice none 0 0)).setCell ⟨(W.heap.size + 1 + 1), 3, none⟩ (.int .u64 0)).setCell ⟨(W.heap.size + 1 + 1), 4, none⟩ (.slice none 0 0)).setCell ⟨(W.heap.size + 1 + 1), 5, none⟩ (.slice none 0 0)).setCell ⟨(W.heap.size + 1 + 1), 6, none⟩ (.slice none 0 0)).setCell ⟨(W.heap.size + 1 + 1 + 1), 0, none⟩ (.int .i64 0)).setCell ⟨(W.heap.size + 1 + 1 + 1), 1, none⟩ (.int .u64 0)) := (((laid0 (W.heap.size + 1 + 1 + 1) _).set 0 (.int .i64 0)).set 1 (.int .u64 0))
   have hr3 : RowAt (((((((((w4.setCell ⟨(W.heap.size + 1 + 1), 0, none⟩ (.slice none 0 0)).setCell ⟨(W.heap.size + 1 + 1), 1, none⟩ (.int .u64 0)).setCell ⟨(W.heap.size + 1 + 1), 2, none⟩ (.slice none 0 0)).setCell ⟨(W.heap.size + 1 + 1), 3, none⟩ (.int .u64 0)).setCell ⟨(W.heap.size + 1 + 1), 4, none⟩ (.slice none 0 0)).setCell ⟨(W.heap.size + 1 + 1), 5, none⟩ (.slice none 0 0)).setCell ⟨(W.heap.size + 1 + 1), 6, none⟩ (.slice none 0 0)).setCell ⟨(W.heap.size + 1 + 1 + 1), 0, none⟩ (.int .i64 0)).setCell ⟨(W.heap.size + 1 + 1 + 1), 1, none⟩ (.int .u64 0)) (W.heap.size + 1 + 1) 34 #[.slice none 0 0, .int .u64 0, .slice none 0 0, .int .u64 0, .slice none 0 0, .slice none 0 0, .slice none 0 0] := (hl2.block _ (by omega)).trans (show RowAt (((((((w4.setCell ⟨(W.heap.size + 1 + 1), 0, none⟩ (.slice none 0 0)).setCell ⟨(W.heap.size + 1 + 1), 1, none⟩ (.int .u64 0)).setCell ⟨(W.heap.size + 1 + 1), 2, none⟩ (.slice none 0 0)).setCell ⟨(W.heap.size + 1 + 1), 3, none⟩ (.int .u64 0)).setCell ⟨(W.heap.size + 1 + 1), 4, none⟩ (.slice none 0 0)).setCell ⟨(W.heap.size + 1 + 1), 5, none⟩ (.slice none 0 0)).setCell ⟨(W.heap.size + 1 + 1), 6, none⟩ (.slice none 0 0)) (W.heap.size + 1 + 1) 34 #[.slice none 0 0, .int .u64 0, .slice none 0 0, .int .u64 0, .slice none 0 0, .slice none 0 0, .slice none 0 0] from by have h := (((((((R3.out.set 0 (.slice none 0 0)).set 1 (.int .u64 0)).set 2 (.slice none 0 0)).set 3 (.int .u64 0)).set 4 (.slice none 0 0)).set 5 (.slice none 0 0)).set 6 (.slice none 0 0)); simpa using h)
   have hr4 : RowAt (((((((((w4.setCell ⟨(W.heap.size + 1 + 1), 0, none⟩ (.slice none 0 0)).setCell ⟨(W.heap.size + 1 + 1), 1, none⟩ (.int .u64 0)).setCell ⟨(W.heap.size + 1 + 1), 2, none⟩ (.slice none 0 0)).setCell ⟨(W.heap.size + 1 + 1), 3, none⟩ (.int .u64 0)).setCell ⟨(W.heap.size + 1 + 1), 4, none⟩ (.slice none 0 0)).setCell ⟨(W.heap.size + 1 + 1), 5, none⟩ (.slice none 0 0)).setCell ⟨(W.heap.size + 1 + 1), 6, none⟩ (.slice none 0 0)).setCell ⟨(W.heap.size + 1 + 1 + 1), 0, none⟩ (.int .i64 0)).setCell ⟨(W.heap.size + 1 + 1 + 1), 1, none⟩ (.int .u64 0)) (W.heap.size + 1 + 1 + 1) 41 #[.int .i64 0, .int .u64 0] := by have h := (((show RowAt (((((((w4.setCell ⟨(W.heap.size + 1 + 1), 0, none⟩ (.slice none 0 0)).setCell ⟨(W.heap.size + 1 + 1), 1, none⟩ (.int .u64 0)).setCell ⟨(W.heap.size + 1 + 1), 2, none⟩ (.slice none 0 0)).setCell ⟨(W.heap.size + 1 + 1), 3, none⟩ (.int .u64 0)).setCell ⟨(W.heap.size + 1 + 1), 4, none⟩ (.slice none 0 0)).setCell ⟨(W.heap.size + 1 + 1), 5, none⟩ (.slice none 0 0)).setCell ⟨(W.heap.size + 1 + 1), 6, none⟩ (.slice none 0 0)) (W.heap.size + 1 + 1 + 1) 41 #[.int .i64 0, .int .u64 0] from (hl1.block _ (by omega)).trans R4.out).set 0 (.int .i64 0)).set 1 (.int .u64 0)); simpa using h
   have hbF : Below W.heap.size W (((((((((w4.setCell ⟨(W.heap.size + 1 + 1), 0, none⟩ (.slice none 0 0)).setCell ⟨(W.heap.size + 1 + 1), 1, none⟩ (.int .u64 0)).setCell ⟨(W.heap.size + 1 + 1), 2, none⟩ (.slice none 0 0)).setCell ⟨(W.heap.size + 1 + 1), 3, none⟩ (.int .u64 0)).setCell ⟨(W.heap.size + 1 + 1), 4, none⟩ (.slice none 0 0)).setCell ⟨(W.heap.size + 1 + 1), 5, none⟩ (.slice none 0 0)).setCell ⟨(W.heap.size + 1 + 1), 6, none⟩ (.slice none 0 0)).setCell ⟨(W.heap.size + 1 + 1 + 1), 0, none⟩ (.int .i64 0)).setCell ⟨(W.heap.size + 1 + 1 + 1), 1, none⟩ (.int .u64 0)) := HB.out.trans ((hl1.below.mono (by omega)).trans (hl2.below.mono (by omega)))
   clear y0 y1 y2 y3 y4 y5 y6 yl
   clear yf0 yf1 yf2 yf3 yf4 yf5 yf6 u0 u1 ul uf0 uf1 hl1 hl2
   generalize World.setCell _ _ _ = wF at *
   obtain ⟨y0, y1, y2, y3, y4, y5, y6⟩ := row7 hr3
   have yl := hr3.lt
   refine bodyPost_ret (v := .tuple #[.agg #[.slice none 0 0, .int .u64 0, .slice none 0 0, .int .u64 0, .slice none 0 0, .slice none 0 0, .slice none 0 0], .agg #[.int .i64 0, .int .u64 0], .int .i64 (k)]) (by simp [results, Tryz.results13, go_sem, y0, y1, y2, y3, y4, y5, y6, yl, row20 hr4, row21 hr4, hr4.lt]) rfl ?_
   exact ⟨⟨.agg #[.slice none 0 0, .int .u64 0, .slice none 0 0, .int .u64 0, .slice none 0 0, .slice none 0 0, .slice none 0 0], by rw [HD.out], by rw [HD.out]; exact zero_rec _ _⟩, hbF⟩
  | ok x =>
   obtain ⟨r2, t2⟩ := x
   have HD := Hi (show doR r o = (r2, lastT t2, 0) from by unfold doR; rw [ho, hs]; rfl)
   have HTL := Hi (show t2.length ≤ 1 from by rcases step_told HW.out HOB.out hs with h | ⟨y, h⟩ <;> rw [h] <;> simp)
   rw [hs] at HH
   obtain ⟨o3, B0, Bs, m0, d0, ms, ds, B, m, d, At, nt, ct, hh⟩ := HH.out
   have HN := Hi (show t2.length = nt from hh.len)
   replace HH := Hi (show HandR w4 w2.heap.size gh B0 Bs m0 d0 ms ds B m d o3 At nt ct r2 t2 from hh)
   clear hh hs
   have hok : okK (Except.ok (r2, t2)) = 0 := rfl
   try rw [hok]
   have hGH := HH.out.row.lt
   have HAT := Hi (fun (q : Addr) (hq : At = some q) => (told_lt HH.out.own q hq).2)
   go_upto_region 9 with (fail)
   have hb := ba w4 (.cells #[.int .i64 0, .int .u64 0] 41)
   have RT := Hi (RowAt.new w4 41 #[.int .i64 0, .int .u64 0])
   replace R3 := Hi (R3.out.below hb)
   replace R4 := Hi (R4.out.below hb)
   have HAP := Hi ((HH.out.all.up (G := fun j => OffB w2.heap.size gh At j ∧ j ≠ w4.heap.size) (fun j hj hl => ⟨hj, by omega⟩)).below hb)
   replace HH := Hi (HH.out.below hb)
   have HL4 := Hi (show gh < w4.heap.size from by have := HH.out.row; exact hGH)
   replace HB := bt HB hb
   obtain ⟨gt, hgt⟩ : ∃ gt, w4.heap.size = gt := ⟨_, rfl⟩
   have HGT := Hi hgt
   rw [hgt] at RT HL4 HAT HAP ⊢
   have HS5 := Hi (show (w4.alloc (.cells #[.int .i64 0, .int .u64 0] 41)).heap.size = gt + 1 from by rw [World.size_alloc, hgt])
   generalize w4.alloc _ = w5 at *
   clear hb hgt
   obtain ⟨z0, z1, z2, z3, z4, z5, z6, z7, z8, z9, z10, z11, z12⟩ := row13 HH.out.row
   have zl := HH.out.row.lt
   have HT5 := Hi (show ∀ q, At = some q → q.block ≠ gt from fun q hq => by have := HAT.out q hq; omega)
   go_upto_region 10 with (fail)
   clear z0 z1 z2 z3 z4 z5 z6 z7 z8 z9 z10 z11 z12 zl
   have hnt : nt ≤ 1 := by have := HTL.out; have := HN.out; omega
   go_loopw [35] (fun i wr => ∃ (k : Nat), k ≤ nt ∧ i = .int .i64 (k : Int) ∧ Below gt w5 wr ∧ StayF (fun j => j ≠ gt) w5 wr ∧ RowAt wr gt 41 #[.int .i64 (lastT (t2.take k)).1, .int .u64 (lastT (t2.take k)).2]) (fun i _ => nt - (intOf i).toNat)
   case atStart => exact ⟨0, Nat.zero_le _, rfl, Below.refl _ _, StayF.refl _ _, RT.out⟩
   case round =>
    obtain ⟨k, hk, rfl, hbw, hst, hrt⟩ := hrel
    have HBW := Hi hbw
    have HST := Hi hst
    have hgn : gh ≠ gt := by have := HL4.out; omega
    have HHW := Hi (HH.out.laid hst hgn (fun q hq => HT5.out q hq) HAP.out)
    have HRT := Hi hrt
    clear hbw hst hrt
    by_cases hlt : k < nt
    ·
     have hki : (k : Int) < (nt : Int) := by omega
     obtain ⟨b, q, hAt, hbl, d0, d1⟩ := Rd.ent (Rd.of_own HHW.out.own) HHW.out.len hlt
     have hkl : k < t2.length := by rw [HN.out]; exact hlt
     have hx : lastT (t2.take (k + 1)) = t2.getD k (0, 0) := by unfold lastT; rw [List.take_succ_eq_append_getElem hkl, List.getLastD_eq_getLast?, List.getLast?_append]; simp [List.getD_eq_getElem?_getD, List.getElem?_eq_getElem hkl]
     have hbt : b ≠ gt := by have := HT5.out ⟨b, q, none⟩ hAt; exact this
     obtain ⟨x, hxx⟩ : ∃ x, t2.getD k (0, 0) = x := ⟨_, rfl⟩
     rw [hxx] at hx d0 d1
     have hba := ba wr (.cells #[.int .i64 x.1, .int .u64 x.2] 41)
     have hrt2 := HRT.out.below hba
     have g0 := row20 hrt2
     have g1 := row21 hrt2
     have gf0 := hrt2.frozen 0
     have gf1 := hrt2.frozen 1
     have gl := hrt2.lt
     have HLD := Hi (show LaidF gt (wr.alloc (.cells #[.int .i64 x.1, .int .u64 x.2] 41)) (((wr.alloc (.cells #[.int .i64 x.1, .int .u64 x.2] 41)).setCell ⟨gt, 0, none⟩ (.int .i64 x.1)).setCell ⟨gt, 1, none⟩ (.int .u64 x.2)) from (((laid0 gt _).set 0 (.int .i64 x.1)).set 1 (.int .u64 x.2)))
     have HR2 := Hi (show RowAt (((wr.alloc (.cells #[.int .i64 x.1, .int .u64 x.2] 41)).setCell ⟨gt, 0, none⟩ (.int .i64 x.1)).setCell ⟨gt, 1, none⟩ (.int .u64 x.2)) gt 41 #[.int .i64 x.1, .int .u64 x.2] from by have h := ((hrt2.set 0 (.int .i64 x.1)).set 1 (.int .u64 x.2)); simpa using h)
     have HSA := Hi (HST.out.trans (StayF.of_below hba))
     have HBA := Hi (HBW.out.trans (hba.mono HBW.out.size |>.mono (by have := HS5.out; omega)))
     have HX := Hi hx
     clear hba hrt2 hx hxx hkl
     have HK := Hi hlt
     clear hk
     subst hAt
     go_wp2_with fail
     generalize ((wr.alloc _).setCell _ _).setCell _ _ = w7 at *
     clear g0 g1 gf0 gf1 gl d0 d1 hbl
     go_roundw
     case rel => exact ⟨k + 1, HK.out, by go_num, HBA.out.trans HLD.out.below, HSA.out.trans ⟨HLD.out.size, fun j hj _ => HLD.out.block j hj⟩, by rw [HX.out]; exact HR2.out⟩
     case measure => have := HK.out; simp [intOf]; omega
    ·
     have hkn : nt = k := by omega
     subst hkn
     have HFL := Hi (show t2.take nt = t2 from by rw [← HN.out, List.take_length])
     obtain ⟨x, hxx⟩ : ∃ x, lastT t2 = x := ⟨_, rfl⟩
     replace HRT := Hi (show RowAt wr gt 41 #[.int .i64 x.1, .int .u64 x.2] from by have h := HRT.out; rw [HFL.out, hxx] at h; exact h)
     have HBR := Hi (show Below w4.heap.size w5 wr from HBW.out.mono (Nat.le_of_eq HGT.out))
     replace HB := Hi (HB.out.trans (HBR.out.mono (by have := HL2.out; have := HHW.out.lo; have := HL4.out; have := HGT.out; omega)))
     replace R3 := Hi (R3.out.heap (HBR.out.block _ (by have := HL2.out; have := HHW.out.lo; have := HL4.out; have := HGT.out; omega)))
     replace R4 := Hi (R4.out.heap (HBR.out.block _ (by have := HL2.out; have := HHW.out.lo; have := HL4.out; have := HGT.out; omega)))
     go_upto_region 14 with (fail)
     have HSX := Hi (fun (wX : World) (hgX : StayF (fun j => j ≠ (W.heap.size + 1 + 1) ∧ j ≠ (W.heap.size + 1 + 1 + 1)) wr wX) => show wX.cell? ⟨gh, 0, none⟩ = some (.slice B0 m0 d0) ∧ wX.cell? ⟨gh, 1, none⟩ = some (.int .u64 r2.e) ∧ wX.cell? ⟨gh, 2, none⟩ = some (.slice Bs ms ds) ∧ wX.cell? ⟨gh, 3, none⟩ = some (.int .u64 (r2.l.E : Int)) ∧ wX.cell? ⟨gh, 4, none⟩ = some (.slice (B 0) (m 0) (d 0)) ∧ wX.cell? ⟨gh, 5, none⟩ = some (.slice (B 1) (m 1) (d 1)) ∧ wX.cell? ⟨gh, 6, none⟩ = some (.slice (B 2) (m 2) (d 2)) ∧ wX.cell? ⟨gt, 0, none⟩ = some (.int .i64 x.1) ∧ wX.cell? ⟨gt, 1, none⟩ = some (.int .u64 x.2) ∧ gt < wX.heap.size ∧ gh < wX.heap.size from by
      obtain ⟨z0, z1, z2, z3, z4, z5, z6, z7, z8, z9, z10, z11, z12⟩ := row13 HHW.out.row
      have hkg : ∀ j, gh ≤ j → j < wr.heap.size → wX.heap[j]? = wr.heap[j]? := fun j h1 h2 => hgX.2 j (⟨by have := HHW.out.lo; have := HL2.out; omega, by have := HHW.out.lo; have := HL2.out; omega⟩) h2
      have hk : ∀ j v, wr.cell? ⟨gh, j, none⟩ = some v → wX.cell? ⟨gh, j, none⟩ = some v := fun j v h => (cell_of_heap (hkg gh (Nat.le_refl _) HHW.out.row.lt)).trans h
      have hk2 : ∀ j v, wr.cell? ⟨gt, j, none⟩ = some v → wX.cell? ⟨gt, j, none⟩ = some v := fun j v h => (cell_of_heap (hkg gt (by have := HL4.out; omega) HRT.out.lt)).trans h
      exact ⟨hk _ _ z0, hk _ _ z1, hk _ _ z2, hk _ _ z3, hk _ _ z4, hk _ _ z5, hk _ _ z6, hk2 _ _ (row20 HRT.out), hk2 _ _ (row21 HRT.out), Nat.lt_of_lt_of_le HRT.out.lt hgX.1, Nat.lt_of_lt_of_le HHW.out.row.lt hgX.1⟩)
     have HBD := Hi (Below.refl wr.heap.size wr).drew
     have HSD := Hi (show StayF (fun j => j ≠ (W.heap.size + 1 + 1) ∧ j ≠ (W.heap.size + 1 + 1 + 1)) wr wr.drew from StayF.of_below HBD.out)
     have D3 := Hi (R3.out.below HBD.out)
     have D4 := Hi (R4.out.below HBD.out)
     have HHD := Hi (HHW.out.below HBD.out)
     replace HB := Hi (HB.out.trans (HBD.out.mono HB.out.size))
     refine wp_region_held_drew (S := fun wX => wX.cell? ⟨gh, 0, none⟩ = some (.slice B0 m0 d0) ∧ wX.cell? ⟨gh, 1, none⟩ = some (.int .u64 r2.e) ∧ wX.cell? ⟨gh, 2, none⟩ = some (.slice Bs ms ds) ∧ wX.cell? ⟨gh, 3, none⟩ = some (.int .u64 (r2.l.E : Int)) ∧ wX.cell? ⟨gh, 4, none⟩ = some (.slice (B 0) (m 0) (d 0)) ∧ wX.cell? ⟨gh, 5, none⟩ = some (.slice (B 1) (m 1) (d 1)) ∧ wX.cell? ⟨gh, 6, none⟩ = some (.slice (B 2) (m 2) (d 2)) ∧ wX.cell? ⟨gt, 0, none⟩ = some (.int .i64 x.1) ∧ wX.cell? ⟨gt, 1, none⟩ = some (.int .u64 x.2) ∧ gt < wX.heap.size ∧ gh < wX.heap.size) (by kernel_rfl) (HSX.out _ HSD.out) (fun hHeld => ?_)
     clear hHeld
     have hS0 := HSX.out _ HSD.out
     generalize wr.drew = wd at *
     refine tkI (i := 0) rfl ?_
     refine tkI (i := 1) rfl ?_
     refine tkI (i := 2) rfl ?_
     refine tkI (i := 3) rfl ?_
     refine tkI (i := 4) rfl ?_
     refine ryH (i := 5) rfl (fun K0 hK0 => ?_)
     obtain ⟨y0, y1, y2, y3, y4, y5, y6⟩ := row7 D3.out
     have yl := D3.out.lt
     obtain ⟨yf0, yf1, yf2, yf3, yf4, yf5, yf6⟩ := fz D3.out
     go_simp
     have hl1 := lp7 wd (W.heap.size + 1 + 1) (.slice B0 m0 d0) (.int .u64 r2.e) (.slice Bs ms ds) (.int .u64 (r2.l.E : Int)) (.slice (B 0) (m 0) (d 0)) (.slice (B 1) (m 1) (d 1)) (.slice (B 2) (m 2) (d 2))
     have hr3 := rp7 D3.out (.slice B0 m0 d0) (.int .u64 r2.e) (.slice Bs ms ds) (.int .u64 (r2.l.E : Int)) (.slice (B 0) (m 0) (d 0)) (.slice (B 1) (m 1) (d 1)) (.slice (B 2) (m 2) (d 2))
     have HS1 := Hi (HSD.out.trans (hl1.stay (fun h => h.1 rfl)))
     have D4b := Hi (show RowAt (((((((wd.setCell ⟨(W.heap.size + 1 + 1), 0, none⟩ (.slice B0 m0 d0)).setCell ⟨(W.heap.size + 1 + 1), 1, none⟩ (.int .u64 r2.e)).setCell ⟨(W.heap.size + 1 + 1), 2, none⟩ (.slice Bs ms ds)).setCell ⟨(W.heap.size + 1 + 1), 3, none⟩ (.int .u64 (r2.l.E : Int))).setCell ⟨(W.heap.size + 1 + 1), 4, none⟩ (.slice (B 0) (m 0) (d 0))).setCell ⟨(W.heap.size + 1 + 1), 5, none⟩ (.slice (B 1) (m 1) (d 1))).setCell ⟨(W.heap.size + 1 + 1), 6, none⟩ (.slice (B 2) (m 2) (d 2))) (W.heap.size + 1 + 1 + 1) 41 #[.int .i64 0, .int .u64 0] from (hl1.block _ (by omega)).trans D4.out)
     have HL1 := Hi hl1
     have HR3 := Hi hr3
     clear hl1 hr3 hS0 yl y0 yf0 y1 yf1 y2 yf2 y3 yf3 y4 yf4 y5 yf5 y6 yf6
     generalize World.setCell _ _ _ = w8 at *
     have hS0 := HSX.out _ HS1.out
     refine hK0.out _ _ hS0 (fun _ => wnH ?_)
     clear hK0 K0
     refine ryH (i := 6) rfl (fun K1 hK1 => ?_)
     have u0 := row20 D4b.out
     have u1 := row21 D4b.out
     have ul := D4b.out.lt
     have uf0 := D4b.out.frozen 0
     have uf1 := D4b.out.frozen 1
     go_simp
     have hl2 : LaidF (W.heap.size + 1 + 1 + 1) w8 ((w8.setCell ⟨(W.heap.size + 1 + 1 + 1), 0, none⟩ (.int .i64 x.1)).setCell ⟨(W.heap.size + 1 + 1 + 1), 1, none⟩ (.int .u64 x.2)) := (((laid0 (W.heap.size + 1 + 1 + 1) _).set 0 (.int .i64 x.1)).set 1 (.int .u64 x.2))
     have hr4 : RowAt ((w8.setCell ⟨(W.heap.size + 1 + 1 + 1), 0, none⟩ (.int .i64 x.1)).setCell ⟨(W.heap.size + 1 + 1 + 1), 1, none⟩ (.int .u64 x.2)) (W.heap.size + 1 + 1 + 1) 41 #[.int .i64 x.1, .int .u64 x.2] := by have h := ((D4b.out.set 0 (.int .i64 x.1)).set 1 (.int .u64 x.2)); simpa using h
     have HS2 := Hi (HS1.out.trans (hl2.stay (fun h => h.2 rfl)))
     have HR3b := Hi (show RowAt ((w8.setCell ⟨(W.heap.size + 1 + 1 + 1), 0, none⟩ (.int .i64 x.1)).setCell ⟨(W.heap.size + 1 + 1 + 1), 1, none⟩ (.int .u64 x.2)) (W.heap.size + 1 + 1) 34 #[.slice B0 m0 d0, .int .u64 r2.e, .slice Bs ms ds, .int .u64 (r2.l.E : Int), .slice (B 0) (m 0) (d 0), .slice (B 1) (m 1) (d 1), .slice (B 2) (m 2) (d 2)] from (hl2.block _ (by omega)).trans HR3.out)
     have HL9 := Hi hl2
     have HR4 := Hi hr4
     clear hl2 hr4 hS0 ul u0 u1 uf0 uf1
     generalize (w8.setCell _ _).setCell _ _ = w9 at *
     have hS0 := HSX.out _ HS2.out
     refine hK1.out _ _ hS0 (fun _ => wnH ?_)
     clear hK1 K1
     refine ryH (i := 7) rfl (fun K2 hK2 => ?_)
     go_simp
     refine hK2.out _ _ hS0 (fun _ => wnH ?_)
     clear hK2 K2
     refine wpAnyH_done (by kernel_rfl) ?_ _
     obtain ⟨y0, y1, y2, y3, y4, y5, y6⟩ := row7 HR3b.out
     have yl := HR3b.out.lt
     go_wp2_with fail
     refine bodyPost_ret (v := .tuple #[.agg #[.slice B0 m0 d0, .int .u64 r2.e, .slice Bs ms ds, .int .u64 (r2.l.E : Int), .slice (B 0) (m 0) (d 0), .slice (B 1) (m 1) (d 1), .slice (B 2) (m 2) (d 2)], .agg #[.int .i64 x.1, .int .u64 x.2], .int .i64 0]) (by simp [results, Tryz.results13, go_sem, y0, y1, y2, y3, y4, y5, y6, yl, row20 HR4.out, row21 HR4.out, HR4.out.lt]) rfl ?_
     refine ⟨⟨.agg #[.slice B0 m0 d0, .int .u64 r2.e, .slice Bs ms ds, .int .u64 (r2.l.E : Int), .slice (B 0) (m 0) (d 0), .slice (B 1) (m 1) (d 1), .slice (B 2) (m 2) (d 2)], by rw [HD.out, ← hxx], ?_⟩, HB.out.trans ((HL1.out.below.mono (by omega)).trans (HL9.out.below.mono (by omega)))⟩
     rw [HD.out]
     exact ⟨_, _, _, _, _, _, _, _, _, rfl, ((HHD.out.all.up (G := fun j => w2.heap.size ≤ j) (fun j hj _ => hj.1)).stay ((StayF.less (F := fun j => j ≠ _) ⟨HL1.out.size, fun j hj _ => HL1.out.block j hj⟩ (fun j (hj : w2.heap.size ≤ j) _ => by have := HL2.out; omega)).trans (StayF.less (F := fun j => j ≠ _) ⟨HL9.out.size, fun j hj _ => HL9.out.block j hj⟩ (fun j (hj : w2.heap.size ≤ j) _ => by have := HL2.out; omega)))).up (fun j hj _ => by have := HL2.out; have hj : w2.heap.size ≤ j := hj; show W.heap.size ≤ j; omega)⟩
theorem least (p : Nat → Prop) : ∀ n, p n → ∃ k, p k ∧ ∀ m, p m → k ≤ m := by
 intro n
 induction n using Nat.strongRecOn with
 | _ n ih =>
  intro h
  by_cases h2 : ∃ m, m < n ∧ p m
  ·
   obtain ⟨m, h3, h4⟩ := h2
   exact ih m h3 h4
  · exact ⟨n, h, fun m hm => Nat.le_of_not_lt (fun h3 => h2 ⟨m, h3, hm⟩)⟩
theorem wp_scope_rank {P : Program} {a : Act} {w : World} {Q : Exit → Act → World → Prop} {c rest : Code} (l : Nat) (J : Nat → Act → World → Prop) (hf : findLabel c l = some (Code.skip.seq rest))
  (pass : ∀ n a w, J n a w → rest.wp P (Exit.jump l (fun a' w' => ∃ m, m < n ∧ J m a' w') Q) a w)
  (first : (∀ n a w, J n a w → rest.wp P (Exit.jump l (fun a' w' => ∃ m, J m a' w') Q) a w) → c.wp P (Exit.jump l (fun a' w' => ∃ m, J m a' w') Q) a w) : (Code.scope c).wp P Q a w := by
 classical
 have hμ : ∀ a w, ∃ k : Nat, (∃ n, J n a w) → (J k a w ∧ ∀ m, J m a w → k ≤ m) := fun a w => by
  by_cases h : ∃ n, J n a w
  ·
   obtain ⟨n, hn⟩ := h
   obtain ⟨k, h1, h2⟩ := least (fun n => J n a w) n hn
   exact ⟨k, fun _ => ⟨h1, h2⟩⟩
  · exact ⟨0, fun h2 => absurd h2 h⟩
 refine wp_scope_jumps l (fun a w => ∃ n, J n a w) (fun a w => (hμ a w).choose) hf (first fun n a w hJ => Code.wp_mono (fun e a' w' h => by
  cases e with
  | goto t => exact ⟨h.1, by obtain ⟨m, _, hm⟩ := h.2; exact ⟨m, hm⟩⟩
  | _ => exact h) (pass n a w hJ)) (fun a w hJ => wp_seq (wp_skip ?_))
 have hs := (hμ a w).choose_spec hJ
 refine Code.wp_mono (fun e a' w' h => ?_) (pass _ a w hs.1)
 cases e with
 | goto t =>
  refine ⟨h.1, ?_⟩
  obtain ⟨m, h1, h2⟩ := h.2
  exact ⟨⟨m, h2⟩, Nat.lt_of_le_of_lt (((hμ a' w').choose_spec ⟨m, h2⟩).2 m h2) h1⟩
 | _ => exact h
def TriesRes (gh base : Nat) (res : Rec × List Ent × Bool) (W : World) (e : Ending) (W' : World) : Prop :=
 e = .returned (.bool res.2.2) ∧ (∃ o3, HandX W' base gh o3 res.1 res.2.1) ∧ WfR res.1 ∧ Below base W W'
structure TryS (gh base : Nat) (res : Rec × List Ent × Bool) (W : World) (b : Bool) (r : Rec) (t : List Ent) (n : Nat) (w : World) : Prop where
 hand : ∃ o, HandX w base gh o r t
 wf : WfR r
 cont : contR b r t = res
 len : t.length + r.l.held.length ≤ 1000000
 rank : r.l.held.length + (if b = true then 0 else 1) = n
 below : Below base W w
theorem TryS.le {gh base : Nat} {res : Rec × List Ent × Bool} {W : World} {b : Bool} {r : Rec} {t : List Ent} {n : Nat} {w : World} (h : TryS gh base res W b r t n w) : base ≤ w.heap.size := by
 obtain ⟨o, A0, As, n0, c0, ns, cs, A, n, c, At, nt, ct, hh⟩ := h.hand
 exact Nat.le_trans hh.lo (Nat.le_of_lt hh.row.lt)
def TryJ (gh base : Nat) (res : Rec × List Ent × Bool) (W : World) (n : Nat) (a : Act) (w : World) : Prop :=
 ∃ (u1 u2 u4 u5 u6 u7 u8 u9 u10 u11 u12 u13 u14 u15 : Value) (b : Bool) (r : Rec) (t : List Ent), a = { tmps := #[.pointer (some ⟨gh, 0, none⟩), u1, u2, .bool b, u4, u5, u6, u7, u8, u9, u10, u11, u12, u13, u14, u15], defers := [] } ∧ TryS gh base res W b r t n w
theorem HandX.len {w : World} {base gh : Nat} {o : EOp} {r : Rec} {t : List Ent} (h : HandX w base gh o r t) : True := trivial
theorem tries_any (base gh : Nat) (o0 : EOp) (r : Rec) (told : List Ent) (W : World) (h : HandX W base gh o0 r told) (hw : WfR r) (hl : told.length + r.l.held.length ≤ 1000000) (res : Rec × List Ent × Bool) (hres : triesR r told = res) :
  Calls Tryz.prog 59 #[.pointer (some ⟨gh, 0, none⟩)] W (TriesRes gh base res W) := by
 have HS := Hi (show TryS gh base res W false r told (r.l.held.length + 1) W from ⟨⟨o0, h⟩, hw, hres, hl, rfl, Below.refl _ _⟩)
 clear h hw hl hres
 go_enter Tryz.func59, Tryz.ntmps59
 go_wp2_with fail
 refine wp_scope_rank 0 (TryJ gh base res W) rfl ?pass ?first
 case first =>
  intro HP
  go_wp2_with fail
  go_step3
  simp only [Exit.then]
  rename_i hK
  refine hK _ _ (HP (r.l.held.length + 1) _ _ ?_)
  exact ⟨_, _, _, _, _, _, _, _, _, _, _, _, _, _, _, _, _, rfl, HS.out⟩
 case pass =>
  rintro n a' w' ⟨u1, u2, u4, u5, u6, u7, u8, u9, u10, u11, u12, u13, u14, u15, b, r1, t1, rfl, hs⟩
  have HJ := Hi hs
  have HLT := Hi (show (t1.length : Int) ≤ 1000000 from by have := hs.len; omega)
  obtain ⟨o1, hh⟩ := hs.hand
  have HF := Hi (show Calls Tryz.prog 48 #[.pointer (some ⟨gh, 0, none⟩), .agg #[.int .i64 6, .int .i64 0, .int .u64 0, .int .i64 0, .int .u64 0]] w' (DoesX gh base r1 t1 oFree w') from doesX hh hs.wf oFree (Int.le_refl _) ⟨Int.le_refl _, by decide⟩ HLT.out)
  clear hs hh
  go_wp2_with fail
  with_reducible refine HF.out.mono ?_
  rintro e w2 ⟨rfl, hh, hb⟩
  have HH := Hi hh
  have HB := Hi (HJ.out.below.trans hb)
  have HLE := Hi (Nat.le_trans HJ.out.le hb.size)
  clear hh hb HF
  rw [step_free] at HH ⊢
  cases hfr : freeR r1 t1 with
  | ok x =>
   obtain ⟨r2, t2⟩ := x
   rw [hfr] at HH
   have HN := Hi (show TryS gh base res W b r2 t2 (r2.l.held.length + (if b = true then 0 else 1)) w2 from ⟨HH.out, (wf_free HJ.out.wf hfr).1, (contR_free HJ.out.wf hfr).symm.trans HJ.out.cont, by have h1 := free_held HJ.out.wf hfr; have := HJ.out.len; omega, rfl, HB.out⟩)
   have HR := Hi (show r2.l.held.length + (if b = true then 0 else 1) < n from by have h1 := (free_held HJ.out.wf hfr).1; have h2 := HJ.out.rank; omega)
   have hok : okK (Except.ok (r2, t2)) = 0 := rfl
   try rw [hok]
   clear HH hfr
   go_wp2_with fail
   go_step3
   exact ⟨rfl, _, HR.out, _, _, _, _, _, _, _, _, _, _, _, _, _, _, _, _, _, rfl, HN.out⟩
  | error k =>
   rw [hfr] at HH
   have HFR := Hi hfr
   have HK := Hi (free_ne hfr)
   have hk : (k == 0) = false := by simpa using HK.out
   have hok : okK (Except.error k) = k := rfl
   try rw [hok]
   clear hfr
   cases b with
   | true =>
    go_wp2_with fail
    go_ret
    have hc := HJ.out.cont
    rw [contR_end HFR.out] at hc
    subst hc
    exact ⟨rfl, HH.out, HJ.out.wf, HB.out⟩
   | false =>
    obtain ⟨o2, hh⟩ := HH.out
    have HF := Hi (show Calls Tryz.prog 48 #[.pointer (some ⟨gh, 0, none⟩), .agg #[.int .i64 7, .int .i64 0, .int .u64 0, .int .i64 0, .int .u64 0]] w2 (DoesX gh base r1 t1 oGo w2) from doesX hh HJ.out.wf oGo (Int.le_refl _) ⟨Int.le_refl _, by decide⟩ HLT.out)
    clear hh
    go_wp2_with fail
    with_reducible refine HF.out.mono ?_
    rintro e w3 ⟨rfl, hh, hb⟩
    have HH2 := Hi hh
    have HB2 := Hi (HB.out.trans hb)
    clear hh hb HF HH
    rw [step_go] at HH2 ⊢
    cases hgo : goR r1 t1 oGo with
    | ok x =>
     obtain ⟨r2, t2⟩ := x
     rw [hgo] at HH2
     obtain ⟨g1, g2, _⟩ := go_held HJ.out.wf hgo
     have HN := Hi (show TryS gh base res W true r2 t2 r2.l.held.length w3 from ⟨HH2.out, wf_go HJ.out.wf hgo, (contR_go HFR.out hgo).symm.trans HJ.out.cont, by rw [g1, g2]; exact HJ.out.len, rfl, HB2.out⟩)
     have HR := Hi (show r2.l.held.length < n from by rw [g1]; have h2 := HJ.out.rank; simp at h2; omega)
     have hok2 : okK (Except.ok (r2, t2)) = 0 := rfl
     try rw [hok2]
     clear HH2 hgo g1 g2
     go_wp2_with fail
     go_step3
     exact ⟨rfl, _, HR.out, _, _, _, _, _, _, _, _, _, _, _, _, _, _, _, _, _, rfl, HN.out⟩
    | error k2 =>
     rw [hgo] at HH2
     have HK2 := Hi (go_ne hgo)
     have hk2 : (k2 == 0) = false := by simpa using HK2.out
     have hok2 : okK (Except.error k2) = k2 := rfl
     try rw [hok2]
     have hc := HJ.out.cont
     rw [contR_stay HFR.out hgo] at hc
     have HC := Hi hc
     clear hgo hc
     go_wp2_with fail
     go_ret
     have hc := HC.out
     subst hc
     exact ⟨rfl, HH2.out, HJ.out.wf, HB2.out⟩
theorem own_back {w w' : World} {base b : Nat} {e : TypeId} {sz n : Nat} {v : Value} {xs : List Value} (h : w.ownsRow base e sz v n xs) (hk : ∀ j, base ≤ j → j < w.heap.size → w'.heap[j]? = w.heap[j]?) (hb : b ≤ base) : w'.ownsRow b e sz v n xs :=
 own_lo (own_kept h (fun g hg hl => hk g (own_typ h hg).1 hl)) hb
def TryRes (r : Rec) (W : World) (e : Ending) (W' : World) : Prop :=
 (∃ v At nt ct, e = .returned (.tuple #[v, .slice At nt ct, .bool (tryR r).2.2.1, .int .i64 (tryR r).2.2.2]) ∧ RecOut (From W.heap.size) W' v (tryR r).1 ∧ W'.ownsRow W.heap.size 41 2 (.slice At nt ct) nt (Cs encE (tryR r).2.1) ∧ (tryR r).2.1.length = nt) ∧ Below W.heap.size W W'
set_option maxRecDepth 20000 in
theorem Try_any (F : Nat → Prop) (A0 As : Option Addr) (n0 c0 ns cs : Nat) (A : Nat → Option Addr) (n c : Nat → Nat) (r : Rec) (W : World) (h : RecF F W A0 As n0 c0 ns cs A n c r) (hf : FitR r) (hg : ∀ s ∈ r.sl, 0 ≤ s.2) :
  Calls Tryz.prog 24 #[.agg (recC r.e r.l.E A0 As n0 c0 ns cs A n c)] W (TryRes r W) := by
 have b1 : Below W.heap.size W ((W.alloc (.cells #[.slice A0 n0 c0, .int .u64 r.e, .slice As ns cs, .int .u64 (r.l.E : Int), .slice (A 0) (n 0) (c 0), .slice (A 1) (n 1) (c 1), .slice (A 2) (n 2) (c 2)] 34)).alloc (.cells #[.slice none 0 0, .int .u64 0, .slice none 0 0, .int .u64 0, .slice none 0 0, .slice none 0 0, .slice none 0 0] 34)) := ((Below.refl _ _).alloc (Nat.le_refl _) _).alloc (by simp) _
 have al := al2 W #[.slice A0 n0 c0, .int .u64 r.e, .slice As ns cs, .int .u64 (r.l.E : Int), .slice (A 0) (n 0) (c 0), .slice (A 1) (n 1) (c 1), .slice (A 2) (n 2) (c 2)] 34 #[.slice none 0 0, .int .u64 0, .slice none 0 0, .int .u64 0, .slice none 0 0, .slice none 0 0, .slice none 0 0] 34
 have R1 := Hi al.1.1
 have R3 := Hi al.1.2
 clear al
 have HS1 := Hi (show ((W.alloc (.cells #[.slice A0 n0 c0, .int .u64 r.e, .slice As ns cs, .int .u64 (r.l.E : Int), .slice (A 0) (n 0) (c 0), .slice (A 1) (n 1) (c 1), .slice (A 2) (n 2) (c 2)] 34)).alloc (.cells #[.slice none 0 0, .int .u64 0, .slice none 0 0, .int .u64 0, .slice none 0 0, .slice none 0 0, .slice none 0 0] 34)).heap.size = W.heap.size + 2 from by simp)
 have HB := Hi b1
 have H := Hi (h.below b1)
 have HF := Hi hf
 have HG := Hi hg
 clear b1 h hf hg
 go_enter Tryz.func24, Tryz.ntmps24
 go_upto_region 1 with (fail)
 generalize (W.alloc _).alloc _ = w1 at *
 obtain ⟨q0, q1, q2, q3, q4, q5, q6⟩ := row7 R1.out
 have ql := R1.out.lt
 go_wp2_with fail
 rcases Bool.eq_false_or_eq_true r.ok with ho | ho
 case inr =>
  have HD := Hi (show tryR r = (rec0, [], false, 250) from by unfold tryR; rw [ho]; rfl)
  with_reducible refine (Check_any F A0 As n0 c0 ns cs A n c r _ H.out HF.out 250 (by rw [ho]; simp)).mono ?_
  rintro e w2 ⟨rfl, hb⟩
  replace R1 := Hi (R1.out.below hb)
  replace R3 := Hi (R3.out.below hb)
  replace H := Hi (H.out.below hb)
  replace HB := bt HB hb
  clear hb
  clear q0 q1 q2 q3 q4 q5 q6 ql
  obtain ⟨y0, y1, y2, y3, y4, y5, y6⟩ := row7 R3.out
  have yl := R3.out.lt
  obtain ⟨yf0, yf1, yf2, yf3, yf4, yf5, yf6⟩ := fz R3.out
  go_wp2_with fail
  have hl1 := lp7 w2 (W.heap.size + 1) (.slice none 0 0) (.int .u64 0) (.slice none 0 0) (.int .u64 0) (.slice none 0 0) (.slice none 0 0) (.slice none 0 0)
  have hr3 := rp7 R3.out (.slice none 0 0) (.int .u64 0) (.slice none 0 0) (.int .u64 0) (.slice none 0 0) (.slice none 0 0) (.slice none 0 0)
  have hbF := HB.out.trans (hl1.below.mono (by omega))
  clear y0 y1 y2 y3 y4 y5 y6 yl
  clear yf0 yf1 yf2 yf3 yf4 yf5 yf6 hl1
  generalize World.setCell _ _ _ = wF at *
  obtain ⟨y0, y1, y2, y3, y4, y5, y6⟩ := row7 hr3
  have yl := hr3.lt
  refine bodyPost_ret (v := .tuple #[.agg #[.slice none 0 0, .int .u64 0, .slice none 0 0, .int .u64 0, .slice none 0 0, .slice none 0 0, .slice none 0 0], .slice none 0 0, .bool false, .int .i64 250]) (by simp [results, Tryz.results24, go_sem, y0, y1, y2, y3, y4, y5, y6, yl]) rfl ⟨⟨.agg #[.slice none 0 0, .int .u64 0, .slice none 0 0, .int .u64 0, .slice none 0 0, .slice none 0 0, .slice none 0 0], none, 0, 0, by rw [HD.out], by rw [HD.out]; exact zero_rec _ _, by rw [HD.out]; exact World.ownsRow_nil _ _ _ _, by rw [HD.out]; rfl⟩, hbF⟩
 case inl =>
  have HW := Hi (show WfR r from ⟨ok_iff.1 ho, fun s hs => (HF.out.s s hs).1, HG.out⟩)
  with_reducible refine (Check_any F A0 As n0 c0 ns cs A n c r _ H.out HF.out 0 (by rw [ho]; simp)).mono ?_
  rintro e w2 ⟨rfl, hb⟩
  replace R1 := Hi (R1.out.below hb)
  replace R3 := Hi (R3.out.below hb)
  replace H := Hi (H.out.below hb)
  replace HB := bt HB hb
  clear hb
  clear q0 q1 q2 q3 q4 q5 q6 ql
  obtain ⟨q0, q1, q2, q3, q4, q5, q6⟩ := row7 R1.out
  have ql := R1.out.lt
  go_wp2_with fail
  with_reducible refine (own_any F A0 As n0 c0 ns cs A n c r w2 H.out HF.out).mono ?_
  rintro e w3 ⟨⟨gh, rfl, hx⟩, hb⟩
  have HX := Hi (show HandX w3 w2.heap.size gh o00 r [] from by obtain ⟨B0, Bs, m0, d0, ms, ds, B, m, d, hh⟩ := hx; exact ⟨_, _, _, _, _, _, _, _, _, _, _, _, hh⟩)
  have HL2 := Hi (show W.heap.size + 2 ≤ w2.heap.size from by have h1 := R3.out.lt; omega)
  replace R1 := Hi (R1.out.below hb)
  replace R3 := Hi (R3.out.below hb)
  replace H := Hi (H.out.below hb)
  replace HB := bt HB hb
  clear hb
  clear q0 q1 q2 q3 q4 q5 q6 ql
  clear hx
  have HD := Hi (show tryR r = ((triesR r []).1, (triesR r []).2.1, (triesR r []).2.2, 0) from by unfold tryR; rw [ho]; rfl)
  obtain ⟨res, hres⟩ : ∃ res, triesR r [] = res := ⟨_, rfl⟩
  rw [hres] at HD
  obtain ⟨r2, t2, b2⟩ := res
  go_wp2_with fail
  with_reducible refine (tries_any w2.heap.size gh o00 r [] w3 HX.out HW.out (by have := Li.ok_held_len HW.out.ok.lm; simp; omega) (r2, t2, b2) hres).mono ?_
  rintro e w4 ⟨rfl, hh, _, hb⟩
  have HHW := Hi hh
  replace R1 := Hi (R1.out.heap (hb.block _ (by have := HL2.out; omega)))
  replace R3 := Hi (R3.out.heap (hb.block _ (by have := HL2.out; omega)))
  replace HB := Hi (HB.out.trans (hb.mono (by have := HL2.out; omega)))
  clear hb hh HX hres
  obtain ⟨o3, B0, Bs, m0, d0, ms, ds, B, m, d, At, nt, ct, hh⟩ := HHW.out
  replace HHW := Hi (show HandR w4 w2.heap.size gh B0 Bs m0 d0 ms ds B m d o3 At nt ct r2 t2 from hh)
  clear hh
  go_upto_region 6 with (fail)
  have HSX := Hi (fun (wX : World) (hgX : StayF (fun j => j ≠ (W.heap.size + 1)) w4 wX) => show wX.cell? ⟨gh, 0, none⟩ = some (.slice B0 m0 d0) ∧ wX.cell? ⟨gh, 1, none⟩ = some (.int .u64 r2.e) ∧ wX.cell? ⟨gh, 2, none⟩ = some (.slice Bs ms ds) ∧ wX.cell? ⟨gh, 3, none⟩ = some (.int .u64 (r2.l.E : Int)) ∧ wX.cell? ⟨gh, 4, none⟩ = some (.slice (B 0) (m 0) (d 0)) ∧ wX.cell? ⟨gh, 5, none⟩ = some (.slice (B 1) (m 1) (d 1)) ∧ wX.cell? ⟨gh, 6, none⟩ = some (.slice (B 2) (m 2) (d 2)) ∧ wX.cell? ⟨gh, 12, none⟩ = some (.slice At nt ct) ∧ gh < wX.heap.size from by
   obtain ⟨z0, z1, z2, z3, z4, z5, z6, z7, z8, z9, z10, z11, z12⟩ := row13 HHW.out.row
   have hkg : ∀ j, gh ≤ j → j < w4.heap.size → wX.heap[j]? = w4.heap[j]? := fun j h1 h2 => hgX.2 j (by have := HHW.out.lo; have := HL2.out; show j ≠ _; omega) h2
   have hk : ∀ j v, w4.cell? ⟨gh, j, none⟩ = some v → wX.cell? ⟨gh, j, none⟩ = some v := fun j v h => (cell_of_heap (hkg gh (Nat.le_refl _) HHW.out.row.lt)).trans h
   exact ⟨hk _ _ z0, hk _ _ z1, hk _ _ z2, hk _ _ z3, hk _ _ z4, hk _ _ z5, hk _ _ z6, hk _ _ z12, Nat.lt_of_lt_of_le HHW.out.row.lt hgX.1⟩)
  have HBD := Hi (Below.refl w4.heap.size w4).drew
  have HSD := Hi (show StayF (fun j => j ≠ (W.heap.size + 1)) w4 w4.drew from StayF.of_below HBD.out)
  have D3 := Hi (R3.out.below HBD.out)
  have HHD := Hi (HHW.out.below HBD.out)
  replace HB := Hi (HB.out.trans (HBD.out.mono HB.out.size))
  refine wp_region_held_drew (S := fun wX => wX.cell? ⟨gh, 0, none⟩ = some (.slice B0 m0 d0) ∧ wX.cell? ⟨gh, 1, none⟩ = some (.int .u64 r2.e) ∧ wX.cell? ⟨gh, 2, none⟩ = some (.slice Bs ms ds) ∧ wX.cell? ⟨gh, 3, none⟩ = some (.int .u64 (r2.l.E : Int)) ∧ wX.cell? ⟨gh, 4, none⟩ = some (.slice (B 0) (m 0) (d 0)) ∧ wX.cell? ⟨gh, 5, none⟩ = some (.slice (B 1) (m 1) (d 1)) ∧ wX.cell? ⟨gh, 6, none⟩ = some (.slice (B 2) (m 2) (d 2)) ∧ wX.cell? ⟨gh, 12, none⟩ = some (.slice At nt ct) ∧ gh < wX.heap.size) (by kernel_rfl) (HSX.out _ HSD.out) (fun hHeld => ?_)
  clear hHeld
  have hS0 := HSX.out _ HSD.out
  generalize w4.drew = wd at *
  refine tkI (i := 0) rfl ?_
  refine tkI (i := 1) rfl ?_
  refine tkI (i := 2) rfl ?_
  refine tkI (i := 3) rfl ?_
  refine tkI (i := 4) rfl ?_
  refine tkI (i := 5) rfl ?_
  refine tkI (i := 6) rfl ?_
  refine tkI (i := 7) rfl ?_
  refine tkI (i := 8) rfl ?_
  refine ryH (i := 9) rfl (fun K0 hK0 => ?_)
  obtain ⟨y0, y1, y2, y3, y4, y5, y6⟩ := row7 D3.out
  have yl := D3.out.lt
  obtain ⟨yf0, yf1, yf2, yf3, yf4, yf5, yf6⟩ := fz D3.out
  go_simp
  have hl1 := lp7 wd (W.heap.size + 1) (.slice B0 m0 d0) (.int .u64 r2.e) (.slice Bs ms ds) (.int .u64 (r2.l.E : Int)) (.slice (B 0) (m 0) (d 0)) (.slice (B 1) (m 1) (d 1)) (.slice (B 2) (m 2) (d 2))
  have hr3 := rp7 D3.out (.slice B0 m0 d0) (.int .u64 r2.e) (.slice Bs ms ds) (.int .u64 (r2.l.E : Int)) (.slice (B 0) (m 0) (d 0)) (.slice (B 1) (m 1) (d 1)) (.slice (B 2) (m 2) (d 2))
  have HS1 := Hi (HSD.out.trans (hl1.stay (fun h => h rfl)))
  have HL1 := Hi hl1
  have HR3 := Hi hr3
  clear hl1 hr3 hS0 yl y0 yf0 y1 yf1 y2 yf2 y3 yf3 y4 yf4 y5 yf5 y6 yf6
  generalize World.setCell _ _ _ = w8 at *
  have hS0 := HSX.out _ HS1.out
  refine hK0.out _ _ hS0 (fun _ => wnH ?_)
  clear hK0 K0
  refine ryH (i := 10) rfl (fun K1 hK1 => ?_)
  go_simp
  refine hK1.out _ _ hS0 (fun _ => wnH ?_)
  clear hK1 K1
  refine ryH (i := 11) rfl (fun K2 hK2 => ?_)
  go_simp
  refine hK2.out _ _ hS0 (fun _ => wnH ?_)
  clear hK2 K2
  refine ryH (i := 12) rfl (fun K3 hK3 => ?_)
  go_simp
  refine hK3.out _ _ hS0 (fun _ => wnH ?_)
  clear hK3 K3
  refine wpAnyH_done (by kernel_rfl) ?_ _
  obtain ⟨y0, y1, y2, y3, y4, y5, y6⟩ := row7 HR3.out
  have yl := HR3.out.lt
  go_wp2_with fail
  refine bodyPost_ret (v := .tuple #[.agg #[.slice B0 m0 d0, .int .u64 r2.e, .slice Bs ms ds, .int .u64 (r2.l.E : Int), .slice (B 0) (m 0) (d 0), .slice (B 1) (m 1) (d 1), .slice (B 2) (m 2) (d 2)], .slice At nt ct, .bool b2, .int .i64 0]) (by simp [results, Tryz.results24, go_sem, y0, y1, y2, y3, y4, y5, y6, yl]) rfl ?_
  have hk : ∀ j, w2.heap.size ≤ j → w8.heap[j]? = wd.heap[j]? := fun j hj => HL1.out.block j (by have := HL2.out; omega)
  refine ⟨⟨.agg #[.slice B0 m0 d0, .int .u64 r2.e, .slice Bs ms ds, .int .u64 (r2.l.E : Int), .slice (B 0) (m 0) (d 0), .slice (B 1) (m 1) (d 1), .slice (B 2) (m 2) (d 2)], At, nt, ct, by rw [HD.out], ?_, by rw [HD.out]; exact own_back HHD.out.own (fun j hj _ => hk j hj) (by have := HL2.out; omega), by rw [HD.out]; exact HHD.out.len⟩, HB.out.trans (HL1.out.below.mono (by omega))⟩
  rw [HD.out]
  exact ⟨_, _, _, _, _, _, _, _, _, rfl, ((HHD.out.all.up (G := fun j => w2.heap.size ≤ j) (fun j hj _ => hj.1)).stay ⟨HL1.out.size, fun j hj _ => hk j hj⟩).up (fun j hj _ => by have := HL2.out; have hj : w2.heap.size ≤ j := hj; show W.heap.size ≤ j; omega)⟩
def encP (o : EOp) : List Value := [.int .i64 o.k, .int .i64 o.g, .int .u64 o.b, .int .i64 o.x.1, .int .u64 o.x.2]
theorem encP_len : ∀ x, (encP x).length = 5 := fun _ => rfl
theorem encP_one : ∀ x, ∀ u ∈ encP x, u.oneCell' = true := by
 intro x u hu
 simp [encP] at hu
 rcases hu with rfl | rfl | rfl | rfl | rfl <;> rfl
theorem Rd.op {w : World} {B m : Nat} {A : Option Addr} {xs : List EOp} (h : Rd w B 5 A m (Cs encP xs)) (hx : xs.length = m) {k : Nat} (hk : k < xs.length) :
  ∃ b o, A = some ⟨b, o, none⟩ ∧ b < B ∧ w.cell? ⟨b, o + k * 5, none⟩ = some (.int .i64 xs[k].k) ∧ w.cell? ⟨b, o + k * 5 + 1, none⟩ = some (.int .i64 xs[k].g) ∧ w.cell? ⟨b, o + k * 5 + 2, none⟩ = some (.int .u64 xs[k].b) ∧ w.cell? ⟨b, o + k * 5 + 3, none⟩ = some (.int .i64 xs[k].x.1) ∧ w.cell? ⟨b, o + k * 5 + 4, none⟩ = some (.int .u64 xs[k].x.2) := by
 subst hx
 obtain ⟨b, o, hA, hb, hc⟩ := h.elem encP_len hk
 refine ⟨b, o, hA, hb, ?_, ?_, ?_, ?_, ?_⟩
 ·
  have := hc 0 _ (by omega) rfl
  simpa using this
 · exact hc 1 _ (by omega) rfl
 · exact hc 2 _ (by omega) rfl
 · exact hc 3 _ (by omega) rfl
 · exact hc 4 _ (by omega) rfl
def RunRes (r : Rec) (l : List EOp) (W : World) (e : Ending) (W' : World) : Prop :=
 (∃ v At nt ct, e = .returned (.tuple #[v, .slice At nt ct, .int .i64 ((runR r l).2.2.1 : Int), .int .i64 (runR r l).2.2.2]) ∧ RecOut (From W.heap.size) W' v (runR r l).1 ∧ W'.ownsRow W.heap.size 41 2 (.slice At nt ct) nt (Cs encE (runR r l).2.1) ∧ (runR r l).2.1.length = nt) ∧ Below W.heap.size W W'
structure RunS (gh base : Nat) (res : Option (Rec × List Ent × Nat)) (l : List EOp) (W : World) (k : Nat) (r : Rec) (t : List Ent) (n : Nat) (w : World) : Prop where
 hand : ∃ o, HandX w base gh o r t
 wf : WfR r
 cont : runL r t n (l.drop k) = res
 len : t.length ≤ k
 num : n ≤ k
 below : Below base W w
theorem RunS.le {gh base : Nat} {res : Option (Rec × List Ent × Nat)} {l : List EOp} {W : World} {k : Nat} {r : Rec} {t : List Ent} {n : Nat} {w : World} (h : RunS gh base res l W k r t n w) : base ≤ w.heap.size := by
 obtain ⟨o, A0, As, n0, c0, ns, cs, A, n, c, At, nt, ct, hh⟩ := h.hand
 exact Nat.le_trans hh.lo (Nat.le_of_lt hh.row.lt)
set_option maxRecDepth 20000 in
theorem Run_any (F : Nat → Prop) (A0 As : Option Addr) (n0 c0 ns cs : Nat) (A : Nat → Option Addr) (n c : Nat → Nat) (r : Rec) (Al : Option Addr) (ml cl : Nat) (l : List EOp) (W : World) (h : RecF F W A0 As n0 c0 ns cs A n c r) (hf : FitR r) (hg : ∀ s ∈ r.sl, 0 ≤ s.2) (hl : Rd W W.heap.size 5 Al ml (Cs encP l)) (hm : l.length = ml) (hml : ml ≤ 4096) (hu : ∀ o ∈ l, 0 ≤ o.b ∧ U64 o.x.2) :
  Calls Tryz.prog 17 #[.agg (recC r.e r.l.E A0 As n0 c0 ns cs A n c), .slice Al ml cl] W (RunRes r l W) := by
 have b1 : Below W.heap.size W ((W.alloc (.cells #[.slice A0 n0 c0, .int .u64 r.e, .slice As ns cs, .int .u64 (r.l.E : Int), .slice (A 0) (n 0) (c 0), .slice (A 1) (n 1) (c 1), .slice (A 2) (n 2) (c 2)] 34)).alloc (.cells #[.slice none 0 0, .int .u64 0, .slice none 0 0, .int .u64 0, .slice none 0 0, .slice none 0 0, .slice none 0 0] 34)) := ((Below.refl _ _).alloc (Nat.le_refl _) _).alloc (by simp) _
 have al := al2 W #[.slice A0 n0 c0, .int .u64 r.e, .slice As ns cs, .int .u64 (r.l.E : Int), .slice (A 0) (n 0) (c 0), .slice (A 1) (n 1) (c 1), .slice (A 2) (n 2) (c 2)] 34 #[.slice none 0 0, .int .u64 0, .slice none 0 0, .int .u64 0, .slice none 0 0, .slice none 0 0, .slice none 0 0] 34
 have R1 := Hi al.1.1
 have R3 := Hi al.1.2
 clear al
 have HS1 := Hi (show ((W.alloc (.cells #[.slice A0 n0 c0, .int .u64 r.e, .slice As ns cs, .int .u64 (r.l.E : Int), .slice (A 0) (n 0) (c 0), .slice (A 1) (n 1) (c 1), .slice (A 2) (n 2) (c 2)] 34)).alloc (.cells #[.slice none 0 0, .int .u64 0, .slice none 0 0, .int .u64 0, .slice none 0 0, .slice none 0 0, .slice none 0 0] 34)).heap.size = W.heap.size + 2 from by simp)
 have HB := Hi b1
 have H := Hi (h.below b1)
 have HF := Hi hf
 have HG := Hi hg
 have HL := Hi hl
 have HM := Hi hm
 have HU := Hi hu
 have HML := Hi hml
 clear b1 h hf hg hl hm hu
 go_enter Tryz.func17, Tryz.ntmps17
 go_upto_region 1 with (fail)
 generalize (W.alloc _).alloc _ = w1 at *
 obtain ⟨q0, q1, q2, q3, q4, q5, q6⟩ := row7 R1.out
 have ql := R1.out.lt
 go_wp2_with fail
 rcases Bool.eq_false_or_eq_true r.ok with ho | ho
 case inr =>
  have HD := Hi (show runR r l = (rec0, [], 0, 250) from by unfold runR; rw [ho]; rfl)
  with_reducible refine (Check_any F A0 As n0 c0 ns cs A n c r _ H.out HF.out 250 (by rw [ho]; simp)).mono ?_
  rintro e w2 ⟨rfl, hb⟩
  replace R1 := Hi (R1.out.below hb)
  replace R3 := Hi (R3.out.below hb)
  replace H := Hi (H.out.below hb)
  replace HB := bt HB hb
  clear hb
  clear q0 q1 q2 q3 q4 q5 q6 ql
  obtain ⟨y0, y1, y2, y3, y4, y5, y6⟩ := row7 R3.out
  have yl := R3.out.lt
  obtain ⟨yf0, yf1, yf2, yf3, yf4, yf5, yf6⟩ := fz R3.out
  go_wp2_with fail
  have hl1 := lp7 w2 (W.heap.size + 1) (.slice none 0 0) (.int .u64 0) (.slice none 0 0) (.int .u64 0) (.slice none 0 0) (.slice none 0 0) (.slice none 0 0)
  have hr3 := rp7 R3.out (.slice none 0 0) (.int .u64 0) (.slice none 0 0) (.int .u64 0) (.slice none 0 0) (.slice none 0 0) (.slice none 0 0)
  have hbF := HB.out.trans (hl1.below.mono (by omega))
  clear y0 y1 y2 y3 y4 y5 y6 yl
  clear yf0 yf1 yf2 yf3 yf4 yf5 yf6 hl1
  generalize World.setCell _ _ _ = wF at *
  obtain ⟨y0, y1, y2, y3, y4, y5, y6⟩ := row7 hr3
  have yl := hr3.lt
  refine bodyPost_ret (v := .tuple #[.agg #[.slice none 0 0, .int .u64 0, .slice none 0 0, .int .u64 0, .slice none 0 0, .slice none 0 0, .slice none 0 0], .slice none 0 0, .int .i64 0, .int .i64 250]) (by simp [results, Tryz.results17, go_sem, y0, y1, y2, y3, y4, y5, y6, yl]) rfl ⟨⟨.agg #[.slice none 0 0, .int .u64 0, .slice none 0 0, .int .u64 0, .slice none 0 0, .slice none 0 0, .slice none 0 0], none, 0, 0, by rw [HD.out]; rfl, by rw [HD.out]; exact zero_rec _ _, by rw [HD.out]; exact World.ownsRow_nil _ _ _ _, by rw [HD.out]; rfl⟩, hbF⟩
 case inl =>
  have HW := Hi (show WfR r from ⟨ok_iff.1 ho, fun s hs => (HF.out.s s hs).1, HG.out⟩)
  with_reducible refine (Check_any F A0 As n0 c0 ns cs A n c r _ H.out HF.out 0 (by rw [ho]; simp)).mono ?_
  rintro e w2 ⟨rfl, hb⟩
  replace R1 := Hi (R1.out.below hb)
  replace R3 := Hi (R3.out.below hb)
  replace H := Hi (H.out.below hb)
  replace HB := bt HB hb
  clear hb
  clear q0 q1 q2 q3 q4 q5 q6 ql
  obtain ⟨q0, q1, q2, q3, q4, q5, q6⟩ := row7 R1.out
  have ql := R1.out.lt
  go_wp2_with fail
  with_reducible refine (own_any F A0 As n0 c0 ns cs A n c r w2 H.out HF.out).mono ?_
  rintro e w3 ⟨⟨gh, rfl, hx⟩, hb⟩
  have HX := Hi (show HandX w3 w2.heap.size gh o00 r [] from by obtain ⟨B0, Bs, m0, d0, ms, ds, B, m, d, hh⟩ := hx; exact ⟨_, _, _, _, _, _, _, _, _, _, _, _, hh⟩)
  have HL2 := Hi (show W.heap.size + 2 ≤ w2.heap.size from by have h1 := R3.out.lt; omega)
  replace R1 := Hi (R1.out.below hb)
  replace R3 := Hi (R3.out.below hb)
  replace H := Hi (H.out.below hb)
  replace HB := bt HB hb
  clear hb
  clear q0 q1 q2 q3 q4 q5 q6 ql
  clear hx
  obtain ⟨res, hres⟩ : ∃ res, runL r [] 0 l = res := ⟨_, rfl⟩
  have HD := Hi (show runR r l = runOut res from by unfold runR; rw [if_pos ho, hres])
  have HJ := Hi (show RunS gh w2.heap.size res l w3 0 r [] 0 w3 from ⟨⟨_, HX.out⟩, HW.out, hres, Nat.le_refl _, Nat.le_refl _, Below.refl _ _⟩)
  clear HX hres
  go_upto_region 6 with (fail)
  go_loopw [10, 23] (fun q i wr => ∃ k n r1 t1, k ≤ ml ∧ q = .int .i64 ((n : Nat) : Int) ∧ i = .int .i64 ((k : Nat) : Int) ∧ RunS gh w2.heap.size res l w3 k r1 t1 n wr) (fun _ i _ => ml - (intOf i).toNat)
  case atStart => exact ⟨0, 0, r, [], Nat.zero_le _, rfl, rfl, HJ.out⟩
  case round =>
   obtain ⟨k, n1, r1, t1, hk, rfl, rfl, hst⟩ := hrel
   have HST := Hi hst
   clear hst
   by_cases hlt : k < ml
   ·
    have hki : (k : Int) < (ml : Int) := by omega
    have hkl : k < l.length := by rw [HM.out]; exact hlt
    have HBL := Hi (HB.out.trans (HST.out.below.mono (by have := HL2.out; omega)))
    obtain ⟨b, q, hAl, hbl, d0, d1, d2, d3, d4⟩ := Rd.op (HL.out.below HBL.out) HM.out hkl
    have hbl2 : b < wr.heap.size := Nat.lt_of_lt_of_le hbl HBL.out.size
    have HXX := Hi (show l.drop k = l[k] :: l.drop (k + 1) from List.drop_eq_getElem_cons hkl)
    have HUX := Hi (HU.out _ (List.getElem_mem hkl))
    generalize l[k] = x at *
    have HK := Hi hlt
    clear hkl hk
    have hba := ba wr (.cells #[.int .i64 x.k, .int .i64 x.g, .int .u64 x.b, .int .i64 x.x.1, .int .u64 x.x.2] 43)
    have ra := RowAt.new wr 43 #[.int .i64 x.k, .int .i64 x.g, .int .u64 x.b, .int .i64 x.x.1, .int .u64 x.x.2]
    obtain ⟨o1, A0', As', n0', c0', ns', cs', A', n', c', At', nt', ct', hh⟩ := HST.out.hand
    have HHA := Hi (show HandX (wr.alloc (.cells #[.int .i64 x.k, .int .i64 x.g, .int .u64 x.b, .int .i64 x.x.1, .int .u64 x.x.2] 43)) w2.heap.size gh o1 r1 t1 from ⟨_, _, _, _, _, _, _, _, _, _, _, _, hh.below hba⟩)
    have HBA := Hi (HST.out.below.trans (hba.mono HST.out.le))
    clear hh
    subst hAl
    go_upto_region 8 with (fail)
    have HRA := Hi ra
    clear ra hba d0 d1 d2 d3 d4 hbl hbl2
    generalize wr.alloc _ = wa at *
    obtain ⟨y0, y1, y2, y3, y4⟩ := row5 HRA.out
    have yl := HRA.out.lt
    go_wp2_with fail
    with_reducible refine (doesX HHA.out HST.out.wf x HUX.out.1 HUX.out.2 (by have := HST.out.len; have := HK.out; have := HML.out; omega)).mono ?_
    rintro e w5 ⟨rfl, hh, hb⟩
    have HH5 := Hi hh
    have HB5 := Hi (HBA.out.trans hb)
    clear hh hb y0 y1 y2 y3 y4 yl
    have HC := Hi HST.out.cont
    rw [HXX.out] at HC
    cases hs : stepR r1 t1 x with
    | ok z =>
     obtain ⟨r2, t2⟩ := z
     rw [hs] at HH5
     have HT2 := Hi (show t2.length ≤ t1.length + 1 from by rcases step_told HST.out.wf HUX.out.1 hs with h | ⟨y, h⟩ <;> rw [h] <;> simp)
     have HC2 := Hi (show runL r2 t2 n1 (l.drop (k + 1)) = res from by rw [← HC.out]; show _ = (match stepR r1 t1 x with | .ok (r', t') => runL r' t' n1 (l.drop (k + 1)) | .error k2 => if k2 = 251 then none else runL r1 t1 (n1 + 1) (l.drop (k + 1))); rw [hs])
     have HN := Hi (show RunS gh w2.heap.size res l w3 (k + 1) r2 t2 n1 w5 from ⟨HH5.out, wf_step HST.out.wf HUX.out.1 hs, HC2.out, by have := HT2.out; have := HST.out.len; omega, by have := HST.out.num; omega, HB5.out⟩)
     have hok : okK (Except.ok (r2, t2)) = 0 := rfl
     try rw [hok]
     clear hs
     go_wp2_with fail
     go_roundw
     case rel => exact ⟨k + 1, n1, r2, t2, HK.out, rfl, by have h1 := HK.out; have h3 := HML.out; go_num, HN.out⟩
     case measure => have := HK.out; have h3 := HML.out; simp [intOf]; omega
    | error e =>
     rw [hs] at HH5
     have HE := Hi (step_ne hs)
     have he0 : (e == 0) = false := by simpa using HE.out
     have hok : okK (Except.error e) = e := rfl
     try rw [hok]
     by_cases h251 : e = 251
     ·
      subst h251
      have HD2 := Hi (show res = none from by rw [← HC.out]; show (match stepR r1 t1 x with | .ok (r', t') => runL r' t' n1 (l.drop (k + 1)) | .error k2 => if k2 = 251 then none else runL r1 t1 (n1 + 1) (l.drop (k + 1))) = none; rw [hs]; rfl)
      rw [HD2.out] at HD
      clear hs
      have HDx := HD.out
      replace HD := Hi (show runR r l = (rec0, [], 0, 251) from HDx)
      replace R1 := Hi (R1.out.heap (HB5.out.block _ (by have := HL2.out; omega)))
      replace R3 := Hi (R3.out.heap (HB5.out.block _ (by have := HL2.out; omega)))
      replace HB := Hi (HB.out.trans (HB5.out.mono (by have := HL2.out; omega)))
      obtain ⟨y0, y1, y2, y3, y4, y5, y6⟩ := row7 R3.out
      have yl := R3.out.lt
      obtain ⟨yf0, yf1, yf2, yf3, yf4, yf5, yf6⟩ := fz R3.out
      go_wp2_with fail
      have hl1 := lp7 w5 (W.heap.size + 1) (.slice none 0 0) (.int .u64 0) (.slice none 0 0) (.int .u64 0) (.slice none 0 0) (.slice none 0 0) (.slice none 0 0)
      have hr3 := rp7 R3.out (.slice none 0 0) (.int .u64 0) (.slice none 0 0) (.int .u64 0) (.slice none 0 0) (.slice none 0 0) (.slice none 0 0)
      have hbF := HB.out.trans (hl1.below.mono (by omega))
      clear y0 y1 y2 y3 y4 y5 y6 yl
      clear yf0 yf1 yf2 yf3 yf4 yf5 yf6 hl1
      generalize World.setCell _ _ _ = wF at *
      obtain ⟨y0, y1, y2, y3, y4, y5, y6⟩ := row7 hr3
      have yl := hr3.lt
      refine bodyPost_ret (v := .tuple #[.agg #[.slice none 0 0, .int .u64 0, .slice none 0 0, .int .u64 0, .slice none 0 0, .slice none 0 0, .slice none 0 0], .slice none 0 0, .int .i64 0, .int .i64 251]) (by simp [results, Tryz.results17, go_sem, y0, y1, y2, y3, y4, y5, y6, yl]) rfl ⟨⟨.agg #[.slice none 0 0, .int .u64 0, .slice none 0 0, .int .u64 0, .slice none 0 0, .slice none 0 0, .slice none 0 0], none, 0, 0, by rw [HD.out]; rfl, by rw [HD.out]; exact zero_rec _ _, by rw [HD.out]; exact World.ownsRow_nil _ _ _ _, by rw [HD.out]; rfl⟩, hbF⟩
     ·
      have he1 : (e == 251) = false := by simpa using h251
      have HC2 := Hi (show runL r1 t1 (n1 + 1) (l.drop (k + 1)) = res from by rw [← HC.out]; show _ = (match stepR r1 t1 x with | .ok (r', t') => runL r' t' n1 (l.drop (k + 1)) | .error k2 => if k2 = 251 then none else runL r1 t1 (n1 + 1) (l.drop (k + 1))); rw [hs]; show _ = (if e = 251 then none else _); rw [if_neg h251])
      have HN := Hi (show RunS gh w2.heap.size res l w3 (k + 1) r1 t1 (n1 + 1) w5 from ⟨HH5.out, HST.out.wf, HC2.out, by have := HST.out.len; omega, by have := HST.out.num; omega, HB5.out⟩)
      have HNM := Hi HST.out.num
      have hn1 : (n1 : Int) ≤ 4096 := by have := HNM.out; have := HK.out; have := HML.out; omega
      clear hs
      go_wp2_with fail
      go_roundw
      case rel => exact ⟨k + 1, n1 + 1, r1, t1, HK.out, by have h1 := HK.out; have h2 := HNM.out; have h3 := HML.out; go_num, by have h1 := HK.out; have h3 := HML.out; go_num, HN.out⟩
      case measure => have := HK.out; have h3 := HML.out; simp [intOf]; omega
   ·
    have hkn : ml = k := by omega
    subst hkn
    have HC := Hi HST.out.cont
    have hdr : l.drop ml = [] := by rw [← HM.out]; exact List.drop_length
    rw [hdr] at HC
    have HD2 := Hi (show res = some (r1, t1, n1) from HC.out.symm)
    rw [HD2.out] at HD
    have HDx := HD.out
    replace HD := Hi (show runR r l = (r1, t1, n1, 0) from HDx)
    clear HDx hdr HC
    have HB5 := Hi HST.out.below
    obtain ⟨o9, hh9⟩ := HST.out.hand
    have HX5 := Hi hh9
    clear hh9
    clear HD2
    generalize r1 = r2 at *
    generalize t1 = t2 at *
    go_upto_region 14 with (fail)
    have HHW := Hi (⟨o9, HX5.out⟩ : ∃ o, HandX wr w2.heap.size gh o r2 t2)
    replace R1 := Hi (R1.out.heap (HB5.out.block _ (by have := HL2.out; omega)))
    replace R3 := Hi (R3.out.heap (HB5.out.block _ (by have := HL2.out; omega)))
    replace HB := Hi (HB.out.trans (HB5.out.mono (by have := HL2.out; omega)))
    obtain ⟨o3, B0, Bs, m0, d0, ms, ds, B, m, d, At, nt, ct, hh⟩ := HHW.out
    replace HHW := Hi (show HandR wr w2.heap.size gh B0 Bs m0 d0 ms ds B m d o3 At nt ct r2 t2 from hh)
    clear hh
    have HSX := Hi (fun (wX : World) (hgX : StayF (fun j => j ≠ (W.heap.size + 1)) wr wX) => show wX.cell? ⟨gh, 0, none⟩ = some (.slice B0 m0 d0) ∧ wX.cell? ⟨gh, 1, none⟩ = some (.int .u64 r2.e) ∧ wX.cell? ⟨gh, 2, none⟩ = some (.slice Bs ms ds) ∧ wX.cell? ⟨gh, 3, none⟩ = some (.int .u64 (r2.l.E : Int)) ∧ wX.cell? ⟨gh, 4, none⟩ = some (.slice (B 0) (m 0) (d 0)) ∧ wX.cell? ⟨gh, 5, none⟩ = some (.slice (B 1) (m 1) (d 1)) ∧ wX.cell? ⟨gh, 6, none⟩ = some (.slice (B 2) (m 2) (d 2)) ∧ wX.cell? ⟨gh, 12, none⟩ = some (.slice At nt ct) ∧ gh < wX.heap.size from by
     obtain ⟨z0, z1, z2, z3, z4, z5, z6, z7, z8, z9, z10, z11, z12⟩ := row13 HHW.out.row
     have hkg : ∀ j, gh ≤ j → j < wr.heap.size → wX.heap[j]? = wr.heap[j]? := fun j h1 h2 => hgX.2 j (by have := HHW.out.lo; have := HL2.out; show j ≠ _; omega) h2
     have hk : ∀ j v, wr.cell? ⟨gh, j, none⟩ = some v → wX.cell? ⟨gh, j, none⟩ = some v := fun j v h => (cell_of_heap (hkg gh (Nat.le_refl _) HHW.out.row.lt)).trans h
     exact ⟨hk _ _ z0, hk _ _ z1, hk _ _ z2, hk _ _ z3, hk _ _ z4, hk _ _ z5, hk _ _ z6, hk _ _ z12, Nat.lt_of_lt_of_le HHW.out.row.lt hgX.1⟩)
    have HBD := Hi (Below.refl wr.heap.size wr).drew
    have HSD := Hi (show StayF (fun j => j ≠ (W.heap.size + 1)) wr wr.drew from StayF.of_below HBD.out)
    have D3 := Hi (R3.out.below HBD.out)
    have HHD := Hi (HHW.out.below HBD.out)
    replace HB := Hi (HB.out.trans (HBD.out.mono HB.out.size))
    refine wp_region_held_drew (S := fun wX => wX.cell? ⟨gh, 0, none⟩ = some (.slice B0 m0 d0) ∧ wX.cell? ⟨gh, 1, none⟩ = some (.int .u64 r2.e) ∧ wX.cell? ⟨gh, 2, none⟩ = some (.slice Bs ms ds) ∧ wX.cell? ⟨gh, 3, none⟩ = some (.int .u64 (r2.l.E : Int)) ∧ wX.cell? ⟨gh, 4, none⟩ = some (.slice (B 0) (m 0) (d 0)) ∧ wX.cell? ⟨gh, 5, none⟩ = some (.slice (B 1) (m 1) (d 1)) ∧ wX.cell? ⟨gh, 6, none⟩ = some (.slice (B 2) (m 2) (d 2)) ∧ wX.cell? ⟨gh, 12, none⟩ = some (.slice At nt ct) ∧ gh < wX.heap.size) (by kernel_rfl) (HSX.out _ HSD.out) (fun hHeld => ?_)
    clear hHeld
    have hS0 := HSX.out _ HSD.out
    generalize wr.drew = wd at *
    refine tkI (i := 0) rfl ?_
    refine tkI (i := 1) rfl ?_
    refine tkI (i := 2) rfl ?_
    refine tkI (i := 3) rfl ?_
    refine tkI (i := 4) rfl ?_
    refine tkI (i := 5) rfl ?_
    refine tkI (i := 6) rfl ?_
    refine tkI (i := 7) rfl ?_
    refine tkI (i := 8) rfl ?_
    refine ryH (i := 9) rfl (fun K0 hK0 => ?_)
    obtain ⟨y0, y1, y2, y3, y4, y5, y6⟩ := row7 D3.out
    have yl := D3.out.lt
    obtain ⟨yf0, yf1, yf2, yf3, yf4, yf5, yf6⟩ := fz D3.out
    go_simp
    have hl1 := lp7 wd (W.heap.size + 1) (.slice B0 m0 d0) (.int .u64 r2.e) (.slice Bs ms ds) (.int .u64 (r2.l.E : Int)) (.slice (B 0) (m 0) (d 0)) (.slice (B 1) (m 1) (d 1)) (.slice (B 2) (m 2) (d 2))
    have hr3 := rp7 D3.out (.slice B0 m0 d0) (.int .u64 r2.e) (.slice Bs ms ds) (.int .u64 (r2.l.E : Int)) (.slice (B 0) (m 0) (d 0)) (.slice (B 1) (m 1) (d 1)) (.slice (B 2) (m 2) (d 2))
    have HS1 := Hi (HSD.out.trans (hl1.stay (fun h => h rfl)))
    have HL1 := Hi hl1
    have HR3 := Hi hr3
    clear hl1 hr3 hS0 yl y0 yf0 y1 yf1 y2 yf2 y3 yf3 y4 yf4 y5 yf5 y6 yf6
    generalize World.setCell _ _ _ = w8 at *
    have hS0 := HSX.out _ HS1.out
    refine hK0.out _ _ hS0 (fun _ => wnH ?_)
    clear hK0 K0
    refine ryH (i := 10) rfl (fun K1 hK1 => ?_)
    go_simp
    refine hK1.out _ _ hS0 (fun _ => wnH ?_)
    clear hK1 K1
    refine ryH (i := 11) rfl (fun K2 hK2 => ?_)
    go_simp
    refine hK2.out _ _ hS0 (fun _ => wnH ?_)
    clear hK2 K2
    refine ryH (i := 12) rfl (fun K3 hK3 => ?_)
    go_simp
    refine hK3.out _ _ hS0 (fun _ => wnH ?_)
    clear hK3 K3
    refine wpAnyH_done (by kernel_rfl) ?_ _
    obtain ⟨y0, y1, y2, y3, y4, y5, y6⟩ := row7 HR3.out
    have yl := HR3.out.lt
    go_wp2_with fail
    refine bodyPost_ret (v := .tuple #[.agg #[.slice B0 m0 d0, .int .u64 r2.e, .slice Bs ms ds, .int .u64 (r2.l.E : Int), .slice (B 0) (m 0) (d 0), .slice (B 1) (m 1) (d 1), .slice (B 2) (m 2) (d 2)], .slice At nt ct, .int .i64 ((n1 : Nat) : Int), .int .i64 0]) (by simp [results, Tryz.results17, go_sem, y0, y1, y2, y3, y4, y5, y6, yl]) rfl ?_
    have hk : ∀ j, w2.heap.size ≤ j → w8.heap[j]? = wd.heap[j]? := fun j hj => HL1.out.block j (by have := HL2.out; omega)
    refine ⟨⟨.agg #[.slice B0 m0 d0, .int .u64 r2.e, .slice Bs ms ds, .int .u64 (r2.l.E : Int), .slice (B 0) (m 0) (d 0), .slice (B 1) (m 1) (d 1), .slice (B 2) (m 2) (d 2)], At, nt, ct, by rw [HD.out], ?_, by rw [HD.out]; exact own_back HHD.out.own (fun j hj _ => hk j hj) (by have := HL2.out; omega), by rw [HD.out]; exact HHD.out.len⟩, HB.out.trans (HL1.out.below.mono (by omega))⟩
    rw [HD.out]
    exact ⟨_, _, _, _, _, _, _, _, _, rfl, ((HHD.out.all.up (G := fun j => w2.heap.size ≤ j) (fun j hj _ => hj.1)).stay ⟨HL1.out.size, fun j hj _ => hk j hj⟩).up (fun j hj _ => by have := HL2.out; have hj : w2.heap.size ≤ j := hj; show W.heap.size ≤ j; omega)⟩
theorem recC_updm (e : Int) (E : Nat) (A0 As : Option Addr) (n0 c0 ns cs : Nat) (A : Nat → Option Addr) (n c : Nat → Nat) {k : Nat} (hk : k < 3) (A1 : Option Addr) (n1 c1 : Nat) :
  (recC e E A0 As n0 c0 ns cs A n c).setIfInBounds (4 + k) (.slice A1 n1 c1) = recC e E A0 As n0 c0 ns cs (fun j => if j = k then A1 else A j) (fun j => if j = k then n1 else n j) (fun j => if j = k then c1 else c j) := by
 match k, hk with
 | 0, _ => rfl
 | 1, _ => rfl
 | 2, _ => rfl
def cutR (r : Rec) : Rec := ⟨r.sl.take 130, r.e, r.S.take 10, ⟨r.l.E, fun k => (r.l.r k).take 130⟩⟩
theorem take_min {α : Type} (xs : List α) {n k m : Nat} (hx : xs.length = n) (hm : min n k = m) : xs.take k = xs.take m ∧ (xs.take k).length = m := by
 subst hm hx
 refine ⟨?_, by rw [List.length_take, Nat.min_comm]⟩
 rw [Nat.min_comm]; exact List.take_eq_take_min
theorem Rd.firstW {w : World} {B n k : Nat} {A : Option Addr} {X : List Int} (h : Rd w B 1 A n (Cs encW X)) (hx : X.length = n) (hk : k ≤ n) : Rd w B 1 A k (Cs encW (X.take k)) := by
 refine ⟨by rw [Cs_length encW_len, List.length_take, hx, Nat.min_eq_left hk], fun hp => ?_⟩
 obtain ⟨b, off, e, hb, hc⟩ := h.2 (by omega)
 refine ⟨b, off, e, hb, fun j u hu => hc j u ?_⟩
 have h1 : Cs encW X = Cs encW (X.take k) ++ Cs encW (X.drop k) := by rw [← Cs_append, List.take_append_drop]
 rw [h1, List.getElem?_append_left (List.getElem?_eq_some_iff.1 hu).1]
 exact hu
structure OwnL (W w : World) (gx k : Nat) (E : Nat) (A0 As : Option Addr) (n0 c0 ns cs : Nat) (A : Nat → Option Addr) (n c : Nat → Nat) (r : Rec) : Prop where
 row : RowAt w gx 34 (recC r.e E A0 As n0 c0 ns cs A n c)
 lo : W.heap.size + 1 < gx
 sl : RdF (fun j => W.heap.size + 2 ≤ j ∧ j ≠ gx) w 2 A0 n0 (Cs encE (cutR r).sl)
 l0 : (cutR r).sl.length = n0
 h0 : n0 ≤ c0
 S : RdF (fun j => W.heap.size + 2 ≤ j ∧ j ≠ gx) w 1 As ns (Cs encW (cutR r).S)
 ls : (cutR r).S.length = ns
 hs : ns ≤ cs ∧ cs ≤ MaxLen
 rw : ∀ j, j < k → j < 3 → RdF (fun i => W.heap.size + 2 ≤ i ∧ i ≠ gx) w 2 (A j) (n j) (Cs encE ((cutR r).l.r j)) ∧ ((cutR r).l.r j).length = n j ∧ n j ≤ c j ∧ c j ≤ MaxLen
 below : Below W.heap.size W w
theorem OwnL.next {W w w1 : World} {gx k E : Nat} {A0' As' : Option Addr} {n0 c0' ns cs' : Nat} {A : Nat → Option Addr} {n c : Nat → Nat} {r : Rec} (h : OwnL W w gx k E A0' As' n0 c0' ns cs' A n c r) (hk : k < 3) (hb : Below w.heap.size w w1) (A1 : Option Addr) (m c1 : Nat) (hown : w1.ownsRow w.heap.size 41 2 (.slice A1 m c1) m (Cs encE ((cutR r).l.r k))) (hl : ((cutR r).l.r k).length = m) (hc : m ≤ c1 ∧ c1 ≤ MaxLen) :
  OwnL W (w1.setCell ⟨gx, 4 + k, none⟩ (.slice A1 m c1)) gx (k + 1) E A0' As' n0 c0' ns cs' (fun j => if j = k then A1 else A j) (fun j => if j = k then m else n j) (fun j => if j = k then c1 else c j) r := by
 have hst : StayF (fun j => W.heap.size + 2 ≤ j ∧ j ≠ gx) w (w1.setCell ⟨gx, 4 + k, none⟩ (.slice A1 m c1)) := (StayF.of_below hb).trans (StayF.set (fun h => h.2 rfl))
 refine ⟨?_, h.lo, h.sl.stay hst, h.l0, h.h0, h.S.stay hst, h.ls, h.hs, fun j hj h3 => ?_, (h.below.trans (hb.mono h.below.size)).setCell (p := ⟨gx, 4 + k, none⟩) (by have := h.lo; simp; omega) _⟩
 ·
  have h1 := (h.row.below hb).set (4 + k) (.slice A1 m c1)
  rw [recC_updm _ _ _ _ _ _ _ _ _ _ _ hk] at h1
  exact h1
 ·
  by_cases e : j = k
  ·
   subst e
   simp only [if_true]
   exact ⟨((RdF.typ hown (h.row.below hb) (by decide)).up (fun j hj _ => ⟨by have h1 := h.lo; have h2 := h.row.lt; have h3 := hj.1; omega, hj.2⟩)).stay (StayF.set (fun h => h.2 rfl)), hl, hc⟩
  ·
   simp only [if_neg e]
   have h1 := h.rw j (by omega) h3
   exact ⟨h1.1.stay hst, h1.2⟩
theorem OwnL.epoch {W w : World} {gx k E E2 : Nat} {A0 As : Option Addr} {n0 c0 ns cs : Nat} {A : Nat → Option Addr} {n c : Nat → Nat} {r : Rec} (h : OwnL W w gx k E A0 As n0 c0 ns cs A n c r) : OwnL W (w.setCell ⟨gx, 3, none⟩ (.int .u64 (E2 : Int))) gx k E2 A0 As n0 c0 ns cs A n c r := by
 have hst : StayF (fun j => W.heap.size + 2 ≤ j ∧ j ≠ gx) w (w.setCell ⟨gx, 3, none⟩ (.int .u64 (E2 : Int))) := StayF.set (fun h => h.2 rfl)
 refine ⟨by have h1 := h.row.set 3 (.int .u64 (E2 : Int)); simpa using h1, h.lo, h.sl.stay hst, h.l0, h.h0, h.S.stay hst, h.ls, h.hs, fun j hj h3 => ⟨(h.rw j hj h3).1.stay hst, (h.rw j hj h3).2⟩, h.below.setCell (p := ⟨gx, 3, none⟩) (by have := h.lo; simp; omega) _⟩
theorem RdF.laid1 {W w w' : World} {gx sz n : Nat} {A : Option Addr} {xs : List Value} (h : RdF (fun j => W.heap.size + 2 ≤ j ∧ j ≠ gx) w sz A n xs) (hl : LaidF (W.heap.size + 1) w w') : RdF (From W.heap.size) w' sz A n xs :=
 (h.stay (hl.stay (fun h => by have := h.1; omega))).up (fun j hj _ => by have h1 := hj.1; show W.heap.size ≤ j; omega)
def LownRes (r : Rec) (W : World) (e : Ending) (W' : World) : Prop := (∃ v, e = .returned v ∧ RecOut (From W.heap.size) W' v (cutR r)) ∧ Below W.heap.size W W'
set_option maxRecDepth 20000 in
theorem lown_any (F : Nat → Prop) (A0 As : Option Addr) (n0 c0 ns cs : Nat) (A : Nat → Option Addr) (n c : Nat → Nat) (r : Rec) (W : World) (h : RecF F W A0 As n0 c0 ns cs A n c r) :
  Calls Tryz.prog 10 #[.agg (recC r.e r.l.E A0 As n0 c0 ns cs A n c)] W (LownRes r W) := by
 have hb1 : Below W.heap.size W ((W.alloc (.cells #[.slice A0 n0 c0, .int .u64 r.e, .slice As ns cs, .int .u64 (r.l.E : Int), .slice (A 0) (n 0) (c 0), .slice (A 1) (n 1) (c 1), .slice (A 2) (n 2) (c 2)] 34)).alloc (.cells #[.slice none 0 0, .int .u64 0, .slice none 0 0, .int .u64 0, .slice none 0 0, .slice none 0 0, .slice none 0 0] 34)) := ((Below.refl _ _).alloc (Nat.le_refl _) _).alloc (by simp) _
 have al := al2 W #[.slice A0 n0 c0, .int .u64 r.e, .slice As ns cs, .int .u64 (r.l.E : Int), .slice (A 0) (n 0) (c 0), .slice (A 1) (n 1) (c 1), .slice (A 2) (n 2) (c 2)] 34 #[.slice none 0 0, .int .u64 0, .slice none 0 0, .int .u64 0, .slice none 0 0, .slice none 0 0, .slice none 0 0] 34
 have R1 := Hi al.1.1
 have R0 := Hi al.1.2
 clear al
 have HB1 := Hi hb1
 have H := Hi (h.below hb1)
 have HS1 := Hi (show ((W.alloc (.cells #[.slice A0 n0 c0, .int .u64 r.e, .slice As ns cs, .int .u64 (r.l.E : Int), .slice (A 0) (n 0) (c 0), .slice (A 1) (n 1) (c 1), .slice (A 2) (n 2) (c 2)] 34)).alloc (.cells #[.slice none 0 0, .int .u64 0, .slice none 0 0, .int .u64 0, .slice none 0 0, .slice none 0 0, .slice none 0 0] 34)).heap.size = W.heap.size + 2 from by simp)
 obtain ⟨m0, hm0⟩ : ∃ m, min n0 130 = m := ⟨_, rfl⟩
 obtain ⟨ms, hms⟩ : ∃ m, min ns 10 = m := ⟨_, rfl⟩
 obtain ⟨t0, l0⟩ := take_min r.sl h.l0 hm0
 obtain ⟨ts, ls⟩ := take_min r.S h.ls hms
 have T0 := Hi t0
 have L0 := Hi l0
 have TS := Hi ts
 have LS := Hi ls
 have hm1 : min (n0 : Int) 130 = (m0 : Int) := by omega
 have hm2 : min (ns : Int) 10 = (ms : Int) := by omega
 have hm3 : m0 ≤ n0 := by omega
 have hm4 : ms ≤ ns := by omega
 have hm5 : (m0 : Int) ≤ (c0 : Int) := by have := h.h0; omega
 have hm6 : (ms : Int) ≤ (cs : Int) := by have := h.hs.1; omega
 have hm7 : m0 ≤ 130 := by omega
 have hm8 : ms ≤ 10 := by omega
 clear hb1 h t0 l0 ts ls hm0 hms
 go_enter Tryz.func10, Tryz.ntmps10
 go_upto_region 1 with (fail)
 generalize (W.alloc _).alloc _ = w1 at *
 go_cut [3] from 6 to 31 (fun s3 wx => ∃ gx A0' As' c0' cs', s3 = .pointer (some ⟨gx, 0, none⟩) ∧ Below w1.heap.size w1 wx ∧ OwnL W wx gx 0 0 A0' As' m0 c0' ms cs' (fun _ => none) (fun _ => 0) (fun _ => 0) r)
 case first =>
  have HSX := Hi (fun (wX : World) (hgX : Below w1.heap.size w1 wX) => show wX.cell? ⟨W.heap.size, 0, none⟩ = some (.slice A0 n0 c0) ∧ wX.cell? ⟨W.heap.size, 1, none⟩ = some (.int .u64 r.e) ∧ wX.cell? ⟨W.heap.size, 2, none⟩ = some (.slice As ns cs) ∧ wX.cell? ⟨W.heap.size, 3, none⟩ = some (.int .u64 (r.l.E : Int)) ∧ wX.cell? ⟨W.heap.size, 4, none⟩ = some (.slice (A 0) (n 0) (c 0)) ∧ wX.cell? ⟨W.heap.size, 5, none⟩ = some (.slice (A 1) (n 1) (c 1)) ∧ wX.cell? ⟨W.heap.size, 6, none⟩ = some (.slice (A 2) (n 2) (c 2)) ∧ W.heap.size < wX.heap.size from by
   obtain ⟨z0, z1, z2, z3, z4, z5, z6⟩ := row7 R1.out
   exact ⟨kept hgX z0, kept hgX z1, kept hgX z2, kept hgX z3, kept hgX z4, kept hgX z5, kept hgX z6, Nat.lt_of_lt_of_le R1.out.lt hgX.size⟩)
  have HX := Hi ((Below.refl w1.heap.size w1).drew)
  refine wp_region_held_drew (S := fun wX => wX.cell? ⟨W.heap.size, 0, none⟩ = some (.slice A0 n0 c0) ∧ wX.cell? ⟨W.heap.size, 1, none⟩ = some (.int .u64 r.e) ∧ wX.cell? ⟨W.heap.size, 2, none⟩ = some (.slice As ns cs) ∧ wX.cell? ⟨W.heap.size, 3, none⟩ = some (.int .u64 (r.l.E : Int)) ∧ wX.cell? ⟨W.heap.size, 4, none⟩ = some (.slice (A 0) (n 0) (c 0)) ∧ wX.cell? ⟨W.heap.size, 5, none⟩ = some (.slice (A 1) (n 1) (c 1)) ∧ wX.cell? ⟨W.heap.size, 6, none⟩ = some (.slice (A 2) (n 2) (c 2)) ∧ W.heap.size < wX.heap.size) (by kernel_rfl) (HSX.out _ HX.out) (fun hHeld => ?_)
  clear hHeld
  have hS0 := HSX.out _ HX.out
  generalize w1.drew = wd at *
  refine tkI (i := 0) rfl ?_
  refine tkI (i := 1) rfl ?_
  refine tkI (i := 2) rfl ?_
  refine tkI (i := 3) rfl ?_
  refine tkI (i := 4) rfl ?_
  refine tkI (i := 5) rfl ?_
  refine tkI (i := 6) rfl ?_
  refine tkI (i := 7) rfl ?_
  refine tkI (i := 8) rfl ?_
  refine tkI (i := 11) rfl ?_
  refine tkI (i := 12) rfl ?_
  refine tkI (i := 13) rfl ?_
  refine tkI (i := 14) rfl ?_
  refine tkI (i := 15) rfl ?_
  refine tkI (i := 16) rfl ?_
  refine tkI (i := 17) rfl ?_
  refine tkI (i := 18) rfl ?_
  refine tkI (i := 19) rfl ?_
  refine tkI (i := 20) rfl ?_
  refine tkI (i := 21) rfl ?_
  refine tkI (i := 22) rfl ?_
  refine wpAnyH_ready (rs := [9, 26]) (by kernel_rfl) (by simp) ?_
  refine (AllReadyH.cons rfl (fun K0 hK0 => ?_) (AllReadyH.cons rfl (fun K1 hK1 => ?_) AllReadyH.nil))
  focus
   go_simp
   with_reducible refine (CloneS wd.heap.size A0 m0 c0 (Cs encE (r.sl.take 130)) wd (by rw [T0.out]; exact ((H.out.sl.rd.first H.out.l0 hm3).below HX.out |>.more HX.out.size)) (Nat.le_refl _) (Cs_one_cell encE_one _) (by omega)).mono ?_
   rintro e wc0 ⟨v, rfl, hown, hb⟩
   obtain ⟨A0', c0', rfl, hca1, hca2⟩ := own_form2 hown
   have HC1 := Hi hca1
   have O1 := Hi (own_lo (b := W.heap.size + 2) hown (by have h1 := HS1.out; have h2 := HX.out.size; omega))
   have hX2 := HX.out.trans (hb.mono HX.out.size)
   replace HX := Hi hX2
   clear hX2 hS0 hown hb hca1 hca2
   have hS0 := HSX.out _ HX.out
   refine hK0.out _ _ hS0 (fun _ => wnH ?_)
   clear hK0 K0
   refine tkI (i := 10) rfl ?_
   refine wpAnyH_ready (rs := [23, 26]) (by kernel_rfl) (by simp) ?_
   refine (AllReadyH.cons rfl (fun K2 hK2 => ?_) (AllReadyH.cons rfl (fun K3 hK3 => ?_) AllReadyH.nil))
   focus
    go_simp
    with_reducible refine (Pn.CloneW wc0.heap.size As ms cs (Cs encW (r.S.take 10)) wc0 (by rw [TS.out]; exact ((H.out.S.rd.firstW H.out.ls hm4).below HX.out |>.more HX.out.size)) (Nat.le_refl _) (Cs_one_cell encW_one _) (by omega)).mono ?_
    rintro e wc1 ⟨v, rfl, hown, hb⟩
    obtain ⟨As', cs', rfl, hca1, hca2⟩ := own_form2 hown
    have HC2 := Hi (And.intro hca1 hca2)
    replace O1 := Hi (own_keepB O1.out hb)
    have O2 := Hi (own_lo (b := W.heap.size + 2) hown (by have h1 := HS1.out; have h2 := HX.out.size; omega))
    have hX2 := HX.out.trans (hb.mono HX.out.size)
    replace HX := Hi hX2
    clear hX2 hS0 hown hb hca1 hca2
    have hS0 := HSX.out _ HX.out
    refine hK2.out _ _ hS0 (fun _ => wnH ?_)
    clear hK2 K2
    refine tkI (i := 24) rfl ?_
    refine tkI (i := 25) rfl ?_
    refine ryH (i := 26) rfl (fun K4 hK4 => ?_)
    go_simp
    have RXX := Hi (RowAt.new wc1 34 #[.slice none 0 0, .int .u64 0, .slice none 0 0, .int .u64 0, .slice none 0 0, .slice none 0 0, .slice none 0 0])
    have HG := Hi ((Below.refl wc1.heap.size wc1).alloc (Nat.le_refl _) (.cells #[.slice none 0 0, .int .u64 0, .slice none 0 0, .int .u64 0, .slice none 0 0, .slice none 0 0, .slice none 0 0] 34))
    obtain ⟨gx, hgx⟩ : ∃ gx, wc1.heap.size = gx := ⟨_, rfl⟩
    have HGX := Hi (show w1.heap.size ≤ gx from by rw [← hgx]; exact HX.out.size)
    rw [hgx] at RXX ⊢
    have hX2 := HX.out.trans (HG.out.mono HX.out.size)
    replace HX := Hi hX2
    clear hX2 hS0
    replace O1 := Hi (own_keepB O1.out HG.out)
    replace O2 := Hi (own_keepB O2.out HG.out)
    generalize wc1.alloc _ = wa2 at *
    clear HG hgx
    have hS0 := HSX.out _ HX.out
    refine hK4.out _ _ hS0 (fun _ => wnH ?_)
    clear hK4 K4
    obtain ⟨zq1, hzq⟩ : ∃ w, w = wa2 := ⟨_, rfl⟩
    subst hzq
   rotate_left
   focus
    go_simp
    have RXX := Hi (RowAt.new wc0 34 #[.slice none 0 0, .int .u64 0, .slice none 0 0, .int .u64 0, .slice none 0 0, .slice none 0 0, .slice none 0 0])
    have HG := Hi ((Below.refl wc0.heap.size wc0).alloc (Nat.le_refl _) (.cells #[.slice none 0 0, .int .u64 0, .slice none 0 0, .int .u64 0, .slice none 0 0, .slice none 0 0, .slice none 0 0] 34))
    obtain ⟨gx, hgx⟩ : ∃ gx, wc0.heap.size = gx := ⟨_, rfl⟩
    have HGX := Hi (show w1.heap.size ≤ gx from by rw [← hgx]; exact HX.out.size)
    rw [hgx] at RXX ⊢
    have hX2 := HX.out.trans (HG.out.mono HX.out.size)
    replace HX := Hi hX2
    clear hX2 hS0
    replace O1 := Hi (own_keepB O1.out HG.out)
    generalize wc0.alloc _ = wa1 at *
    clear HG hgx
    have hS0 := HSX.out _ HX.out
    refine hK3.out _ _ hS0 (fun _ => wnH ?_)
    clear hK3 K3
    refine ryH (i := 23) rfl (fun K6 hK6 => ?_)
    go_simp
    with_reducible refine (Pn.CloneW wa1.heap.size As ms cs (Cs encW (r.S.take 10)) wa1 (by rw [TS.out]; exact ((H.out.S.rd.firstW H.out.ls hm4).below HX.out |>.more HX.out.size)) (Nat.le_refl _) (Cs_one_cell encW_one _) (by omega)).mono ?_
    rintro e wc2 ⟨v, rfl, hown, hb⟩
    obtain ⟨As', cs', rfl, hca1, hca2⟩ := own_form2 hown
    have HC2 := Hi (And.intro hca1 hca2)
    replace O1 := Hi (own_keepB O1.out hb)
    replace RXX := Hi (RXX.out.below hb)
    have O2 := Hi (own_lo (b := W.heap.size + 2) hown (by have h1 := HS1.out; have h2 := HX.out.size; omega))
    have hX2 := HX.out.trans (hb.mono HX.out.size)
    replace HX := Hi hX2
    clear hX2 hS0 hown hb hca1 hca2
    have hS0 := HSX.out _ HX.out
    refine hK6.out _ _ hS0 (fun _ => wnH ?_)
    clear hK6 K6
    refine tkI (i := 24) rfl ?_
    refine tkI (i := 25) rfl ?_
    obtain ⟨zq1, hzq⟩ : ∃ w, w = wc2 := ⟨_, rfl⟩
    subst hzq
   rotate_left
  rotate_left 2
  focus
   go_simp
   have RXX := Hi (RowAt.new wd 34 #[.slice none 0 0, .int .u64 0, .slice none 0 0, .int .u64 0, .slice none 0 0, .slice none 0 0, .slice none 0 0])
   have HG := Hi ((Below.refl wd.heap.size wd).alloc (Nat.le_refl _) (.cells #[.slice none 0 0, .int .u64 0, .slice none 0 0, .int .u64 0, .slice none 0 0, .slice none 0 0, .slice none 0 0] 34))
   obtain ⟨gx, hgx⟩ : ∃ gx, wd.heap.size = gx := ⟨_, rfl⟩
   have HGX := Hi (show w1.heap.size ≤ gx from by rw [← hgx]; exact HX.out.size)
   rw [hgx] at RXX ⊢
   have hX2 := HX.out.trans (HG.out.mono HX.out.size)
   replace HX := Hi hX2
   clear hX2 hS0
   generalize wd.alloc _ = wa0 at *
   clear HG hgx
   have hS0 := HSX.out _ HX.out
   refine hK1.out _ _ hS0 (fun _ => wnH ?_)
   clear hK1 K1
   refine ryH (i := 9) rfl (fun K8 hK8 => ?_)
   go_simp
   with_reducible refine (CloneS wa0.heap.size A0 m0 c0 (Cs encE (r.sl.take 130)) wa0 (by rw [T0.out]; exact ((H.out.sl.rd.first H.out.l0 hm3).below HX.out |>.more HX.out.size)) (Nat.le_refl _) (Cs_one_cell encE_one _) (by omega)).mono ?_
   rintro e wc1 ⟨v, rfl, hown, hb⟩
   obtain ⟨A0', c0', rfl, hca1, hca2⟩ := own_form2 hown
   have HC1 := Hi hca1
   replace RXX := Hi (RXX.out.below hb)
   have O1 := Hi (own_lo (b := W.heap.size + 2) hown (by have h1 := HS1.out; have h2 := HX.out.size; omega))
   have hX2 := HX.out.trans (hb.mono HX.out.size)
   replace HX := Hi hX2
   clear hX2 hS0 hown hb hca1 hca2
   have hS0 := HSX.out _ HX.out
   refine hK8.out _ _ hS0 (fun _ => wnH ?_)
   clear hK8 K8
   refine tkI (i := 10) rfl ?_
   refine ryH (i := 23) rfl (fun K9 hK9 => ?_)
   go_simp
   with_reducible refine (Pn.CloneW wc1.heap.size As ms cs (Cs encW (r.S.take 10)) wc1 (by rw [TS.out]; exact ((H.out.S.rd.firstW H.out.ls hm4).below HX.out |>.more HX.out.size)) (Nat.le_refl _) (Cs_one_cell encW_one _) (by omega)).mono ?_
   rintro e wc2 ⟨v, rfl, hown, hb⟩
   obtain ⟨As', cs', rfl, hca1, hca2⟩ := own_form2 hown
   have HC2 := Hi (And.intro hca1 hca2)
   replace O1 := Hi (own_keepB O1.out hb)
   replace RXX := Hi (RXX.out.below hb)
   have O2 := Hi (own_lo (b := W.heap.size + 2) hown (by have h1 := HS1.out; have h2 := HX.out.size; omega))
   have hX2 := HX.out.trans (hb.mono HX.out.size)
   replace HX := Hi hX2
   clear hX2 hS0 hown hb hca1 hca2
   have hS0 := HSX.out _ HX.out
   refine hK9.out _ _ hS0 (fun _ => wnH ?_)
   clear hK9 K9
   refine tkI (i := 24) rfl ?_
   refine tkI (i := 25) rfl ?_
   obtain ⟨zq1, hzq⟩ : ∃ w, w = wc2 := ⟨_, rfl⟩
   subst hzq
  rotate_left
  all_goals
   refine ryH (i := 27) rfl (fun K5 hK5 => ?_)
   have RX := RXX.out
   obtain ⟨y0, y1, y2, y3, y4, y5, y6⟩ := row7 RX
   have yl := RX.lt
   obtain ⟨yf0, yf1, yf2, yf3, yf4, yf5, yf6⟩ := fz RX
   clear hS0
   go_simp
   have hst : StayF (fun j => W.heap.size + 2 ≤ j ∧ j ≠ gx) zq1 (((((((zq1.setCell ⟨gx, 0, none⟩ (.slice A0' m0 c0')).setCell ⟨gx, 1, none⟩ (.int .u64 r.e)).setCell ⟨gx, 2, none⟩ (.slice As' ms cs')).setCell ⟨gx, 3, none⟩ (.int .u64 0)).setCell ⟨gx, 4, none⟩ (.slice none 0 0)).setCell ⟨gx, 5, none⟩ (.slice none 0 0)).setCell ⟨gx, 6, none⟩ (.slice none 0 0)) := ((((((((StayF.refl _ _).trans (StayF.set (fun h => h.2 rfl))).trans (StayF.set (fun h => h.2 rfl))).trans (StayF.set (fun h => h.2 rfl))).trans (StayF.set (fun h => h.2 rfl))).trans (StayF.set (fun h => h.2 rfl))).trans (StayF.set (fun h => h.2 rfl))).trans (StayF.set (fun h => h.2 rfl)))
   have hb9 : Below w1.heap.size w1 (((((((zq1.setCell ⟨gx, 0, none⟩ (.slice A0' m0 c0')).setCell ⟨gx, 1, none⟩ (.int .u64 r.e)).setCell ⟨gx, 2, none⟩ (.slice As' ms cs')).setCell ⟨gx, 3, none⟩ (.int .u64 0)).setCell ⟨gx, 4, none⟩ (.slice none 0 0)).setCell ⟨gx, 5, none⟩ (.slice none 0 0)).setCell ⟨gx, 6, none⟩ (.slice none 0 0)) := (((((((HX.out.setCell (p := ⟨gx, 0, none⟩) (by have := HGX.out; simp; omega) _).setCell (p := ⟨gx, 1, none⟩) (by have := HGX.out; simp; omega) _).setCell (p := ⟨gx, 2, none⟩) (by have := HGX.out; simp; omega) _).setCell (p := ⟨gx, 3, none⟩) (by have := HGX.out; simp; omega) _).setCell (p := ⟨gx, 4, none⟩) (by have := HGX.out; simp; omega) _).setCell (p := ⟨gx, 5, none⟩) (by have := HGX.out; simp; omega) _).setCell (p := ⟨gx, 6, none⟩) (by have := HGX.out; simp; omega) _)
   have HO := Hi (show OwnL W (((((((zq1.setCell ⟨gx, 0, none⟩ (.slice A0' m0 c0')).setCell ⟨gx, 1, none⟩ (.int .u64 r.e)).setCell ⟨gx, 2, none⟩ (.slice As' ms cs')).setCell ⟨gx, 3, none⟩ (.int .u64 0)).setCell ⟨gx, 4, none⟩ (.slice none 0 0)).setCell ⟨gx, 5, none⟩ (.slice none 0 0)).setCell ⟨gx, 6, none⟩ (.slice none 0 0)) gx 0 0 A0' As' m0 c0' ms cs' (fun _ => none) (fun _ => 0) (fun _ => 0) r from ⟨(show RowAt (((((((zq1.setCell ⟨gx, 0, none⟩ (.slice A0' m0 c0')).setCell ⟨gx, 1, none⟩ (.int .u64 r.e)).setCell ⟨gx, 2, none⟩ (.slice As' ms cs')).setCell ⟨gx, 3, none⟩ (.int .u64 0)).setCell ⟨gx, 4, none⟩ (.slice none 0 0)).setCell ⟨gx, 5, none⟩ (.slice none 0 0)).setCell ⟨gx, 6, none⟩ (.slice none 0 0)) gx 34 #[.slice A0' m0 c0', .int .u64 r.e, .slice As' ms cs', .int .u64 0, .slice none 0 0, .slice none 0 0, .slice none 0 0] from by have h := (((((((RX.set 0 (.slice A0' m0 c0')).set 1 (.int .u64 r.e)).set 2 (.slice As' ms cs')).set 3 (.int .u64 0)).set 4 (.slice none 0 0)).set 5 (.slice none 0 0)).set 6 (.slice none 0 0)); simpa using h), by have := HGX.out; have := HS1.out; omega, (RdF.typ O1.out RX (by decide)).stay hst, L0.out, HC1.out, (RdF.typ O2.out RX (by decide)).stay hst, LS.out, HC2.out, fun j hj => absurd hj (by omega), HB1.out.trans (hb9.mono (by have := HS1.out; omega))⟩)
   have HB9 := Hi hb9
   clear hb9 hst RX y0 y1 y2 y3 y4 y5 y6 yf0 yf1 yf2 yf3 yf4 yf5 yf6 yl
   generalize World.setCell _ _ _ = w9 at *
   refine hK5.out _ _ (HSX.out _ HB9.out) (fun _ => wnH ?_)
   clear hK5 K5
   refine wpAnyH_done (by kernel_rfl) ?_ _
   go_wp2_with fail
   go_meet
   case rel => exact ⟨gx, A0', As', c0', cs', rfl, HB9.out, HO.out⟩
 case rest =>
  rename_i K hK
  refine hK _ _ ?_
  clear hK K
  obtain ⟨w2, hw2⟩ : ∃ w, w = wc := ⟨_, rfl⟩
  subst hw2
  obtain ⟨gx, A0', As', c0', cs', rfl, hbx, hst⟩ := hcut
  have HGB := Hi (show w1.heap.size ≤ gx from by have := hst.lo; have := HS1.out; omega)
  have HST0 := Hi (hst.epoch (E2 := r.l.E))
  have HBX := Hi (hbx.setCell (p := ⟨gx, 3, none⟩) HGB.out (.int .u64 (r.l.E : Int)))
  have R2 := Hi (R1.out.below hbx)
  have hgl := hst.row.lt
  have hgf := hst.row.frozen 3
  have hg3 := (row7 hst.row).2.2.2.1
  clear hbx hst hm1 hm2 hm3 hm4 hm5 hm6 hm7 hm8
  obtain ⟨z0, z1, z2, z3, z4, z5, z6⟩ := row7 R2.out
  have zl := R2.out.lt
  go_upto_region 3 with (fail)
  clear z0 z1 z2 z3 z4 z5 z6 zl hgl hgf hg3 R2
  generalize w2.setCell _ _ = w4 at *
  have R4 := Hi (R1.out.below HBX.out)
  obtain ⟨z0, z1, z2, z3, z4, z5, z6⟩ := row7 R4.out
  have zl := R4.out.lt
  go_upto_region 4 with (fail)
  clear z0 z1 z2 z3 z4 z5 z6 zl
  go_loopw [40] (fun i wr => ∃ (k : Nat), k ≤ 3 ∧ i = .int .i64 (k : Int) ∧ Below w1.heap.size w1 wr ∧ ∃ A1 n1 c1, OwnL W wr gx k r.l.E A0' As' m0 c0' ms cs' A1 n1 c1 r) (fun i _ => 3 - (intOf i).toNat)
  case atStart => exact ⟨0, by omega, rfl, HBX.out, _, _, _, HST0.out⟩
  case round =>
   obtain ⟨k, hk, rfl, hbw, A1, n1, c1, hst⟩ := hrel
   have HST := Hi hst
   have HBW := Hi hbw
   clear hst hbw
   by_cases hlt : k < 3
   ·
    have hki : (k : Int) < 3 := by omega
    have hix := Li.index_rows A n c k hlt
    obtain ⟨m, hm⟩ : ∃ m, min (n k) 130 = m := ⟨_, rfl⟩
    obtain ⟨tk0, lk0⟩ := take_min (r.l.r k) (H.out.ll k hlt) hm
    have LK := Hi lk0
    have TK := Hi tk0
    have hm1 : min (n k : Int) 130 = (m : Int) := by omega
    have hm3 : m ≤ n k := by omega
    have hm5 : (m : Int) ≤ (c k : Int) := by have := (H.out.hl k hlt).1; omega
    have hm9 : (c k : Int) ≤ 9223372036854775807 := by have := (H.out.hl k hlt).2; unfold MaxLen at this; omega
    have HCL := Hi (CloneE wr.heap.size (A k) m (c k) (Cs encE ((r.l.r k).take 130)) wr (by rw [TK.out]; exact ((((H.out.rw k hlt).rd.first (H.out.ll k hlt) hm3).below HBW.out).more HBW.out.size)) (Nat.le_refl _) (Cs_one_cell encE_one _) (by omega))
    clear tk0 lk0 hm
    go_wp2_with fail
    with_reducible refine HCL.out.mono ?_
    rintro e w3 ⟨v, rfl, hown, hb⟩
    obtain ⟨A3, c3, rfl, hc3, hcm3⟩ := own_form2 hown
    have HN := Hi (HST.out.next hlt hb A3 m c3 hown LK.out ⟨hc3, hcm3⟩)
    have HBN := Hi ((HBW.out.trans (hb.mono HBW.out.size)).setCell (p := ⟨gx, 4 + k, none⟩) (HGB.out) (.slice A3 m c3))
    have hc0 : w3.cell? ⟨gx, 4 + k, none⟩ = some (.slice (A1 k) (n1 k) (c1 k)) := ((HST.out.row.below hb).cell (4 + k)).trans (recC_at _ _ _ _ _ _ _ _ _ _ _ hlt)
    have hcl := (HST.out.row.below hb).lt
    have hcf := (HST.out.row.below hb).frozen (4 + k)
    clear hown hb HCL hix hm1 hm3 hm5 hm9
    go_wp2_with fail
    go_roundw
    case rel => exact ⟨k + 1, by omega, by go_num, HBN.out, _, _, _, HN.out⟩
    case measure => simp [intOf]; omega
   ·
    obtain rfl : k = 3 := by omega
    obtain ⟨z0, z1, z2, z3, z4, z5, z6⟩ := row7 HST.out.row
    have zl := HST.out.row.lt
    have R0w : RowAt wr (W.heap.size + 1) 34 #[.slice none 0 0, .int .u64 0, .slice none 0 0, .int .u64 0, .slice none 0 0, .slice none 0 0, .slice none 0 0] := R0.out.below HBW.out
    obtain ⟨y0, y1, y2, y3, y4, y5, y6⟩ := row7 R0w
    have yl := R0w.lt
    obtain ⟨yf0, yf1, yf2, yf3, yf4, yf5, yf6⟩ := fz R0w
    go_wp2_with fail
    have hl := lp7 wr (W.heap.size + 1) (.slice A0' m0 c0') (.int .u64 r.e) (.slice As' ms cs') (.int .u64 (r.l.E : Int)) (.slice (A1 0) (n1 0) (c1 0)) (.slice (A1 1) (n1 1) (c1 1)) (.slice (A1 2) (n1 2) (c1 2))
    have hr := rp7 R0w (.slice A0' m0 c0') (.int .u64 r.e) (.slice As' ms cs') (.int .u64 (r.l.E : Int)) (.slice (A1 0) (n1 0) (c1 0)) (.slice (A1 1) (n1 1) (c1 1)) (.slice (A1 2) (n1 2) (c1 2))
    clear y0 yf0 y1 yf1 y2 yf2 y3 yf3 y4 yf4 y5 yf5 y6 yf6 yl zl z0 z1 z2 z3 z4 z5 z6
    generalize World.setCell _ _ _ = wF at *
    obtain ⟨y0, y1, y2, y3, y4, y5, y6⟩ := row7 hr
    have yl := hr.lt
    refine bodyPost_ret (v := .agg #[.slice A0' m0 c0', .int .u64 r.e, .slice As' ms cs', .int .u64 (r.l.E : Int), .slice (A1 0) (n1 0) (c1 0), .slice (A1 1) (n1 1) (c1 1), .slice (A1 2) (n1 2) (c1 2)]) (by simp [results, Tryz.results10, go_sem, y0, y1, y2, y3, y4, y5, y6, yl]) rfl ⟨⟨_, rfl, ?_⟩, HST.out.below.trans (hl.below.mono (by omega))⟩
    skip
    exact ⟨A0', As', m0, c0', ms, cs', A1, n1, c1, rfl, RdF.laid1 HST.out.sl hl, HST.out.l0, HST.out.h0, RdF.laid1 HST.out.S hl, HST.out.ls, HST.out.hs, fun j hj => RdF.laid1 (HST.out.rw j hj hj).1 hl, fun j hj => (HST.out.rw j hj hj).2.1, fun j hj => (HST.out.rw j hj hj).2.2⟩
end Go.Proofs.YtkicidopjihjmaaGreat
namespace Go.Proofs.YtkicidopjihjmaaGreat
open Go Go.RowKit Go.WideShapes Go.ChangeShapes Go.ChangeAt Go.Joins Go.Deep
structure NumR (r : Rec) : Prop where
 e : U64 r.e
 E : r.l.E < 18446744073709551616
 sl : ∀ s ∈ r.sl, U64 s.2
 S : ∀ s ∈ r.S, U64 s
 g : ∀ k, k < 3 → ∀ x ∈ r.l.r k, U64 x.2
theorem NumR.cut {r : Rec} (h : NumR r) : FitR (cutR r) ∧ ∀ s ∈ (cutR r).sl, 0 ≤ s.2 := by
 have he := h.e
 unfold U64 at he
 refine ⟨⟨?_, ?_, fun k hk => ?_, he, fun x hx => h.S x (List.mem_of_mem_take hx), h.E, fun k hk x hx => ?_⟩, fun s hs => (h.sl s (List.mem_of_mem_take hs)).1⟩
 ·
  show (r.sl.take 130).length ≤ 4096
  rw [List.length_take]; omega
 ·
  show (r.S.take 10).length ≤ 4096
  rw [List.length_take]; omega
 ·
  show ((r.l.r k).take 130).length ≤ 4096
  rw [List.length_take]; omega
 ·
  have hx : x ∈ (r.l.r k).take 130 := hx
  have := h.g k hk x (List.mem_of_mem_take hx)
  unfold U64 at this
  exact this
section
variable {H : Type} {enc : TypeId × Value → H} {w : World} {base : Nat} {spare : Nat → Bool} {held : Bool}
theorem decI1 (n : Nat) (cs' : List Value) (y : DataW H × List MemPlace) (hl : cs'.length = 1) (h : DataW.trod enc Tryz.prog w base spare held n 25 cs' = some y) : ∃ z : Int, cs' = encW z ∧ U64 z := by
 obtain ⟨x, hx, hw⟩ := dec_int Tryz.underlying25 hl h
 exact ⟨x, by simpa [encW] using hx, u64_bounds hw⟩
theorem decSl (n : Nat) (cs' : List Value) (y : DataW H × List MemPlace) (hl : cs'.length = 2) (h : DataW.trod enc Tryz.prog w base spare held n 84 cs' = some y) : ∃ z : Int × Int, cs' = encE z ∧ U64 z.2 := by
 obtain ⟨a, ha, wa⟩ := dec_field_int Tryz.underlying84 (by kernel_rfl) hl h 0 _ rfl Tryz.underlying3
 obtain ⟨b, hb, wb⟩ := dec_field_int Tryz.underlying84 (by kernel_rfl) hl h 1 _ rfl Tryz.underlying25
 match cs', hl with
 | [u, v], _ =>
  simp at ha hb
  subst ha hb
  exact ⟨(a, b), rfl, u64_bounds wb⟩
theorem decEn (n : Nat) (cs' : List Value) (y : DataW H × List MemPlace) (hl : cs'.length = 2) (h : DataW.trod enc Tryz.prog w base spare held n 41 cs' = some y) : ∃ z : Int × Int, cs' = encE z ∧ U64 z.2 := by
 obtain ⟨a, ha, wa⟩ := dec_field_int Tryz.underlying41 (by kernel_rfl) hl h 0 _ rfl Tryz.underlying3
 obtain ⟨b, hb, wb⟩ := dec_field_int Tryz.underlying41 (by kernel_rfl) hl h 1 _ rfl Tryz.underlying25
 match cs', hl with
 | [u, v], _ =>
  simp at ha hb
  subst ha hb
  exact ⟨(a, b), rfl, u64_bounds wb⟩
theorem dec_at {fs : Array Field} {e : TypeId} (hs : Tryz.prog.underlying e = some (.struct fs)) {n : Nat} {cs' : List Value} {y : DataW H × List MemPlace} (h : DataW.trod enc Tryz.prog w base spare held n e cs' = some y)
  (j : Nat) (f : Field) (hj : fs[j]? = some f) (o k : Nat) (ho : f.offset = o) (hk : Tryz.prog.cellsOf f.type = k) : ∃ (y' : DataW H × List MemPlace) (n' : Nat), DataW.trod enc Tryz.prog w base spare held n' f.type ((cs'.drop o).take k) = some y' := by
 obtain ⟨ys, n', hn', hy, hlen, hyl, hf⟩ := DataW.trod_struct hs h
 have hjl : j < fs.size := (Array.getElem?_eq_some_iff.1 hj).1
 have h1 := hf j f hj
 rw [ho, hk] at h1
 have hys : ys[j]? = some (ys[j]'(by omega)) := List.getElem?_eq_getElem (by omega)
 exact ⟨_, n', h1.trans hys⟩
theorem decP (n : Nat) (cs' : List Value) (y : DataW H × List MemPlace) (hl : cs'.length = 5) (h : DataW.trod enc Tryz.prog w base spare held n 43 cs' = some y) : ∃ z : EOp, cs' = encP z ∧ (0 ≤ z.b ∧ U64 z.x.2) := by
 match cs', hl with
 | [u0, u1, u2, u3, u4], _ =>
  obtain ⟨y0, m0, h0⟩ := dec_at Tryz.underlying43 h 0 _ rfl 0 1 (by kernel_rfl) (by kernel_rfl)
  obtain ⟨y1, m1, h1⟩ := dec_at Tryz.underlying43 h 1 _ rfl 1 1 (by kernel_rfl) (by kernel_rfl)
  obtain ⟨y2, m2, h2⟩ := dec_at Tryz.underlying43 h 2 _ rfl 2 1 (by kernel_rfl) (by kernel_rfl)
  obtain ⟨y3, m3, h3⟩ := dec_at Tryz.underlying43 h 3 _ rfl 3 2 (by kernel_rfl) (by kernel_rfl)
  obtain ⟨a, ha, wa⟩ := dec_int Tryz.underlying3 (cs' := [u0]) rfl h0
  obtain ⟨b, hb, wb⟩ := dec_int Tryz.underlying3 (cs' := [u1]) rfl h1
  obtain ⟨c, hc, wc⟩ := dec_int Tryz.underlying25 (cs' := [u2]) rfl h2
  have h3 : DataW.trod enc Tryz.prog w base spare held m3 41 [u3, u4] = some y3 := h3
  obtain ⟨z, hz, wz⟩ := decEn m3 [u3, u4] y3 rfl h3
  simp at ha hb hc
  simp [encE] at hz
  obtain ⟨hz1, hz2⟩ := hz
  subst ha hb hc hz1 hz2
  exact ⟨⟨a, b, c, z⟩, rfl, (u64_bounds wc).1, wz⟩
def of3 {α : Type} (a b c : α) (k : Nat) : α := if k = 0 then a else if k = 1 then b else c
set_option maxRecDepth 20000 in
theorem open_rec {v : Value} {d : DataW H} {p : List MemPlace} {b0 : Nat} (hv : Value.okWide Tryz.prog w .any b0 34 v) (h : DataW.Trod enc Tryz.prog w base spare held 34 v d p) :
  ∃ (r : Rec), RecOut (fun _ => True) w v r ∧ NumR r := by
 obtain ⟨cs, rfl, hsz⟩ := okWide_struct Tryz.underlying34 hv
 obtain ⟨fuel, hf⟩ := h
 have hl : (Value.agg cs).cells.toList.length = 7 := by
  have : Tryz.prog.cellsOf 34 = 7 := by kernel_rfl
  simp [Value.cells]; omega
 obtain ⟨l⟩ := cs
 have hl7 : l.length = 7 := by simpa [Value.cells] using hl
 match l, hl7 with
 | [u0, u1, u2, u3, u4, u5, u6], _ =>
  have hf : DataW.trod enc Tryz.prog w base spare held fuel 34 [u0, u1, u2, u3, u4, u5, u6] = some (d, p) := by simpa [Value.cells] using hf
  obtain ⟨y0, m0, h0⟩ := dec_at Tryz.underlying34 hf 0 _ rfl 0 1 (by kernel_rfl) (by kernel_rfl)
  obtain ⟨y1, m1, h1⟩ := dec_at Tryz.underlying34 hf 1 _ rfl 1 2 (by kernel_rfl) (by kernel_rfl)
  obtain ⟨y2, m2, h2⟩ := dec_at Tryz.underlying34 hf 2 _ rfl 3 4 (by kernel_rfl) (by kernel_rfl)
  have h0 : DataW.trod enc Tryz.prog w base spare held m0 24 [u0] = some y0 := h0
  have h1 : DataW.trod enc Tryz.prog w base spare held m1 28 [u1, u2] = some y1 := h1
  have h2 : DataW.trod enc Tryz.prog w base spare held m2 32 [u3, u4, u5, u6] = some y2 := h2
  obtain ⟨v0, z0, k0, hv0, ht0⟩ := dec_fields Tryz.underlying24 (by kernel_rfl) (cs' := [u0]) rfl h0 0 _ rfl
  obtain ⟨A0, n0, c0, x0, e0, hn0, hm0, hx0, hr0, hw0⟩ := open_rd Tryz.underlying22 (by kernel_rfl) (by omega) decSl ht0
  obtain ⟨e, he, we⟩ := dec_field_int Tryz.underlying28 (by kernel_rfl) (cs' := [u1, u2]) rfl h1 0 _ rfl Tryz.underlying25
  obtain ⟨v1, z1, k1, hv1, ht1⟩ := dec_fields Tryz.underlying28 (by kernel_rfl) (cs' := [u1, u2]) rfl h1 1 _ rfl
  obtain ⟨As, ns, cs, S, e1, hns, hms, hxs, hrs, hws⟩ := open_rd Tryz.underlying26 (by kernel_rfl) (by omega) decI1 ht1
  obtain ⟨z2, k2, h20⟩ := dec_at Tryz.underlying32 h2 0 _ rfl 0 1 (by kernel_rfl) (by kernel_rfl)
  obtain ⟨z3, k3, h21⟩ := dec_at Tryz.underlying32 h2 1 _ rfl 1 3 (by kernel_rfl) (by kernel_rfl)
  have h21 : DataW.trod enc Tryz.prog w base spare held k3 30 [u4, u5, u6] = some z3 := h21
  obtain ⟨z, hz, hw⟩ := dec_int (k := .u64) Tryz.underlying25 (cs' := [u3]) rfl h20
  simp at hz hv0 hv1 he
  subst hz hv0 hv1 he
  obtain ⟨zl, zh⟩ := u64_bounds hw
  obtain ⟨E, rfl⟩ : ∃ E : Nat, z = (E : Int) := ⟨z.toNat, by omega⟩
  obtain ⟨q0, q1, q2, m, _, t0, t1, t2⟩ := trod_array3 Tryz.underlying30 (by kernel_rfl) h21
  obtain ⟨B0, p0, k0', b0', f0, hp0, hc0, hb0, hr0', hw0'⟩ := open_rd Tryz.underlying29 (by kernel_rfl) (by omega) decEn t0
  obtain ⟨B1, p1, k1', b1', f1, hp1, hc1, hb1, hr1', hw1'⟩ := open_rd Tryz.underlying29 (by kernel_rfl) (by omega) decEn t1
  obtain ⟨B2, p2, k2', b2', f2, hp2, hc2, hb2, hr2', hw2'⟩ := open_rd Tryz.underlying29 (by kernel_rfl) (by omega) decEn t2
  simp only [List.cons.injEq, and_true] at e0 e1 f0 f1 f2
  subst e0 e1 f0 f1 f2
  unfold maxLen at hm0 hms hc0 hc1 hc2
  have three : ∀ {C : Nat → Prop}, C 0 → C 1 → C 2 → ∀ k, k < 3 → C k := fun a b c k hk => by
   match k, hk with
   | 0, _ => exact a
   | 1, _ => exact b
   | 2, _ => exact c
  refine ⟨⟨x0, e, S, ⟨E, of3 b0' b1' b2'⟩⟩, ⟨A0, As, n0, c0, ns, cs, of3 B0 B1 B2, of3 p0 p1 p2, of3 k0' k1' k2', rfl, ⟨RdF.all hr0, hx0, hn0, RdF.all hrs, hxs, ⟨hns, hms⟩, three (RdF.all hr0') (RdF.all hr1') (RdF.all hr2'), three hb0 hb1 hb2, three ⟨hp0, hc0⟩ ⟨hp1, hc1⟩ ⟨hp2, hc2⟩⟩⟩, ⟨u64_bounds we, by show E < _; omega, hw0, hws, three hw0' hw1' hw2'⟩⟩
set_option maxRecDepth 20000 in
theorem open_eops {v : Value} {d : DataW H} {p : List MemPlace} {b0 : Nat} (hv : Value.okWide Tryz.prog w .any b0 35 v) (h : DataW.Trod enc Tryz.prog w base spare held 35 v d p) :
  ∃ (A : Option Addr) (n c : Nat) (es : List EOp), v = .slice A n c ∧ n ≤ c ∧ c ≤ 9223372036854775807 ∧ es.length = n ∧ Rd w w.heap.size 5 A n (Cs encP es) ∧ (∀ o ∈ es, 0 ≤ o.b ∧ U64 o.x.2) := by
 obtain ⟨a2, l2, k2, rfl⟩ := okWide_slice Tryz.underlying35 hv
 obtain ⟨f2, h2⟩ := h
 obtain ⟨A2, n2, c2, xs2, e2, hn2, hm2, hx2, hr2, hw2⟩ := open_rd (en := encP) (wf := fun o => 0 ≤ o.b ∧ U64 o.x.2) Tryz.underlying35 (by kernel_rfl) (by omega) decP h2
 simp only [Value.cells, List.cons.injEq, Value.slice.injEq, and_true] at e2
 obtain ⟨rfl, rfl, rfl⟩ := e2
 exact ⟨_, _, _, xs2, rfl, hn2, by unfold maxLen at hm2; omega, hx2, hr2, hw2⟩
end
end Go.Proofs.YtkicidopjihjmaaGreat
namespace Go.Proofs.YtkicidopjihjmaaGreat
open Go Go.RowKit
attribute [local go_sem] via_cell via_frozen
theorem op_any (k g x1 x2 : Int) (W : World) : Calls Tryz.prog 22 #[.int .i64 k, .int .i64 g, .agg #[.int .i64 x1, .int .u64 x2]] W fun e W' => e = .returned (.agg #[.int .i64 k, .int .i64 g, .int .u64 0, .int .i64 x1, .int .u64 x2]) ∧ Below W.heap.size W W' := by
 have hb : Below W.heap.size W ((W.alloc (.cells #[.int .i64 x1, .int .u64 x2] 41)).alloc (.cells #[.int .i64 k, .int .i64 g, .int .u64 0, .int .i64 x1, .int .u64 x2] 43)) := ((Below.refl _ _).alloc (Nat.le_refl _) _).alloc (by simp) _
 have hr : RowAt ((W.alloc (.cells #[.int .i64 x1, .int .u64 x2] 41)).alloc (.cells #[.int .i64 k, .int .i64 g, .int .u64 0, .int .i64 x1, .int .u64 x2] 43)) (W.heap.size + 1) 43 #[.int .i64 k, .int .i64 g, .int .u64 0, .int .i64 x1, .int .u64 x2] := by have h := RowAt.new (W.alloc (.cells #[.int .i64 x1, .int .u64 x2] 41)) 43 #[.int .i64 k, .int .i64 g, .int .u64 0, .int .i64 x1, .int .u64 x2]; rw [World.size_alloc] at h; exact h
 have HB := Hi hb
 have HR := Hi hr
 clear hb hr
 go_enter Tryz.func22, Tryz.ntmps22
 go_wp2_with fail
 generalize (W.alloc _).alloc _ = wF at *
 obtain ⟨y0, y1, y2, y3, y4⟩ := row5 HR.out
 have yl := HR.out.lt
 exact bodyPost_ret (v := .agg #[.int .i64 k, .int .i64 g, .int .u64 0, .int .i64 x1, .int .u64 x2]) (by simp [results, Tryz.results22, go_sem, y0, y1, y2, y3, y4, yl]) rfl ⟨rfl, HB.out⟩
structure FitV (r : Rec) : Prop where
 fit : FitR r
 gn : ∀ s ∈ r.sl, 0 ≤ s.2
theorem WfR.fitV {r : Rec} (h : WfR r) : FitV r := ⟨h.fit, h.gn⟩
theorem vDo {F : Nat → Prop} {w : World} {v : Value} {r : Rec} (h : RecOut F w v r) (hf : FitV r) (o : EOp) (hb : 0 ≤ o.b) (hx : U64 o.x.2) : Calls Tryz.prog 13 #[v, .agg #[.int .i64 o.k, .int .i64 o.g, .int .u64 o.b, .int .i64 o.x.1, .int .u64 o.x.2]] w (DoRes r o w) := by
 obtain ⟨A0, As, n0, c0, ns, cs, A, n, c, rfl, h⟩ := h
 exact Do_any F A0 As n0 c0 ns cs A n c r o w h hf.fit hf.gn hb hx
theorem vTry {F : Nat → Prop} {w : World} {v : Value} {r : Rec} (h : RecOut F w v r) (hf : FitV r) : Calls Tryz.prog 24 #[v] w (TryRes r w) := by
 obtain ⟨A0, As, n0, c0, ns, cs, A, n, c, rfl, h⟩ := h
 exact Try_any F A0 As n0 c0 ns cs A n c r w h hf.fit hf.gn
theorem vRun {F : Nat → Prop} {w : World} {v : Value} {r : Rec} (h : RecOut F w v r) (hf : FitV r) (Al : Option Addr) (ml cl : Nat) (l : List EOp) (hl : Rd w w.heap.size 5 Al ml (Cs encP l)) (hm : l.length = ml) (hml : ml ≤ 4096) (hu : ∀ o ∈ l, 0 ≤ o.b ∧ U64 o.x.2) : Calls Tryz.prog 17 #[v, .slice Al ml cl] w (RunRes r l w) := by
 obtain ⟨A0, As, n0, c0, ns, cs, A, n, c, rfl, h⟩ := h
 exact Run_any F A0 As n0 c0 ns cs A n c r Al ml cl l w h hf.fit hf.gn hl hm hml hu
theorem vOwn {F : Nat → Prop} {w : World} {v : Value} {r : Rec} (h : RecOut F w v r) : Calls Tryz.prog 10 #[v] w (LownRes r w) := by
 obtain ⟨A0, As, n0, c0, ns, cs, A, n, c, rfl, h⟩ := h
 exact lown_any F A0 As n0 c0 ns cs A n c r w h
theorem wf_rec0 : FitV rec0 := ⟨⟨Nat.zero_le _, Nat.zero_le _, fun k _ => Nat.zero_le _, ⟨Int.le_refl _, (by decide)⟩, fun x hx => (by cases hx), (by decide), fun k _ x hx => (by cases hx)⟩, fun s hs => (by cases hs)⟩
theorem wf_do {r : Rec} (hf : FitV r) (o : EOp) (hb : 0 ≤ o.b) (h0 : (doR r o).2.2 = 0) : WfR (doR r o).1 := by
 unfold doR at h0 ⊢
 rcases Bool.eq_false_or_eq_true r.ok with ho | ho
 ·
  have hw : WfR r := ⟨ok_iff.1 ho, fun s hs => (hf.fit.s s hs).1, hf.gn⟩
  rw [if_pos ho] at h0 ⊢
  cases hs : stepR r [] o with
  | error k => rw [hs] at h0; exact absurd h0 (step_ne hs)
  | ok x => exact wf_step hw hb (r' := x.1) (t' := x.2) hs
 · rw [ho] at h0; simp at h0
theorem fit_do {r : Rec} (hf : FitV r) (o : EOp) (hb : 0 ≤ o.b) : FitV (doR r o).1 := by
 by_cases h0 : (doR r o).2.2 = 0
 · exact (wf_do hf o hb h0).fitV
 ·
  have : (doR r o).1 = rec0 := by
   unfold doR at h0 ⊢
   split
   ·
    rename_i ho
    rw [if_pos ho] at h0
    cases hs : stepR r [] o with
    | error k => rfl
    | ok x => rw [hs] at h0; exact absurd rfl h0
   · rfl
  rw [this]; exact wf_rec0
theorem fit_try {r : Rec} (hf : FitV r) : FitV (tryR r).1 := by
 unfold tryR
 rcases Bool.eq_false_or_eq_true r.ok with ho | ho
 ·
  have hw : WfR r := ⟨ok_iff.1 ho, fun s hs => (hf.fit.s s hs).1, hf.gn⟩
  rw [if_pos ho]
  exact (tries_ind (P := fun _ _ => True) (fun _ _ _ _ _ _ _ => trivial) (fun _ _ _ _ _ _ _ => trivial) hw (t := []) trivial).2.fitV
 · rw [if_neg (by rw [ho]; decide)]; exact wf_rec0
theorem wf_runL : ∀ (l : List EOp) (r : Rec) (t : List Ent) (n : Nat) (x : Rec × List Ent × Nat), WfR r → (∀ o ∈ l, 0 ≤ o.b) → runL r t n l = some x → WfR x.1
 | [], r, t, n, x, h, _, hs => by injection hs with hs; rw [← hs]; exact h
 | o :: l, r, t, n, x, h, hb, hs => by
  unfold runL at hs
  split at hs
  ·
   rename_i r' t' h1
   exact wf_runL l r' t' n x (wf_step h (hb o (by simp)) h1) (fun q hq => hb q (by simp [hq])) hs
  ·
   split at hs
   · cases hs
   · exact wf_runL l r t (n + 1) x h (fun q hq => hb q (by simp [hq])) hs
theorem fit_run {r : Rec} (hf : FitV r) (l : List EOp) (hb : ∀ o ∈ l, 0 ≤ o.b) : FitV (runR r l).1 := by
 unfold runR
 rcases Bool.eq_false_or_eq_true r.ok with ho | ho
 ·
  have hw : WfR r := ⟨ok_iff.1 ho, fun s hs => (hf.fit.s s hs).1, hf.gn⟩
  rw [if_pos ho]
  cases hs : runL r [] 0 l with
  | none => exact wf_rec0
  | some x => exact (wf_runL l r [] 0 x hw hb hs).fitV
 · rw [if_neg (by rw [ho]; decide)]; exact wf_rec0
theorem fit_new (g n : Nat) (hg : g ≤ 8) (hn : n ≤ 128) : FitV (newR g n) := by
 refine ⟨⟨by simp [newR]; omega, by simp [newR]; omega, fun k _ => Nat.zero_le _, ⟨Int.le_refl _, by show (0 : Int) < _; omega⟩, fun x hx => ?_, by show (0 : Nat) < _; omega, fun k _ x hx => by cases hx⟩, fun s hs => ?_⟩
 ·
  have hx : x ∈ List.replicate g 0 := hx
  rw [List.mem_replicate] at hx
  rw [hx.2]; exact ⟨Int.le_refl _, by omega⟩
 ·
  have hs : s ∈ List.replicate n ((0, 0) : Ent) := hs
  rw [List.mem_replicate] at hs
  rw [hs.2]; exact Int.le_refl _
def wkO : List EOp := [⟨3, 0, 0, (0, 0)⟩, ⟨3, 0, 0, (0, 0)⟩, ⟨1, 0, 0, (0, 0)⟩, ⟨5, 0, 0, (0, 0)⟩]
def wk0 : Rec := newR 2 3
def wk1 : Rec := (runR wk0 wkO).1
def wk2 : Rec := (tryR wk1).1
def wk3 : Rec := (tryR wk2).1
def wk4 : Rec := (doR wk3 ⟨2, 0, 0, (0, 0)⟩).1
def wk5 : Rec := (tryR wk4).1
theorem wkOb : ∀ o ∈ wkO, 0 ≤ o.b := by intro o ho; simp [wkO] at ho; rcases ho with rfl | rfl | rfl <;> exact Int.le_refl _
theorem wkOu : ∀ o ∈ wkO, 0 ≤ o.b ∧ U64 o.x.2 := by intro o ho; simp [wkO] at ho; rcases ho with rfl | rfl | rfl <;> exact ⟨Int.le_refl _, Int.le_refl _, by decide⟩
theorem wkF0 : FitV wk0 := fit_new 2 3 (by omega) (by omega)
theorem wkF1 : FitV wk1 := fit_run wkF0 _ wkOb
theorem wkF2 : FitV wk2 := fit_try wkF1
theorem wkF3 : FitV wk3 := fit_try wkF2
theorem wkF4 : FitV wk4 := fit_do wkF3 _ (Int.le_refl _)
theorem wkF5 : FitV wk5 := fit_try wkF4
theorem wkR1 : runR wk0 wkO = (wk1, [(0, 0), (1, 0)], 0, 0) := by
 have h : (runR wk0 wkO).2 = ([(0, 0), (1, 0)], 0, 0) := by kernel_rfl
 exact Prod.ext rfl h
theorem wkR2 : tryR wk1 = (wk2, [], true, 0) := by
 have h : (tryR wk1).2 = ([], true, 0) := by kernel_rfl
 exact Prod.ext rfl h
theorem wkR3 : tryR wk2 = (wk3, [], false, 0) := by
 have h : (tryR wk2).2 = ([], false, 0) := by kernel_rfl
 exact Prod.ext rfl h
theorem wkR3n : waitsR wk3 = 1 := by kernel_rfl
theorem wkR4 : doR wk3 ⟨2, 0, 0, (0, 0)⟩ = (wk4, (0, 0), 0) := by
 have h : (doR wk3 ⟨2, 0, 0, (0, 0)⟩).2 = ((0, 0), 0) := by kernel_rfl
 exact Prod.ext rfl h
theorem wkR5 : tryR wk4 = (wk5, [(0, 0)], true, 0) := by
 have h : (tryR wk4).2 = ([(0, 0)], true, 0) := by kernel_rfl
 exact Prod.ext rfl h
theorem wkR6 : doR wk5 ⟨6, 0, 0, (0, 0)⟩ = (rec0, (0, 0), 4) := by
 have h : (doR wk5 ⟨6, 0, 0, (0, 0)⟩).2 = ((0, 0), 4) := by kernel_rfl
 have h1 : (doR wk5 ⟨6, 0, 0, (0, 0)⟩).1 = rec0 := by kernel_rfl
 exact Prod.ext h1 h
def BoxR (w : World) (g : Nat) (r : Rec) : Prop := ∃ A0 As n0 c0 ns cs A n c, RowAt w g 34 (recC r.e r.l.E A0 As n0 c0 ns cs A n c) ∧ RecF (fun j => j ≠ g) w A0 As n0 c0 ns cs A n c r
theorem BoxR.below {w w' : World} {g : Nat} {r : Rec} (h : BoxR w g r) (hb : Below w.heap.size w w') : BoxR w' g r := by
 obtain ⟨A0, As, n0, c0, ns, cs, A, n, c, h1, h2⟩ := h
 exact ⟨A0, As, n0, c0, ns, cs, A, n, c, h1.below hb, h2.below hb⟩
end Go.Proofs.YtkicidopjihjmaaGreat
namespace Go.Proofs.YtkicidopjihjmaaGreat
open Go Go.RowKit
section
variable {P : Program} {ops : Array Oper} {Q : Exit → Act → World → Prop} {md : Region.Mode} {S : World → Prop} {z : Nat}
def wpAnyZ (P : Program) (md : Region.Mode) (ops : Array Oper) (Q : Exit → Act → World → Prop) (S : World → Prop) (z : Nat) : Nat → Array Bool → Act → World → Prop
 | 0, listed, a, w => Region.ready md ops listed = [] ∧ Q .normal a w
 | fuel + 1, listed, a, w =>
  (Region.ready md ops listed = [] → Q .normal a w) ∧
  ∀ i ∈ Region.ready md ops listed, wpOp P ops Q i (fun a' w' => (i ≠ z → listed.getD z true = false → S w') ∧ wpAnyZ P md ops Q S z fuel (listed.setIfInBounds i true) a' w') a w
theorem wpAny_of_Z : ∀ (fuel : Nat) (listed : Array Bool) (a : Act) (w : World), wpAnyZ P md ops Q S z fuel listed a w → wpAny P md ops Q fuel listed a w
 | 0, _, _, _, h => h
 | fuel + 1, _, _, _, h => ⟨h.1, fun i hi => wpOp_mono (fun a' w' h' => wpAny_of_Z fuel _ a' w' h'.2) (h.2 i hi)⟩
theorem wpAnyZ_first {i : Nat} {oi : Oper} {v : Value} (hi : ops[i]? = some oi) (hsel : ∀ (j : Nat) (o : Oper) cs b, ops[j]? = some o → o.op ≠ .select cs b) (hz : waitsB md ops z i = true)
  (hQ : ∀ c a w, Q (.panic c) (a.put oi.dst v) w → Q (.panic c) a w) :
  ∀ (fuel : Nat) (listed : Array Bool) (a : Act) (w : World),
   (∀ j oj, ops[j]? = some oj → j ≠ i → listed.getD j true = false → (∀ e ∈ oj.after, Region.binds md e = true → e.on ≠ i) → oi.apart ops oj = true) →
   i ∈ Region.ready md ops listed → listed.getD z true = false → YieldsIf P ops S oi v a → S w →
   wpAnyZ P md ops Q S z fuel (listed.setIfInBounds i true) (a.put oi.dst v) w → wpAnyZ P md ops Q S z (fuel + 1) listed a w := by
 intro fuel
 induction fuel with
 | zero =>
  intro listed a w _ hr hzl hy hS H
  refine ⟨fun h => (by rw [h] at hr; cases hr), fun j hj => ?_⟩
  by_cases hji : j = i
  · subst hji; exact hy.wpOp hi hS ⟨fun _ _ => hS, H⟩
  ·
   have := ready_mono hj hji
   rw [H.1] at this
   cases this
 | succ fuel ih =>
  intro listed a w hfree hr hzl hy hS H
  refine ⟨fun h => (by rw [h] at hr; cases hr), fun j hj => ?_⟩
  by_cases hji : j = i
  · subst hji; exact hy.wpOp hi hS ⟨fun _ _ => hS, H⟩
  ·
   have h1 := H.2 j (ready_mono hj hji)
   obtain ⟨hjun, oj, hoj, hall⟩ := mem_ready.1 hj
   have hnot : ∀ e ∈ oj.after, Region.binds md e = true → e.on ≠ i := fun e he hb heq => by
    have h1 := hall e he hb
    have h0 := (mem_ready.1 hr).1
    rw [heq] at h1
    rcases Nat.lt_or_ge i listed.size with h' | h'
    · simp [h'] at h0 h1; rw [h0] at h1; cases h1
    · simp [Array.getElem?_eq_none h'] at h1
   have hjz : j ≠ z := by
    intro e
    subst e
    unfold waitsB at hz
    rw [hoj] at hz
    simp only [Bool.and_eq_true, List.any_eq_true, beq_iff_eq] at hz
    obtain ⟨⟨e, he, hb, hon⟩, _⟩ := hz
    exact hnot e (by simpa using he) hb hon
   have h2 := wpOp_putIf hoj (hfree j oj hoj hji hjun hnot) (fun cs b => hsel i oi cs b hi) (fun cs b => hsel j oj cs b hoj) hQ hy h1
   have hfree' : ∀ k ok, ops[k]? = some ok → k ≠ i → (listed.setIfInBounds j true).getD k true = false →
     (∀ e ∈ ok.after, Region.binds md e = true → e.on ≠ i) → oi.apart ops ok = true := fun k ok hk hki hun hno => by
    refine hfree k ok hk hki ?_ hno
    by_cases hjk : j = k
    · subst hjk; exact hjun
    · rw [getD_set_ne true hjk] at hun; exact hun
   have hiz : i ≠ z := by
    intro e
    subst e
    unfold waitsB at hz
    split at hz <;> simp at hz
   refine wpOp_mono (fun a' w' h3 => ⟨fun h4 h5 => h3.2.1 h4 (by rw [getD_set_ne true hiz]; exact h5), ih (listed.setIfInBounds j true) a' w' hfree' (ready_mono hr (Ne.symm hji)) (by rw [getD_set_ne true hjz]; exact hzl) h3.1 (h3.2.1 hjz (by rw [getD_set_ne true hiz]; exact hzl)) ?_⟩) h2
   rw [Array.setIfInBounds_comm _ _ hji]
   exact h3.2.2
theorem wpAnyZ_take {i : Nat} {oi : Oper} {v : Value} {fuel : Nat} {listed : Array Bool} {a : Act} {w : World} (hi : ops[i]? = some oi)
  (hs : Region.noSelect ops = true) (hf : Region.free md ops listed i = true) (hr : (Region.ready md ops listed).contains i = true) (hz : waitsB md ops z i = true) (hzl : listed.getD z true = false)
  (hQ : ∀ c a w, Q (.panic c) (a.put oi.dst v) w → Q (.panic c) a w) (hy : YieldsIf P ops S oi v a) (hS : S w)
  (h : wpAnyZ P md ops Q S z fuel (listed.setIfInBounds i true) (a.put oi.dst v) w) : wpAnyZ P md ops Q S z (fuel + 1) listed a w :=
 wpAnyZ_first hi (Region.noSelect_spec hs) hz hQ fuel listed a w (Region.free_spec hi hf) (by simpa using hr) hzl hy hS h
theorem tkZ {i : Nat} {oi : Oper} {v : Value} {fuel : Nat} {listed : Array Bool} {a a2 : Act} {w : World} (hi : ops[i]? = some oi) (h : wpAnyZ P md ops Q S z fuel (listed.setIfInBounds i true) a2 w)
  (hs : Region.noSelect ops = true := by kernel_rfl) (hf : Region.free md ops listed i = true := by kernel_rfl) (hr : (Region.ready md ops listed).contains i = true := by kernel_rfl) (hz : waitsB md ops z i = true := by kernel_rfl) (hzl : listed.getD z true = false := by kernel_rfl) (hS : S w := by assumption)
  (hy : YieldsIf P ops S oi v a := by refine Or.inl ⟨by rfl, ?_⟩; intro w hSw; (try dsimp only at hSw); (repeat (have hSx := And.left hSw; replace hSw := And.right hSw)); go_simp; first | done | with_reducible rfl)
  (hn : a.put oi.dst v = a2 := by first | (simp only [Act.put, Na, Nb, Nc, Nd, Nx, Nf]; done) | (simp only [Act.put, Na, Nb, Nc, Nd, Nx, Nf]; rfl) | rfl) (hQ : ∀ c a w, Q (.panic c) (a.put oi.dst v) w → Q (.panic c) a w := by exact fun _ _ _ h => h) : wpAnyZ P md ops Q S z (fuel + 1) listed a w := wpAnyZ_take hi hs hf hr hz hzl hQ hy hS (by rw [hn]; exact h)
theorem wnZ {fuel : Nat} {listed : Array Bool} {a a2 : Act} {w : World} (h : wpAnyZ P md ops Q S z fuel listed a2 w) (hn : a = a2 := by first | (simp only [Act.put, Na, Nb, Nc, Nd, Nx, Nf]; done) | (simp only [Act.put, Na, Nb, Nc, Nd, Nx, Nf]; rfl) | rfl) : wpAnyZ P md ops Q S z fuel listed a w := by rw [hn]; exact h
theorem getD_set_eq_true (l : Array Bool) (j : Nat) : (l.setIfInBounds j true).getD j true = true := by
 rcases Nat.lt_or_ge j l.size with h | h
 · simp [h]
 · simp [Array.getElem?_eq_none h]
theorem wpAnyZ_firstF {i : Nat} {oi : Oper} {v : Value} (hi : ops[i]? = some oi) (hsel : ∀ (j : Nat) (o : Oper) cs b, ops[j]? = some o → o.op ≠ .select cs b) (hiz : i ≠ z)
  (hQ : ∀ c a w, Q (.panic c) (a.put oi.dst v) w → Q (.panic c) a w) :
  ∀ (fuel : Nat) (listed : Array Bool) (a : Act) (w : World),
   (∀ j oj, ops[j]? = some oj → j ≠ i → listed.getD j true = false → (∀ e ∈ oj.after, Region.binds md e = true → e.on ≠ i) → oi.apart ops oj = true) →
   i ∈ Region.ready md ops listed → YieldsIf P ops (fun _ => True) oi v a → (listed.getD z true = false → S w) →
   wpAnyZ P md ops Q S z fuel (listed.setIfInBounds i true) (a.put oi.dst v) w → wpAnyZ P md ops Q S z (fuel + 1) listed a w := by
 intro fuel
 induction fuel with
 | zero =>
  intro listed a w _ hr hy hS H
  refine ⟨fun h => (by rw [h] at hr; cases hr), fun j hj => ?_⟩
  by_cases hji : j = i
  · subst hji; exact hy.wpOp hi trivial ⟨fun _ h => hS h, H⟩
  ·
   have := ready_mono hj hji
   rw [H.1] at this
   cases this
 | succ fuel ih =>
  intro listed a w hfree hr hy hS H
  refine ⟨fun h => (by rw [h] at hr; cases hr), fun j hj => ?_⟩
  by_cases hji : j = i
  · subst hji; exact hy.wpOp hi trivial ⟨fun _ h => hS h, H⟩
  ·
   have h1 := H.2 j (ready_mono hj hji)
   obtain ⟨hjun, oj, hoj, hall⟩ := mem_ready.1 hj
   have hnot : ∀ e ∈ oj.after, Region.binds md e = true → e.on ≠ i := fun e he hb heq => by
    have h1 := hall e he hb
    have h0 := (mem_ready.1 hr).1
    rw [heq] at h1
    rcases Nat.lt_or_ge i listed.size with h' | h'
    · simp [h'] at h0 h1; rw [h0] at h1; cases h1
    · simp [Array.getElem?_eq_none h'] at h1
   have h2 := wpOp_putIf hoj (hfree j oj hoj hji hjun hnot) (fun cs b => hsel i oi cs b hi) (fun cs b => hsel j oj cs b hoj) hQ hy h1
   have hfree' : ∀ k ok, ops[k]? = some ok → k ≠ i → (listed.setIfInBounds j true).getD k true = false →
     (∀ e ∈ ok.after, Region.binds md e = true → e.on ≠ i) → oi.apart ops ok = true := fun k ok hk hki hun hno => by
    refine hfree k ok hk hki ?_ hno
    by_cases hjk : j = k
    · subst hjk; exact hjun
    · rw [getD_set_ne true hjk] at hun; exact hun
   refine wpOp_mono (fun a' w' h3 => ⟨fun h4 h5 => h3.2.1 h4 (by rw [getD_set_ne true hiz]; exact h5), ih (listed.setIfInBounds j true) a' w' hfree' (ready_mono hr (Ne.symm hji)) h3.1 (fun h5 => ?_) ?_⟩) h2
   ·
    by_cases hjz : j = z
    ·
     subst hjz
     rw [getD_set_eq_true] at h5
     cases h5
    ·
     rw [getD_set_ne true hjz] at h5
     exact h3.2.1 hjz (by rw [getD_set_ne true hiz]; exact h5)
   rw [Array.setIfInBounds_comm _ _ hji]
   exact h3.2.2
theorem wpAnyZ_takeF {i : Nat} {oi : Oper} {v : Value} {fuel : Nat} {listed : Array Bool} {a : Act} {w : World} (hi : ops[i]? = some oi)
  (hs : Region.noSelect ops = true) (hf : Region.free md ops listed i = true) (hr : (Region.ready md ops listed).contains i = true) (hiz : (i == z) = false)
  (hQ : ∀ c a w, Q (.panic c) (a.put oi.dst v) w → Q (.panic c) a w) (hy : YieldsIf P ops (fun _ => True) oi v a) (hS : listed.getD z true = false → S w)
  (h : wpAnyZ P md ops Q S z fuel (listed.setIfInBounds i true) (a.put oi.dst v) w) : wpAnyZ P md ops Q S z (fuel + 1) listed a w :=
 wpAnyZ_firstF hi (Region.noSelect_spec hs) (by simpa using hiz) hQ fuel listed a w (Region.free_spec hi hf) (by simpa using hr) hy hS h
theorem tkF {i : Nat} {oi : Oper} {v : Value} {fuel : Nat} {listed : Array Bool} {a a2 : Act} {w : World} (hi : ops[i]? = some oi) (hS : listed.getD z true = false → S w) (h : wpAnyZ P md ops Q S z fuel (listed.setIfInBounds i true) a2 w)
  (hs : Region.noSelect ops = true := by kernel_rfl) (hf : Region.free md ops listed i = true := by kernel_rfl) (hr : (Region.ready md ops listed).contains i = true := by kernel_rfl) (hiz : (i == z) = false := by kernel_rfl)
  (hy : YieldsIf P ops (fun _ => True) oi v a := by refine Or.inl ⟨by rfl, ?_⟩; intro w hSw; go_simp; first | done | with_reducible rfl)
  (hn : a.put oi.dst v = a2 := by first | (simp only [Act.put, Na, Nb, Nc, Nd, Nx, Nf]; done) | (simp only [Act.put, Na, Nb, Nc, Nd, Nx, Nf]; rfl) | rfl) (hQ : ∀ c a w, Q (.panic c) (a.put oi.dst v) w → Q (.panic c) a w := by exact fun _ _ _ h => h) : wpAnyZ P md ops Q S z (fuel + 1) listed a w := wpAnyZ_takeF hi hs hf hr hiz hQ hy hS (by rw [hn]; exact h)
theorem wpAnyZ_one {i : Nat} {o : Oper} {fuel : Nat} {listed : Array Bool} {a : Act} {w : World} (ho : ops[i]? = some o) (hr : Region.ready md ops listed = [i])
  (h : ∀ K' : Act → World → Prop, Shut (∀ a w, (i ≠ z → listed.getD z true = false → S w) → wpAnyZ P md ops Q S z fuel (listed.setIfInBounds i true) a w → K' a w) → if Region.wanted o (yielded ops a.tmps) = true then Oper.wp P o a w K' Q else K' (a.put o.dst undef) w) : wpAnyZ P md ops Q S z (fuel + 1) listed a w :=
 ⟨fun h0 => (by rw [hr] at h0; cases h0), by
  rw [hr]
  intro j hj
  obtain rfl := List.mem_singleton.1 hj
  exact wpOp_step ho (fun K' hK => h K' (fun a w hS hW => hK a w ⟨hS, hW⟩))⟩
theorem wpAnyZ_two {i j : Nat} {oi oj : Oper} {fuel : Nat} {listed : Array Bool} {a : Act} {w : World} (hoi : ops[i]? = some oi) (hoj : ops[j]? = some oj) (hr : Region.ready md ops listed = [i, j])
  (h1 : ∀ K' : Act → World → Prop, Shut (∀ a w, (i ≠ z → listed.getD z true = false → S w) → wpAnyZ P md ops Q S z fuel (listed.setIfInBounds i true) a w → K' a w) → if Region.wanted oi (yielded ops a.tmps) = true then Oper.wp P oi a w K' Q else K' (a.put oi.dst undef) w)
  (h2 : ∀ K' : Act → World → Prop, Shut (∀ a w, (j ≠ z → listed.getD z true = false → S w) → wpAnyZ P md ops Q S z fuel (listed.setIfInBounds j true) a w → K' a w) → if Region.wanted oj (yielded ops a.tmps) = true then Oper.wp P oj a w K' Q else K' (a.put oj.dst undef) w) : wpAnyZ P md ops Q S z (fuel + 1) listed a w :=
 ⟨fun h0 => (by rw [hr] at h0; cases h0), by
  rw [hr]
  intro k hk
  rcases List.mem_cons.1 hk with rfl | hk
  · exact wpOp_step hoi (fun K' hK => h1 K' (fun a w hS hW => hK a w ⟨hS, hW⟩))
  ·
   obtain rfl := List.mem_singleton.1 hk
   exact wpOp_step hoj (fun K' hK => h2 K' (fun a w hS hW => hK a w ⟨hS, hW⟩))⟩
theorem wpAnyZ_done {listed : Array Bool} {a : Act} {w : World} (hr : Region.ready md ops listed = []) (h : Q .normal a w) : ∀ fuel, wpAnyZ P md ops Q S z fuel listed a w
 | 0 => ⟨hr, h⟩
 | _ + 1 => ⟨fun _ => h, by rw [hr]; simp⟩
theorem wp_region_Z (S : World → Prop) (z : Nat) {id : Nat} {a : Act} {w : World} (hm : P.follows .mixedOrders = true) (hS : S w.drew)
  (h : S w.drew → wpAnyZ P .any ops Q S z ops.size (Array.replicate ops.size false) a w.drew) : (Code.region id ops true).wp P Q a w :=
 wp_region_any hm (wpAny_of_Z _ _ _ _ (h hS))
end
end Go.Proofs.YtkicidopjihjmaaGreat
