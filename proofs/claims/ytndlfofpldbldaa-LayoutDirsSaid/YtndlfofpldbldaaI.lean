import Derived.Test.YtndlfofpldbldaaC
import Derived.Defers
import Derived.Recover
import Derived.Laws.NewBlocks
set_option linter.unusedSimpArgs false
set_option linter.unusedVariables false
namespace Go.Proofs.Ytndlfofpldbldaa
open Go.RowKit

@[local go_sem] theorem wpmf (fn : Fn) (first cap : Array Value) (w : World) : (Instr.makeFunc fn first cap).run Try.prog w = .ok (.func fn first cap) w := rfl

/-- What is thrown. -/
def wrongV : Value := .iface 101 (.agg #[])
def wrongX : List PanicEntry := [{ v := .iface 101 (.agg #[]), recovered := false }]

theorem need_ok (W : World) : Calls Try.prog 45 #[.bool true] W fun e W' => e = .returned (.tuple #[]) ∧ W = W' := by
  go_enter Try.func45, Try.ntmps45
  go_wp2
  go_end0
  exact ⟨rfl, rfl⟩

theorem need_no (W : World) : Calls Try.prog 45 #[.bool false] W fun e W' => e = .panicked wrongX ∧ W = W' := by
  go_enter Try.func45, Try.ntmps45
  go_wp2
  exact ⟨rfl, rfl, rfl⟩

@[local go_sem] theorem assert_wrong (W : World) : (Instr.typeAssert (.iface 101 (.agg #[])) 20 101 true).run Try.prog W = .ok (.tuple #[.agg #[], .bool true]) W := by kernel_rfl

/-- All but block k lies as it lay. -/
structure Past (k : Nat) (w w' : World) : Prop where
  below : Below k w w'
  block : ∀ j, j ≠ k → j < w.heap.size → w'.heap[j]? = w.heap[j]?
  size : w.heap.size ≤ w'.heap.size

theorem cell_of_heap {w w' : World} {p : Addr} (h : w'.heap[p.block]? = w.heap[p.block]?) : w'.cell? p = w.cell? p := by
  unfold World.cell?; rw [h]
theorem frozen_of_heap {w w' : World} {p : Addr} (h : w'.heap[p.block]? = w.heap[p.block]?) : w'.frozen? p = w.frozen? p := by
  unfold World.frozen?; rw [h]
theorem Past.cell {k : Nat} {w w' : World} (h : Past k w w') (p : Addr) (h1 : p.block ≠ k) (h2 : p.block < w.heap.size) : w'.cell? p = w.cell? p := cell_of_heap (h.block _ h1 h2)
theorem Past.frozen {k : Nat} {w w' : World} (h : Past k w w') (p : Addr) (h1 : p.block ≠ k) (h2 : p.block < w.heap.size) : w'.frozen? p = w.frozen? p := frozen_of_heap (h.block _ h1 h2)
theorem heap_setCell_ne (w : World) (p : Addr) (v : Value) (j : Nat) (h : j ≠ p.block) : (w.setCell p v).heap[j]? = w.heap[j]? := by
  simp only [World.setCell, Array.getElem?_modify]
  rw [if_neg (fun e => h e.symm)]

theorem Past.set {k : Nat} {w : World} (o : Nat) (v : Value) : Past k w (w.setCell ⟨k, o, none⟩ v) :=
  ⟨(Below.refl k w).setCell (p := ⟨k, o, none⟩) (Nat.le_refl _) v, fun j h1 _ => heap_setCell_ne _ _ _ _ h1, by simp⟩
theorem Past.trans {k : Nat} {a b c : World} (h1 : Past k a b) (h2 : Past k b c) : Past k a c :=
  ⟨h1.below.trans h2.below, fun j hj hl => (h2.block j hj (Nat.lt_of_lt_of_le hl h1.size)).trans (h1.block j hj hl), Nat.le_trans h1.size h2.size⟩
theorem Past.of_below {k : Nat} {a b : World} (hk : k < a.heap.size) (h : Below a.heap.size a b) : Past k a b :=
  ⟨h.mono (Nat.le_of_lt hk), fun j _ hl => h.block j hl, h.size⟩
theorem Past.alloc {k : Nat} {w : World} (hk : k < w.heap.size) (o : Obj) : Past k w (w.alloc o) := Past.of_below hk ((Below.refl _ w).alloc (Nat.le_refl _) o)

theorem catch_idle (p : Addr) (w : World) :
    CallsD Try.prog 57 #[.pointer (some p)] .returning w fun e u' w' => e = .returned (.tuple #[]) ∧ u' = .returning ∧ w' = w := by
  refine callsD_of_wpS Try.func57 rfl fun c₀ cs hu => ?_
  apply wpS_seq
  apply wpS_region
  simp [wpOpsS, go_sem, recoverD, hu, Try.ntmps57, Exit.thenS]
  refine wpS_of_wp ?_
  simp only [List.size_toArray, List.length_cons, List.length_nil, Nat.reduceAdd, Nat.reduceSub, Array.replicate_succ, Array.replicate_zero, List.push_toArray, List.append_toArray, List.nil_append, List.cons_append, List.setIfInBounds_toArray, List.set_cons_succ, List.set_cons_zero]
  go_wp2
  cases c₀
  simp_all [bodyPostS, results, Try.results57]

set_option maxRecDepth 100000 in
theorem catch_wrong (p : Addr) (w : World) (b : Bool) (hc : w.cell? p = some (.bool b)) (hz : w.frozen? p = false) (hk : p.block < w.heap.size) :
    CallsD Try.prog 57 #[.pointer (some p)] (.panicking wrongX) w fun e u' w' =>
      e = .returned (.tuple #[]) ∧ u' = .panicking [{ v := .iface 101 (.agg #[]), recovered := true }] ∧ w' = (w.alloc (.cells #[] 101)).setCell p (.bool false) := by
  refine callsD_of_wpS Try.func57 rfl fun c₀ cs hu => ?_
  apply wpS_seq
  apply wpS_region
  have hcA : (w.alloc (.cells #[] 101)).cell? p = some (.bool b) := (World.cell?_alloc_old _ _ _ (by omega)).trans hc
  have hfA : (w.alloc (.cells #[] 101)).frozen? p = false := (World.frozen?_alloc_old _ _ _ (by omega)).trans hz
  simp [wpOpsS, go_sem, recoverD, hu, Try.ntmps57, Exit.thenS, wrongX]
  refine wpS_of_wp ?_
  simp only [List.size_toArray, List.length_cons, List.length_nil, Nat.reduceAdd, Nat.reduceSub, Array.replicate_succ, Array.replicate_zero, List.push_toArray, List.append_toArray, List.nil_append, List.cons_append, List.setIfInBounds_toArray, List.set_cons_succ, List.set_cons_zero]
  go_wp2
  simp [bodyPostS, results, Try.results57]

set_option maxRecDepth 100000 in
theorem tries_any (g : Nat) (hg : ∀ args w, (callFunc g args).run Try.prog w = .ok (.enter g args) w) (lb : Array Value) (W : World) (Q : Bool → World → Prop)
    (HC : Calls Try.prog g lb (W.alloc (.cells #[.bool false] 4)) fun e w2 => (e = .returned (.tuple #[]) ∧ Q true w2 ∨ e = .panicked wrongX ∧ Q false w2) ∧
      w2.cell? ⟨W.heap.size, 0, none⟩ = some (.bool false) ∧ w2.frozen? ⟨W.heap.size, 0, none⟩ = false ∧ W.heap.size < w2.heap.size) :
    Calls Try.prog 42 #[.func (.func g) #[] lb] W fun e w' => ∃ b w2, e = .returned (.bool b) ∧ Q b w2 ∧ Past W.heap.size w2 w' := by
  go_enter_defers Try.func42, Try.ntmps42
  go_wp2
  refine HC.mono ?_
  rintro e w2 ⟨⟨rfl, hq⟩ | ⟨rfl, hq⟩, hc, hf, hk⟩
  · go_wp2
    refine leaves_cons (f := 57) (args := #[.pointer (some ⟨W.heap.size, 0, none⟩)]) (by simp) (by simp [go_sem]) ?_
    refine (catch_idle ⟨W.heap.size, 0, none⟩ _).mono ?_
    rintro e u' w'' ⟨rfl, rfl, rfl⟩
    have hc' : (w2.setCell ⟨W.heap.size, 0, none⟩ (.bool true)).cell? ⟨W.heap.size, 0, none⟩ = some (.bool true) := World.cell?_setCell_same' _ _ _ (by rw [hc]; rfl)
    simp [Leaves, settle, results, Try.results42, go_sem, hc']
    exact ⟨w2, hq, Past.set 0 _⟩
  · dsimp only
    refine leaves_cons (f := 57) (args := #[.pointer (some ⟨W.heap.size, 0, none⟩)]) (by simp) (by simp [go_sem]) ?_
    refine (catch_wrong ⟨W.heap.size, 0, none⟩ w2 false hc hf hk).mono ?_
    rintro e u' w'' ⟨rfl, rfl, rfl⟩
    have hc' : ((w2.alloc (.cells #[] 101)).setCell ⟨W.heap.size, 0, none⟩ (.bool false)).cell? ⟨W.heap.size, 0, none⟩ = some (.bool false) := World.cell?_setCell_same' _ _ _ (by rw [World.cell?_alloc_past _ _ _ hk, hc]; rfl)
    simp [Leaves, settle, results, Try.results42, go_sem, hc']
    exact ⟨w2, hq, (Past.alloc hk _).trans (Past.set 0 _)⟩
end Go.Proofs.Ytndlfofpldbldaa
