/-
  Something done with mutexes that may be; the error by which it leaves.
-/
import Derived.Test.YtlelpnahillioaaMuj
import Derived.Defers
import Derived.Recover
import Derived.Laws.NewBlocks
set_option linter.unusedSimpArgs false
set_option linter.unusedVariables false
namespace Go.Proofs.Ytlelpnahillioaa
open Go Go.RowKit
attribute [local go_sem] via_cell via_frozen

@[local go_sem] theorem wpmf (fn : Fn) (first cap : Array Value) (w : World) : (Instr.makeFunc fn first cap).run Try.prog w = .ok (.func fn first cap) w := rfl
@[local go_sem] theorem assert_errno (k : Int) (W : World) : (Instr.typeAssert (.iface 30 (.int .i64 k)) 20 30 true).run Try.prog W = .ok (.tuple #[.int .i64 k, .bool true]) W := by
  simp [Instr.typeAssert]
abbrev zeroH : Array Value := #[.slice none 0 0, .int .i64 0, .int .i64 0, .bool false, .int .i64 0]
theorem catch_idle (p q : Addr) (w : World) :
    CallsD Try.prog 50 #[.pointer (some p), .pointer (some q)] .returning w fun e u' w' => e = .returned (.tuple #[]) ∧ u' = .returning ∧ w' = w := by
  refine callsD_of_wpS Try.func50 rfl fun c₀ cs hu => ?_
  apply wpS_seq
  apply wpS_region
  simp [wpOpsS, go_sem, recoverD, hu, Try.ntmps50, Exit.thenS]
  refine wpS_of_wp ?_
  simp only [List.size_toArray, List.length_cons, List.length_nil, Nat.reduceAdd, Nat.reduceSub, Array.replicate_succ, Array.replicate_zero, List.push_toArray, List.append_toArray, List.nil_append, List.cons_append, List.setIfInBounds_toArray, List.set_cons_succ, List.set_cons_zero]
  go_wp2
  cases c₀
  simp_all [bodyPostS, results, Try.results50]
def catchW (b1 b2 : Nat) (k : Int) (w : World) : World := ((w.setCell ⟨b1, 0, none⟩ (.pointer (some ⟨w.heap.size, 0, none⟩))).setCell ⟨b2, 0, none⟩ (.int .i64 k)).alloc (.cells zeroH 66)
set_option maxRecDepth 100000 in
theorem catch_err (b1 b2 : Nat) (k : Int) (v1 v2 : Value) (w : World) (h1 : RowAt w b1 60 #[v1]) (h2 : RowAt w b2 30 #[v2]) (hne : b1 ≠ b2) :
    CallsD Try.prog 50 #[.pointer (some ⟨b1, 0, none⟩), .pointer (some ⟨b2, 0, none⟩)] (.panicking (errX k)) w fun e u' w' =>
      e = .returned (.tuple #[]) ∧ u' = .panicking [{ v := .iface 30 (.int .i64 k), recovered := true }] ∧ w' = catchW b1 b2 k w := by
  have c1 := row1 h1
  have c2 := row1 h2
  have f1 := h1.frozen 0
  have f2 := h2.frozen 0
  have l1 := h1.lt
  have l2 := h2.lt
  have hne2 : ¬ b1 = b2 := hne
  have hne3 : ¬ b2 = b1 := fun h => hne h.symm
  refine callsD_of_wpS Try.func50 rfl fun c₀ cs hu => ?_
  apply wpS_seq
  apply wpS_region
  simp [wpOpsS, go_sem, recoverD, hu, Try.ntmps50, Exit.thenS, errX]
  refine wpS_of_wp ?_
  simp only [List.size_toArray, List.length_cons, List.length_nil, Nat.reduceAdd, Nat.reduceSub, Array.replicate_succ, Array.replicate_zero, List.push_toArray, List.append_toArray, List.nil_append, List.cons_append, List.setIfInBounds_toArray, List.set_cons_succ, List.set_cons_zero]
  go_wp2
  simp [bodyPostS, results, Try.results50, catchW]
theorem catchW_facts {b1 b2 : Nat} {k : Int} {v1 v2 : Value} {w : World} (h1 : RowAt w b1 60 #[v1]) (h2 : RowAt w b2 30 #[v2]) (hne : b1 ≠ b2) :
    RowAt (catchW b1 b2 k w) b1 60 #[.pointer (some ⟨w.heap.size, 0, none⟩)] ∧ RowAt (catchW b1 b2 k w) b2 30 #[.int .i64 k] ∧ RowAt (catchW b1 b2 k w) w.heap.size 66 zeroH ∧
      (∀ j, j ≠ b1 → j ≠ b2 → j < w.heap.size → (catchW b1 b2 k w).heap[j]? = w.heap[j]?) ∧ w.heap.size ≤ (catchW b1 b2 k w).heap.size ∧ (catchW b1 b2 k w).os = w.os ∧ (catchW b1 b2 k w).tape = w.tape ∧ (catchW b1 b2 k w).output = w.output := by
  have l1 := h1.lt
  have l2 := h2.lt
  have hb : ∀ w2 : World, Below w2.heap.size w2 (w2.alloc (.cells zeroH 66)) := fun w2 => (Below.refl _ _).alloc (Nat.le_refl _) _
  unfold catchW
  have hz := RowAt.new ((w.setCell ⟨b1, 0, none⟩ (.pointer (some ⟨w.heap.size, 0, none⟩))).setCell ⟨b2, 0, none⟩ (.int .i64 k)) 66 zeroH
  simp only [World.size_setCell] at hz
  refine ⟨((h1.set 0 _).setNe hne).below (hb _), ((h2.setNe (Ne.symm hne)).set 0 _).below (hb _), hz, fun j hj1 hj2 hl => ?_, by simp, rfl, rfl, rfl⟩
  rw [(hb _).block j (by simpa using hl), heap_setCell_ne _ _ _ _ (by simpa using hj2), heap_setCell_ne _ _ _ _ (by simpa using hj1)]
/-- All blocks below n but kl lie as they lay. -/
structure PastB (n kl : Nat) (w w' : World) : Prop where
  os : w'.os = w.os
  tape : w'.tape = w.tape
  output : w'.output = w.output
  size : w.heap.size ≤ w'.heap.size
  block : ∀ j, j < n → j ≠ kl → j < w.heap.size → w'.heap[j]? = w.heap[j]?
theorem PastB.refl (n kl : Nat) (w : World) : PastB n kl w w := ⟨rfl, rfl, rfl, Nat.le_refl _, fun _ _ _ _ => rfl⟩
theorem PastB.trans {n kl : Nat} {a b c : World} (h : PastB n kl a b) (g : PastB n kl b c) : PastB n kl a c :=
  ⟨g.os.trans h.os, g.tape.trans h.tape, g.output.trans h.output, Nat.le_trans h.size g.size, fun j h1 h2 hl => (g.block j h1 h2 (Nat.lt_of_lt_of_le hl h.size)).trans (h.block j h1 h2 hl)⟩
theorem PastB.of_below {n m kl : Nat} {a b : World} (h : Below m a b) (hm : n ≤ m) : PastB n kl a b := ⟨h.os, h.tape, h.output, h.size, fun j h1 _ _ => h.block j (by omega)⟩
theorem PastB.mono {n n' kl : Nat} {a b : World} (h : PastB n kl a b) (hn : n' ≤ n) : PastB n' kl a b := ⟨h.os, h.tape, h.output, h.size, fun j h1 h2 h3 => h.block j (by omega) h2 h3⟩
theorem PastB.row {n kl g : Nat} {a b : World} {t : TypeId} {cs : Array Value} (h : PastB n kl a b) (hr : RowAt a g t cs) (h1 : g < n) (h2 : g ≠ kl) : RowAt b g t cs := (h.block g h1 h2 hr.lt).trans hr
/-- What a closure comes to over the hand: either it has gone through, or it has left by an error. -/
def DoesRes (kl gh gl m c : Nat) (G : Ml → Bool → Int → World → Prop) (F : Int → Prop) (w : World) (e : Ending) (w' : World) : Prop :=
  PastB gh kl w w' ∧ ((e = .returned (.tuple #[]) ∧ ∃ ts g wh nx got, HAt w' gh gl m c ts g wh nx got ∧ G (mus ts) got nx w') ∨ (∃ k, e = .panicked (errX k) ∧ F k))
/-- What it comes to outside. -/
def TrRes (kl m : Nat) (G : Ml → Bool → Int → World → Prop) (F : Int → Prop) (W : World) (e : Ending) (W' : World) : Prop :=
  PastB W.heap.size kl W W' ∧ ((∃ gh gl c ts g wh nx got, e = .returned (.tuple #[.pointer (some ⟨gh, 0, none⟩), .int .i64 0]) ∧ HAt W' gh gl m c ts g wh nx got ∧ W.heap.size ≤ gh ∧ G (mus ts) got nx W') ∨
    (∃ gz k, e = .returned (.tuple #[.pointer (some ⟨gz, 0, none⟩), .int .i64 k]) ∧ RowAt W' gz 66 zeroH ∧ F k))
theorem tries_no (A : Option Addr) (c m g : Nat) (lb : Array Value) (ts : List Mm) (W : World) (h : RM W W.heap.size A m ts) (hs : SmallM ts) (ho : rightM (mus ts) = false) :
    Calls Try.prog 34 #[.slice A m c, .func (.func g) #[] lb] W fun e W' => (∃ gz, e = .returned (.tuple #[.pointer (some ⟨gz, 0, none⟩), .int .i64 150]) ∧ RowAt W' gz 66 zeroH) ∧ Below W.heap.size W W' := by
  go_enter_defers Try.func34, Try.ntmps34
  go_wp2_with fail
  obtain ⟨w2, hw2⟩ : ∃ w2, W.alloc (.cells #[.pointer none] 60) = w2 := ⟨_, rfl⟩
  obtain ⟨w3, hw3⟩ : ∃ w3, w2.alloc (.cells #[.int .i64 0] 30) = w3 := ⟨_, rfl⟩
  have s2 : w2.heap.size = W.heap.size + 1 := by rw [← hw2]; simp
  have b2 : Below W.heap.size W w2 := by rw [← hw2]; exact (Below.refl _ _).alloc (Nat.le_refl _) _
  have b3 : Below w2.heap.size w2 w3 := by rw [← hw3]; exact (Below.refl _ _).alloc (Nat.le_refl _) _
  have r2 : RowAt w3 W.heap.size 60 #[.pointer none] := by have h := RowAt.new W 60 #[.pointer none]; rw [hw2] at h; exact h.below b3
  have r3 : RowAt w3 (W.heap.size + 1) 30 #[.int .i64 0] := by have h := RowAt.new w2 30 #[.int .i64 0]; rw [hw3, s2] at h; exact h
  have hb0 : Below W.heap.size W w3 := b2.trans (b3.mono b2.size)
  rw [hw2, hw3]
  have HC := hide (check_any W.heap.size A c m ts w3 (h.below hb0) hs hb0.size 150 (by rw [ho]; rfl))
  have HB := hide hb0
  have R2 := hide r2
  have R3 := hide r3
  clear hw2 hw3 b2 b3 hb0 r2 r3 h ho hs s2
  refine HC.out.mono ?_
  rintro e w4 ⟨rfl, hb⟩
  have R2 := hide (R2.out.below hb)
  have R3 := hide (R3.out.below hb)
  have HB := hide (HB.out.trans (hb.mono HB.out.size))
  clear hb
  go_wp2_with fail
  refine (need_no 150 _).mono ?_
  rintro e w5 ⟨rfl, rfl⟩
  dsimp only
  refine leaves_cons (f := 50) (args := #[.pointer (some ⟨W.heap.size, 0, none⟩), .pointer (some ⟨W.heap.size + 1, 0, none⟩)]) (by simp) (by simp [go_sem]) ?_
  refine (catch_err W.heap.size (W.heap.size + 1) 150 _ _ w4 R2.out R3.out (by omega)).mono ?_
  rintro e u' w'' ⟨rfl, rfl, rfl⟩
  obtain ⟨h1, h2, h3, h4, h5, h6, h7, h8⟩ := catchW_facts (k := 150) R2.out R3.out (by omega)
  have hfin : Below W.heap.size W (catchW W.heap.size (W.heap.size + 1) 150 w4) := ⟨h6.trans HB.out.os, h7.trans HB.out.tape, h8.trans HB.out.output, Nat.le_trans HB.out.size h5, fun j hj => (h4 j (by omega) (by omega) (Nat.lt_of_lt_of_le hj HB.out.size)).trans (HB.out.block j hj)⟩
  generalize catchW W.heap.size (W.heap.size + 1) 150 w4 = w9 at *
  simp [Leaves, settle, results, Try.results34, go_sem, row1 h1, row1 h2, h1.lt, h2.lt]
  exact ⟨h3, hfin⟩
-- tries_yes
theorem sS_below {W w w' : World} {gh gm : Nat} {v : Value} {who : Int} {tA : Option Addr} {tn tc : Nat} (h : w.cell? ⟨W.heap.size, 0, none⟩ = some (.pointer (some ⟨gh, 0, none⟩)) ∧ w.cell? ⟨gh, 0, none⟩ = some v ∧ w.cell? ⟨gm, 0, none⟩ = some (.int .i64 who) ∧ w.cell? ⟨gm, 1, none⟩ = some (.slice tA tn tc) ∧ W.heap.size < w.heap.size ∧ gh < w.heap.size ∧ gm < w.heap.size) (hb : Below w.heap.size w w') : w'.cell? ⟨W.heap.size, 0, none⟩ = some (.pointer (some ⟨gh, 0, none⟩)) ∧ w'.cell? ⟨gh, 0, none⟩ = some v ∧ w'.cell? ⟨gm, 0, none⟩ = some (.int .i64 who) ∧ w'.cell? ⟨gm, 1, none⟩ = some (.slice tA tn tc) ∧ W.heap.size < w'.heap.size ∧ gh < w'.heap.size ∧ gm < w'.heap.size :=
  ⟨(hb.cell (p := ⟨W.heap.size, 0, none⟩) h.2.2.2.2.1).trans h.1, (hb.cell (p := ⟨gh, 0, none⟩) h.2.2.2.2.2.1).trans h.2.1, (hb.cell (p := ⟨gm, 0, none⟩) h.2.2.2.2.2.2).trans h.2.2.1, (hb.cell (p := ⟨gm, 1, none⟩) h.2.2.2.2.2.2).trans h.2.2.2.1, Nat.lt_of_lt_of_le h.2.2.2.2.1 hb.size, Nat.lt_of_lt_of_le h.2.2.2.2.2.1 hb.size, Nat.lt_of_lt_of_le h.2.2.2.2.2.2 hb.size⟩
theorem sS_grown {W w w' : World} {gh gm : Nat} {v : Value} {who : Int} {tA : Option Addr} {tn tc : Nat} (h : w.cell? ⟨W.heap.size, 0, none⟩ = some (.pointer (some ⟨gh, 0, none⟩)) ∧ w.cell? ⟨gh, 0, none⟩ = some v ∧ w.cell? ⟨gm, 0, none⟩ = some (.int .i64 who) ∧ w.cell? ⟨gm, 1, none⟩ = some (.slice tA tn tc) ∧ W.heap.size < w.heap.size ∧ gh < w.heap.size ∧ gm < w.heap.size) (hb : w.grownBy w' v.ownBlock) (hv : some W.heap.size ≠ v.ownBlock ∧ some gh ≠ v.ownBlock ∧ some gm ≠ v.ownBlock) : w'.cell? ⟨W.heap.size, 0, none⟩ = some (.pointer (some ⟨gh, 0, none⟩)) ∧ w'.cell? ⟨gh, 0, none⟩ = some v ∧ w'.cell? ⟨gm, 0, none⟩ = some (.int .i64 who) ∧ w'.cell? ⟨gm, 1, none⟩ = some (.slice tA tn tc) ∧ W.heap.size < w'.heap.size ∧ gh < w'.heap.size ∧ gm < w'.heap.size :=
  ⟨(cell_of_heap (p := ⟨W.heap.size, 0, none⟩) (hb.block _ h.2.2.2.2.1 hv.1)).trans h.1, (cell_of_heap (p := ⟨gh, 0, none⟩) (hb.block _ h.2.2.2.2.2.1 hv.2.1)).trans h.2.1, (cell_of_heap (p := ⟨gm, 0, none⟩) (hb.block _ h.2.2.2.2.2.2 hv.2.2)).trans h.2.2.1, (cell_of_heap (p := ⟨gm, 1, none⟩) (hb.block _ h.2.2.2.2.2.2 hv.2.2)).trans h.2.2.2.1, Nat.lt_of_lt_of_le h.2.2.2.2.1 hb.size, Nat.lt_of_lt_of_le h.2.2.2.2.2.1 hb.size, Nat.lt_of_lt_of_le h.2.2.2.2.2.2 hb.size⟩
theorem clone_qok {w wq : World} {gh : Nat} {who : Int} {A : Option Addr} {tn c : Nat} {q : List Int} {v : Value} (h : wq.ownsRow w.heap.size 3 1 (.slice A tn c) tn (Cs encI q)) (hn : q.length = tn) (hc : tn ≤ c) (hcm : c ≤ 9223372036854775807) (hg : gh + 1 ≤ w.heap.size) (hv : ∀ g, v.ownBlock = some g → g < w.heap.size) : QOk (gh + 1) wq v.ownBlock ⟨who, A, c, q⟩ := by
  refine ⟨by dsimp only; rw [hn]; exact Rd.of_own h, ⟨by dsimp only; omega, hcm⟩, fun p hp => ?_⟩
  have hp : A = some p := hp
  subst hp
  rcases h.2 with ⟨h1, _⟩ | ⟨gg, cap, cur, hv1, hge, hh, _⟩
  · injection h1 with h1; cases h1
  · injection hv1 with h1
    injection h1 with h1
    subst h1
    refine ⟨Nat.le_trans hg hge, (Array.getElem?_eq_some_iff.1 hh).1, fun e => ?_, cur, hh⟩
    have := hv gg e.symm
    omega
/-- While the mutexes are copied. -/
structure CpAt (W w : World) (gh : Nat) (v : Value) (us : List Mm) (l : Ml) : Prop where
  ptr : RowAt w W.heap.size 60 #[.pointer (some ⟨gh, 0, none⟩)]
  err : RowAt w (W.heap.size + 1) 30 #[.int .i64 0]
  box : RowAt w gh 66 #[v, .int .i64 0, .int .i64 0, .bool false, .int .i64 0]
  made : MadeM (gh + 1) w v us
  mus : mus us = l
  below : Below W.heap.size W w
theorem CpAt.keep {W w w' : World} {gh : Nat} {v : Value} {us : List Mm} {l : Ml} (h : CpAt W w gh v us l) (hb : Below w.heap.size w w') : CpAt W w' gh v us l := ⟨h.ptr.below hb, h.err.below hb, h.box.below hb, h.made.below hb, h.mus, h.below.trans (hb.mono h.below.size)⟩
set_option maxHeartbeats 4000000 in
theorem tries_yes (kl m : Nat) (A : Option Addr) (c g : Nat) (lb : Array Value) (ts : List Mm) (W : World) (hg : ∀ args w, (callFunc g args).run Try.prog w = .ok (.enter g args) w) (h : RM W W.heap.size A m ts) (hs : SmallM ts) (ho : rightM (mus ts) = true)
    (G : Ml → Bool → Int → World → Prop) (F : Int → Prop) (hG : ∀ l b n w w', G l b n w → w'.heap[kl]? = w.heap[kl]? → G l b n w') (hkl : kl < W.heap.size)
    (HC : ∀ w gh gl c ts2, HAt w gh gl m c ts2 0 0 0 false → mus ts2 = mus ts → Below W.heap.size W w → W.heap.size < gh → Calls Try.prog g (#[.pointer (some ⟨gh, 0, none⟩)] ++ lb) w (DoesRes kl gh gl m c G F w)) :
    Calls Try.prog 34 #[.slice A m c, .func (.func g) #[] lb] W (TrRes kl m G F W) := by
  have HR := hide (rightM_iff.1 ho)
  have HL := hide h.len
  have hm1 : 1 ≤ m := by have := HR.out.lo; rw [mus_len, HL.out] at this; exact this
  have hm160 : m ≤ 160 := by have := HR.out.hi; rw [mus_len, HL.out] at this; exact this
  have HCL0 := hide HC
  have HGG := hide hG
  have H := hide h
  have HS := hide hs
  clear HC hG h hs
  go_enter_defers Try.func34, Try.ntmps34
  go_wp2_with fail
  obtain ⟨w2, hw2⟩ : ∃ w2, W.alloc (.cells #[.pointer none] 60) = w2 := ⟨_, rfl⟩
  obtain ⟨w3, hw3⟩ : ∃ w3, w2.alloc (.cells #[.int .i64 0] 30) = w3 := ⟨_, rfl⟩
  have s2 : w2.heap.size = W.heap.size + 1 := by rw [← hw2]; simp
  have b2 : Below W.heap.size W w2 := by rw [← hw2]; exact (Below.refl _ _).alloc (Nat.le_refl _) _
  have b3 : Below w2.heap.size w2 w3 := by rw [← hw3]; exact (Below.refl _ _).alloc (Nat.le_refl _) _
  have r2 : RowAt w3 W.heap.size 60 #[.pointer none] := by have h := RowAt.new W 60 #[.pointer none]; rw [hw2] at h; exact h.below b3
  have r3 : RowAt w3 (W.heap.size + 1) 30 #[.int .i64 0] := by have h := RowAt.new w2 30 #[.int .i64 0]; rw [hw3, s2] at h; exact h
  have hb0 : Below W.heap.size W w3 := b2.trans (b3.mono b2.size)
  rw [hw2, hw3]
  have HC := hide (check_any W.heap.size A c m ts w3 (H.out.below hb0) HS.out hb0.size 0 (by rw [ho]; rfl))
  have HB := hide hb0
  have R2 := hide r2
  have R3 := hide r3
  clear hw2 hw3 b2 b3 hb0 r2 r3 ho s2
  refine HC.out.mono ?_
  rintro e w4 ⟨rfl, hb⟩
  have R2 := hide (R2.out.below hb)
  have R3 := hide (R3.out.below hb)
  have HB := hide (HB.out.trans (hb.mono HB.out.size))
  clear hb HC
  go_wp2_with fail
  refine (need_ok 150 _).mono ?_
  rintro e w5 ⟨rfl, rfl⟩
  dsimp only
  have p0 := row1 R2.out
  have pl := R2.out.lt
  have pf := R2.out.frozen 0
  obtain ⟨gh, hgh⟩ : ∃ gh, w4.heap.size = gh := ⟨_, rfl⟩
  have HCP := hide (show CpAt W ((w4.setCell ⟨W.heap.size, 0, none⟩ (.pointer (some ⟨gh, 0, none⟩))).alloc (.cells zeroH 66)) gh (.slice none 0 0) [] [] from by
    have hba : ∀ w : World, Below w.heap.size w (w.alloc (.cells zeroH 66)) := fun w => (Below.refl _ _).alloc (Nat.le_refl _) _
    have hz := RowAt.new (w4.setCell ⟨W.heap.size, 0, none⟩ (.pointer (some ⟨gh, 0, none⟩))) 66 zeroH
    rw [World.size_setCell, hgh] at hz
    exact ⟨(R2.out.set 0 _).below (hba _), (R3.out.setNe (by omega)).below (hba _), hz, MadeM.nil _ _, rfl, ((HB.out.setCell (p := ⟨W.heap.size, 0, none⟩) (Nat.le_refl _) _).trans ((hba _).mono (by simp; exact HB.out.size)))⟩)
  have HGH := hide (show W.heap.size + 1 < gh from by rw [← hgh]; exact R3.out.lt)
  dsimp only [zeroH] at HCP
  have HGE := hide hgh
  clear hgh
  go_upto_region 4 with (fail)
  rw [HGE.out]
  clear HGE p0 pl pf R2 R3 HB
  generalize ((w4.setCell ⟨W.heap.size, 0, none⟩ (.pointer (some ⟨gh, 0, none⟩))).alloc (.cells #[.slice none 0 0, .int .i64 0, .int .i64 0, .bool false, .int .i64 0] 66)) = w6 at *
  go_wp2_with fail
  go_loopw [17] (fun i wr => ∃ (k : Nat) (v : Value) (us : List Mm), k ≤ m ∧ i = .int .i64 k ∧ us.length = k ∧ CpAt W wr gh v us (mus (ts.take k))) (fun i _ => m - (intOf i).toNat)
  case atStart => exact ⟨0, _, [], Nat.zero_le _, rfl, rfl, HCP.out⟩
  case round =>
    obtain ⟨k, v, us, hk, rfl, hul, hcp⟩ := hrel
    have HUL := hide hul
    have HCK := hide hcp
    clear hul hcp
    by_cases hlt : k < m
    · have hlx : k < ts.length := by rw [HL.out]; exact hlt
      obtain ⟨b, o, rfl, hb, d0, d1, hq⟩ := (H.out.below HCK.out.below).at_ hlt
      have hbl : b < wr.heap.size := Nat.lt_of_lt_of_le hb HCK.out.below.size
      have hkm : (k : Int) < (m : Int) := by omega
      have hql := HS.out.2 _ (getM_mem hlx)
      have HTK := hide (show mus (ts.take (k + 1)) = mus (ts.take k) ++ [(ts.getD k mmZ).mu] from by rw [takeM_succ hlx]; simp [mus])
      generalize ts.getD k mmZ = t at *
      obtain ⟨who, tA, tc, tq⟩ := t
      dsimp only at *
      obtain ⟨tn, htn⟩ : ∃ n, tq.length = n := ⟨_, rfl⟩
      rw [htn] at d1 hq hql
      have HN := hide htn
      clear htn
      have HBN := hide (show Below wr.heap.size wr (wr.alloc (.cells #[.int .i64 who, .slice tA tn tc] 47)) from (Below.refl _ _).alloc (Nat.le_refl _) _)
      have HQ := hide ((hq.more HCK.out.below.size).below HBN.out)
      have HRN := hide (RowAt.new wr 47 #[.int .i64 who, .slice tA tn tc])
      have HC5 := hide (HCK.out.keep HBN.out)
      have HVO := hide (show ∀ g, v.ownBlock = some g → gh + 1 ≤ g ∧ g < wr.heap.size from fun g hg => HCK.out.made.own.lt g hg)
      have HG0 := hide (show gh < wr.heap.size from HCK.out.box.lt)
      clear hb hq
      go_upto_region 7 with (fail)
      obtain ⟨gm, hgm⟩ : ∃ gm, wr.heap.size = gm := ⟨_, rfl⟩
      rw [hgm] at HQ HRN HVO HG0 ⊢
      have HSZ := hide (show gm ≤ (wr.alloc (.cells #[.int .i64 who, .slice tA tn tc] 47)).heap.size from by rw [← hgm]; exact HBN.out.size)
      clear hgm
      generalize wr.alloc (.cells #[.int .i64 who, .slice tA tn tc] 47) = w5 at *
      have HS5 := hide (show w5.drew.cell? ⟨W.heap.size, 0, none⟩ = some (.pointer (some ⟨gh, 0, none⟩)) ∧ w5.drew.cell? ⟨gh, 0, none⟩ = some v ∧ w5.drew.cell? ⟨gm, 0, none⟩ = some (.int .i64 who) ∧ w5.drew.cell? ⟨gm, 1, none⟩ = some (.slice tA tn tc) ∧ W.heap.size < w5.drew.heap.size ∧ gh < w5.drew.heap.size ∧ gm < w5.drew.heap.size from ⟨row1 HC5.out.ptr, row50 HC5.out.box, row20 HRN.out, row21 HRN.out, HC5.out.ptr.lt, HC5.out.box.lt, HRN.out.lt⟩)
      have HSD : Hid (w5.drew.cell? ⟨W.heap.size, 0, none⟩ = some (.pointer (some ⟨gh, 0, none⟩)) ∧ w5.drew.cell? ⟨gh, 0, none⟩ = some v ∧ w5.drew.cell? ⟨gm, 0, none⟩ = some (.int .i64 who) ∧ w5.drew.cell? ⟨gm, 1, none⟩ = some (.slice tA tn tc) ∧ W.heap.size < w5.drew.heap.size ∧ gh < w5.drew.heap.size ∧ gm < w5.drew.heap.size) := hide HS5.out
      have HCD := hide (HC5.out.keep (Below.refl _ _).drew)
      have HMD := hide HCD.out.made
      have HHD := hide HCD.out.box
      have HCL := hide (CloneI w5.drew.heap.size tA tn tc _ w5.drew (HQ.out.more HSZ.out) (Nat.le_refl _) (Cs_one_cell encI_one _) hql)
      have HGD := hide (show gh + 1 ≤ w5.drew.heap.size from HC5.out.box.lt)
      have HVD := hide (show ∀ g, v.ownBlock = some g → g < w5.drew.heap.size from fun g hg => Nat.lt_of_lt_of_le (HVO.out g hg).2 HSZ.out)
      have HVL := hide (show some W.heap.size ≠ v.ownBlock ∧ some gh ≠ v.ownBlock ∧ some gm ≠ v.ownBlock from ⟨fun e => by have := (HVO.out _ e.symm).1; have := HGH.out; omega, fun e => by have := (HVO.out _ e.symm).1; omega, fun e => by have := (HVO.out _ e.symm).2; omega⟩)
      refine wp_region_noPanic ?_
      refine wp_region_T (fun wX => wX.cell? ⟨W.heap.size, 0, none⟩ = some (.pointer (some ⟨gh, 0, none⟩)) ∧ wX.cell? ⟨gh, 0, none⟩ = some v ∧ wX.cell? ⟨gm, 0, none⟩ = some (.int .i64 who) ∧ wX.cell? ⟨gm, 1, none⟩ = some (.slice tA tn tc) ∧ W.heap.size < wX.heap.size ∧ gh < wX.heap.size ∧ gm < wX.heap.size) 17 (by kernel_rfl) (HS5.out) (fun hHeld => ?_)
      (refine wpAnyT_take (i := 0) (v := ?_) rfl (by kernel_rfl) (by kernel_rfl) (by kernel_rfl) (by kernel_rfl) (fun _ _ _ h => h) (Or.inl ⟨by rfl, ?_⟩) (by assumption) ?_; rotate_left; (focus (intro w hSw; (try dsimp only at hSw); obtain ⟨kf0, kf1, kf2, kf3, kf4, kf5, kf6⟩ := hSw; go_simp; first | done | with_reducible rfl)); (try simp only [Act.put, List.getElem_toArray, List.getElem_cons_succ, List.getElem_cons_zero, List.setIfInBounds_toArray, List.set_cons_zero, List.set_cons_succ]))
      (refine wpAnyT_take (i := 1) (v := ?_) rfl (by kernel_rfl) (by kernel_rfl) (by kernel_rfl) (by kernel_rfl) (fun _ _ _ h => h) (Or.inl ⟨by rfl, ?_⟩) (by assumption) ?_; rotate_left; (focus (intro w hSw; (try dsimp only at hSw); obtain ⟨kf0, kf1, kf2, kf3, kf4, kf5, kf6⟩ := hSw; go_simp; first | done | with_reducible rfl)); (try simp only [Act.put, List.getElem_toArray, List.getElem_cons_succ, List.getElem_cons_zero, List.setIfInBounds_toArray, List.set_cons_zero, List.set_cons_succ]))
      (refine wpAnyT_take (i := 2) (v := ?_) rfl (by kernel_rfl) (by kernel_rfl) (by kernel_rfl) (by kernel_rfl) (fun _ _ _ h => h) (Or.inl ⟨by rfl, ?_⟩) (by assumption) ?_; rotate_left; (focus (intro w hSw; (try dsimp only at hSw); obtain ⟨kf0, kf1, kf2, kf3, kf4, kf5, kf6⟩ := hSw; go_simp; first | done | with_reducible rfl)); (try simp only [Act.put, List.getElem_toArray, List.getElem_cons_succ, List.getElem_cons_zero, List.setIfInBounds_toArray, List.set_cons_zero, List.set_cons_succ]))
      (refine wpAnyT_take (i := 3) (v := ?_) rfl (by kernel_rfl) (by kernel_rfl) (by kernel_rfl) (by kernel_rfl) (fun _ _ _ h => h) (Or.inl ⟨by rfl, ?_⟩) (by assumption) ?_; rotate_left; (focus (intro w hSw; (try dsimp only at hSw); obtain ⟨kf0, kf1, kf2, kf3, kf4, kf5, kf6⟩ := hSw; go_simp; first | done | with_reducible rfl)); (try simp only [Act.put, List.getElem_toArray, List.getElem_cons_succ, List.getElem_cons_zero, List.setIfInBounds_toArray, List.set_cons_zero, List.set_cons_succ]))
      (refine wpAnyT_take (i := 4) (v := ?_) rfl (by kernel_rfl) (by kernel_rfl) (by kernel_rfl) (by kernel_rfl) (fun _ _ _ h => h) (Or.inl ⟨by rfl, ?_⟩) (by assumption) ?_; rotate_left; (focus (intro w hSw; (try dsimp only at hSw); obtain ⟨kf0, kf1, kf2, kf3, kf4, kf5, kf6⟩ := hSw; go_simp; first | done | with_reducible rfl)); (try simp only [Act.put, List.getElem_toArray, List.getElem_cons_succ, List.getElem_cons_zero, List.setIfInBounds_toArray, List.set_cons_zero, List.set_cons_succ]))
      (refine wpAnyT_take (i := 5) (v := ?_) rfl (by kernel_rfl) (by kernel_rfl) (by kernel_rfl) (by kernel_rfl) (fun _ _ _ h => h) (Or.inl ⟨by rfl, ?_⟩) (by assumption) ?_; rotate_left; (focus (intro w hSw; (try dsimp only at hSw); obtain ⟨kf0, kf1, kf2, kf3, kf4, kf5, kf6⟩ := hSw; go_simp; first | done | with_reducible rfl)); (try simp only [Act.put, List.getElem_toArray, List.getElem_cons_succ, List.getElem_cons_zero, List.setIfInBounds_toArray, List.set_cons_zero, List.set_cons_succ]))
      (refine wpAnyT_take (i := 6) (v := ?_) rfl (by kernel_rfl) (by kernel_rfl) (by kernel_rfl) (by kernel_rfl) (fun _ _ _ h => h) (Or.inl ⟨by rfl, ?_⟩) (by assumption) ?_; rotate_left; (focus (intro w hSw; (try dsimp only at hSw); obtain ⟨kf0, kf1, kf2, kf3, kf4, kf5, kf6⟩ := hSw; go_simp; first | done | with_reducible rfl)); (try simp only [Act.put, List.getElem_toArray, List.getElem_cons_succ, List.getElem_cons_zero, List.setIfInBounds_toArray, List.set_cons_zero, List.set_cons_succ]))
      (refine wpAnyT_take (i := 7) (v := ?_) rfl (by kernel_rfl) (by kernel_rfl) (by kernel_rfl) (by kernel_rfl) (fun _ _ _ h => h) (Or.inl ⟨by rfl, ?_⟩) (by assumption) ?_; rotate_left; (focus (intro w hSw; (try dsimp only at hSw); obtain ⟨kf0, kf1, kf2, kf3, kf4, kf5, kf6⟩ := hSw; go_simp; first | done | with_reducible rfl)); (try simp only [Act.put, List.getElem_toArray, List.getElem_cons_succ, List.getElem_cons_zero, List.setIfInBounds_toArray, List.set_cons_zero, List.set_cons_succ]))
      (refine wpAnyT_take (i := 8) (v := ?_) rfl (by kernel_rfl) (by kernel_rfl) (by kernel_rfl) (by kernel_rfl) (fun _ _ _ h => h) (Or.inl ⟨by rfl, ?_⟩) (by assumption) ?_; rotate_left; (focus (intro w hSw; (try dsimp only at hSw); obtain ⟨kf0, kf1, kf2, kf3, kf4, kf5, kf6⟩ := hSw; go_simp; first | done | with_reducible rfl)); (try simp only [Act.put, List.getElem_toArray, List.getElem_cons_succ, List.getElem_cons_zero, List.setIfInBounds_toArray, List.set_cons_zero, List.set_cons_succ]))
      (refine wpAnyT_take (i := 9) (v := ?_) rfl (by kernel_rfl) (by kernel_rfl) (by kernel_rfl) (by kernel_rfl) (fun _ _ _ h => h) (Or.inl ⟨by rfl, ?_⟩) (by assumption) ?_; rotate_left; (focus (intro w hSw; (try dsimp only at hSw); obtain ⟨kf0, kf1, kf2, kf3, kf4, kf5, kf6⟩ := hSw; go_simp; first | done | with_reducible rfl)); (try simp only [Act.put, List.getElem_toArray, List.getElem_cons_succ, List.getElem_cons_zero, List.setIfInBounds_toArray, List.set_cons_zero, List.set_cons_succ]))
      generalize w5.drew = wd at *
      refine wpAnyT_one (i := 10) rfl (by kernel_rfl) (fun K0 hK0 => ?_)
      go_simp
      with_reducible refine HCL.out.mono ?_
      rintro e wq ⟨vc, rfl, hownq, hbq⟩
      obtain ⟨Ac, cc, rfl, hcc, hccm⟩ := own_form2 hownq
      have HWQ := hide hownq
      have HBQ := hide hbq
      have HSQ := hide (sS_below HSD.out hbq)
      clear hownq hbq
      refine hK0.out _ _ (fun _ => HSQ.out) ?_
      clear hK0 K0
      (try simp only [Act.put, List.getElem_toArray, List.getElem_cons_succ, List.getElem_cons_zero, List.setIfInBounds_toArray, List.set_cons_zero, List.set_cons_succ])
      (refine wpAnyT_take (i := 11) (v := ?_) rfl (by kernel_rfl) (by kernel_rfl) (by kernel_rfl) (by kernel_rfl) (fun _ _ _ h => h) (Or.inl ⟨by rfl, ?_⟩) (by assumption) ?_; rotate_left; (focus (intro w hSw; (try dsimp only at hSw); obtain ⟨kf0, kf1, kf2, kf3, kf4, kf5, kf6⟩ := hSw; go_simp; first | done | with_reducible rfl)); (try simp only [Act.put, List.getElem_toArray, List.getElem_cons_succ, List.getElem_cons_zero, List.setIfInBounds_toArray, List.set_cons_zero, List.set_cons_succ]))
      have HBL := hide (show Below wq.heap.size wq (wq.alloc (.cells #[.int .i64 who, .slice Ac tn cc] 47)) from (Below.refl _ _).alloc (Nat.le_refl _) _)
      have HSL := hide (sS_below HSQ.out HBL.out)
      have HML := hide ((HMD.out.below HBQ.out).below HBL.out)
      have HQL := hide (show QOk (gh + 1) (wq.alloc (.cells #[.int .i64 who, .slice Ac tn cc] 47)) v.ownBlock ⟨who, Ac, cc, tq⟩ from (clone_qok HWQ.out HN.out hcc hccm HGD.out HVD.out).below HBL.out)
      have HSRC := hide (Rd.new wq #[.int .i64 who, .slice Ac tn cc] 47 2 1 rfl)
      refine wpAnyT_one (i := 12) rfl (by kernel_rfl) (fun K1 hK1 => ?_)
      go_simp
      refine hK1.out _ _ (fun _ => HSL.out) ?_
      clear hK1 K1
      (try simp only [Act.put, List.getElem_toArray, List.getElem_cons_succ, List.getElem_cons_zero, List.setIfInBounds_toArray, List.set_cons_zero, List.set_cons_succ])
      have HGL := hide (show gh + 1 ≤ (wq.alloc (.cells #[.int .i64 who, .slice Ac tn cc] 47)).heap.size from HSL.out.2.2.2.2.2.1)
      have HZL := hide (show (wq.alloc (.cells #[.int .i64 who, .slice Ac tn cc] 47)).heap.size = wq.heap.size + 1 from World.size_alloc _ _)
      have HBD := hide (HBQ.out.trans (HBL.out.mono HBQ.out.size))
      generalize wq.alloc (.cells #[.int .i64 who, .slice Ac tn cc] 47) = wl at *
      refine wpAnyT_one (i := 13) rfl (by kernel_rfl) (fun K2 hK2 => ?_)
      rw [if_pos (by rfl)]
      refine wp_app elM _ _ rfl rfl HML.out.own rfl HSRC.out (by simp [Value.oneCell']) (by have := HUL.out; omega) HGL.out ?_
      intro v2 wB hownB hbB hgB hvB
      obtain ⟨A2, c2, rfl, hcq2, hcqm2⟩ := own_form2 hownB
      have HNW := hide (HML.out.app HQL.out (by simpa [encM, HN.out] using hownB) hgB hvB hgB.size)
      have HSB := hide (sS_grown HSL.out hgB HVL.out)
      have HRP := hide (fun (g0 : Nat) (t : TypeId) (cs : Array Value) (hr : RowAt wl g0 t cs) (h0 : g0 < gh + 1) => hr.belowB h0 hbB)
      have HBB := hide hbB
      clear hownB hbB hgB hvB
      refine hK2.out _ _ (fun _ => HSB.out) ?_
      clear hK2 K2
      (try simp only [Act.put, List.getElem_toArray, List.getElem_cons_succ, List.getElem_cons_zero, List.setIfInBounds_toArray, List.set_cons_zero, List.set_cons_succ])
      refine wpAnyT_one (i := 14) rfl (by kernel_rfl) (fun K3 hK3 => ?_)
      go_simp
      refine hK3.out _ _ (fun _ => HSB.out) ?_
      clear hK3 K3
      (try simp only [Act.put, List.getElem_toArray, List.getElem_cons_succ, List.getElem_cons_zero, List.setIfInBounds_toArray, List.set_cons_zero, List.set_cons_succ])
      refine wpAnyT_one (i := 15) rfl (by kernel_rfl) (fun K4 hK4 => ?_)
      go_simp
      refine hK4.out _ _ (fun _ => HSB.out) ?_
      clear hK4 K4
      (try simp only [Act.put, List.getElem_toArray, List.getElem_cons_succ, List.getElem_cons_zero, List.setIfInBounds_toArray, List.set_cons_zero, List.set_cons_succ])
      refine wpAnyT_one (i := 16) rfl (by kernel_rfl) (fun K5 hK5 => ?_)
      go_simp
      refine hK5.out _ _ (fun _ => HSB.out) ?_
      clear hK5 K5
      (try simp only [Act.put, List.getElem_toArray, List.getElem_cons_succ, List.getElem_cons_zero, List.setIfInBounds_toArray, List.set_cons_zero, List.set_cons_succ])
      have b1 := HSB.out.2.1
      have b2 := HSB.out.2.2.2.2.2.1
      have HRH := hide (HRP.out gh _ _ ((HHD.out.below HBD.out)) (Nat.lt_succ_self _))
      have b3 := HRH.out.frozen 0
      refine wpAnyT_one (i := 17) rfl (by kernel_rfl) (fun K6 hK6 => ?_)
      go_simp
      refine hK6.out _ _ (fun h => absurd rfl h) ?_
      clear hK6 K6
      (try simp only [Act.put, List.getElem_toArray, List.getElem_cons_succ, List.getElem_cons_zero, List.setIfInBounds_toArray, List.set_cons_zero, List.set_cons_succ])
      refine wpAnyT_done (by kernel_rfl) ?_ _
      refine NoPanic.normal ?_
      have HN9 := hide (show CpAt W (wB.setCell ⟨gh, 0, none⟩ (.slice A2 (us.length + 1) c2)) gh (.slice A2 (us.length + 1) c2) (us ++ [⟨who, Ac, cc, tq⟩]) (mus (ts.take (k + 1))) from
        ⟨(HRP.out _ _ _ (HCD.out.ptr.below HBD.out) (by have := HGH.out; omega)).setNe (by have := HGH.out; omega), (HRP.out _ _ _ (HCD.out.err.below HBD.out) (by have := HGH.out; omega)).setNe (by have := HGH.out; omega), by have h := HRH.out.set 0 (.slice A2 (us.length + 1) c2); simpa using h,
          HNW.out.other (by simp) (fun j hj _ => heap_setCell_ne _ _ _ _ (by show j ≠ gh; omega)), by rw [HTK.out, ← HCD.out.mus]; simp [mus, Mm.mu],
          ((HCD.out.below.trans (HBD.out.mono HCD.out.below.size)).trans (HBB.out.mono (by have := HGH.out; omega))).setCell (p := ⟨gh, 0, none⟩) (by have := HGH.out; show W.heap.size ≤ gh; omega) _⟩)
      have HUN := hide (show (us ++ [(⟨who, Ac, cc, tq⟩ : Mm)]).length = k + 1 from by rw [List.length_append, HUL.out]; rfl)
      generalize (wB.setCell ⟨gh, 0, none⟩ (.slice A2 (us.length + 1) c2)) = w9 at *
      go_wp2_with fail
      go_roundw
      case rel => exact ⟨k + 1, _, _, by omega, by go_num, HUN.out, HN9.out⟩
      case measure => simp [intOf]; omega
    · obtain rfl : k = m := by omega
      have hl2 : mus (ts.take k) = mus ts := by rw [List.take_of_length_le (by rw [HL.out]; exact Nat.le_refl _)]
      have hcp := HCK.out
      rw [hl2] at hcp
      obtain ⟨gl, cap, hv, hge, hgl⟩ := hcp.made.own.form (by rw [HUL.out]; omega)
      rw [HUL.out] at hv
      subst hv
      have HCA := hide (HCL0.out wr gh gl cap us ⟨hcp.box, hcp.made, HUL.out⟩ hcp.mus hcp.below (by have := HGH.out; omega))
      have HCK := hide hcp
      have p0 := row1 hcp.ptr
      have pl := hcp.ptr.lt
      clear hcp hl2 HCL0
      go_wp2_with fail
      refine HCA.out.mono ?_
      rintro e w9 ⟨hp9, hres⟩
      have hgh := HGH.out
      have R2 := hide (hp9.row HCK.out.ptr (by omega) (by omega))
      have R3 := hide (hp9.row HCK.out.err (by omega) (by omega))
      have HP9 := hide ((PastB.of_below (kl := kl) HCK.out.below (Nat.le_refl W.heap.size)).trans (hp9.mono (by omega)))
      have HFIN : Hid (∀ v1 v2, PastB W.heap.size kl W ((w9.setCell ⟨W.heap.size, 0, none⟩ v1).setCell ⟨W.heap.size + 1, 0, none⟩ v2)) := hide (fun v1 v2 => ⟨HP9.out.os, HP9.out.tape, HP9.out.output, by simp; exact HP9.out.size, fun j hj hk hl => by
        rw [heap_setCell_ne _ _ _ _ (by show j ≠ W.heap.size + 1; omega), heap_setCell_ne _ _ _ _ (by show j ≠ W.heap.size; omega)]
        exact HP9.out.block j hj hk hl⟩)
      have c2 := row1 R2.out
      have c3 := row1 R3.out
      have f2 := R2.out.frozen 0
      have f3 := R3.out.frozen 0
      have l2 := R2.out.lt
      have l3 := R3.out.lt
      clear hp9 p0 pl HCA HCK
      rcases hres with ⟨rfl, ts9, g9, wh9, nx9, got9, hat, hG9⟩ | ⟨k9, rfl, hF⟩
      · have HH9 := hide hat
        have HG9 := hide hG9
        clear hat hG9
        go_wp2_with fail
        refine leaves_cons (f := 50) (args := #[.pointer (some ⟨W.heap.size, 0, none⟩), .pointer (some ⟨W.heap.size + 1, 0, none⟩)]) (by simp) (by simp [go_sem]) ?_
        refine (catch_idle ⟨W.heap.size, 0, none⟩ ⟨W.heap.size + 1, 0, none⟩ _).mono ?_
        rintro e u' w'' ⟨rfl, rfl, rfl⟩
        have hr2 : RowAt ((w9.setCell ⟨W.heap.size, 0, none⟩ (.pointer (some ⟨gh, 0, none⟩))).setCell ⟨W.heap.size + 1, 0, none⟩ (.int .i64 0)) W.heap.size 60 #[.pointer (some ⟨gh, 0, none⟩)] := (R2.out.set 0 _).setNe (by omega)
        have hr3 : RowAt ((w9.setCell ⟨W.heap.size, 0, none⟩ (.pointer (some ⟨gh, 0, none⟩))).setCell ⟨W.heap.size + 1, 0, none⟩ (.int .i64 0)) (W.heap.size + 1) 30 #[.int .i64 0] := (R3.out.setNe (by omega)).set 0 _
        have hfin := HFIN.out (.pointer (some ⟨gh, 0, none⟩)) (.int .i64 0)
        have hGf := HGG.out _ _ _ _ ((w9.setCell ⟨W.heap.size, 0, none⟩ (.pointer (some ⟨gh, 0, none⟩))).setCell ⟨W.heap.size + 1, 0, none⟩ (.int .i64 0)) HG9.out (by
          rw [heap_setCell_ne _ _ _ _ (by show kl ≠ W.heap.size + 1; omega), heap_setCell_ne _ _ _ _ (by show kl ≠ W.heap.size; omega)])
        have hatf : HAt ((w9.setCell ⟨W.heap.size, 0, none⟩ (.pointer (some ⟨gh, 0, none⟩))).setCell ⟨W.heap.size + 1, 0, none⟩ (.int .i64 0)) gh gl k cap ts9 g9 wh9 nx9 got9 :=
          ⟨(HH9.out.box.setNe (by omega)).setNe (by omega), HH9.out.made.other (by simp) (fun j hj _ => by rw [heap_setCell_ne _ _ _ _ (by show j ≠ W.heap.size + 1; omega), heap_setCell_ne _ _ _ _ (by show j ≠ W.heap.size; omega)]), HH9.out.len⟩
        generalize ((w9.setCell ⟨W.heap.size, 0, none⟩ (.pointer (some ⟨gh, 0, none⟩))).setCell ⟨W.heap.size + 1, 0, none⟩ (.int .i64 0)) = wF at *
        simp [Leaves, settle, results, Try.results34, go_sem, row1 hr2, row1 hr3, hr2.lt, hr3.lt]
        exact ⟨hfin, .inl ⟨gh, gl, cap, ts9, g9, wh9, nx9, got9, rfl, hatf, by omega, hGf⟩⟩
      · dsimp only
        refine leaves_cons (f := 50) (args := #[.pointer (some ⟨W.heap.size, 0, none⟩), .pointer (some ⟨W.heap.size + 1, 0, none⟩)]) (by simp) (by simp [go_sem]) ?_
        refine (catch_err W.heap.size (W.heap.size + 1) k9 _ _ w9 R2.out R3.out (by omega)).mono ?_
        rintro e u' w'' ⟨rfl, rfl, rfl⟩
        obtain ⟨h1, h2, h3, h4, h5, h6, h7, h8⟩ := catchW_facts (k := k9) R2.out R3.out (by omega)
        have hfin : PastB W.heap.size kl W (catchW W.heap.size (W.heap.size + 1) k9 w9) := ⟨h6.trans HP9.out.os, h7.trans HP9.out.tape, h8.trans HP9.out.output, Nat.le_trans HP9.out.size h5, fun j hj hk hl => (h4 j (by omega) (by omega) (by omega)).trans (HP9.out.block j hj hk hl)⟩
        generalize catchW W.heap.size (W.heap.size + 1) k9 w9 = wF at *
        simp [Leaves, settle, results, Try.results34, go_sem, row1 h1, row1 h2, h1.lt, h2.lt]
        exact ⟨hfin, .inr ⟨_, k9, rfl, h3, hF⟩⟩
end Go.Proofs.Ytlelpnahillioaa
