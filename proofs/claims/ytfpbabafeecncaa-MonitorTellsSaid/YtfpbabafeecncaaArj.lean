/-
  Arenas: something done with an arena that may be; the error by which it leaves.
-/
import Derived.Test.YtfpbabafeecncaaAri
import Derived.Test.YtfpbabafeecncaaCopy
import Derived.Defers
import Derived.Recover
import Derived.Laws.NewBlocks
set_option linter.unusedSimpArgs false
set_option linter.unusedVariables false
namespace Go.Proofs.Ytfpbabafeecncaa
open Go Go.RowKit
attribute [local go_sem] via_cell via_frozen

@[local go_sem] theorem wpmf (fn : Fn) (first cap : Array Value) (w : World) : (Instr.makeFunc fn first cap).run Try.prog w = .ok (.func fn first cap) w := rfl
@[local go_sem] theorem assert_errno (k : Int) (W : World) : (Instr.typeAssert (.iface 33 (.int .i64 k)) 20 33 true).run Try.prog W = .ok (.tuple #[.int .i64 k, .bool true]) W := by
  simp [Instr.typeAssert]

theorem catch_idle (p q : Addr) (w : World) :
    CallsD Try.prog 94 #[.pointer (some p), .pointer (some q)] .returning w fun e u' w' => e = .returned (.tuple #[]) ∧ u' = .returning ∧ w' = w := by
  refine callsD_of_wpS Try.func94 rfl fun c₀ cs hu => ?_
  apply wpS_seq
  apply wpS_region
  simp [wpOpsS, go_sem, recoverD, hu, Try.ntmps94, Exit.thenS]
  refine wpS_of_wp ?_
  simp only [List.size_toArray, List.length_cons, List.length_nil, Nat.reduceAdd, Nat.reduceSub, Array.replicate_succ, Array.replicate_zero, List.push_toArray, List.append_toArray, List.nil_append, List.cons_append, List.setIfInBounds_toArray, List.set_cons_succ, List.set_cons_zero]
  go_wp2
  cases c₀
  simp_all [bodyPostS, results, Try.results94]

set_option maxRecDepth 100000 in
theorem catch_err (b1 b2 : Nat) (k : Int) (w : World) (h1 : RowAt w b1 27 #[.slice none 0 0]) (h2 : RowAt w b2 33 #[.int .i64 0]) (hne : b1 ≠ b2) :
    CallsD Try.prog 94 #[.pointer (some ⟨b1, 0, none⟩), .pointer (some ⟨b2, 0, none⟩)] (.panicking (errX k)) w fun e u' w' =>
      e = .returned (.tuple #[]) ∧ u' = .panicking [{ v := .iface 33 (.int .i64 k), recovered := true }] ∧ w' = (w.setCell ⟨b1, 0, none⟩ (.slice none 0 0)).setCell ⟨b2, 0, none⟩ (.int .i64 k) := by
  have c1 := row1 h1
  have c2 := row1 h2
  have f1 := h1.frozen 0
  have f2 := h2.frozen 0
  have hne2 : ¬ b1 = b2 := hne
  have hne3 : ¬ b2 = b1 := fun h => hne h.symm
  refine callsD_of_wpS Try.func94 rfl fun c₀ cs hu => ?_
  apply wpS_seq
  apply wpS_region
  simp [wpOpsS, go_sem, recoverD, hu, Try.ntmps94, Exit.thenS, errX]
  refine wpS_of_wp ?_
  simp only [List.size_toArray, List.length_cons, List.length_nil, Nat.reduceAdd, Nat.reduceSub, Array.replicate_succ, Array.replicate_zero, List.push_toArray, List.append_toArray, List.nil_append, List.cons_append, List.setIfInBounds_toArray, List.set_cons_succ, List.set_cons_zero]
  go_wp2
  simp [bodyPostS, results, Try.results94]

/-- All but two blocks lie as they lay. -/
structure Past2 (p q : Nat) (w w' : World) : Prop where
  os : w'.os = w.os
  tape : w'.tape = w.tape
  output : w'.output = w.output
  size : w.heap.size ≤ w'.heap.size
  block : ∀ j, j ≠ p → j ≠ q → j < w.heap.size → w'.heap[j]? = w.heap[j]?
theorem Past2.refl (p q : Nat) (w : World) : Past2 p q w w := ⟨rfl, rfl, rfl, Nat.le_refl _, fun _ _ _ _ => rfl⟩
theorem Past2.trans {p q : Nat} {a b c : World} (h : Past2 p q a b) (g : Past2 p q b c) : Past2 p q a c :=
  ⟨g.os.trans h.os, g.tape.trans h.tape, g.output.trans h.output, Nat.le_trans h.size g.size, fun j h1 h2 hl => (g.block j h1 h2 (Nat.lt_of_lt_of_le hl h.size)).trans (h.block j h1 h2 hl)⟩
theorem Past2.of_below {p q : Nat} {a b : World} (h : Below a.heap.size a b) : Past2 p q a b := ⟨h.os, h.tape, h.output, h.size, fun j _ _ hl => h.block j hl⟩
theorem Past2.of_past {p q : Nat} {a b : World} (h : Past p a b) : Past2 p q a b := ⟨h.below.os, h.below.tape, h.below.output, h.size, fun j h1 _ hl => h.block j h1 hl⟩
theorem Past2.set1 {p q : Nat} {a : World} (o : Nat) (v : Value) : Past2 p q a (a.setCell ⟨p, o, none⟩ v) := Past2.of_past (Past.set o v)
theorem Past2.set2 {p q : Nat} {a : World} (o : Nat) (v : Value) : Past2 p q a (a.setCell ⟨q, o, none⟩ v) := by
  have h : Past q a (a.setCell ⟨q, o, none⟩ v) := Past.set o v
  exact ⟨h.below.os, h.below.tape, h.below.output, h.size, fun j _ h2 hl => h.block j h2 hl⟩

/-- What a closure comes to, over an arena that changes: either it has gone through, or it has left by an error. G: what is so of the arena behind it; F: of the error; X: what else is so (of what lies behind a base, or in block kl). -/
def DoesRes (kl gh gs n : Nat) (G : List (Int × Int) → Prop) (F : Int → Prop) (X : Nat → World → Prop) (w : World) (e : Ending) (w' : World) : Prop :=
  Past2 gs kl w w' ∧ ((e = .returned (.tuple #[]) ∧ ∃ ys, HandAt w' gh gs n ys ∧ G ys ∧ X w.heap.size w') ∨ (∃ k, e = .panicked (errX k) ∧ F k))
/-- What it comes to outside. -/
def TrRes (kl n : Nat) (G : List (Int × Int) → Prop) (F : Int → Prop) (X : Nat → World → Prop) (W : World) (e : Ending) (W' : World) : Prop :=
  Past2 kl kl W W' ∧ ((∃ (ys : List (Int × Int)) (gs : Nat), e = .returned (.tuple #[.agg #[.slice (some ⟨gs, 0, none⟩) n n], .int .i64 0]) ∧ Rd W' W'.heap.size 2 (some ⟨gs, 0, none⟩) n (Cs encE ys) ∧ RowAt W' gs 47 (Cs encE ys).toArray ∧ W.heap.size ≤ gs ∧ ys.length = n ∧ G ys ∧ ∃ b, W.heap.size ≤ b ∧ X b W') ∨
    (∃ k, e = .returned (.tuple #[.agg #[.slice none 0 0], .int .i64 k]) ∧ F k))

theorem tries_no (A : Option Addr) (c n : Nat) (g : Nat) (lb : Array Value) (xs : List (Int × Int)) (W : World) (h : Rd W W.heap.size 2 A n (Cs encE xs)) (hx : xs.length = n) (hn : n ≤ 4096) (ho : arOk xs = false) :
    Calls Try.prog 87 #[.agg #[.slice A n c], .func (.func g) #[] lb] W fun e W' => e = .returned (.tuple #[.agg #[.slice none 0 0], .int .i64 210]) ∧ Below W.heap.size W W' := by
  go_enter_defers Try.func87, Try.ntmps87
  go_wp2_with fail
  obtain ⟨w1, hw1⟩ : ∃ w1, W.alloc (.cells #[.slice A n c] 27) = w1 := ⟨_, rfl⟩
  obtain ⟨w2, hw2⟩ : ∃ w2, w1.alloc (.cells #[.slice none 0 0] 27) = w2 := ⟨_, rfl⟩
  obtain ⟨w3, hw3⟩ : ∃ w3, w2.alloc (.cells #[.int .i64 0] 33) = w3 := ⟨_, rfl⟩
  have s1 : w1.heap.size = W.heap.size + 1 := by rw [← hw1]; simp
  have s2 : w2.heap.size = W.heap.size + 1 + 1 := by rw [← hw2]; simp [s1]
  have b1 : Below W.heap.size W w1 := by rw [← hw1]; exact (Below.refl _ _).alloc (Nat.le_refl _) _
  have b2 : Below w1.heap.size w1 w2 := by rw [← hw2]; exact (Below.refl _ _).alloc (Nat.le_refl _) _
  have b3 : Below w2.heap.size w2 w3 := by rw [← hw3]; exact (Below.refl _ _).alloc (Nat.le_refl _) _
  have r2 : RowAt w3 (W.heap.size + 1) 27 #[.slice none 0 0] := by have h := RowAt.new w1 27 #[.slice none 0 0]; rw [hw2, s1] at h; exact h.below b3
  have r3 : RowAt w3 (W.heap.size + 1 + 1) 33 #[.int .i64 0] := by have h := RowAt.new w2 33 #[.int .i64 0]; rw [hw3, s2] at h; exact h
  have hb0 : Below W.heap.size W w3 := (b1.trans (b2.mono b1.size)).trans (b3.mono (by omega))
  rw [hw1, hw2, hw3]
  have HC := hide (check_any W.heap.size A c n xs w3 (h.below hb0) hx hb0.size _ (chk_no ho) (by omega))
  have HB := hide hb0
  have R2 := hide r2
  have R3 := hide r3
  clear hw1 hw2 hw3 b1 b2 b3 hb0 r2 r3 h ho s1 s2
  refine HC.out.mono ?_
  rintro e w4 ⟨rfl, hb⟩
  have R2 := hide (R2.out.below hb)
  have R3 := hide (R3.out.below hb)
  have HB := hide (HB.out.trans (hb.mono HB.out.size))
  clear hb
  go_wp2_with fail
  refine (need_no 210 _).mono ?_
  rintro e w5 ⟨rfl, rfl⟩
  dsimp only
  refine leaves_cons (f := 94) (args := #[.pointer (some ⟨W.heap.size + 1, 0, none⟩), .pointer (some ⟨W.heap.size + 1 + 1, 0, none⟩)]) (by simp) (by simp [go_sem]) ?_
  refine (catch_err (W.heap.size + 1) (W.heap.size + 1 + 1) 210 w4 R2.out R3.out (by omega)).mono ?_
  rintro e u' w'' ⟨rfl, rfl, rfl⟩
  have hr2 : RowAt ((w4.setCell ⟨W.heap.size + 1, 0, none⟩ (.slice none 0 0)).setCell ⟨W.heap.size + 1 + 1, 0, none⟩ (.int .i64 210)) (W.heap.size + 1) 27 #[.slice none 0 0] := (R2.out.set 0 (.slice none 0 0)).setNe (by omega)
  have hr3 : RowAt ((w4.setCell ⟨W.heap.size + 1, 0, none⟩ (.slice none 0 0)).setCell ⟨W.heap.size + 1 + 1, 0, none⟩ (.int .i64 210)) (W.heap.size + 1 + 1) 33 #[.int .i64 210] := (R3.out.setNe (by omega)).set 0 (.int .i64 210)
  have hb2 : Below W.heap.size w4 ((w4.setCell ⟨W.heap.size + 1, 0, none⟩ (.slice none 0 0)).setCell ⟨W.heap.size + 1 + 1, 0, none⟩ (.int .i64 210)) := ((Below.refl _ _).setCell (p := ⟨W.heap.size + 1, 0, none⟩) (by simp) _).setCell (p := ⟨W.heap.size + 1 + 1, 0, none⟩) (by simp; omega) _
  generalize ((w4.setCell ⟨W.heap.size + 1, 0, none⟩ (.slice none 0 0)).setCell ⟨W.heap.size + 1 + 1, 0, none⟩ (.int .i64 210)) = w9 at *
  simp [Leaves, settle, results, Try.results87, go_sem, row1 hr2, row1 hr3, hr2.lt, hr3.lt]
  exact HB.out.trans hb2

set_option maxHeartbeats 1000000 in
theorem tries_yes (kl n : Nat) (A : Option Addr) (c g : Nat) (lb : Array Value) (xs : List (Int × Int)) (W : World) (hg : ∀ args w, (callFunc g args).run Try.prog w = .ok (.enter g args) w) (h : Rd W W.heap.size 2 A n (Cs encE xs)) (hx : xs.length = n) (ho : arOk xs = true)
    (G : List (Int × Int) → Prop) (F : Int → Prop) (X : Nat → World → Prop) (hX : ∀ b w w', X b w → (∀ j, (b ≤ j ∨ j = kl) → j < w.heap.size → w'.heap[j]? = w.heap[j]?) → X b w') (hkl : kl ≤ W.heap.size)
    (HC : ∀ w gh gs, HandAt w gh gs n xs → Below W.heap.size W w → W.heap.size < gh → W.heap.size < gs → Calls Try.prog g (#[.pointer (some ⟨gh, 0, none⟩)] ++ lb) w (DoesRes kl gh gs n G F X w)) :
    Calls Try.prog 87 #[.agg #[.slice A n c], .func (.func g) #[] lb] W (TrRes kl n G F X W) := by
  have hn2 : 2 ≤ n := by have := (arOk_out ho).1; omega
  have hn : n ≤ 128 := by have := (arOk_out ho).2.1; omega
  obtain ⟨i0, hi0, hz0, hz1, hz2⟩ := info_parts elS.info
  have hmk := fun w => run_make_rowN (P := Try.prog) 25 47 i0 _ Try.underlying25 hi0 hz0 .i64 .i64 n n (Nat.le_refl _) (by rw [hz2]; omega) (by omega) w
  rw [hz1] at hmk
  have HCL := hide HC
  have HX := hide hX
  clear hi0 hz0 hz1 hz2 HC hX
  go_enter_defers Try.func87, Try.ntmps87
  go_wp2_with fail
  obtain ⟨w1, hw1⟩ : ∃ w1, W.alloc (.cells #[.slice A n c] 27) = w1 := ⟨_, rfl⟩
  obtain ⟨w2, hw2⟩ : ∃ w2, w1.alloc (.cells #[.slice none 0 0] 27) = w2 := ⟨_, rfl⟩
  obtain ⟨w3, hw3⟩ : ∃ w3, w2.alloc (.cells #[.int .i64 0] 33) = w3 := ⟨_, rfl⟩
  have s1 : w1.heap.size = W.heap.size + 1 := by rw [← hw1]; simp
  have s2 : w2.heap.size = W.heap.size + 1 + 1 := by rw [← hw2]; simp [s1]
  have b1 : Below W.heap.size W w1 := by rw [← hw1]; exact (Below.refl _ _).alloc (Nat.le_refl _) _
  have b2 : Below w1.heap.size w1 w2 := by rw [← hw2]; exact (Below.refl _ _).alloc (Nat.le_refl _) _
  have b3 : Below w2.heap.size w2 w3 := by rw [← hw3]; exact (Below.refl _ _).alloc (Nat.le_refl _) _
  have r1 : RowAt w3 W.heap.size 27 #[.slice A n c] := by have h := RowAt.new W 27 #[.slice A n c]; rw [hw1] at h; exact (h.below b2).below b3
  have r2 : RowAt w3 (W.heap.size + 1) 27 #[.slice none 0 0] := by have h := RowAt.new w1 27 #[.slice none 0 0]; rw [hw2, s1] at h; exact h.below b3
  have r3 : RowAt w3 (W.heap.size + 1 + 1) 33 #[.int .i64 0] := by have h := RowAt.new w2 33 #[.int .i64 0]; rw [hw3, s2] at h; exact h
  have hb0 : Below W.heap.size W w3 := (b1.trans (b2.mono b1.size)).trans (b3.mono (by omega))
  rw [hw1, hw2, hw3]
  have HC := hide (check_any W.heap.size A c n xs w3 (h.below hb0) hx hb0.size _ (chk_ok ho) (by omega))
  have HB := hide hb0
  have HR := hide h
  have R1 := hide r1
  have R2 := hide r2
  have R3 := hide r3
  clear hw1 hw2 hw3 b1 b2 b3 hb0 r1 r2 r3 h ho s1 s2
  refine HC.out.mono ?_
  rintro e w4 ⟨rfl, hb⟩
  have R1 := hide (R1.out.below hb)
  have R2 := hide (R2.out.below hb)
  have R3 := hide (R3.out.below hb)
  have HB := hide (HB.out.trans (hb.mono HB.out.size))
  clear hb HC
  have a0 := row1 R1.out
  have la := R1.out.lt
  go_wp2_with fail
  refine (need_ok 210 _).mono ?_
  rintro e w5 ⟨rfl, rfl⟩
  dsimp only
  go_wp2_with fail
  obtain ⟨gs, hgs⟩ : ∃ gs, w4.heap.size = gs := ⟨_, rfl⟩
  obtain ⟨M, hM⟩ : ∃ M, madeCells #[.int .i64 0, .int .u64 0] (n * 2) = M := ⟨_, rfl⟩
  have hMs : M.size = n * 2 := by rw [← hM]; simp [madeCells]
  have hgsW : W.heap.size + 1 + 1 < gs := by rw [← hgs]; exact R3.out.lt
  rw [hM]
  obtain ⟨w5, hw5⟩ : ∃ w5, w4.alloc (.cells M 47) = w5 := ⟨_, rfl⟩
  obtain ⟨w6, hw6⟩ : ∃ w6, w5.alloc (.cells #[.slice (some ⟨gs, 0, none⟩) n n] 115) = w6 := ⟨_, rfl⟩
  have s5 : w5.heap.size = gs + 1 := by rw [← hw5]; simp [hgs]
  have s6 : w6.heap.size = gs + 1 + 1 := by rw [← hw6]; simp [s5]
  have b5 : Below w4.heap.size w4 w5 := by rw [← hw5]; exact (Below.refl _ _).alloc (Nat.le_refl _) _
  have b6 : Below w5.heap.size w5 w6 := by rw [← hw6]; exact (Below.refl _ _).alloc (Nat.le_refl _) _
  have r5 : RowAt w6 gs 47 M := by have h := RowAt.new w4 47 M; rw [hw5, hgs] at h; exact h.below b6
  have r6 : RowAt w6 (gs + 1) 115 #[.slice (some ⟨gs, 0, none⟩) n n] := by have h := RowAt.new w5 115 #[.slice (some ⟨gs, 0, none⟩) n n]; rw [hw6, s5] at h; exact h
  have b46 : Below w4.heap.size w4 w6 := b5.trans (b6.mono b5.size)
  have R1 := hide (R1.out.below b46)
  have R2 := hide (R2.out.below b46)
  have R3 := hide (R3.out.below b46)
  have HB := hide (HB.out.trans (b46.mono HB.out.size))
  rw [hgs, hw5, hw6]
  have a0 := row1 R1.out
  have x0 := row1 r6
  have la := R1.out.lt
  have lx := r6.lt
  have HR5 := hide r5
  have HR6 := hide r6
  have HRD := hide (HR.out.below HB.out)
  clear hw5 hw6 s5 s6 hgs b5 b6 b46 r5 r6 hmk hM
  refine wp_region_tail 7 (by kernel_rfl) (by kernel_rfl) ?_
  simp only [List.take_succ_cons, List.take_zero, List.drop_succ_cons, List.drop_zero]
  repeat (go_big_quiet_step (fail))
  refine tail_out fun w7 hb7 => ?_
  have hl7 := hb7.size
  refine wpList_copyRow rfl _ _ 25 25 rfl 47 2 Try.underlying25 (by kernel_rfl) gs n n c W.heap.size A rfl rfl (by omega) M 47 (HR5.out.below hb7) (Cs encE xs) (HRD.out.below (hb7.mono HB.out.size)) (by rw [HRD.out.1, hMs]) (Cs_one_cell encE_one _) ?_
  intro w8 hrow8 hp8
  have hsz8 := hp8.size
  have hx6 : RowAt w8 (gs + 1) 115 #[.slice (some ⟨gs, 0, none⟩) n n] := (hp8.block _ (by omega) (by omega)).trans (HR6.out.below hb7)
  have HH8 := hide (show HandAt w8 (gs + 1) gs n xs from ⟨hx, by omega, hx6, hrow8⟩)
  have R2 := hide (show RowAt w8 (W.heap.size + 1) 27 #[.slice none 0 0] from (hp8.block _ (by omega) (by omega)).trans (R2.out.below hb7))
  have R3 := hide (show RowAt w8 (W.heap.size + 1 + 1) 33 #[.int .i64 0] from (hp8.block _ (by omega) (by omega)).trans (R3.out.below hb7))
  have HB := hide ((HB.out.trans (hb7.mono HB.out.size)).trans (hp8.below.mono (by omega)))
  have HCC := hide (HCL.out w8 (gs + 1) gs HH8.out HB.out (by omega) (by omega))
  have hs8 : W.heap.size + 1 + 1 < w8.heap.size := R3.out.lt
  clear a0 x0 la lx HR5 HR6 HRD hb7 hrow8 hp8 hx6 R1 HR HCL hl7
  go_wp2_with fail
  refine HCC.out.mono ?_
  rintro e w9 ⟨hp9, hres⟩
  have R2 := hide (show RowAt w9 (W.heap.size + 1) 27 #[.slice none 0 0] from (hp9.block _ (by omega) (by omega) (by omega)).trans R2.out)
  have R3 := hide (show RowAt w9 (W.heap.size + 1 + 1) 33 #[.int .i64 0] from (hp9.block _ (by omega) (by omega) (by omega)).trans R3.out)
  have HP9 := hide hp9
  have HFIN : Hid (∀ v1 v2, Past2 kl kl W ((w9.setCell ⟨W.heap.size + 1, 0, none⟩ v1).setCell ⟨W.heap.size + 1 + 1, 0, none⟩ v2)) := hide (fun v1 v2 => ⟨hp9.os.trans HB.out.os, hp9.tape.trans HB.out.tape, hp9.output.trans HB.out.output, by have := hp9.size; have := HB.out.size; simp; omega, fun j hj _ hl => by
    rw [heap_setCell_ne _ _ _ _ (by simp; omega), heap_setCell_ne _ _ _ _ (by simp; omega), hp9.block j (by omega) hj (by have := HB.out.size; omega)]
    exact HB.out.block j hl⟩)
  have hl9 : W.heap.size + 1 + 1 < w9.heap.size := R3.out.lt
  have c2 := row1 R2.out
  have c3 := row1 R3.out
  have f2 := R2.out.frozen 0
  have f3 := R3.out.frozen 0
  clear hp9
  rcases hres with ⟨rfl, ys, hh9, hG, hX9⟩ | ⟨k, rfl, hF⟩
  · have HH9 := hide hh9
    have HX9 := hide hX9
    have d0 := row1 hh9.box
    have dl := hh9.box.lt
    clear hh9 hX9
    go_wp2_with fail
    refine leaves_cons (f := 94) (args := #[.pointer (some ⟨W.heap.size + 1, 0, none⟩), .pointer (some ⟨W.heap.size + 1 + 1, 0, none⟩)]) (by simp) (by simp [go_sem]) ?_
    refine (catch_idle ⟨W.heap.size + 1, 0, none⟩ ⟨W.heap.size + 1 + 1, 0, none⟩ _).mono ?_
    rintro e u' w'' ⟨rfl, rfl, rfl⟩
    have hr2 : RowAt ((w9.setCell ⟨W.heap.size + 1, 0, none⟩ (.slice (some ⟨gs, 0, none⟩) n n)).setCell ⟨W.heap.size + 1 + 1, 0, none⟩ (.int .i64 0)) (W.heap.size + 1) 27 #[.slice (some ⟨gs, 0, none⟩) n n] := (R2.out.set 0 _).setNe (by omega)
    have hr3 : RowAt ((w9.setCell ⟨W.heap.size + 1, 0, none⟩ (.slice (some ⟨gs, 0, none⟩) n n)).setCell ⟨W.heap.size + 1 + 1, 0, none⟩ (.int .i64 0)) (W.heap.size + 1 + 1) 33 #[.int .i64 0] := (R3.out.setNe (by omega)).set 0 _
    have hfin := HFIN.out (.slice (some ⟨gs, 0, none⟩) n n) (.int .i64 0)
    have hXf := HX.out _ _ ((w9.setCell ⟨W.heap.size + 1, 0, none⟩ (.slice (some ⟨gs, 0, none⟩) n n)).setCell ⟨W.heap.size + 1 + 1, 0, none⟩ (.int .i64 0)) HX9.out (fun j hj hl => by
      rw [heap_setCell_ne _ _ _ _ (by simp; omega), heap_setCell_ne _ _ _ _ (by simp; omega)])
    have hrow : RowAt ((w9.setCell ⟨W.heap.size + 1, 0, none⟩ (.slice (some ⟨gs, 0, none⟩) n n)).setCell ⟨W.heap.size + 1 + 1, 0, none⟩ (.int .i64 0)) gs 47 (Cs encE ys).toArray := (HH9.out.row.setNe (by omega)).setNe (by omega)
    have hrd : Rd ((w9.setCell ⟨W.heap.size + 1, 0, none⟩ (.slice (some ⟨gs, 0, none⟩) n n)).setCell ⟨W.heap.size + 1 + 1, 0, none⟩ (.int .i64 0)) ((w9.setCell ⟨W.heap.size + 1, 0, none⟩ (.slice (some ⟨gs, 0, none⟩) n n)).setCell ⟨W.heap.size + 1 + 1, 0, none⟩ (.int .i64 0)).heap.size 2 (some ⟨gs, 0, none⟩) n (Cs encE ys) := by
      refine ⟨by rw [Cs_length encE_len, HH9.out.len], fun _ => ⟨gs, 0, rfl, hrow.lt, fun j u hu => ?_⟩⟩
      rw [Nat.zero_add, hrow.cell]
      simpa using hu
    generalize ((w9.setCell ⟨W.heap.size + 1, 0, none⟩ (.slice (some ⟨gs, 0, none⟩) n n)).setCell ⟨W.heap.size + 1 + 1, 0, none⟩ (.int .i64 0)) = wF at *
    simp [Leaves, settle, results, Try.results87, go_sem, row1 hr2, row1 hr3, hr2.lt, hr3.lt]
    exact ⟨hfin, .inl ⟨ys, gs, rfl, hrd, hrow, by omega, HH9.out.len, hG, _, by omega, hXf⟩⟩
  · dsimp only
    refine leaves_cons (f := 94) (args := #[.pointer (some ⟨W.heap.size + 1, 0, none⟩), .pointer (some ⟨W.heap.size + 1 + 1, 0, none⟩)]) (by simp) (by simp [go_sem]) ?_
    refine (catch_err (W.heap.size + 1) (W.heap.size + 1 + 1) k w9 R2.out R3.out (by omega)).mono ?_
    rintro e u' w'' ⟨rfl, rfl, rfl⟩
    have hr2 : RowAt ((w9.setCell ⟨W.heap.size + 1, 0, none⟩ (.slice none 0 0)).setCell ⟨W.heap.size + 1 + 1, 0, none⟩ (.int .i64 k)) (W.heap.size + 1) 27 #[.slice none 0 0] := (R2.out.set 0 (.slice none 0 0)).setNe (by omega)
    have hr3 : RowAt ((w9.setCell ⟨W.heap.size + 1, 0, none⟩ (.slice none 0 0)).setCell ⟨W.heap.size + 1 + 1, 0, none⟩ (.int .i64 k)) (W.heap.size + 1 + 1) 33 #[.int .i64 k] := (R3.out.setNe (by omega)).set 0 (.int .i64 k)
    have hfin := HFIN.out (.slice none 0 0) (.int .i64 k)
    generalize ((w9.setCell ⟨W.heap.size + 1, 0, none⟩ (.slice none 0 0)).setCell ⟨W.heap.size + 1 + 1, 0, none⟩ (.int .i64 k)) = wF at *
    simp [Leaves, settle, results, Try.results87, go_sem, row1 hr2, row1 hr3, hr2.lt, hr3.lt]
    exact ⟨hfin, .inr ⟨k, rfl, hF⟩⟩
end Go.Proofs.Ytfpbabafeecncaa
