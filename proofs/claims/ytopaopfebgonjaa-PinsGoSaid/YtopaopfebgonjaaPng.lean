/-
  Pins that change: in memory of their own, a goroutine's slot, pinned, unpinned, the epoch gone on.
-/
import Derived.Test.YtopaopfebgonjaaPnf
import Derived.Test.YtopaopfebgonjaaTail
import Derived.Test.YtopaopfebgonjaaCopy
import Derived.Laws.NewBlocks
set_option linter.unusedSimpArgs false
set_option linter.unusedVariables false
namespace Go.Proofs.Ytopaopfebgonjaa
open Go Go.RowKit
attribute [local go_sem] via_cell via_frozen

/-- All but two blocks lie as they lay. -/
structure Past2 (p q : Nat) (w w' : World) : Prop where
  os : w'.os = w.os
  tape : w'.tape = w.tape
  output : w'.output = w.output
  size : w.heap.size ≤ w'.heap.size
  block : ∀ j, j ≠ p → j ≠ q → j < w.heap.size → w'.heap[j]? = w.heap[j]?
theorem Past2.refl (p q : Nat) (w : World) : Past2 p q w w := ⟨rfl, rfl, rfl, Nat.le_refl _, fun _ _ _ _ => rfl⟩
theorem Past2.trans {p q : Nat} {a b c : World} (h : Past2 p q a b) (g : Past2 p q b c) : Past2 p q a c :=
  ⟨g.os.trans h.os, g.tape.trans h.tape, g.output.trans h.output, Nat.le_trans h.size g.size, fun j h1 h2 hl => (g.block j h1 h2 (Nat.lt_of_lt_of_le hl h.size)).trans (h.block j h1 h2 hl)⟩
theorem Past2.of_below {p q : Nat} {a b : World} (h : Below a.heap.size a b) : Past2 p q a b := ⟨h.os, h.tape, h.output, h.size, fun j _ _ hl => h.block j hl⟩
theorem Past2.of_past {p q : Nat} {a b : World} (h : Past p a b) : Past2 p q a b := ⟨h.below.os, h.below.tape, h.below.output, h.size, fun j h1 _ hl => h.block j h1 hl⟩
theorem Past2.set1 {p q : Nat} {a : World} (o : Nat) (v : Value) : Past2 p q a (a.setCell ⟨p, o, none⟩ v) := Past2.of_past (Past.set o v)
theorem Past2.set2 {p q : Nat} {a : World} (o : Nat) (v : Value) : Past2 p q a (a.setCell ⟨q, o, none⟩ v) := by
  have h : Past q a (a.setCell ⟨q, o, none⟩ v) := Past.set o v
  exact ⟨h.below.os, h.below.tape, h.below.output, h.size, fun j _ h2 hl => h.block j h2 hl⟩

/-- Pins that change, in memory of their own. -/
structure HandP (w : World) (gh gs n : Nat) (e : Int) (S : List Int) : Prop where
  len : S.length = n
  ne : gs ≠ gh
  box : RowAt w gh 60 #[.int .u64 e, .slice (some ⟨gs, 0, none⟩) n n]
  row : RowAt w gs 22 (Cs encW S).toArray
theorem HandP.rd {w : World} {gh gs n : Nat} {e : Int} {S : List Int} (h : HandP w gh gs n e S) : Rd w w.heap.size 1 (some ⟨gs, 0, none⟩) n (Cs encW S) := by
  refine ⟨by rw [Cs_length encW_len, h.len], fun _ => ⟨gs, 0, rfl, h.row.lt, fun j u hu => ?_⟩⟩
  rw [Nat.zero_add, h.row.cell]
  simpa using hu
theorem HandP.below {w w' : World} {gh gs n : Nat} {e : Int} {S : List Int} (h : HandP w gh gs n e S) (hb : Below w.heap.size w w') : HandP w' gh gs n e S := ⟨h.len, h.ne, h.box.below hb, h.row.below hb⟩
theorem HandP.cell {w : World} {gh gs n : Nat} {e : Int} {S : List Int} (h : HandP w gh gs n e S) {k : Nat} (hk : k < n) : w.cell? ⟨gs, k, none⟩ = some (.int .u64 (S.getD k 0)) := by
  have hk' : k < S.length := by rw [h.len]; exact hk
  rw [h.row.cell]
  have := Cs_at encW_len S k 0 hk' (by omega)
  rw [List.getD_eq_getElem?_getD, List.getElem?_eq_getElem hk']
  simpa [encW] using this
theorem encW_set (l : List Int) (k : Nat) (b : Int) : (Cs encW l).set k (.int .u64 b) = Cs encW (l.set k b) := by
  have h : ∀ l : List Int, Cs encW l = l.map (Value.int .u64) := fun l => by induction l with
    | nil => rfl
    | cons x l ih => simp [Cs, encW] at ih ⊢; exact ih
  rw [h, h, List.map_set]
theorem HandP.set {w : World} {gh gs n : Nat} {e : Int} {S : List Int} (h : HandP w gh gs n e S) (k : Nat) (v : Int) : HandP (w.setCell ⟨gs, k, none⟩ (.int .u64 v)) gh gs n e (S.set k v) := by
  refine ⟨by rw [List.length_set, h.len], h.ne, h.box.setNe (Ne.symm h.ne), ?_⟩
  have := h.row.set k (.int .u64 v)
  rw [List.setIfInBounds_toArray, encW_set] at this
  exact this
theorem HandP.setE {w : World} {gh gs n : Nat} {e : Int} {S : List Int} (h : HandP w gh gs n e S) (v : Int) : HandP (w.setCell ⟨gh, 0, none⟩ (.int .u64 v)) gh gs n v S :=
  ⟨h.len, h.ne, h.box.set 0 (.int .u64 v), h.row.setNe h.ne⟩

def OwnRes (W : World) (n : Nat) (e : Int) (S : List Int) (x : Ending) (W' : World) : Prop := ∃ gh gs, x = .returned (.pointer (some ⟨gh, 0, none⟩)) ∧ HandP W' gh gs n e S ∧ W.heap.size ≤ gh ∧ W.heap.size ≤ gs ∧ Below W.heap.size W W'

set_option maxHeartbeats 1000000 in
theorem powns_any (A : Option Addr) (c n : Nat) (e : Int) (S : List Int) (W : World) (h : Rd W W.heap.size 1 A n (Cs encW S)) (hx : S.length = n) (hn : 1 ≤ n) (hl : n ≤ 4096) :
    Calls Try.prog 29 #[.agg #[.int .u64 e, .slice A n c]] W (OwnRes W n e S) := by
  obtain ⟨i0, hi0, hz0, hz1, hz2⟩ := info_parts elW.info
  have hmk := fun w => run_make_rowN (P := Try.prog) 23 22 i0 _ Try.underlying23 hi0 hz0 .i64 .i64 n n (Nat.le_refl _) (by rw [hz2]; omega) (by omega) w
  rw [hz1, Nat.mul_one] at hmk
  clear hi0 hz0 hz1 hz2
  obtain ⟨w1, hw1⟩ : ∃ w1, W.alloc (.cells #[.int .u64 e, .slice A n c] 25) = w1 := ⟨_, rfl⟩
  have hb1 : Below W.heap.size W w1 := by rw [← hw1]; exact (Below.refl _ _).alloc (Nat.le_refl _) _
  have r1 : RowAt w1 W.heap.size 25 #[.int .u64 e, .slice A n c] := by rw [← hw1]; exact RowAt.new _ _ _
  obtain ⟨M, hM⟩ : ∃ M, madeCells (Value.int .u64 0).cells n = M := ⟨_, rfl⟩
  have hM2 : madeCells #[.int .u64 0] n = M := by rw [← hM]; rfl
  have hMs : M.size = n := by rw [← hM]; simp [madeCells]
  have HH := hide h
  have HX := hide hx
  have HB := hide hb1
  have q0 := row20 r1
  have q1 := row21 r1
  have l1 := r1.lt
  have R1 := hide r1
  clear h hx hb1 r1
  go_enter Try.func29, Try.ntmps29
  go_wp2_with fail
  clear hw1
  have hbd0 : Below w1.heap.size w1 w1.drew := (Below.refl _ _).drew
  have HN : Hid (∀ w', Below w1.heap.size w1 w' → (Below w1.heap.size w1 w' ∧ w'.cell? ⟨W.heap.size, 0, none⟩ = some (.int .u64 e) ∧ w'.cell? ⟨W.heap.size, 1, none⟩ = some (.slice A n c))) := hide (fun w' hb => ⟨hb, kept hb q0, kept hb q1⟩)
  go_region_held3 (fun wX => Below w1.heap.size w1 wX ∧ wX.cell? ⟨W.heap.size, 0, none⟩ = some (.int .u64 e) ∧ wX.cell? ⟨W.heap.size, 1, none⟩ = some (.slice A n c))
    (first | exact HN.out _ hbd0 | exact HN.out _ (((Below.refl _ _).alloc (Nat.le_refl _) _).drew) | exact HN.out _ ((((Below.refl _ _).alloc (Nat.le_refl _) _).alloc (by simp) _).drew) | go_keep)
    (fail)
  obtain ⟨gs, hgs⟩ : ∃ g, w1.heap.size = g := ⟨_, rfl⟩
  have hb3 : Below w1.heap.size w1 ((w1.alloc (.cells M 22)).alloc (.cells #[.int .u64 e, .slice (some ⟨w1.heap.size, 0, none⟩) n n] 60)).drew := (((Below.refl _ _).alloc (Nat.le_refl _) _).alloc (by simp) _).drew
  have r5 : RowAt ((w1.alloc (.cells M 22)).alloc (.cells #[.int .u64 e, .slice (some ⟨w1.heap.size, 0, none⟩) n n] 60)).drew gs 22 M := by
    rw [← hgs]; exact ((RowAt.new w1 22 M).below ((Below.refl _ _).alloc (Nat.le_refl _) _)).drew
  have r6 : RowAt ((w1.alloc (.cells M 22)).alloc (.cells #[.int .u64 e, .slice (some ⟨w1.heap.size, 0, none⟩) n n] 60)).drew (gs + 1) 60 #[.int .u64 e, .slice (some ⟨gs, 0, none⟩) n n] := by
    have h := RowAt.new (w1.alloc (.cells M 22)) 60 #[.int .u64 e, .slice (some ⟨w1.heap.size, 0, none⟩) n n]
    rw [World.size_alloc, hgs] at h
    rw [hgs]
    exact h.drew
  have hWgs : W.heap.size < gs := by omega
  replace R1 := hide (R1.out.below hb3)
  have HB3 := hide (HB.out.trans (hb3.mono HB.out.size))
  have HR5 := hide r5
  have HR6 := hide r6
  rw [hgs] at HB3 HR5 HR6 R1 ⊢
  clear hb3 r5 r6 HN hbd0 q0 q1 hgs hM hM2 hmk
  rename_i hHeld
  clear hHeld
  generalize ((w1.alloc (.cells M 22)).alloc (.cells #[.int .u64 e, .slice (some ⟨gs, 0, none⟩) n n] 60)).drew = w3 at *
  have a0 := row21 R1.out
  have x0 := row21 HR6.out
  have la := R1.out.lt
  have lx := HR6.out.lt
  go_wp2_with fail
  refine wp_region_tail 7 (by kernel_rfl) (by kernel_rfl) ?_
  simp only [List.take_succ_cons, List.take_zero, List.drop_succ_cons, List.drop_zero]
  repeat (go_big_quiet_step (fail))
  refine tail_out fun w7 hb7 => ?_
  have hl7 := hb7.size
  refine wpList_copyRow rfl _ _ 23 23 rfl 22 1 Try.underlying23 (by kernel_rfl) gs n n c W.heap.size A rfl rfl (by omega) M 22 (HR5.out.below hb7) (Cs encW S) (HH.out.below (HB3.out.trans (hb7.mono HB3.out.size))) (by rw [HH.out.1, hMs, Nat.mul_one]) (Cs_one_cell encW_one _) ?_
  intro w8 hrow8 hp8
  have hsz8 := hp8.size
  have hx6 : RowAt w8 (gs + 1) 60 #[.int .u64 e, .slice (some ⟨gs, 0, none⟩) n n] := (hp8.block _ (by omega) (by omega)).trans (HR6.out.below hb7)
  have HH8 := hide (show HandP w8 (gs + 1) gs n e S from ⟨HX.out, by omega, hx6, hrow8⟩)
  have HBF := hide ((HB3.out.trans (hb7.mono HB3.out.size)).trans (hp8.below.mono (by omega)))
  clear a0 x0 la lx HR5 HR6 hb7 hrow8 hp8 hx6 R1 hl7 HB HB3
  go_wp2_with fail
  go_ret
  exact ⟨gs + 1, gs, rfl, HH8.out, by omega, by omega, HBF.out⟩

def SlotRes (W : World) (gs n : Nat) (g : Int) (x : Ending) (W' : World) : Prop :=
  Below W.heap.size W W' ∧ ((∃ k : Nat, g = k ∧ k < n ∧ x = .returned (.pointer (some ⟨gs, k, none⟩))) ∨ ((g < 0 ∨ (n : Int) ≤ g) ∧ x = .panicked (errX 2)))

set_option maxHeartbeats 1000000 in
theorem slot_any (gh gs n : Nat) (e : Int) (S : List Int) (k g b : Int) (W : World) (h : HandP W gh gs n e S) (hn : n ≤ 4096) :
    Calls Try.prog 46 #[.pointer (some ⟨gh, 0, none⟩), .agg #[.int .i64 k, .int .i64 g, .int .u64 b]] W (SlotRes W gs n g) := by
  have hb1 : Below W.heap.size W (W.alloc (.cells #[.int .i64 k, .int .i64 g, .int .u64 b] 32)) := (Below.refl _ _).alloc (Nat.le_refl _) _
  have h1 := h.below hb1
  have r1 : RowAt (W.alloc (.cells #[.int .i64 k, .int .i64 g, .int .u64 b] 32)) W.heap.size 32 #[.int .i64 k, .int .i64 g, .int .u64 b] := RowAt.new _ _ _
  have hx0 := row21 h1.box
  have e1 := r1.cell 1
  simp only [List.getElem?_toArray, List.getElem?_cons_succ, List.getElem?_cons_zero] at e1
  have hl1 := h1.box.lt
  have hl2 := r1.lt
  have hl3 := h1.row.lt
  have HB := hide hb1
  have HH := hide h1
  clear hb1 h h1 r1
  by_cases hg0 : 0 ≤ g
  · obtain ⟨j, rfl⟩ := Int.eq_ofNat_of_zero_le hg0
    by_cases hjn : j < n
    · have hjI : (j : Int) < (n : Int) := by omega
      go_enter Try.func46, Try.ntmps46
      go_wp2_with fail
      generalize (W.alloc (.cells #[.int .i64 k, .int .i64 (j : Int), .int .u64 b] 32)) = w1 at *
      refine wp_region_tail 14 (by kernel_rfl) (by kernel_rfl) ?_
      simp only [List.take_succ_cons, List.take_zero, List.drop_succ_cons, List.drop_zero]
      repeat (go_big_quiet_step (fail))
      refine tail_out fun w2 hb2 => ?_
      have hz2 : gs < w2.heap.size := Nat.lt_of_lt_of_le hl3 hb2.size
      have z1 : gh < w2.heap.size := Nat.lt_of_lt_of_le hl1 hb2.size
      have z2 : W.heap.size < w2.heap.size := Nat.lt_of_lt_of_le hl2 hb2.size
      have g0 := kept hb2 hx0
      have k1 := kept hb2 e1
      have HB2 := hide (HB.out.trans (hb2.mono HB.out.size))
      clear hb2 hx0 e1
      go_wp2_with fail
      refine (need_ok 2 _).mono ?_
      rintro x w3 ⟨rfl, rfl⟩
      go_wp2_with fail
      go_quiet (fail)
      go_wp2_with fail
      go_ret
      exact ⟨below_drewN HB2.out _, .inl ⟨j, rfl, hjn, rfl⟩⟩
    · have hjI : decide ((j : Int) < (n : Int)) = false := by simp; omega
      go_enter Try.func46, Try.ntmps46
      go_wp2_with fail
      generalize (W.alloc (.cells #[.int .i64 k, .int .i64 (j : Int), .int .u64 b] 32)) = w1 at *
      refine wp_region_tail 14 (by kernel_rfl) (by kernel_rfl) ?_
      simp only [List.take_succ_cons, List.take_zero, List.drop_succ_cons, List.drop_zero]
      repeat (go_big_quiet_step (fail))
      refine tail_out fun w2 hb2 => ?_
      have HB2 := hide (HB.out.trans (hb2.mono HB.out.size))
      clear hb2 hx0 e1
      go_wp2_with fail
      refine (need_no 2 _).mono ?_
      rintro x w3 ⟨rfl, rfl⟩
      go_wp2_with fail
      exact ⟨rfl, HB2.out, .inr ⟨.inr (by omega), rfl⟩⟩
  · have hg0' : decide (0 ≤ g) = false := by simp; omega
    go_enter Try.func46, Try.ntmps46
    go_wp2_with fail
    generalize (W.alloc (.cells #[.int .i64 k, .int .i64 g, .int .u64 b] 32)) = w1 at *
    refine wp_region_tail 14 (by kernel_rfl) (by kernel_rfl) ?_
    simp only [List.take_succ_cons, List.take_zero, List.drop_succ_cons, List.drop_zero]
    repeat (go_big_quiet_step (fail))
    refine tail_out fun w2 hb2 => ?_
    have HB2 := hide (HB.out.trans (hb2.mono HB.out.size))
    clear hb2 hx0 e1
    go_wp2_with fail
    refine (need_no 2 _).mono ?_
    rintro x w3 ⟨rfl, rfl⟩
    go_wp2_with fail
    exact ⟨rfl, HB2.out, .inr ⟨.inl (by omega), rfl⟩⟩

/-- What an op comes to. -/
def ActRes (W : World) (gh gs n : Nat) (E X : Int) (ys : List Int) (x : Ending) (W' : World) : Prop :=
  (E = 0 ∧ x = .returned (.tuple #[]) ∧ HandP W' gh gs n X ys ∧ Past2 gh gs W W') ∨ (E ≠ 0 ∧ x = .panicked (errX E) ∧ Below W.heap.size W W')

set_option maxHeartbeats 1000000 in
theorem unpin_any (gh gs n : Nat) (e : Int) (S : List Int) (g b : Int) (W : World) (h : HandP W gh gs n e S) (hn : n ≤ 4096) (hS : ∀ s ∈ S, U64 s) :
    Calls Try.prog 40 #[.pointer (some ⟨gh, 0, none⟩), .agg #[.int .i64 2, .int .i64 g, .int .u64 b]] W (ActRes W gh gs n (dE e S 2 g b) (dX e 2) (dS e S 2 g b)) := by
  have hb1 : Below W.heap.size W (W.alloc (.cells #[.int .i64 2, .int .i64 g, .int .u64 b] 32)) := (Below.refl _ _).alloc (Nat.le_refl _) _
  have HSL := hide (slot_any gh gs n e S 2 g b _ (h.below hb1) hn)
  have HB := hide hb1
  have HH := hide (h.below hb1)
  have HS := hide hS
  have hghW := h.box.lt
  have hgsW := h.row.lt
  clear hb1 h hS
  go_enter Try.func40, Try.ntmps40
  go_wp2_with fail
  refine HSL.out.mono ?_
  rintro x w1 ⟨hb, hres⟩
  replace HB := hide (HB.out.trans (hb.mono HB.out.size))
  replace HH := hide (HH.out.below hb)
  clear hb HSL
  rcases hres with ⟨k, rfl, hk, rfl⟩ | ⟨ho, rfl⟩
  · have c0 := HH.out.cell hk
    have f0 := HH.out.row.frozen k
    have l0 := HH.out.row.lt
    have hu : U64 (S.getD k 0) := by
      have hk' : k < S.length := by rw [HH.out.len]; exact hk
      rw [List.getD_eq_getElem?_getD, List.getElem?_eq_getElem hk']
      exact HS.out _ (List.getElem_mem hk')
    have HE := hide (show dE e S 2 k b = if S.getD k 0 = 0 then 4 else 0 by
      unfold dE
      have := HH.out.len
      rw [if_neg (by omega), if_neg (by omega), if_neg (by omega)]; simp)
    generalize S.getD k 0 = s at *
    by_cases hs : 0 < s
    · go_wp2_with fail
      refine (need_ok 4 _).mono ?_
      rintro x w3 ⟨rfl, rfl⟩
      go_wp2_with fail
      go_end0
      refine .inl ⟨by rw [HE.out, if_neg (by omega)], rfl, ?_, (Past2.of_below HB.out).trans (Past2.set2 _ _)⟩
      have := HH.out.set k 0
      simpa [dX, dS] using this
    · have hs' : decide (0 < s) = false := by simp; omega
      go_wp2_with fail
      refine (need_no 4 _).mono ?_
      rintro x w3 ⟨rfl, rfl⟩
      go_wp2_with fail
      have he : dE e S 2 k b = 4 := by rw [HE.out, if_pos (by unfold U64 at hu; omega)]
      exact ⟨rfl, .inr ⟨by rw [he]; omega, by rw [he], HB.out⟩⟩
  · go_wp2_with fail
    have he : dE e S 2 g b = 2 := by
      unfold dE
      have := HH.out.len
      rw [if_pos (by omega)]
    exact ⟨rfl, .inr ⟨by rw [he]; omega, by rw [he], HB.out⟩⟩
end Go.Proofs.Ytopaopfebgonjaa
