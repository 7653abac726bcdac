/-
  The reference's Run.
-/
import Derived.Test.YthnpcmigphpolaaDoorLjo
set_option linter.unusedSimpArgs false
set_option linter.unusedVariables false
namespace Go.Proofs.YthnpcmigphpolaaDoor
open Go Go.RowKit
attribute [local go_sem] via_cell via_frozen

theorem refRes_out_err {W W' : World} {Q : Nat → Prop} {r : Except Int Lim} {k : Int} {e : Ending} (hr : r = .error k) (h : RefRes W Q r e W') : ∃ A' n' c', e = .returned (.tuple #[.agg (limC lim0.E A' n' c'), .int .i64 k]) ∧ Below W.heap.size W W' := by
  subst hr
  obtain ⟨A', n', c', rfl, _, _, _, hb⟩ := h
  exact ⟨A', n', c', rfl, hb⟩
theorem refRes_out_ok {W W' : World} {Q : Nat → Prop} {r : Except Int Lim} {l : Lim} {e : Ending} (hr : r = .ok l) (h : RefRes W Q r e W') : ∃ A' n' c', e = .returned (.tuple #[.agg (limC l.E A' n' c'), .int .i64 0]) ∧ (LimRd W' W'.heap.size A' n' l.r ∧ LowL Q W' A' ∧ CapL n' c') ∧ Below W.heap.size W W' := by
  subst hr
  obtain ⟨A', n', c', rfl, h1, h2, h3, hb⟩ := h
  exact ⟨A', n', c', rfl, ⟨h1, h2, h3⟩, hb⟩
theorem refResT_out_ok {W W' : World} {Q : Nat → Prop} {r : Except Int (Lim × Ent)} {l : Lim} {s g : Int} {e : Ending} (hr : r = .ok (l, (s, g))) (h : RefResT W Q r e W') : ∃ A' n' c', e = .returned (.tuple #[.agg (limC l.E A' n' c'), .agg #[.int .i64 s, .int .u64 g], .int .i64 0]) ∧ (LimRd W' W'.heap.size A' n' l.r ∧ LowL Q W' A' ∧ CapL n' c') ∧ Below W.heap.size W W' := by
  subst hr
  obtain ⟨A', n', c', rfl, h1, h2, h3, hb⟩ := h
  exact ⟨A', n', c', rfl, ⟨h1, h2, h3⟩, hb⟩
theorem LimRd.keepA {w w' : World} {B : Nat} {A : Nat → Option Addr} {n : Nat → Nat} {r : Nat → List Ent} (h : LimRd w B A n r) (hk : ∀ k p, k < 3 → A k = some p → w'.heap[p.block]? = w.heap[p.block]?) : LimRd w' B A n r := by
  refine ⟨fun k hk3 => ⟨(h.rd k hk3).1, fun hn => ?_⟩, h.len⟩
  obtain ⟨b, o, e, hb, hc⟩ := (h.rd k hk3).2 hn
  exact ⟨b, o, e, hb, fun j u hu => (cell_of_heap (p := ⟨b, o + j, none⟩) (hk k ⟨b, o, none⟩ hk3 e)).trans (hc j u hu)⟩
/-- What has been taken lies in memory of its own; the two boxes. -/
structure RfB (W w : World) (took : List Ent) (v : Value) : Prop where
  row : ∃ C, C.size = 4 ∧ RowAt w W.heap.size 26 C
  res : RowAt w (W.heap.size + 1) 26 zeroC
  out : w.ownsRow (W.heap.size + 1 + 1) 34 2 v took.length (Cs encE took)
  below : Below W.heap.size W w
structure RfAt (W : World) (X : Nat → Prop) (w : World) (l : Lim) (took : List Ent) (A : Nat → Option Addr) (n c : Nat → Nat) (v : Value) : Prop where
  base : RfB W w took v
  row : RowAt w W.heap.size 26 (limC l.E A n c)
  rd : LimRd w w.heap.size A n l.r
  low : LowL (fun j => X j ∧ v.ownBlock ≠ some j) w A
  cap : CapL n c
  ok : l.ok = true
theorem own_other3 {w w' : World} {base : Nat} {e : TypeId} {size n : Nat} {v : Value} {xs : List Value} (h : w.ownsRow base e size v n xs) (hl : ∀ g, v.ownBlock = some g → w'.heap[g]? = w.heap[g]?) : w'.ownsRow base e size v n xs := by
  obtain ⟨h1, h2⟩ := h
  refine ⟨h1, ?_⟩
  rcases h2 with h | ⟨g, cap, cur, hv, hg, hh, r⟩
  · exact .inl h
  · exact .inr ⟨g, cap, cur, hv, hg, (hl g (by rw [hv]; rfl)).trans hh, r⟩
theorem own_lt {w : World} {base : Nat} {e : TypeId} {sz n : Nat} {v : Value} {xs : List Value} (h : w.ownsRow base e sz v n xs) {g : Nat} (hg : v.ownBlock = some g) : base ≤ g ∧ g < w.heap.size := by
  obtain ⟨A, c, rfl, _⟩ := own_form h
  obtain ⟨p, hp, he⟩ := own_block.1 hg.symm
  rw [← he]
  exact own_fresh2 h p hp
theorem RfB.later {W w w' : World} {took : List Ent} {v : Value} (h : RfB W w took v) (hb : Below w.heap.size w w') : RfB W w' took v :=
  ⟨by obtain ⟨C, h1, h2⟩ := h.row; exact ⟨C, h1, h2.below hb⟩, h.res.below hb, own_keepB h.out hb, h.below.trans (hb.mono h.below.size)⟩
theorem RfAt.later {W w w' : World} {X : Nat → Prop} {l : Lim} {took : List Ent} {A : Nat → Option Addr} {n c : Nat → Nat} {v : Value} (h : RfAt W X w l took A n c v) (hb : Below w.heap.size w w') : RfAt W X w' l took A n c v :=
  ⟨h.base.later hb, h.row.below hb, (h.rd.below hb).more hb.size, h.low.more hb.size, h.cap, h.ok⟩
theorem RfAt.weak {W w : World} {X Y : Nat → Prop} {l : Lim} {took : List Ent} {A : Nat → Option Addr} {n c : Nat → Nat} {v : Value} (h : RfAt W X w l took A n c v) (hx : ∀ j, j < w.heap.size → X j → Y j) : RfAt W Y w l took A n c v :=
  ⟨h.base, h.row, h.rd, fun k p hk hp => ⟨⟨hx _ (h.low k p hk hp).2 (h.low k p hk hp).1.1, (h.low k p hk hp).1.2⟩, (h.low k p hk hp).2⟩, h.cap, h.ok⟩
/-- What is made later is none of these. -/
theorem RfB.far {W w : World} {took : List Ent} {v : Value} {X : Nat → Prop} (h : RfB W w took v) (hx : ∀ j, w.heap.size ≤ j → X j) : ∀ j, w.heap.size ≤ j → X j ∧ v.ownBlock ≠ some j := fun j hj => ⟨hx j hj, fun e => by have := (own_lt h.out e).2; omega⟩
/-- A store into another box. -/
theorem RfB.laid {W w w' : World} {took : List Ent} {v : Value} {g : Nat} {C : Array Value} (h : RfB W w took v) (hL : LaidL g w C w') (hg : W.heap.size + 1 < g) (hv : v.ownBlock ≠ some g) : RfB W w' took v := by
  refine ⟨?_, (hL.block _ (by omega)).trans h.res, ?_, h.below.trans (hL.below.mono (by omega))⟩
  · obtain ⟨C2, h1, h2⟩ := h.row; exact ⟨C2, h1, (hL.block _ (by omega)).trans h2⟩
  · exact own_other3 h.out (fun j hj => hL.block j (fun e => hv (by rw [← e]; exact hj)))
/-- The limbo in its box. -/
theorem RfB.put {W w w' : World} {took : List Ent} {v : Value} {X : Nat → Prop} {l : Lim} {A : Nat → Option Addr} {n c : Nat → Nat} (h : RfB W w took v) (hL : LaidL W.heap.size w (limC l.E A n c) w') (hrd : LimRd w w.heap.size A n l.r)
    (hlow : LowL (fun j => X j ∧ v.ownBlock ≠ some j) w A) (hcap : CapL n c) (hok : l.ok = true) (hx : ∀ j, X j → j ≠ W.heap.size) : RfAt W X w' l took A n c v := by
  refine ⟨⟨⟨_, rfl, hL.row⟩, (hL.block _ (by omega)).trans h.res, ?_, h.below.trans hL.below⟩, hL.row, ?_, hlow.more hL.below.size, hcap, hok⟩
  · exact own_other3 h.out (fun j hj => hL.block j (by have := (own_lt h.out hj).1; omega))
  · exact (hrd.keepA (fun k p hk hp => hL.block _ (hx _ (hlow k p hk hp).1.1))).more hL.below.size
/-- One more has been taken. -/
theorem RfB.app {W w w8 w9 : World} {took : List Ent} {v v9 : Value} {X : Nat → Prop} {l : Lim} {A : Nat → Option Addr} {n c : Nat → Nat} {y : Ent} {o : Obj} (h : RfB W w took v) (hrd : LimRd w w.heap.size A n l.r)
    (hlow : LowL (fun j => X j ∧ v.ownBlock ≠ some j) w A) (hg : (w.alloc o).grownBy w8 v.ownBlock) (hown : w8.ownsRow (W.heap.size + 1 + 1) 34 2 v9 (took.length + 1) (Cs encE took ++ encE y))
    (hv : v9.ownBlock = v.ownBlock ∨ v9.ownBlock = some (w.alloc o).heap.size) :
    RfB W w8 (took ++ [y]) v9 ∧ LimRd w8 w8.heap.size A n l.r ∧ LowL (fun j => X j ∧ v9.ownBlock ≠ some j) w8 A := by
  have hs := hg.size
  rw [World.size_alloc] at hs
  have hblk : ∀ j, j < w.heap.size → some j ≠ v.ownBlock → w8.heap[j]? = w.heap[j]? := fun j hj hn => by
    rw [hg.block j (by rw [World.size_alloc]; omega) hn, Below.heap_alloc _ _ _ hj]
  have hfar : ∀ j, some j = v.ownBlock → W.heap.size + 1 + 1 ≤ j := fun j hj => (own_lt h.out hj.symm).1
  refine ⟨⟨?_, ?_, ?_, ?_⟩, ?_, fun k p hk hp => ⟨⟨(hlow k p hk hp).1.1, fun e => ?_⟩, Nat.lt_of_lt_of_le (hlow k p hk hp).2 (by omega)⟩⟩
  · obtain ⟨C, h1, h2⟩ := h.row
    exact ⟨C, h1, (hblk _ h2.lt (fun e => by have := hfar _ e; omega)).trans h2⟩
  · exact (hblk _ h.res.lt (fun e => by have := hfar _ e; omega)).trans h.res
  · have e1 : (took ++ [y]).length = took.length + 1 := by simp
    rw [e1, Cs_append, Cs_one]
    exact hown
  · exact h.below.trans ⟨hg.os, hg.tape, hg.output, by omega, fun j hj => hblk j (by have := h.res.lt; omega) (fun e => by have := hfar _ e; omega)⟩
  · exact (hrd.keepA (fun k p hk hp => hblk _ (hlow k p hk hp).2 (fun e => (hlow k p hk hp).1.2 e.symm))).more (by omega)
  · rcases hv with hv | hv
    · exact (hlow k p hk hp).1.2 (by rw [← hv]; exact e)
    · rw [hv, World.size_alloc] at e
      injection e with e
      have := (hlow k p hk hp).2
      omega
theorem arr4 {C : Array Value} (h : C.size = 4) : ∃ a b c d, C = #[a, b, c, d] := by
  obtain ⟨L⟩ := C
  match L, h with
  | [a, b, c, d], _ => exact ⟨a, b, c, d, rfl⟩
def valR : Except Int (Lim × List Ent) → Lim
  | .ok x => x.1
  | .error _ => lim0
def tookR : Except Int (Lim × List Ent) → List Ent
  | .ok x => x.2
  | .error _ => []
theorem entry_new (w : World) (s g : Int) : Rd (w.alloc (.cells #[.int .i64 s, .int .u64 g] 34)) (w.alloc (.cells #[.int .i64 s, .int .u64 g] 34)).heap.size 2 (some ⟨w.heap.size, 0, none⟩) 1 (encE (s, g)) := (Rd.new w #[.int .i64 s, .int .u64 g] 34 2 1 rfl).more (by simp)
theorem encE_one' (y : Ent) : ∀ u ∈ encE y, u.oneCell' = true := by intro u hu; simp [encE] at hu; rcases hu with rfl | rfl <;> rfl
def RunRef (W : World) (r : Except Int (Lim × List Ent)) (e : Ending) (W' : World) : Prop := ∃ A' n' c' At ct, e = .returned (.tuple #[.agg (limC (valR r).E A' n' c'), .slice At (tookR r).length ct, .int .i64 (errL r)]) ∧ LimRd W' W'.heap.size A' n' (valR r).r ∧ Rd W' W'.heap.size 2 At (tookR r).length (Cs encE (tookR r)) ∧ Below W.heap.size W W'
theorem runRef_err {W W' : World} {r : Except Int (Lim × List Ent)} {k : Int} (hr : r = .error k) (hb : Below W.heap.size W W') : RunRef W r (.returned (.tuple #[.agg zeroC, .slice none 0 0, .int .i64 k])) W' := by
  subst hr
  exact ⟨fun _ => none, fun _ => 0, fun _ => 0, none, 0, rfl, zero_rd W' _, Rd.none_, hb⟩
theorem runRef_ok {W W' : World} {r : Except Int (Lim × List Ent)} {l : Lim} {took : List Ent} {A' : Nat → Option Addr} {n' c' : Nat → Nat} {At : Option Addr} {ct m : Nat} (hr : r = .ok (l, took)) (hd : LimRd W' W'.heap.size A' n' l.r) (hm : took.length = m) (ht : W'.ownsRow (W.heap.size + 1 + 1) 34 2 (.slice At m ct) m (Cs encE took)) (hb : Below W.heap.size W W') : RunRef W r (.returned (.tuple #[.agg (limC l.E A' n' c'), .slice At m ct, .int .i64 0])) W' := by
  subst hr; subst hm
  exact ⟨A', n', c', At, ct, rfl, hd, Rd.of_own ht, hb⟩
def off2 (W : World) (j : Nat) : Prop := j ≠ W.heap.size ∧ j ≠ W.heap.size + 1
def off3 (W : World) (g : Nat) (j : Nat) : Prop := off2 W j ∧ j ≠ g
def RfSt (W : World) (l : Lim) (steps : List Ent) (j : Nat) (v : Value) (wr : World) : Prop := ∃ lj tk A n c, doRun l (steps.take j) [] = .ok (lj, tk) ∧ tk.length ≤ 128 * j ∧ RfAt W (off2 W) wr lj tk A n c v
/-- While what is ready is taken: the box for the next limbo, too. -/
structure RfIn (W : World) (g10 : Nat) (w : World) (l : Lim) (took : List Ent) (A : Nat → Option Addr) (n c : Nat → Nat) (v : Value) : Prop where
  at_ : RfAt W (off3 W g10) w l took A n c v
  box : RowAt w g10 26 zeroC
  vne : v.ownBlock ≠ some g10
def RfInS (W : World) (g10 : Nat) (l : Lim) (took : List Ent) (i : Nat) (v : Value) (w : World) : Prop := ∃ A n c, RfIn W g10 w (drn l i) (took ++ (l.at 2).take i) A n c v
def lenV : Value → Nat
  | .slice _ n _ => n
  | _ => 0
set_option maxHeartbeats 8000000 in
set_option maxRecDepth 20000 in
theorem rrun_any (A : Nat → Option Addr) (n c : Nat → Nat) (l : Lim) (m cs : Nat) (As : Option Addr) (steps : List Ent) (W : World) (h : LimRd W W.heap.size A n l.r) (hlo : LowL (fun _ => True) W A) (hok : l.ok = true) (hcp : CapL n c) (hr : Rd W W.heap.size 2 As m (Cs encE steps)) (hx : steps.length = m) (hm : m ≤ 4096) :
    Calls Tryd.prog 23 #[.agg (limC l.E A n c), .slice As m cs] W (RunRef W (doRun l steps [])) := by
  obtain ⟨w1, hw1⟩ : ∃ w1, W.alloc (.cells (limC l.E A n c) 26) = w1 := ⟨_, rfl⟩
  obtain ⟨w2, hw2⟩ : ∃ w2, w1.alloc (.cells zeroC 26) = w2 := ⟨_, rfl⟩
  have s1 : w1.heap.size = W.heap.size + 1 := by rw [← hw1]; simp
  have s2 : w2.heap.size = W.heap.size + 1 + 1 := by rw [← hw2]; simp [s1]
  have b1 : Below W.heap.size W w1 := by rw [← hw1]; exact (Below.refl _ _).alloc (Nat.le_refl _) _
  have b2 : Below w1.heap.size w1 w2 := by rw [← hw2]; exact (Below.refl _ _).alloc (Nat.le_refl _) _
  have r1 : RowAt w2 W.heap.size 26 (limC l.E A n c) := by have h := RowAt.new W 26 (limC l.E A n c); rw [hw1] at h; exact h.below b2
  have r2 : RowAt w2 (W.heap.size + 1) 26 zeroC := by have h := RowAt.new w1 26 zeroC; rw [hw2, s1] at h; exact h
  have hb0 := b1.trans (b2.mono b1.size)
  have HS0 := hide (show RfAt W (off2 W) w2 l [] A n c (.slice none 0 0) from ⟨⟨⟨_, rfl, r1⟩, r2, ⟨by simp [Cs], .inl ⟨rfl, rfl⟩⟩, hb0⟩, r1, (h.below hb0).more hb0.size, fun k p hk hp => ⟨⟨⟨by have := (hlo k p hk hp).2; omega, by have := (hlo k p hk hp).2; omega⟩, by simp [Value.ownBlock]⟩, Nat.lt_of_lt_of_le (hlo k p hk hp).2 hb0.size⟩, hcp, hok⟩)
  have HR := hide hr
  have HX := hide hx
  clear s1 s2 b1 b2 r1 r2 hb0 h hlo hok hcp hr hx
  subst hw2
  subst hw1
  go_enter Tryd.func23, Tryd.ntmps23
  go_upto_region 1 with (fail)
  generalize (W.alloc (.cells (limC l.E A n c) 26)).alloc (.cells zeroC 26) = w0 at *
  go_wp2_with fail
  go_loopw [7, 17] (fun v i wr => ∃ (j : Nat) (vv : Value), j ≤ m ∧ i = .int .i64 (j : Int) ∧ vv = v ∧ RfSt W l steps j vv wr) (fun _ i _ => m - (intOf i).toNat)
  case atStart => exact ⟨0, _, Nat.zero_le _, rfl, rfl, l, [], A, n, c, by simp [doRun], by simp, HS0.out⟩
  case round =>
    obtain ⟨j, v, hj, rfl, rfl, l1, tk1, A1, n1, c1, hrun, htl, hst⟩ := hrel
    have HRUN := hide hrun
    have HTL := hide htl
    have HST0 := hide hst
    have HRW := hide (HR.out.below hst.base.below)
    have hsz := hst.base.below.size
    clear hrun htl hst
    by_cases hlt : j < m
    · obtain ⟨b, o, rfl, hb, d0, d1⟩ := HRW.out.ent HX.out hlt
      have hbl : b < wr.heap.size := by omega
      have hjm : (j : Int) < (m : Int) := by omega
      have hjx : j < steps.length := by rw [HX.out]; exact hlt
      have HSN := hide (getD_take steps j hjx)
      have HSE := hide (show steps = steps.take j ++ (steps.getD j (0, 0) :: steps.drop (j + 1)) from by
        have h1 : steps.getD j (0, 0) = steps[j] := by rw [List.getD_eq_getElem?_getD, List.getElem?_eq_getElem hjx]; rfl
        rw [h1, ← List.drop_eq_getElem_cons hjx, List.take_append_drop])
      obtain ⟨x, hxx⟩ : ∃ x, steps.getD j (0, 0) = x := ⟨_, rfl⟩
      rw [hxx] at d0 d1 HSN HSE
      obtain ⟨s, g⟩ := x
      dsimp only at d0 d1
      clear hxx hb
      obtain ⟨w8, hw8⟩ : ∃ w8, wr.alloc (.cells #[.int .i64 s, .int .u64 g] 34) = w8 := ⟨_, rfl⟩
      obtain ⟨w9, hw9⟩ : ∃ w9, w8.alloc (.cells zeroC 26) = w9 := ⟨_, rfl⟩
      have s1 : w8.heap.size = wr.heap.size + 1 := by rw [← hw8]; simp
      have b1 : Below wr.heap.size wr w8 := by rw [← hw8]; exact (Below.refl _ _).alloc (Nat.le_refl _) _
      have b2 : Below w8.heap.size w8 w9 := by rw [← hw9]; exact (Below.refl _ _).alloc (Nat.le_refl _) _
      have HEN := hide (show RowAt w9 wr.heap.size 34 #[.int .i64 s, .int .u64 g] from by have h := RowAt.new wr 34 #[.int .i64 s, .int .u64 g]; rw [hw8] at h; exact h.below b2)
      have HBX := hide (show RowAt w9 (wr.heap.size + 1) 26 zeroC from by have h := RowAt.new w8 26 zeroC; rw [hw9, s1] at h; exact h)
      have HST := hide ((HST0.out.weak (Y := off3 W (wr.heap.size + 1)) (fun j hj h => ⟨h, by omega⟩)).later (b1.trans (b2.mono b1.size)))
      have HVN : Hid (v.ownBlock ≠ some (wr.heap.size + 1)) := hide (fun e => by have := (own_lt HST0.out.base.out e).2; omega)
      have HGT : Hid (W.heap.size + 1 < wr.heap.size + 1) := hide (by have := HST0.out.base.res.lt; omega)
      clear s1 b1 b2 HST0 HRW
      subst hw9
      subst hw8
      go_upto_region 6 with (fail)
      generalize (wr.alloc (.cells #[.int .i64 s, .int .u64 g] 34)).alloc (.cells zeroC 26) = w2 at *
      generalize wr.heap.size + 1 = g10 at *
      generalize wr.heap.size = g9 at *
      clear d0 d1 hbl
      by_cases hneg : 0 ≤ s
      · have hd : decide (0 ≤ s) = true := by simpa using hneg
        have HDS := hide (show doStep l1 (s, g) = (doRet l1 (s, g)).map (fun l' => (l', [])) from by unfold doStep; rw [if_pos hneg])
        have e0 := row20 HEN.out
        have e1 := row21 HEN.out
        have el := HEN.out.lt
        clear hneg
        go_upto_region 7 with (fail)
        clear e0 e1 el
        have HCALL := hide (rret_any (fun j => off3 W g10 j ∧ v.ownBlock ≠ some j) A1 n1 c1 l1 s g w2 HST.out.rd HST.out.low (HST.out.base.far (fun j hj => ⟨⟨by have := HST.out.row.lt; omega, by have := HST.out.base.res.lt; omega⟩, by have := HBX.out.lt; omega⟩)) HST.out.ok (fun k hk => by rw [← HST.out.rd.len k hk]; have := row_len HST.out.ok hk; omega) HST.out.cap)
        cases hact : doRet l1 (s, g) with
        | error k =>
          have HK := hide (show k ≠ 0 from doRet_ne hact)
          have HE := hide (doRun_error (steps.take j) l [] (s, g) (steps.drop (j + 1)) l1 tk1 k HRUN.out (by rw [HDS.out, hact]; rfl))
          rw [← HSE.out] at HE
          have HC2 := hide (HCALL.out.mono (fun e w' h => refRes_out_err hact h))
          clear hact HCALL
          have q0 : w2.cell? ⟨W.heap.size, 0, none⟩ = some (.int .u64 (l1.E : Int)) := by have := RowAt.cell HST.out.row 0; simpa [limC] using this
          have q1 : w2.cell? ⟨W.heap.size, 1, none⟩ = some (.slice (A1 0) (n1 0) (c1 0)) := by have := RowAt.cell HST.out.row 1; simpa [limC] using this
          have q2 : w2.cell? ⟨W.heap.size, 2, none⟩ = some (.slice (A1 1) (n1 1) (c1 1)) := by have := RowAt.cell HST.out.row 2; simpa [limC] using this
          have q3 : w2.cell? ⟨W.heap.size, 3, none⟩ = some (.slice (A1 2) (n1 2) (c1 2)) := by have := RowAt.cell HST.out.row 3; simpa [limC] using this
          have ql := HST.out.row.lt
          have e0 := row20 HEN.out
          have e1 := row21 HEN.out
          have el := HEN.out.lt
          go_wp2_with fail
          with_reducible refine HC2.out.mono ?_
          rintro e w4 ⟨A', n', c', rfl, hb⟩
          have HSB := hide (HST.out.base.later hb)
          have HB4 := hide (HBX.out.below hb)
          clear q0 q1 q2 q3 ql hb HC2 e0 e1 el
          have z0 : w4.cell? ⟨g10, 0, none⟩ = some (.int .u64 0) := by have := RowAt.cell HB4.out 0; simpa using this
          have z1 : w4.cell? ⟨g10, 1, none⟩ = some (.slice none 0 0) := by have := RowAt.cell HB4.out 1; simpa using this
          have z2 : w4.cell? ⟨g10, 2, none⟩ = some (.slice none 0 0) := by have := RowAt.cell HB4.out 2; simpa using this
          have z3 : w4.cell? ⟨g10, 3, none⟩ = some (.slice none 0 0) := by have := RowAt.cell HB4.out 3; simpa using this
          have zl := RowAt.lt HB4.out
          have f0 := RowAt.frozen HB4.out 0
          have f1 := RowAt.frozen HB4.out 1
          have f2 := RowAt.frozen HB4.out 2
          have f3 := RowAt.frozen HB4.out 3
          have HLD : Hid (LaidL g10 w4 (limC lim0.E A' n' c') ((((w4.setCell ⟨g10, 0, none⟩ (.int .u64 (lim0.E : Int))).setCell ⟨g10, 1, none⟩ (.slice (A' 0) (n' 0) (c' 0))).setCell ⟨g10, 2, none⟩ (.slice (A' 1) (n' 1) (c' 1))).setCell ⟨g10, 3, none⟩ (.slice (A' 2) (n' 2) (c' 2)))) := hide (laidL_of HB4.out rfl)
          go_upto_region 12 with (fail)
          replace HSB := hide (HSB.out.laid HLD.out HGT.out HVN.out)
          have HBX5 := hide HLD.out.row
          generalize ((((w4.setCell ⟨g10, 0, none⟩ (.int .u64 (lim0.E : Int))).setCell ⟨g10, 1, none⟩ (.slice (A' 0) (n' 0) (c' 0))).setCell ⟨g10, 2, none⟩ (.slice (A' 1) (n' 1) (c' 1))).setCell ⟨g10, 3, none⟩ (.slice (A' 2) (n' 2) (c' 2))) = w5 at *
          clear z0 z1 z2 z3 zl f0 f1 f2 f3 HLD HB4 HST HBX
          have hk0 : (k != 0) = true := by rw [bne_iff_ne]; exact HK.out
          have hk1 : (k == 0) = false := by rw [beq_eq_false_iff_ne]; exact HK.out
          have z0 : w5.cell? ⟨(W.heap.size + 1), 0, none⟩ = some (.int .u64 0) := by have := RowAt.cell HSB.out.res 0; simpa using this
          have z1 : w5.cell? ⟨(W.heap.size + 1), 1, none⟩ = some (.slice none 0 0) := by have := RowAt.cell HSB.out.res 1; simpa using this
          have z2 : w5.cell? ⟨(W.heap.size + 1), 2, none⟩ = some (.slice none 0 0) := by have := RowAt.cell HSB.out.res 2; simpa using this
          have z3 : w5.cell? ⟨(W.heap.size + 1), 3, none⟩ = some (.slice none 0 0) := by have := RowAt.cell HSB.out.res 3; simpa using this
          have zl := RowAt.lt HSB.out.res
          have f0 := RowAt.frozen HSB.out.res 0
          have f1 := RowAt.frozen HSB.out.res 1
          have f2 := RowAt.frozen HSB.out.res 2
          have f3 := RowAt.frozen HSB.out.res 3
          have HLD : Hid (LaidL (W.heap.size + 1) w5 zeroC ((((w5.setCell ⟨(W.heap.size + 1), 0, none⟩ (.int .u64 0)).setCell ⟨(W.heap.size + 1), 1, none⟩ (.slice none 0 0)).setCell ⟨(W.heap.size + 1), 2, none⟩ (.slice none 0 0)).setCell ⟨(W.heap.size + 1), 3, none⟩ (.slice none 0 0))) := hide (laidL_of HSB.out.res rfl)
          go_wp2_with fail
          generalize ((((w5.setCell ⟨W.heap.size + 1, 0, none⟩ (.int .u64 0)).setCell ⟨W.heap.size + 1, 1, none⟩ (.slice none 0 0)).setCell ⟨W.heap.size + 1, 2, none⟩ (.slice none 0 0)).setCell ⟨W.heap.size + 1, 3, none⟩ (.slice none 0 0)) = w99 at *
          have y0 : w99.cell? ⟨W.heap.size + 1, 0, none⟩ = some (.int .u64 0) := by have := HLD.out.row.cell 0; simpa [limC] using this
          have y1 : w99.cell? ⟨W.heap.size + 1, 1, none⟩ = some (.slice none 0 0) := by have := HLD.out.row.cell 1; simpa [limC] using this
          have y2 : w99.cell? ⟨W.heap.size + 1, 2, none⟩ = some (.slice none 0 0) := by have := HLD.out.row.cell 2; simpa [limC] using this
          have y3 : w99.cell? ⟨W.heap.size + 1, 3, none⟩ = some (.slice none 0 0) := by have := HLD.out.row.cell 3; simpa [limC] using this
          have yl := HLD.out.row.lt
          refine bodyPost_ret (v := .tuple #[.agg zeroC, .slice none 0 0, .int .i64 k]) (by simp [results, Tryd.results23, go_sem, y0, y1, y2, y3, yl]) rfl ?_
          exact runRef_err HE.out (HSB.out.below.trans (HLD.out.below.mono (by omega)))
        | ok l' =>
          have HOK2 := hide (ok_ret HST.out.ok hact)
          have HRN2 := hide (show doRun l (steps.take (j + 1)) [] = .ok (l', tk1 ++ []) from by
            rw [HSN.out, doRun_snoc, HRUN.out]
            simp only [HDS.out, hact]
            rfl)
          have HC2 := hide (HCALL.out.mono (fun e w' h => refRes_out_ok hact h))
          clear hact HCALL
          have q0 : w2.cell? ⟨W.heap.size, 0, none⟩ = some (.int .u64 (l1.E : Int)) := by have := RowAt.cell HST.out.row 0; simpa [limC] using this
          have q1 : w2.cell? ⟨W.heap.size, 1, none⟩ = some (.slice (A1 0) (n1 0) (c1 0)) := by have := RowAt.cell HST.out.row 1; simpa [limC] using this
          have q2 : w2.cell? ⟨W.heap.size, 2, none⟩ = some (.slice (A1 1) (n1 1) (c1 1)) := by have := RowAt.cell HST.out.row 2; simpa [limC] using this
          have q3 : w2.cell? ⟨W.heap.size, 3, none⟩ = some (.slice (A1 2) (n1 2) (c1 2)) := by have := RowAt.cell HST.out.row 3; simpa [limC] using this
          have ql := HST.out.row.lt
          have e0 := row20 HEN.out
          have e1 := row21 HEN.out
          have el := HEN.out.lt
          go_wp2_with fail
          with_reducible refine HC2.out.mono ?_
          rintro e w4 ⟨A', n', c', rfl, hrr, hb⟩
          have HNR := hide hrr
          clear hrr
          have HSB := hide (HST.out.base.later hb)
          have HB4 := hide (HBX.out.below hb)
          clear q0 q1 q2 q3 ql hb HC2 e0 e1 el
          have z0 : w4.cell? ⟨g10, 0, none⟩ = some (.int .u64 0) := by have := RowAt.cell HB4.out 0; simpa using this
          have z1 : w4.cell? ⟨g10, 1, none⟩ = some (.slice none 0 0) := by have := RowAt.cell HB4.out 1; simpa using this
          have z2 : w4.cell? ⟨g10, 2, none⟩ = some (.slice none 0 0) := by have := RowAt.cell HB4.out 2; simpa using this
          have z3 : w4.cell? ⟨g10, 3, none⟩ = some (.slice none 0 0) := by have := RowAt.cell HB4.out 3; simpa using this
          have zl := RowAt.lt HB4.out
          have f0 := RowAt.frozen HB4.out 0
          have f1 := RowAt.frozen HB4.out 1
          have f2 := RowAt.frozen HB4.out 2
          have f3 := RowAt.frozen HB4.out 3
          have HLD : Hid (LaidL g10 w4 (limC l'.E A' n' c') ((((w4.setCell ⟨g10, 0, none⟩ (.int .u64 (l'.E : Int))).setCell ⟨g10, 1, none⟩ (.slice (A' 0) (n' 0) (c' 0))).setCell ⟨g10, 2, none⟩ (.slice (A' 1) (n' 1) (c' 1))).setCell ⟨g10, 3, none⟩ (.slice (A' 2) (n' 2) (c' 2)))) := hide (laidL_of HB4.out rfl)
          go_upto_region 12 with (fail)
          replace HSB := hide (HSB.out.laid HLD.out HGT.out HVN.out)
          have HBX5 := hide HLD.out.row
          have HN2 := hide (And.intro ((HNR.out.1.keepA (fun k p hk hp => HLD.out.block _ (HNR.out.2.1 k p hk hp).1.1.2)).more HLD.out.below.size) (HNR.out.2.1.more HLD.out.below.size))
          have HN3 := hide HNR.out.2.2
          generalize ((((w4.setCell ⟨g10, 0, none⟩ (.int .u64 (l'.E : Int))).setCell ⟨g10, 1, none⟩ (.slice (A' 0) (n' 0) (c' 0))).setCell ⟨g10, 2, none⟩ (.slice (A' 1) (n' 1) (c' 1))).setCell ⟨g10, 3, none⟩ (.slice (A' 2) (n' 2) (c' 2))) = w5 at *
          clear z0 z1 z2 z3 zl f0 f1 f2 f3 HLD HB4 HST HBX HNR
          have hk0 : ((0 : Int) != 0) = false := rfl
          go_upto_region 14 with (fail)
          have q0 : w5.cell? ⟨g10, 0, none⟩ = some (.int .u64 (l'.E : Int)) := by have := RowAt.cell HBX5.out 0; simpa [limC] using this
          have q1 : w5.cell? ⟨g10, 1, none⟩ = some (.slice (A' 0) (n' 0) (c' 0)) := by have := RowAt.cell HBX5.out 1; simpa [limC] using this
          have q2 : w5.cell? ⟨g10, 2, none⟩ = some (.slice (A' 1) (n' 1) (c' 1)) := by have := RowAt.cell HBX5.out 2; simpa [limC] using this
          have q3 : w5.cell? ⟨g10, 3, none⟩ = some (.slice (A' 2) (n' 2) (c' 2)) := by have := RowAt.cell HBX5.out 3; simpa [limC] using this
          have ql := HBX5.out.lt
          obtain ⟨C0, hC0, hrow0⟩ := HSB.out.row
          obtain ⟨x0, x1, x2, x3, rfl⟩ := arr4 hC0
          have hx0 : w5.cell? ⟨W.heap.size, 0, none⟩ = some x0 := by have := RowAt.cell hrow0 0; simpa using this
          have hx1 : w5.cell? ⟨W.heap.size, 1, none⟩ = some x1 := by have := RowAt.cell hrow0 1; simpa using this
          have hx2 : w5.cell? ⟨W.heap.size, 2, none⟩ = some x2 := by have := RowAt.cell hrow0 2; simpa using this
          have hx3 : w5.cell? ⟨W.heap.size, 3, none⟩ = some x3 := by have := RowAt.cell hrow0 3; simpa using this
          have HRW := hide hrow0
          have hgl := hrow0.lt
          have hgf0 := hrow0.frozen 0
          have hgf1 := hrow0.frozen 1
          have hgf2 := hrow0.frozen 2
          have hgf3 := hrow0.frozen 3
          have HLD : Hid (LaidL W.heap.size w5 (limC l'.E A' n' c') ((((w5.setCell ⟨W.heap.size, 0, none⟩ (.int .u64 (l'.E : Int))).setCell ⟨W.heap.size, 1, none⟩ (.slice (A' 0) (n' 0) (c' 0))).setCell ⟨W.heap.size, 2, none⟩ (.slice (A' 1) (n' 1) (c' 1))).setCell ⟨W.heap.size, 3, none⟩ (.slice (A' 2) (n' 2) (c' 2)))) := hide (laidL_of hrow0 hC0)
          clear hrow0
          go_wp2_with fail
          have HST2 := hide (HSB.out.put HLD.out HN2.out.1 HN2.out.2 HN3.out HOK2.out (fun j hj => hj.1.1))
          generalize ((((w5.setCell ⟨W.heap.size, 0, none⟩ (.int .u64 (l'.E : Int))).setCell ⟨W.heap.size, 1, none⟩ (.slice (A' 0) (n' 0) (c' 0))).setCell ⟨W.heap.size, 2, none⟩ (.slice (A' 1) (n' 1) (c' 1))).setCell ⟨W.heap.size, 3, none⟩ (.slice (A' 2) (n' 2) (c' 2))) = w6 at *
          go_roundw
          case rel => exact ⟨j + 1, _, by omega, by go_num, rfl, l', _, A', n', c', HRN2.out, by rw [List.append_nil]; have := HTL.out; omega, by rw [List.append_nil]; exact HST2.out.weak (fun _ _ h => h.1)⟩
          case measure => simp [intOf]; omega
      · have hd : decide (0 ≤ s) = false := by simpa using hneg
        have HDS := hide (show doStep l1 (s, g) = (doAdv (drain l1)).map (fun l' => (l', l1.at 2)) from by unfold doStep; rw [if_neg hneg])
        have e0 := row20 HEN.out
        have e1 := row21 HEN.out
        have el := HEN.out.lt
        clear hneg
        go_upto_region 8 with (fail)
        clear e0 e1 el
        have HAT := hide (show (l1.at 2).length ≤ 128 from at_len HST.out.ok 2)
        obtain ⟨N, hN⟩ : ∃ N, (l1.at 2).length = N := ⟨_, rfl⟩
        have HN := hide hN
        rw [hN] at HAT
        clear hN HEN
        go_loopw [7] (fun v2 wr => ∃ (i' : Nat) (vv : Value), i' ≤ N ∧ vv = v2 ∧ RfInS W g10 l1 tk1 i' vv wr) (fun v2 _ => tk1.length + N - lenV v2)
        case atStart => exact ⟨0, _, Nat.zero_le _, rfl, A1, n1, c1, by rw [drn_zero]; simpa using ⟨HST.out, HBX.out, HVN.out⟩⟩
        case round =>
          obtain ⟨i', v2, hi', rfl, A2, n2, c2, hin⟩ := hrel
          have HIN := hide hin
          obtain ⟨A3, m3, c3, hc3, hr3, hl3, hmc3, hcm3, hm43⟩ := of_two2 (w := wr) hin.at_.rd hin.at_.cap hin.at_.ok (fun k hk => by rw [← hin.at_.rd.len k hk]; have := row_len hin.at_.ok hk; omega)
          have hm3 : N - i' = m3 := by rw [← hl3, drn_at, List.length_drop, HN.out]
          have HC := hide hc3
          clear hin hc3 hr3 hl3 hmc3 hcm3 hm43
          have q0 : wr.cell? ⟨W.heap.size, 0, none⟩ = some (.int .u64 ((drn l1 i').E : Int)) := by have := RowAt.cell HIN.out.at_.row 0; simpa [limC] using this
          have q1 : wr.cell? ⟨W.heap.size, 1, none⟩ = some (.slice (A2 0) (n2 0) (c2 0)) := by have := RowAt.cell HIN.out.at_.row 1; simpa [limC] using this
          have q2 : wr.cell? ⟨W.heap.size, 2, none⟩ = some (.slice (A2 1) (n2 1) (c2 1)) := by have := RowAt.cell HIN.out.at_.row 2; simpa [limC] using this
          have q3 : wr.cell? ⟨W.heap.size, 3, none⟩ = some (.slice (A2 2) (n2 2) (c2 2)) := by have := RowAt.cell HIN.out.at_.row 3; simpa [limC] using this
          have ql := HIN.out.at_.row.lt
          go_wp2_with fail
          with_reducible refine HC.out.mono ?_
          rintro e w3 ⟨rfl, hb⟩
          have HST := hide (HIN.out.at_.later hb)
          have HBX := hide (HIN.out.box.below hb)
          have HVN := hide HIN.out.vne
          clear q0 q1 q2 q3 ql hb HC HIN
          by_cases hlt2 : i' < N
          · have hd : decide ((0 : Int) < (m3 : Int)) = true := by simp; omega
            have hix : i' < (l1.at 2).length := by rw [HN.out]; exact hlt2
            have HDT := drn_take l1 i' hix
            have HTS := hide (getD_take (l1.at 2) i' hix)
            obtain ⟨y, hy⟩ : ∃ y, (l1.at 2).getD i' (0, 0) = y := ⟨_, rfl⟩
            rw [hy] at HDT HTS
            obtain ⟨ys, yg⟩ := y
            have HOK2 := hide (ok_take HST.out.ok HDT)
            have HTK := hide ((rtak_any (fun j => off3 W g10 j ∧ v2.ownBlock ≠ some j) A2 n2 c2 (drn l1 i') w3 HST.out.rd HST.out.low (HST.out.base.far (fun j hj => ⟨⟨by have := HST.out.row.lt; omega, by have := HST.out.base.res.lt; omega⟩, by have := HBX.out.lt; omega⟩)) HST.out.ok (fun k hk => by rw [← HST.out.rd.len k hk]; have := row_len HST.out.ok hk; omega) HST.out.cap).mono (fun e w' h => refResT_out_ok HDT h))
            clear HDT hy
            go_upto_region 9 with (fail)
            clear hd hm3
            have q0 : w3.cell? ⟨W.heap.size, 0, none⟩ = some (.int .u64 ((drn l1 i').E : Int)) := by have := RowAt.cell HST.out.row 0; simpa [limC] using this
            have q1 : w3.cell? ⟨W.heap.size, 1, none⟩ = some (.slice (A2 0) (n2 0) (c2 0)) := by have := RowAt.cell HST.out.row 1; simpa [limC] using this
            have q2 : w3.cell? ⟨W.heap.size, 2, none⟩ = some (.slice (A2 1) (n2 1) (c2 1)) := by have := RowAt.cell HST.out.row 2; simpa [limC] using this
            have q3 : w3.cell? ⟨W.heap.size, 3, none⟩ = some (.slice (A2 2) (n2 2) (c2 2)) := by have := RowAt.cell HST.out.row 3; simpa [limC] using this
            have ql := HST.out.row.lt
            go_wp2_with fail
            with_reducible refine HTK.out.mono ?_
            rintro e w4 ⟨A', n', c', rfl, hrr, hb⟩
            have HNR := hide hrr
            have HSB := hide (HST.out.base.later hb)
            have HB4 := hide (HBX.out.below hb)
            have HLV := hide (show lenV v2 = tk1.length + i' from by
              obtain ⟨Av, cv, rfl, _⟩ := own_form HST.out.base.out
              simp [lenV, HN.out]; omega)
            clear q0 q1 q2 q3 ql hrr hb HTK HST HBX
            go_upto_region 10 with (fail)
            have b4 : Below w4.heap.size w4 (w4.alloc (.cells #[.int .u64 ((drn l1 (i' + 1)).E : Int), .slice (A' 0) (n' 0) (c' 0), .slice (A' 1) (n' 1) (c' 1), .slice (A' 2) (n' 2) (c' 2)] 26)) := (Below.refl _ _).alloc (Nat.le_refl _) _
            have b5 : Below (w4.alloc (.cells #[.int .u64 ((drn l1 (i' + 1)).E : Int), .slice (A' 0) (n' 0) (c' 0), .slice (A' 1) (n' 1) (c' 1), .slice (A' 2) (n' 2) (c' 2)] 26)).heap.size (w4.alloc (.cells #[.int .u64 ((drn l1 (i' + 1)).E : Int), .slice (A' 0) (n' 0) (c' 0), .slice (A' 1) (n' 1) (c' 1), .slice (A' 2) (n' 2) (c' 2)] 26)) ((w4.alloc (.cells #[.int .u64 ((drn l1 (i' + 1)).E : Int), .slice (A' 0) (n' 0) (c' 0), .slice (A' 1) (n' 1) (c' 1), .slice (A' 2) (n' 2) (c' 2)] 26)).alloc (.cells #[.int .i64 ys, .int .u64 yg] 34)) := (Below.refl _ _).alloc (Nat.le_refl _) _
            have HR12 := hide (show RowAt ((w4.alloc (.cells #[.int .u64 ((drn l1 (i' + 1)).E : Int), .slice (A' 0) (n' 0) (c' 0), .slice (A' 1) (n' 1) (c' 1), .slice (A' 2) (n' 2) (c' 2)] 26)).alloc (.cells #[.int .i64 ys, .int .u64 yg] 34)) w4.heap.size 26 (limC (drn l1 (i' + 1)).E A' n' c') from (RowAt.new w4 26 (limC (drn l1 (i' + 1)).E A' n' c')).below b5)
            have HR13 := hide (show RowAt ((w4.alloc (.cells #[.int .u64 ((drn l1 (i' + 1)).E : Int), .slice (A' 0) (n' 0) (c' 0), .slice (A' 1) (n' 1) (c' 1), .slice (A' 2) (n' 2) (c' 2)] 26)).alloc (.cells #[.int .i64 ys, .int .u64 yg] 34)) (w4.heap.size + 1) 34 #[.int .i64 ys, .int .u64 yg] from by have h := RowAt.new (w4.alloc (.cells #[.int .u64 ((drn l1 (i' + 1)).E : Int), .slice (A' 0) (n' 0) (c' 0), .slice (A' 1) (n' 1) (c' 1), .slice (A' 2) (n' 2) (c' 2)] 26)) 34 #[.int .i64 ys, .int .u64 yg]; rw [World.size_alloc] at h; exact h)
            have b6 := b4.trans (b5.mono b4.size)
            have HV12 := hide (show v2.ownBlock ≠ some w4.heap.size ∧ v2.ownBlock ≠ some (w4.heap.size + 1) from ⟨fun e => by have := (own_lt HSB.out.out e).2; omega, fun e => by have := (own_lt HSB.out.out e).2; omega⟩)
            have HG12 := hide (show g10 < w4.heap.size from HB4.out.lt)
            replace HSB := hide (HSB.out.later b6)
            replace HB4 := hide (HB4.out.below b6)
            have HN1 := hide ((HNR.out.1.below b6).more b6.size)
            have HN2 := hide (HNR.out.2.1.more b6.size)
            have HN3 := hide HNR.out.2.2
            clear b4 b5 b6 HNR
            generalize (w4.alloc (.cells #[.int .u64 ((drn l1 (i' + 1)).E : Int), .slice (A' 0) (n' 0) (c' 0), .slice (A' 1) (n' 1) (c' 1), .slice (A' 2) (n' 2) (c' 2)] 26)).alloc (.cells #[.int .i64 ys, .int .u64 yg] 34) = w5 at *
            generalize w4.heap.size = g12 at *
            refine wp_region_held_drew (S := fun wX => RowAt wX g12 26 (limC (drn l1 (i' + 1)).E A' n' c') ∧ RowAt wX (g12 + 1) 34 #[.int .i64 ys, .int .u64 yg]) (by kernel_rfl) ⟨HR12.out.drew, HR13.out.drew⟩ (fun hHeld => ?_)
            replace HSB := hide (HSB.out.later (Below.refl _ _).drew)
            replace HB4 := hide (HB4.out.below (Below.refl _ _).drew)
            replace HN1 := hide (HN1.out.below (Below.refl w5.heap.size w5).drew)
            have HN2 : Hid (LowL (fun j => off3 W g10 j ∧ v2.ownBlock ≠ some j) w5.drew A') := hide HN2.out
            have HN1 : Hid (LimRd w5.drew w5.drew.heap.size A' n' (drn l1 (i' + 1)).r) := hide HN1.out
            replace HR12 := hide HR12.out.drew
            replace HR13 := hide HR13.out.drew
            generalize w5.drew = wd at *
            (refine wpAnyH_take (i := 0) (v := ?_) rfl (by kernel_rfl) (by kernel_rfl) (by kernel_rfl) (fun _ _ _ h => h) (Or.inl ⟨by rfl, ?_⟩) (by assumption) ?_; rotate_left; (focus (intro w hSw; (try dsimp only at hSw); have k0 := RowAt.cell hSw.1 0; have k1 := RowAt.cell hSw.1 1; have k2 := RowAt.cell hSw.1 2; have k3 := RowAt.cell hSw.1 3; have kl := hSw.1.lt; have m0 := row20 hSw.2; have m1 := row21 hSw.2; have ml := hSw.2.lt; simp [limC] at k0 k1 k2 k3; go_simp; first | done | with_reducible rfl)); (try simp only [Act.put, List.getElem_toArray, List.getElem_cons_succ, List.getElem_cons_zero, List.setIfInBounds_toArray, List.set_cons_zero, List.set_cons_succ]))
            (refine wpAnyH_take (i := 1) (v := ?_) rfl (by kernel_rfl) (by kernel_rfl) (by kernel_rfl) (fun _ _ _ h => h) (Or.inl ⟨by rfl, ?_⟩) (by assumption) ?_; rotate_left; (focus (intro w hSw; (try dsimp only at hSw); go_simp; first | done | with_reducible rfl)); (try simp only [Act.put, List.getElem_toArray, List.getElem_cons_succ, List.getElem_cons_zero, List.setIfInBounds_toArray, List.set_cons_zero, List.set_cons_succ]))
            (refine wpAnyH_take (i := 2) (v := ?_) rfl (by kernel_rfl) (by kernel_rfl) (by kernel_rfl) (fun _ _ _ h => h) (Or.inl ⟨by rfl, ?_⟩) (by assumption) ?_; rotate_left; (focus (intro w hSw; (try dsimp only at hSw); have k0 := RowAt.cell hSw.1 0; have k1 := RowAt.cell hSw.1 1; have k2 := RowAt.cell hSw.1 2; have k3 := RowAt.cell hSw.1 3; have kl := hSw.1.lt; have m0 := row20 hSw.2; have m1 := row21 hSw.2; have ml := hSw.2.lt; simp [limC] at k0 k1 k2 k3; go_simp; first | done | with_reducible rfl)); (try simp only [Act.put, List.getElem_toArray, List.getElem_cons_succ, List.getElem_cons_zero, List.setIfInBounds_toArray, List.set_cons_zero, List.set_cons_succ]))
            refine wpAnyH_ready (rs := [3]) (by kernel_rfl) (by simp) ?_
            refine (AllReadyH.cons rfl (fun K1 hK1 => ?_) AllReadyH.nil)
            go_simp
            have b6 : Below wd.heap.size wd (wd.alloc (.cells #[.int .i64 ys, .int .u64 yg] 34)) := (Below.refl _ _).alloc (Nat.le_refl _) _
            refine hK1.out _ _ (⟨HR12.out.below b6, HR13.out.below b6⟩) (fun _ => ?_)
            clear hK1 K1
            (try simp only [Act.put, List.getElem_toArray, List.getElem_cons_succ, List.getElem_cons_zero, List.setIfInBounds_toArray, List.set_cons_zero, List.set_cons_succ])
            have HSL := hide (entry_new wd ys yg)
            have HOW := hide (own_keepB HSB.out.out b6)
            have HRR := hide (And.intro (HR12.out.below b6) (HR13.out.below b6))
            have HB6 := hide (HB4.out.below b6)
            have HBS := hide (show W.heap.size + 1 + 1 ≤ (wd.alloc (.cells #[.int .i64 ys, .int .u64 yg] 34)).heap.size from by have := HSB.out.res.lt; have := b6.size; omega)
            have HG13 := hide (show g12 < (wd.alloc (.cells #[.int .i64 ys, .int .u64 yg] 34)).heap.size from by have := HR12.out.lt; have := b6.size; omega)
            clear b6
            generalize hw6 : wd.alloc (.cells #[.int .i64 ys, .int .u64 yg] 34) = w6 at *
            replace hw6 := hide hw6
            refine wpAnyH_ready (rs := [4]) (by kernel_rfl) (by simp) ?_
            refine (AllReadyH.cons rfl (fun K2 hK2 => ?_) AllReadyH.nil)
            rw [if_pos (by rfl)]
            refine wp_app elE _ _ rfl rfl HOW.out rfl HSL.out (encE_one' _) (by have := HTL.out; have := HAT.out; rw [List.length_append, List.length_take, HN.out]; omega) HBS.out ?_
            intro v9 w9 hown hb hg hv
            have hv : v9.ownBlock = v2.ownBlock ∨ v9.ownBlock = some w6.heap.size := hv
            have hg : w6.grownBy w9 v2.ownBlock := hg
            have HAP := hide (HSB.out.app (w9 := w9) (c := c') HN1.out HN2.out (y := (ys, yg)) (o := (.cells #[.int .i64 ys, .int .u64 yg] 34)) (by rw [hw6.out]; exact hg) hown (by rw [hw6.out]; exact hv))
            have HB9 := hide (row_grown HB6.out hg (fun e => HVN.out e.symm))
            have HR9 := hide (And.intro (row_grown HRR.out.1 hg (fun e => HV12.out.1 e.symm)) (row_grown HRR.out.2 hg (fun e => HV12.out.2 e.symm)))
            have HVN9 : Hid (v9.ownBlock ≠ some g10) := hide (fun e => by rcases hv with hv | hv; exact HVN.out (by rw [← hv]; exact e); rw [e] at hv; injection hv with hv; have := HG12.out; have := HG13.out; omega)
            clear hown hb hg hv HRR HB6 HOW HSL HBS HSB HN1 HN2 HB4 hw6 HG13
            refine hK2.out _ _ (HR9.out) (fun _ => ?_)
            clear hK2 K2
            (try simp only [Act.put, List.getElem_toArray, List.getElem_cons_succ, List.getElem_cons_zero, List.setIfInBounds_toArray, List.set_cons_zero, List.set_cons_succ])
            refine wpAnyH_ready (rs := [5]) (by kernel_rfl) (by simp) ?_
            refine (AllReadyH.cons rfl (fun K3 hK3 => ?_) AllReadyH.nil)
            obtain ⟨C0, hC0, hrow0⟩ := HAP.out.1.row
            obtain ⟨x0, x1, x2, x3, rfl⟩ := arr4 hC0
            have hx0 : w9.cell? ⟨W.heap.size, 0, none⟩ = some x0 := by have := RowAt.cell hrow0 0; simpa using this
            have hgf0 := hrow0.frozen 0
            have hx1 : w9.cell? ⟨W.heap.size, 1, none⟩ = some x1 := by have := RowAt.cell hrow0 1; simpa using this
            have hgf1 := hrow0.frozen 1
            have hx2 : w9.cell? ⟨W.heap.size, 2, none⟩ = some x2 := by have := RowAt.cell hrow0 2; simpa using this
            have hgf2 := hrow0.frozen 2
            have hx3 : w9.cell? ⟨W.heap.size, 3, none⟩ = some x3 := by have := RowAt.cell hrow0 3; simpa using this
            have hgf3 := hrow0.frozen 3
            have hgl := hrow0.lt
            have HLD : Hid (LaidL W.heap.size w9 (limC (drn l1 (i' + 1)).E A' n' c') ((((w9.setCell ⟨W.heap.size, 0, none⟩ (.int .u64 ((drn l1 (i' + 1)).E : Int))).setCell ⟨W.heap.size, 1, none⟩ (.slice (A' 0) (n' 0) (c' 0))).setCell ⟨W.heap.size, 2, none⟩ (.slice (A' 1) (n' 1) (c' 1))).setCell ⟨W.heap.size, 3, none⟩ (.slice (A' 2) (n' 2) (c' 2)))) := hide (laidL_of hrow0 hC0)
            have hgw : W.heap.size < g10 := by have := HGT.out; omega
            have HR10 := hide (show RowAt ((((w9.setCell ⟨W.heap.size, 0, none⟩ (.int .u64 ((drn l1 (i' + 1)).E : Int))).setCell ⟨W.heap.size, 1, none⟩ (.slice (A' 0) (n' 0) (c' 0))).setCell ⟨W.heap.size, 2, none⟩ (.slice (A' 1) (n' 1) (c' 1))).setCell ⟨W.heap.size, 3, none⟩ (.slice (A' 2) (n' 2) (c' 2))) g12 26 (limC (drn l1 (i' + 1)).E A' n' c') ∧ RowAt ((((w9.setCell ⟨W.heap.size, 0, none⟩ (.int .u64 ((drn l1 (i' + 1)).E : Int))).setCell ⟨W.heap.size, 1, none⟩ (.slice (A' 0) (n' 0) (c' 0))).setCell ⟨W.heap.size, 2, none⟩ (.slice (A' 1) (n' 1) (c' 1))).setCell ⟨W.heap.size, 3, none⟩ (.slice (A' 2) (n' 2) (c' 2))) (g12 + 1) 34 #[.int .i64 ys, .int .u64 yg] from ⟨(HLD.out.block _ (by have := HG12.out; omega)).trans HR9.out.1, (HLD.out.block _ (by have := HG12.out; omega)).trans HR9.out.2⟩)
            go_simp
            refine hK3.out _ _ HR10.out (fun _ => ?_)
            clear hK3 K3 hx0 hx1 hx2 hx3 hgf0 hgf1 hgf2 hgf3 hgl hrow0
            (try simp only [Act.put, List.getElem_toArray, List.getElem_cons_succ, List.getElem_cons_zero, List.setIfInBounds_toArray, List.set_cons_zero, List.set_cons_succ])
            have HST2 := hide (HAP.out.1.put HLD.out HAP.out.2.1 HAP.out.2.2 HN3.out HOK2.out (fun j hj => hj.1.1))
            have HB10 := hide (show RowAt ((((w9.setCell ⟨W.heap.size, 0, none⟩ (.int .u64 ((drn l1 (i' + 1)).E : Int))).setCell ⟨W.heap.size, 1, none⟩ (.slice (A' 0) (n' 0) (c' 0))).setCell ⟨W.heap.size, 2, none⟩ (.slice (A' 1) (n' 1) (c' 1))).setCell ⟨W.heap.size, 3, none⟩ (.slice (A' 2) (n' 2) (c' 2))) g10 26 zeroC from (HLD.out.block _ (by omega)).trans HB9.out)
            clear HLD HR9 HB9
            generalize ((((w9.setCell ⟨W.heap.size, 0, none⟩ (.int .u64 ((drn l1 (i' + 1)).E : Int))).setCell ⟨W.heap.size, 1, none⟩ (.slice (A' 0) (n' 0) (c' 0))).setCell ⟨W.heap.size, 2, none⟩ (.slice (A' 1) (n' 1) (c' 1))).setCell ⟨W.heap.size, 3, none⟩ (.slice (A' 2) (n' 2) (c' 2))) = w10 at *
            (refine wpAnyH_take (i := 6) (v := ?_) rfl (by kernel_rfl) (by kernel_rfl) (by kernel_rfl) (fun _ _ _ h => h) (Or.inl ⟨by rfl, ?_⟩) (by assumption) ?_; rotate_left; (focus (intro w hSw; (try dsimp only at hSw); go_simp; first | done | with_reducible rfl)); (try simp only [Act.put, List.getElem_toArray, List.getElem_cons_succ, List.getElem_cons_zero, List.setIfInBounds_toArray, List.set_cons_zero, List.set_cons_succ]))
            refine wpAnyH_done (by kernel_rfl) ?_ _
            have hl2 : lenV v2 = tk1.length + i' := HLV.out
            have hl9 : lenV v9 = tk1.length + (i' + 1) := by
              obtain ⟨Av, cv, rfl, _⟩ := own_form HST2.out.base.out
              simp [lenV, HN.out]; omega
            go_wp2_with fail
            go_roundw
            case rel => exact ⟨i' + 1, _, by omega, rfl, A', n', c', by rw [HTS.out, ← List.append_assoc]; exact ⟨HST2.out, HB10.out, HVN9.out⟩⟩
            case measure => simp [hl2, hl9]; omega
          · obtain rfl : i' = N := by omega
            have hm0 : m3 = 0 := by omega
            subst hm0
            have hd : decide ((0 : Int) < ((0 : Nat) : Int)) = false := by simp
            have HST : Hid (RfAt W (off3 W g10) w3 (drain l1) (tk1 ++ l1.at 2) A2 n2 c2 v2) := hide (by
              have h := HST.out
              rw [List.take_of_length_le (by rw [HN.out]; exact Nat.le_refl _)] at h
              rw [show drn l1 i' = drain l1 from by rw [← HN.out]; exact drn_all l1] at h
              exact h)
            have HCALL := hide (radv_any (fun j => off3 W g10 j ∧ v2.ownBlock ≠ some j) A2 n2 c2 (drain l1) w3 HST.out.rd HST.out.low (HST.out.base.far (fun j hj => ⟨⟨by have := HST.out.row.lt; omega, by have := HST.out.base.res.lt; omega⟩, by have := HBX.out.lt; omega⟩)) HST.out.ok (fun k hk => by rw [← HST.out.rd.len k hk]; have := row_len HST.out.ok hk; omega) HST.out.cap)
            go_upto_region 11 with (fail)
            clear hd hm3 hlt2
            cases hact : doAdv (drain l1) with
            | error k =>
              have HK := hide (show k ≠ 0 from doAdv_ne hact)
              have HE := hide (doRun_error (steps.take j) l [] (s, g) (steps.drop (j + 1)) l1 tk1 k HRUN.out (by rw [HDS.out, hact]; rfl))
              rw [← HSE.out] at HE
              have HC2 := hide (HCALL.out.mono (fun e w' h => refRes_out_err hact h))
              clear hact HCALL
              have q0 : w3.cell? ⟨W.heap.size, 0, none⟩ = some (.int .u64 ((drain l1).E : Int)) := by have := RowAt.cell HST.out.row 0; simpa [limC] using this
              have q1 : w3.cell? ⟨W.heap.size, 1, none⟩ = some (.slice (A2 0) (n2 0) (c2 0)) := by have := RowAt.cell HST.out.row 1; simpa [limC] using this
              have q2 : w3.cell? ⟨W.heap.size, 2, none⟩ = some (.slice (A2 1) (n2 1) (c2 1)) := by have := RowAt.cell HST.out.row 2; simpa [limC] using this
              have q3 : w3.cell? ⟨W.heap.size, 3, none⟩ = some (.slice (A2 2) (n2 2) (c2 2)) := by have := RowAt.cell HST.out.row 3; simpa [limC] using this
              have ql := HST.out.row.lt
              go_wp2_with fail
              with_reducible refine HC2.out.mono ?_
              rintro e w4 ⟨A', n', c', rfl, hb⟩
              have HSB := hide (HST.out.base.later hb)
              have HB4 := hide (HBX.out.below hb)
              clear q0 q1 q2 q3 ql hb HC2
              have z0 : w4.cell? ⟨g10, 0, none⟩ = some (.int .u64 0) := by have := RowAt.cell HB4.out 0; simpa using this
              have z1 : w4.cell? ⟨g10, 1, none⟩ = some (.slice none 0 0) := by have := RowAt.cell HB4.out 1; simpa using this
              have z2 : w4.cell? ⟨g10, 2, none⟩ = some (.slice none 0 0) := by have := RowAt.cell HB4.out 2; simpa using this
              have z3 : w4.cell? ⟨g10, 3, none⟩ = some (.slice none 0 0) := by have := RowAt.cell HB4.out 3; simpa using this
              have zl := RowAt.lt HB4.out
              have f0 := RowAt.frozen HB4.out 0
              have f1 := RowAt.frozen HB4.out 1
              have f2 := RowAt.frozen HB4.out 2
              have f3 := RowAt.frozen HB4.out 3
              have HLD : Hid (LaidL g10 w4 (limC lim0.E A' n' c') ((((w4.setCell ⟨g10, 0, none⟩ (.int .u64 (lim0.E : Int))).setCell ⟨g10, 1, none⟩ (.slice (A' 0) (n' 0) (c' 0))).setCell ⟨g10, 2, none⟩ (.slice (A' 1) (n' 1) (c' 1))).setCell ⟨g10, 3, none⟩ (.slice (A' 2) (n' 2) (c' 2)))) := hide (laidL_of HB4.out rfl)
              go_upto_region 12 with (fail)
              replace HSB := hide (HSB.out.laid HLD.out HGT.out HVN.out)
              have HBX5 := hide HLD.out.row
              generalize ((((w4.setCell ⟨g10, 0, none⟩ (.int .u64 (lim0.E : Int))).setCell ⟨g10, 1, none⟩ (.slice (A' 0) (n' 0) (c' 0))).setCell ⟨g10, 2, none⟩ (.slice (A' 1) (n' 1) (c' 1))).setCell ⟨g10, 3, none⟩ (.slice (A' 2) (n' 2) (c' 2))) = w5 at *
              clear z0 z1 z2 z3 zl f0 f1 f2 f3 HLD HB4 HST HBX
              have hk0 : (k != 0) = true := by rw [bne_iff_ne]; exact HK.out
              have hk1 : (k == 0) = false := by rw [beq_eq_false_iff_ne]; exact HK.out
              have z0 : w5.cell? ⟨(W.heap.size + 1), 0, none⟩ = some (.int .u64 0) := by have := RowAt.cell HSB.out.res 0; simpa using this
              have z1 : w5.cell? ⟨(W.heap.size + 1), 1, none⟩ = some (.slice none 0 0) := by have := RowAt.cell HSB.out.res 1; simpa using this
              have z2 : w5.cell? ⟨(W.heap.size + 1), 2, none⟩ = some (.slice none 0 0) := by have := RowAt.cell HSB.out.res 2; simpa using this
              have z3 : w5.cell? ⟨(W.heap.size + 1), 3, none⟩ = some (.slice none 0 0) := by have := RowAt.cell HSB.out.res 3; simpa using this
              have zl := RowAt.lt HSB.out.res
              have f0 := RowAt.frozen HSB.out.res 0
              have f1 := RowAt.frozen HSB.out.res 1
              have f2 := RowAt.frozen HSB.out.res 2
              have f3 := RowAt.frozen HSB.out.res 3
              have HLD : Hid (LaidL (W.heap.size + 1) w5 zeroC ((((w5.setCell ⟨(W.heap.size + 1), 0, none⟩ (.int .u64 0)).setCell ⟨(W.heap.size + 1), 1, none⟩ (.slice none 0 0)).setCell ⟨(W.heap.size + 1), 2, none⟩ (.slice none 0 0)).setCell ⟨(W.heap.size + 1), 3, none⟩ (.slice none 0 0))) := hide (laidL_of HSB.out.res rfl)
              go_wp2_with fail
              generalize ((((w5.setCell ⟨W.heap.size + 1, 0, none⟩ (.int .u64 0)).setCell ⟨W.heap.size + 1, 1, none⟩ (.slice none 0 0)).setCell ⟨W.heap.size + 1, 2, none⟩ (.slice none 0 0)).setCell ⟨W.heap.size + 1, 3, none⟩ (.slice none 0 0)) = w99 at *
              have y0 : w99.cell? ⟨W.heap.size + 1, 0, none⟩ = some (.int .u64 0) := by have := HLD.out.row.cell 0; simpa [limC] using this
              have y1 : w99.cell? ⟨W.heap.size + 1, 1, none⟩ = some (.slice none 0 0) := by have := HLD.out.row.cell 1; simpa [limC] using this
              have y2 : w99.cell? ⟨W.heap.size + 1, 2, none⟩ = some (.slice none 0 0) := by have := HLD.out.row.cell 2; simpa [limC] using this
              have y3 : w99.cell? ⟨W.heap.size + 1, 3, none⟩ = some (.slice none 0 0) := by have := HLD.out.row.cell 3; simpa [limC] using this
              have yl := HLD.out.row.lt
              refine bodyPost_ret (v := .tuple #[.agg zeroC, .slice none 0 0, .int .i64 k]) (by simp [results, Tryd.results23, go_sem, y0, y1, y2, y3, yl]) rfl ?_
              exact runRef_err HE.out (HSB.out.below.trans (HLD.out.below.mono (by omega)))
            | ok l' =>
              have HOK2 := hide (ok_adv HST.out.ok hact)
              have HRN2 := hide (show doRun l (steps.take (j + 1)) [] = .ok (l', tk1 ++ l1.at 2) from by
                rw [HSN.out, doRun_snoc, HRUN.out]
                simp only [HDS.out, hact]
                rfl)
              have HC2 := hide (HCALL.out.mono (fun e w' h => refRes_out_ok hact h))
              clear hact HCALL
              have q0 : w3.cell? ⟨W.heap.size, 0, none⟩ = some (.int .u64 ((drain l1).E : Int)) := by have := RowAt.cell HST.out.row 0; simpa [limC] using this
              have q1 : w3.cell? ⟨W.heap.size, 1, none⟩ = some (.slice (A2 0) (n2 0) (c2 0)) := by have := RowAt.cell HST.out.row 1; simpa [limC] using this
              have q2 : w3.cell? ⟨W.heap.size, 2, none⟩ = some (.slice (A2 1) (n2 1) (c2 1)) := by have := RowAt.cell HST.out.row 2; simpa [limC] using this
              have q3 : w3.cell? ⟨W.heap.size, 3, none⟩ = some (.slice (A2 2) (n2 2) (c2 2)) := by have := RowAt.cell HST.out.row 3; simpa [limC] using this
              have ql := HST.out.row.lt
              go_wp2_with fail
              with_reducible refine HC2.out.mono ?_
              rintro e w4 ⟨A', n', c', rfl, hrr, hb⟩
              have HNR := hide hrr
              clear hrr
              have HSB := hide (HST.out.base.later hb)
              have HB4 := hide (HBX.out.below hb)
              clear q0 q1 q2 q3 ql hb HC2
              have z0 : w4.cell? ⟨g10, 0, none⟩ = some (.int .u64 0) := by have := RowAt.cell HB4.out 0; simpa using this
              have z1 : w4.cell? ⟨g10, 1, none⟩ = some (.slice none 0 0) := by have := RowAt.cell HB4.out 1; simpa using this
              have z2 : w4.cell? ⟨g10, 2, none⟩ = some (.slice none 0 0) := by have := RowAt.cell HB4.out 2; simpa using this
              have z3 : w4.cell? ⟨g10, 3, none⟩ = some (.slice none 0 0) := by have := RowAt.cell HB4.out 3; simpa using this
              have zl := RowAt.lt HB4.out
              have f0 := RowAt.frozen HB4.out 0
              have f1 := RowAt.frozen HB4.out 1
              have f2 := RowAt.frozen HB4.out 2
              have f3 := RowAt.frozen HB4.out 3
              have HLD : Hid (LaidL g10 w4 (limC l'.E A' n' c') ((((w4.setCell ⟨g10, 0, none⟩ (.int .u64 (l'.E : Int))).setCell ⟨g10, 1, none⟩ (.slice (A' 0) (n' 0) (c' 0))).setCell ⟨g10, 2, none⟩ (.slice (A' 1) (n' 1) (c' 1))).setCell ⟨g10, 3, none⟩ (.slice (A' 2) (n' 2) (c' 2)))) := hide (laidL_of HB4.out rfl)
              go_upto_region 12 with (fail)
              replace HSB := hide (HSB.out.laid HLD.out HGT.out HVN.out)
              have HBX5 := hide HLD.out.row
              have HN2 := hide (And.intro ((HNR.out.1.keepA (fun k p hk hp => HLD.out.block _ (HNR.out.2.1 k p hk hp).1.1.2)).more HLD.out.below.size) (HNR.out.2.1.more HLD.out.below.size))
              have HN3 := hide HNR.out.2.2
              generalize ((((w4.setCell ⟨g10, 0, none⟩ (.int .u64 (l'.E : Int))).setCell ⟨g10, 1, none⟩ (.slice (A' 0) (n' 0) (c' 0))).setCell ⟨g10, 2, none⟩ (.slice (A' 1) (n' 1) (c' 1))).setCell ⟨g10, 3, none⟩ (.slice (A' 2) (n' 2) (c' 2))) = w5 at *
              clear z0 z1 z2 z3 zl f0 f1 f2 f3 HLD HB4 HST HBX HNR
              have hk0 : ((0 : Int) != 0) = false := rfl
              go_upto_region 14 with (fail)
              have q0 : w5.cell? ⟨g10, 0, none⟩ = some (.int .u64 (l'.E : Int)) := by have := RowAt.cell HBX5.out 0; simpa [limC] using this
              have q1 : w5.cell? ⟨g10, 1, none⟩ = some (.slice (A' 0) (n' 0) (c' 0)) := by have := RowAt.cell HBX5.out 1; simpa [limC] using this
              have q2 : w5.cell? ⟨g10, 2, none⟩ = some (.slice (A' 1) (n' 1) (c' 1)) := by have := RowAt.cell HBX5.out 2; simpa [limC] using this
              have q3 : w5.cell? ⟨g10, 3, none⟩ = some (.slice (A' 2) (n' 2) (c' 2)) := by have := RowAt.cell HBX5.out 3; simpa [limC] using this
              have ql := HBX5.out.lt
              obtain ⟨C0, hC0, hrow0⟩ := HSB.out.row
              obtain ⟨x0, x1, x2, x3, rfl⟩ := arr4 hC0
              have hx0 : w5.cell? ⟨W.heap.size, 0, none⟩ = some x0 := by have := RowAt.cell hrow0 0; simpa using this
              have hx1 : w5.cell? ⟨W.heap.size, 1, none⟩ = some x1 := by have := RowAt.cell hrow0 1; simpa using this
              have hx2 : w5.cell? ⟨W.heap.size, 2, none⟩ = some x2 := by have := RowAt.cell hrow0 2; simpa using this
              have hx3 : w5.cell? ⟨W.heap.size, 3, none⟩ = some x3 := by have := RowAt.cell hrow0 3; simpa using this
              have HRW := hide hrow0
              have hgl := hrow0.lt
              have hgf0 := hrow0.frozen 0
              have hgf1 := hrow0.frozen 1
              have hgf2 := hrow0.frozen 2
              have hgf3 := hrow0.frozen 3
              have HLD : Hid (LaidL W.heap.size w5 (limC l'.E A' n' c') ((((w5.setCell ⟨W.heap.size, 0, none⟩ (.int .u64 (l'.E : Int))).setCell ⟨W.heap.size, 1, none⟩ (.slice (A' 0) (n' 0) (c' 0))).setCell ⟨W.heap.size, 2, none⟩ (.slice (A' 1) (n' 1) (c' 1))).setCell ⟨W.heap.size, 3, none⟩ (.slice (A' 2) (n' 2) (c' 2)))) := hide (laidL_of hrow0 hC0)
              clear hrow0
              go_wp2_with fail
              have HST2 := hide (HSB.out.put HLD.out HN2.out.1 HN2.out.2 HN3.out HOK2.out (fun j hj => hj.1.1))
              generalize ((((w5.setCell ⟨W.heap.size, 0, none⟩ (.int .u64 (l'.E : Int))).setCell ⟨W.heap.size, 1, none⟩ (.slice (A' 0) (n' 0) (c' 0))).setCell ⟨W.heap.size, 2, none⟩ (.slice (A' 1) (n' 1) (c' 1))).setCell ⟨W.heap.size, 3, none⟩ (.slice (A' 2) (n' 2) (c' 2))) = w6 at *
              go_roundw
              case rel => exact ⟨j + 1, _, by omega, by go_num, rfl, l', _, A', n', c', HRN2.out, by have := HTL.out; have := HAT.out; rw [List.length_append, HN.out]; omega, HST2.out.weak (fun _ _ h => h.1)⟩
              case measure => simp [intOf]; omega
    · obtain rfl : j = m := by omega
      have HF := hide (show doRun l steps [] = .ok (l1, tk1) from by
        have h := HRUN.out
        rwa [List.take_of_length_le (by rw [HX.out]; exact Nat.le_refl _)] at h)
      have hjj : ¬ ((j : Int) < (j : Int)) := by omega
      have q0 : wr.cell? ⟨W.heap.size, 0, none⟩ = some (.int .u64 (l1.E : Int)) := by have := RowAt.cell HST0.out.row 0; simpa [limC] using this
      have q1 : wr.cell? ⟨W.heap.size, 1, none⟩ = some (.slice (A1 0) (n1 0) (c1 0)) := by have := RowAt.cell HST0.out.row 1; simpa [limC] using this
      have q2 : wr.cell? ⟨W.heap.size, 2, none⟩ = some (.slice (A1 1) (n1 1) (c1 1)) := by have := RowAt.cell HST0.out.row 2; simpa [limC] using this
      have q3 : wr.cell? ⟨W.heap.size, 3, none⟩ = some (.slice (A1 2) (n1 2) (c1 2)) := by have := RowAt.cell HST0.out.row 3; simpa [limC] using this
      have ql := HST0.out.row.lt
      have z0 : wr.cell? ⟨(W.heap.size + 1), 0, none⟩ = some (.int .u64 0) := by have := RowAt.cell HST0.out.base.res 0; simpa using this
      have z1 : wr.cell? ⟨(W.heap.size + 1), 1, none⟩ = some (.slice none 0 0) := by have := RowAt.cell HST0.out.base.res 1; simpa using this
      have z2 : wr.cell? ⟨(W.heap.size + 1), 2, none⟩ = some (.slice none 0 0) := by have := RowAt.cell HST0.out.base.res 2; simpa using this
      have z3 : wr.cell? ⟨(W.heap.size + 1), 3, none⟩ = some (.slice none 0 0) := by have := RowAt.cell HST0.out.base.res 3; simpa using this
      have zl := RowAt.lt HST0.out.base.res
      have f0 := RowAt.frozen HST0.out.base.res 0
      have f1 := RowAt.frozen HST0.out.base.res 1
      have f2 := RowAt.frozen HST0.out.base.res 2
      have f3 := RowAt.frozen HST0.out.base.res 3
      have HLD : Hid (LaidL (W.heap.size + 1) wr (limC l1.E A1 n1 c1) ((((wr.setCell ⟨(W.heap.size + 1), 0, none⟩ (.int .u64 (l1.E : Int))).setCell ⟨(W.heap.size + 1), 1, none⟩ (.slice (A1 0) (n1 0) (c1 0))).setCell ⟨(W.heap.size + 1), 2, none⟩ (.slice (A1 1) (n1 1) (c1 1))).setCell ⟨(W.heap.size + 1), 3, none⟩ (.slice (A1 2) (n1 2) (c1 2)))) := hide (laidL_of HST0.out.base.res rfl)
      obtain ⟨Av, cv, rfl, _⟩ := own_form HST0.out.base.out
      obtain ⟨mt, hmt⟩ : ∃ mt, tk1.length = mt := ⟨_, rfl⟩
      rw [hmt]
      have HMT := hide hmt
      clear hmt
      go_wp2_with fail
      have HOWN := hide (show World.ownsRow ((((wr.setCell ⟨W.heap.size + 1, 0, none⟩ (.int .u64 (l1.E : Int))).setCell ⟨W.heap.size + 1, 1, none⟩ (.slice (A1 0) (n1 0) (c1 0))).setCell ⟨W.heap.size + 1, 2, none⟩ (.slice (A1 1) (n1 1) (c1 1))).setCell ⟨W.heap.size + 1, 3, none⟩ (.slice (A1 2) (n1 2) (c1 2))) (W.heap.size + 1 + 1) 34 2 (.slice Av mt cv) mt (Cs encE tk1) from by have h := own_other3 HST0.out.base.out (fun g hg => HLD.out.block g (by have := (own_lt HST0.out.base.out hg).1; omega)); rw [HMT.out] at h; exact h)
      generalize ((((wr.setCell ⟨W.heap.size + 1, 0, none⟩ (.int .u64 (l1.E : Int))).setCell ⟨W.heap.size + 1, 1, none⟩ (.slice (A1 0) (n1 0) (c1 0))).setCell ⟨W.heap.size + 1, 2, none⟩ (.slice (A1 1) (n1 1) (c1 1))).setCell ⟨W.heap.size + 1, 3, none⟩ (.slice (A1 2) (n1 2) (c1 2))) = w9 at *
      have y0 : w9.cell? ⟨W.heap.size + 1, 0, none⟩ = some (.int .u64 (l1.E : Int)) := by have := HLD.out.row.cell 0; simpa [limC] using this
      have y1 : w9.cell? ⟨W.heap.size + 1, 1, none⟩ = some (.slice (A1 0) (n1 0) (c1 0)) := by have := HLD.out.row.cell 1; simpa [limC] using this
      have y2 : w9.cell? ⟨W.heap.size + 1, 2, none⟩ = some (.slice (A1 1) (n1 1) (c1 1)) := by have := HLD.out.row.cell 2; simpa [limC] using this
      have y3 : w9.cell? ⟨W.heap.size + 1, 3, none⟩ = some (.slice (A1 2) (n1 2) (c1 2)) := by have := HLD.out.row.cell 3; simpa [limC] using this
      have yl := HLD.out.row.lt
      refine bodyPost_ret (v := .tuple #[.agg (limC l1.E A1 n1 c1), .slice Av mt cv, .int .i64 0]) (by simp [results, Tryd.results23, go_sem, y0, y1, y2, y3, yl]) rfl ?_
      exact runRef_ok HF.out ((HST0.out.rd.keepA (fun k p hk hp => HLD.out.block _ (HST0.out.low k p hk hp).1.1.2)).more HLD.out.below.size) HMT.out HOWN.out (HST0.out.base.below.trans (HLD.out.below.mono (by omega)))
end Go.Proofs.YthnpcmigphpolaaDoor
