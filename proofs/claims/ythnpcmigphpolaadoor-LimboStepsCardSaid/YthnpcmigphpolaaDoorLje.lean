/-
  The law's own: whether the layer does anything.
-/
import Derived.Test.YthnpcmigphpolaaDoorLjd
import Derived.Deep.RegionHeld3
import Derived.Deep.CutRange
import Derived.Deep.CutBlock
set_option linter.unusedSimpArgs false
set_option linter.unusedVariables false
namespace Go.Proofs.YthnpcmigphpolaaDoor
open Go Go.RowKit
attribute [local go_sem] via_cell via_frozen

/-- All generations are numbers of 64 bits. -/
def GenOk (l : Lim) : Prop := ∀ k, k < 3 → ∀ e ∈ l.r k, 0 ≤ e.2 ∧ e.2 < 18446744073709551616
theorem gen_upd {l : Lim} (h : GenOk l) (E k : Nat) (xs : List Ent) (hx : ∀ e ∈ xs, 0 ≤ e.2 ∧ e.2 < 18446744073709551616) : GenOk ⟨E, upd l.r k xs⟩ := by
  intro j hj e he
  simp only [upd] at he
  split at he
  · exact hx e he
  · exact h j hj e he
theorem gen_ret {l l' : Lim} {e : Ent} (h : GenOk l) (he : 0 ≤ e.2 ∧ e.2 < 18446744073709551616) (hr : doRet l e = .ok l') : GenOk l' := by
  unfold doRet at hr
  split at hr
  · cases hr
  · split at hr
    · cases hr
    · injection hr with hr
      subst hr
      refine gen_upd h _ _ _ (fun x hx => ?_)
      rcases List.mem_append.1 hx with hx | hx
      · exact h _ (rowN_lt l.E 0) x hx
      · obtain rfl : x = e := by simpa using hx
        exact he
theorem gen_adv {l l' : Lim} (h : GenOk l) (hr : doAdv l = .ok l') : GenOk l' := by
  unfold doAdv at hr
  split at hr
  · cases hr
  · split at hr
    · injection hr with hr
      subst hr
      exact h
    · cases hr
theorem gen_take {l l' : Lim} {x : Ent} (h : GenOk l) (hr : doTake l = .ok (l', x)) : GenOk l' ∧ 0 ≤ x.2 ∧ x.2 < 18446744073709551616 := by
  unfold doTake at hr
  split at hr
  · cases hr
  · rename_i y rest hy
    injection hr with hr
    injection hr with h1 h2
    subst h1; subst h2
    have hm := h _ (rowN_lt l.E 2)
    have hy' : l.r (rowN l.E 2) = y :: rest := hy
    rw [hy'] at hm
    exact ⟨gen_upd h _ _ _ (fun e he => hm e (by simp [he])), hm y (by simp)⟩
theorem gen_zero : GenOk lim0 := fun k _ e he => by simp [lim0] at he
/-- The package's variable: the epoch goes on. -/
structure OnAt (w : World) (B : Nat) : Prop where
  slab : w.cell? ⟨0, 0, none⟩ = some (.int .i64 (-1))
  gen : w.cell? ⟨0, 1, none⟩ = some (.int .u64 0)
  lt : 0 < B
theorem OnAt.below {w w' : World} {B : Nat} (h : OnAt w B) (hb : Below B w w') : OnAt w' B := ⟨(hb.cell (p := ⟨0, 0, none⟩) h.lt).trans h.slab, (hb.cell (p := ⟨0, 1, none⟩) h.lt).trans h.gen, h.lt⟩
theorem zero_rd (w : World) (B : Nat) : LimRd w B (fun _ => none) (fun _ => 0) lim0.r := ⟨fun k _ => Rd.none_, fun k _ => rfl⟩
def L1 : Lim := ⟨0, upd (fun _ => []) 0 [(1, 0)]⟩
def L2 : Lim := ⟨1, L1.r⟩
def L3 : Lim := ⟨1, upd L1.r 1 [(2, 0)]⟩
def L4 : Lim := ⟨2, L3.r⟩
theorem wk1 : retR lim0 (1, 0) = .ok L1 := rfl
theorem wk2 : advR L1 = .ok L2 := rfl
theorem wk3 : retR L2 (2, 0) = .ok L3 := rfl
theorem wk4 : advR L3 = .ok L4 := rfl
theorem wk5 : advR L4 = .error 241 := rfl
theorem wk6 : whenR L4 2 = (1, true) := by decide +kernel
def wkSteps : List Ent := [(1, 0), (-1, 0), (2, 0), (-1, 0), (3, 0), (-1, 0), (-1, 0), (-1, 0)]
theorem wk7 : ∃ l', runR lim0 wkSteps = .ok (l', [(1, 0), (2, 0), (3, 0)]) := ⟨_, rfl⟩
theorem wk8 : (if L4.ok then L4.at 2 else []) = [(1, 0)] := by decide +kernel
theorem wk9 : (if L4.ok then L4.held else []) = [(1, 0), (2, 0)] := by decide +kernel
theorem wkG1 : GenOk L1 := gen_ret (e := (1, 0)) gen_zero (by simp) wk1
theorem wkG2 : GenOk L2 := wkG1
theorem wkG3 : GenOk L3 := gen_ret (e := (2, 0)) wkG2 (by simp) wk3
theorem wkG4 : GenOk L4 := wkG3
/-- The boxes of the three entries. -/
structure WkAt (W w : World) : Prop where
  a : RowAt w W.heap.size 34 (entC (1, 0))
  b : RowAt w (W.heap.size + 1) 34 (entC (2, 0))
  c : RowAt w (W.heap.size + 1 + 1) 34 (entC (3, 0))
  below : Below W.heap.size W w
theorem WkAt.later {W w w' : World} (h : WkAt W w) (hb : Below w.heap.size w w') : WkAt W w' := ⟨h.a.below hb, h.b.below hb, h.c.below hb, h.below.trans (hb.mono h.below.size)⟩
theorem WkAt.laid {W w w' : World} {g : Nat} {C : Array Value} (h : WkAt W w) (hl : LaidL g w C w') (hg : W.heap.size + 1 + 1 + 1 ≤ g) : WkAt W w' :=
  ⟨(hl.block _ (by omega)).trans h.a, (hl.block _ (by omega)).trans h.b, (hl.block _ (by omega)).trans h.c, h.below.trans (hl.below.mono (by omega))⟩
theorem wkSteps_gen : ∀ e ∈ wkSteps, 0 ≤ e.2 ∧ e.2 < 18446744073709551616 := by decide
theorem wkRun {w w' : World} {e : Ending} (h : OutResR w (runR lim0 wkSteps) e w') : ∃ (l5 : Lim) (A5 : Nat → Option Addr) (n5 c5 : Nat → Nat) (At : Option Addr) (ct : Nat), (e = .returned (.tuple #[.agg (limC l5.E A5 n5 c5), .slice At 3 ct, .int .i64 0]) ∧ OwnO w' w.heap.size 34 2 (.slice At 3 ct) 3 (Cs encE [(1, 0), (2, 0), (3, 0)])) ∧ Below w.heap.size w w' := by
  obtain ⟨hb, hh⟩ := h
  obtain ⟨lw, hw⟩ := wk7
  rcases hh with ⟨l', took, v, A', n', c', h1, he, _, ho⟩ | ⟨k', h1, he⟩
  · rw [hw] at h1
    injection h1 with h1
    injection h1 with h1 h2
    subst h2
    obtain ⟨At, ct, rfl, _⟩ := ho.form
    exact ⟨l', A', n', c', At, ct, ⟨he, ho⟩, hb⟩
  · rw [hw] at h1; cases h1
theorem outRes_ok {w w' : World} {r : Except Int Lim} {L : Lim} {e : Ending} (h : OutRes w r e w') (hr : r = .ok L) : ∃ A' n' c', (e = .returned (.tuple #[.agg (limC L.E A' n' c'), .int .i64 0]) ∧ LimOwn w' w.heap.size A' n' c' L.r) ∧ Below w.heap.size w w' := by
  obtain ⟨hb, hh⟩ := h
  rcases hh with ⟨l', A', n', c', h1, he, ho⟩ | ⟨k, h1, _⟩
  · rw [hr] at h1
    injection h1 with h1
    subst h1
    exact ⟨A', n', c', ⟨he, ho⟩, hb⟩
  · rw [hr] at h1; cases h1
theorem outRes_err {w w' : World} {r : Except Int Lim} {k : Int} {e : Ending} (h : OutRes w r e w') (hr : r = .error k) : e = .returned (.tuple #[.agg zeroC, .int .i64 k]) ∧ Below w.heap.size w w' := by
  obtain ⟨hb, hh⟩ := h
  rcases hh with ⟨l', A', n', c', h1, he, ho⟩ | ⟨k', h1, he⟩
  · rw [hr] at h1; cases h1
  · rw [hr] at h1
    injection h1 with h1
    subst h1
    exact ⟨he, hb⟩
set_option maxHeartbeats 4000000 in
theorem wakes_any (B : Nat) (W : World) (h : OnAt W B) (hB : B ≤ W.heap.size) : Calls Tryd.prog 7 #[] W fun e W' => e = .returned (.bool true) ∧ Below W.heap.size W W' := by
  have HW := hide h
  have hW0 : 0 < W.heap.size := by have := h.lt; omega
  obtain ⟨w1, hw1⟩ : ∃ w1, W.alloc (.cells (entC (1, 0)) 34) = w1 := ⟨_, rfl⟩
  obtain ⟨w2, hw2⟩ : ∃ w2, w1.alloc (.cells (entC (2, 0)) 34) = w2 := ⟨_, rfl⟩
  obtain ⟨w3, hw3⟩ : ∃ w3, w2.alloc (.cells (entC (3, 0)) 34) = w3 := ⟨_, rfl⟩
  have s1 : w1.heap.size = W.heap.size + 1 := by rw [← hw1]; simp
  have s2 : w2.heap.size = W.heap.size + 1 + 1 := by rw [← hw2]; simp [s1]
  have s3 : w3.heap.size = W.heap.size + 1 + 1 + 1 := by rw [← hw3]; simp [s2]
  have b1 : Below W.heap.size W w1 := by rw [← hw1]; exact (Below.refl _ _).alloc (Nat.le_refl _) _
  have b2 : Below w1.heap.size w1 w2 := by rw [← hw2]; exact (Below.refl _ _).alloc (Nat.le_refl _) _
  have b3 : Below w2.heap.size w2 w3 := by rw [← hw3]; exact (Below.refl _ _).alloc (Nat.le_refl _) _
  have r1 : RowAt w3 W.heap.size 34 (entC (1, 0)) := by have h := RowAt.new W 34 (entC (1, 0)); rw [hw1] at h; exact (h.below b2).below b3
  have r2 : RowAt w3 (W.heap.size + 1) 34 (entC (2, 0)) := by have h := RowAt.new w1 34 (entC (2, 0)); rw [hw2, s1] at h; exact h.below b3
  have r3 : RowAt w3 (W.heap.size + 1 + 1) 34 (entC (3, 0)) := by have h := RowAt.new w2 34 (entC (3, 0)); rw [hw3, s2] at h; exact h
  have hb0 : Below W.heap.size W w3 := (b1.trans (b2.mono b1.size)).trans (b3.mono (by omega))
  have HB := hide hb0
  have HWK := hide (show WkAt W w3 from ⟨r1, r2, r3, hb0⟩)
  clear b1 b2 b3 r1 r2 r3 hb0 s1 s2 h
  subst hw3
  subst hw2
  subst hw1
  go_enter Tryd.func7, Tryd.ntmps7
  go_wp2_with fail
  dsimp only [entC] at *
  generalize ((W.alloc (.cells #[.int .i64 1, .int .u64 0] 34)).alloc (.cells #[.int .i64 2, .int .u64 0] 34)).alloc (.cells #[.int .i64 3, .int .u64 0] 34) = w3 at *
  have hs3 := s3
  clear s3
  have HNW := hide (fun w => New_any w)
  have HRE := hide (fun w => Retire_any 0 (fun _ => none) (fun _ => 0) (fun _ => 0) lim0 1 0 w (zero_rd w 0) (by decide) (Nat.zero_le _) (fun _ _ => by omega) gen_zero (by omega))
  have a0 := row20 HWK.out.a
  have a1 := row21 HWK.out.a
  have al := HWK.out.a.lt
  have hret : ∀ w e w', OutRes w (retR lim0 (1, 0)) e w' → ∃ A' n' c', (e = .returned (.tuple #[.agg (limC L1.E A' n' c'), .int .i64 0]) ∧ LimOwn w' w.heap.size A' n' c' L1.r) ∧ Below w.heap.size w w' := fun w e w' ⟨hb, hh⟩ => by
    rcases hh with ⟨l', A', n', c', hr, he, ho⟩ | ⟨k, hr, _⟩
    · rw [wk1] at hr
      injection hr with hr
      subst hr
      exact ⟨A', n', c', ⟨he, ho⟩, hb⟩
    · rw [wk1] at hr; cases hr
  have HRT := hide hret
  clear hret
  go_upto_region 2 with (fail)
  go_cut [4, 5] from 19 to 25 (fun s4 s5 wx => ∃ (g4 : Nat) (A5 : Nat → Option Addr) (n5 c5 : Nat → Nat), s4 = .pointer (some ⟨g4, 0, none⟩) ∧ s5 = .int .i64 0 ∧ RowAt wx g4 26 (limC L1.E A5 n5 c5) ∧ LimRd wx wx.heap.size A5 n5 L1.r ∧ Below w3.heap.size w3 wx ∧ w3.heap.size ≤ g4)
  case first =>
    refine wp_region_held_drew (S := fun wX => Below w3.heap.size w3 wX) (by kernel_rfl) (Below.refl _ _).drew (fun hHeld => ?_)
    have HQ := hide ((Below.refl w3.heap.size w3).drew)
    (refine wpAnyH_take (i := 1) (v := ?_) rfl (by kernel_rfl) (by kernel_rfl) (by kernel_rfl) (fun _ _ _ h => h) (Or.inl ⟨by rfl, ?_⟩) (by assumption) ?_; rotate_left; (focus (intro w hSw; (try dsimp only at hSw); have kf0 := kept hSw a0; have kf1 := kept hSw a1; go_simp; first | done | with_reducible rfl)); (try simp only [Act.put, List.getElem_toArray, List.getElem_cons_succ, List.getElem_cons_zero, List.setIfInBounds_toArray, List.set_cons_zero, List.set_cons_succ]))
    generalize w3.drew = wd at *
    refine wpAnyH_ready (rs := [0, 6]) (by kernel_rfl) (by simp) ?_
    refine (AllReadyH.cons rfl (fun K0 hK0 => ?_) (AllReadyH.cons rfl (fun K0 hK0 => ?_) AllReadyH.nil))
    · go_simp
      refine (HNW.out _).mono ?_
      rintro e wa0 ⟨rfl, hb0⟩
      replace HQ := hide (HQ.out.trans (hb0.mono HQ.out.size))
      clear hb0
      refine hK0.out _ _ (HQ.out) (fun _ => ?_)
      clear hK0 K0
      (try simp only [Act.put, List.getElem_toArray, List.getElem_cons_succ, List.getElem_cons_zero, List.setIfInBounds_toArray, List.set_cons_zero, List.set_cons_succ])
      refine wpAnyH_ready (rs := [2, 6]) (by kernel_rfl) (by simp) ?_
      refine (AllReadyH.cons rfl (fun K1 hK1 => ?_) (AllReadyH.cons rfl (fun K1 hK1 => ?_) AllReadyH.nil))
      · go_simp
        refine (HRE.out _).mono ?_
        rintro e wa1 hrr
        obtain ⟨A5, n5, c5, ⟨rfl, ho5⟩, hb1⟩ := HRT.out _ _ _ hrr
        have HL := hide ho5.rd
        replace HQ := hide (HQ.out.trans (hb1.mono HQ.out.size))
        clear hb1 ho5 hrr
        refine hK1.out _ _ (HQ.out) (fun _ => ?_)
        clear hK1 K1
        (try simp only [Act.put, List.getElem_toArray, List.getElem_cons_succ, List.getElem_cons_zero, List.setIfInBounds_toArray, List.set_cons_zero, List.set_cons_succ])
        (refine wpAnyH_take (i := 3) (v := ?_) rfl (by kernel_rfl) (by kernel_rfl) (by kernel_rfl) (fun _ _ _ h => h) (Or.inl ⟨by rfl, ?_⟩) (by assumption) ?_; rotate_left; (focus (intro w hSw; (try dsimp only at hSw); go_simp; first | done | with_reducible rfl)); (try simp only [Act.put, List.getElem_toArray, List.getElem_cons_succ, List.getElem_cons_zero, List.setIfInBounds_toArray, List.set_cons_zero, List.set_cons_succ]))
        (refine wpAnyH_take (i := 4) (v := ?_) rfl (by kernel_rfl) (by kernel_rfl) (by kernel_rfl) (fun _ _ _ h => h) (Or.inl ⟨by rfl, ?_⟩) (by assumption) ?_; rotate_left; (focus (intro w hSw; (try dsimp only at hSw); go_simp; first | done | with_reducible rfl)); (try simp only [Act.put, List.getElem_toArray, List.getElem_cons_succ, List.getElem_cons_zero, List.setIfInBounds_toArray, List.set_cons_zero, List.set_cons_succ]))
        (refine wpAnyH_take (i := 5) (v := ?_) rfl (by kernel_rfl) (by kernel_rfl) (by kernel_rfl) (fun _ _ _ h => h) (Or.inl ⟨by rfl, ?_⟩) (by assumption) ?_; rotate_left; (focus (intro w hSw; (try dsimp only at hSw); go_simp; first | done | with_reducible rfl)); (try simp only [Act.put, List.getElem_toArray, List.getElem_cons_succ, List.getElem_cons_zero, List.setIfInBounds_toArray, List.set_cons_zero, List.set_cons_succ]))
        refine wpAnyH_ready (rs := [6]) (by kernel_rfl) (by simp) ?_
        refine (AllReadyH.cons rfl (fun K2 hK2 => ?_) AllReadyH.nil)
        · go_simp
          refine hK2.out _ _ (HQ.out.alloc HQ.out.size _) (fun _ => ?_)
          clear hK2 K2
          (try simp only [Act.put, List.getElem_toArray, List.getElem_cons_succ, List.getElem_cons_zero, List.setIfInBounds_toArray, List.set_cons_zero, List.set_cons_succ])
          have hb2 : Below wa1.heap.size wa1 (wa1.alloc (.cells zeroC 26)) := (Below.refl _ _).alloc (Nat.le_refl _) _
          have R4 := hide (RowAt.new wa1 26 zeroC)
          have G4 := hide HQ.out.size
          have NE : Hid (∀ w8, LaidL wa1.heap.size (wa1.alloc (.cells zeroC 26)) (limC L1.E A5 n5 c5) w8 → LimRd w8 w8.heap.size A5 n5 L1.r) := hide (fun w8 h8 => ((HL.out.below hb2).keep (fun j hj => h8.block j (Nat.ne_of_lt hj))).more (by have := h8.below.size; have := hb2.size; omega))
          replace HQ := hide (HQ.out.alloc HQ.out.size (.cells zeroC 26))
          clear hb2
          generalize wa1.alloc (.cells zeroC 26) = wa2 at *
          refine wpAnyH_ready (rs := [7]) (by kernel_rfl) (by simp) ?_
          refine AllReadyH.cons rfl (fun K hK => ?_) AllReadyH.nil
          have z0 : wa2.cell? ⟨wa1.heap.size, 0, none⟩ = some (.int .u64 0) := by have := R4.out.cell 0; simpa using this
          have f0 := R4.out.frozen 0
          have z1 : wa2.cell? ⟨wa1.heap.size, 1, none⟩ = some (.slice none 0 0) := by have := R4.out.cell 1; simpa using this
          have f1 := R4.out.frozen 1
          have z2 : wa2.cell? ⟨wa1.heap.size, 2, none⟩ = some (.slice none 0 0) := by have := R4.out.cell 2; simpa using this
          have f2 := R4.out.frozen 2
          have z3 : wa2.cell? ⟨wa1.heap.size, 3, none⟩ = some (.slice none 0 0) := by have := R4.out.cell 3; simpa using this
          have f3 := R4.out.frozen 3
          have zl := R4.out.lt
          have HLD : Hid (LaidL wa1.heap.size wa2 (limC L1.E A5 n5 c5) ((((wa2.setCell ⟨wa1.heap.size, 0, none⟩ (.int .u64 (L1.E : Int))).setCell ⟨wa1.heap.size, 1, none⟩ (.slice (A5 0) (n5 0) (c5 0))).setCell ⟨wa1.heap.size, 2, none⟩ (.slice (A5 1) (n5 1) (c5 1))).setCell ⟨wa1.heap.size, 3, none⟩ (.slice (A5 2) (n5 2) (c5 2)))) := hide (laidL_of R4.out rfl)
          go_simp
          have HQ2 := hide (HQ.out.trans (HLD.out.below.mono G4.out))
          refine hK.out _ _ HQ2.out (fun _ => ?_)
          clear hK K z0 z1 z2 z3 f0 f1 f2 f3 zl
          (try simp only [Act.put, List.getElem_toArray, List.getElem_cons_succ, List.getElem_cons_zero, List.setIfInBounds_toArray, List.set_cons_zero, List.set_cons_succ])
          have HL2 := hide (show LimRd ((((wa2.setCell ⟨wa1.heap.size, 0, none⟩ (.int .u64 (L1.E : Int))).setCell ⟨wa1.heap.size, 1, none⟩ (.slice (A5 0) (n5 0) (c5 0))).setCell ⟨wa1.heap.size, 2, none⟩ (.slice (A5 1) (n5 1) (c5 1))).setCell ⟨wa1.heap.size, 3, none⟩ (.slice (A5 2) (n5 2) (c5 2))) ((((wa2.setCell ⟨wa1.heap.size, 0, none⟩ (.int .u64 (L1.E : Int))).setCell ⟨wa1.heap.size, 1, none⟩ (.slice (A5 0) (n5 0) (c5 0))).setCell ⟨wa1.heap.size, 2, none⟩ (.slice (A5 1) (n5 1) (c5 1))).setCell ⟨wa1.heap.size, 3, none⟩ (.slice (A5 2) (n5 2) (c5 2))).heap.size A5 n5 L1.r from NE.out _ HLD.out)
          generalize ((((wa2.setCell ⟨wa1.heap.size, 0, none⟩ (.int .u64 (L1.E : Int))).setCell ⟨wa1.heap.size, 1, none⟩ (.slice (A5 0) (n5 0) (c5 0))).setCell ⟨wa1.heap.size, 2, none⟩ (.slice (A5 1) (n5 1) (c5 1))).setCell ⟨wa1.heap.size, 3, none⟩ (.slice (A5 2) (n5 2) (c5 2))) = wt at *
          (refine wpAnyH_take (i := 8) (v := ?_) rfl (by kernel_rfl) (by kernel_rfl) (by kernel_rfl) (fun _ _ _ h => h) (Or.inl ⟨by rfl, ?_⟩) (by assumption) ?_; rotate_left; (focus (intro w hSw; (try dsimp only at hSw); go_simp; first | done | with_reducible rfl)); (try simp only [Act.put, List.getElem_toArray, List.getElem_cons_succ, List.getElem_cons_zero, List.setIfInBounds_toArray, List.set_cons_zero, List.set_cons_succ]))
          refine wpAnyH_done (by kernel_rfl) ?_ _
          go_wp2_with fail
          go_meet
          case rel => exact ⟨_, A5, n5, c5, rfl, rfl, HLD.out.row, HL2.out, HQ2.out, G4.out⟩
      · go_simp
        refine hK1.out _ _ (HQ.out.alloc HQ.out.size _) (fun _ => ?_)
        clear hK1 K1
        (try simp only [Act.put, List.getElem_toArray, List.getElem_cons_succ, List.getElem_cons_zero, List.setIfInBounds_toArray, List.set_cons_zero, List.set_cons_succ])
        have hb1 : Below wa0.heap.size wa0 (wa0.alloc (.cells zeroC 26)) := (Below.refl _ _).alloc (Nat.le_refl _) _
        have R4 := hide (RowAt.new wa0 26 zeroC)
        have G4 := hide HQ.out.size
        replace HQ := hide (HQ.out.alloc HQ.out.size (.cells zeroC 26))
        clear hb1
        generalize wa0.alloc (.cells zeroC 26) = wa1 at *
        refine wpAnyH_ready (rs := [2]) (by kernel_rfl) (by simp) ?_
        refine (AllReadyH.cons rfl (fun K2 hK2 => ?_) AllReadyH.nil)
        · go_simp
          refine (HRE.out _).mono ?_
          rintro e wa2 hrr
          obtain ⟨A5, n5, c5, ⟨rfl, ho5⟩, hb2⟩ := HRT.out _ _ _ hrr
          have NE : Hid (∀ w8, LaidL wa0.heap.size wa2 (limC L1.E A5 n5 c5) w8 → LimRd w8 w8.heap.size A5 n5 L1.r) := hide (fun w8 h8 => (ho5.other (fun j h1 h2 => h8.block j (by have := R4.out.lt; omega))).rd)
          replace R4 := hide (R4.out.below hb2)
          replace HQ := hide (HQ.out.trans (hb2.mono HQ.out.size))
          clear hb2 ho5 hrr
          refine hK2.out _ _ (HQ.out) (fun _ => ?_)
          clear hK2 K2
          (try simp only [Act.put, List.getElem_toArray, List.getElem_cons_succ, List.getElem_cons_zero, List.setIfInBounds_toArray, List.set_cons_zero, List.set_cons_succ])
          (refine wpAnyH_take (i := 3) (v := ?_) rfl (by kernel_rfl) (by kernel_rfl) (by kernel_rfl) (fun _ _ _ h => h) (Or.inl ⟨by rfl, ?_⟩) (by assumption) ?_; rotate_left; (focus (intro w hSw; (try dsimp only at hSw); go_simp; first | done | with_reducible rfl)); (try simp only [Act.put, List.getElem_toArray, List.getElem_cons_succ, List.getElem_cons_zero, List.setIfInBounds_toArray, List.set_cons_zero, List.set_cons_succ]))
          (refine wpAnyH_take (i := 4) (v := ?_) rfl (by kernel_rfl) (by kernel_rfl) (by kernel_rfl) (fun _ _ _ h => h) (Or.inl ⟨by rfl, ?_⟩) (by assumption) ?_; rotate_left; (focus (intro w hSw; (try dsimp only at hSw); go_simp; first | done | with_reducible rfl)); (try simp only [Act.put, List.getElem_toArray, List.getElem_cons_succ, List.getElem_cons_zero, List.setIfInBounds_toArray, List.set_cons_zero, List.set_cons_succ]))
          (refine wpAnyH_take (i := 5) (v := ?_) rfl (by kernel_rfl) (by kernel_rfl) (by kernel_rfl) (fun _ _ _ h => h) (Or.inl ⟨by rfl, ?_⟩) (by assumption) ?_; rotate_left; (focus (intro w hSw; (try dsimp only at hSw); go_simp; first | done | with_reducible rfl)); (try simp only [Act.put, List.getElem_toArray, List.getElem_cons_succ, List.getElem_cons_zero, List.setIfInBounds_toArray, List.set_cons_zero, List.set_cons_succ]))
          refine wpAnyH_ready (rs := [7]) (by kernel_rfl) (by simp) ?_
          refine AllReadyH.cons rfl (fun K hK => ?_) AllReadyH.nil
          have z0 : wa2.cell? ⟨wa0.heap.size, 0, none⟩ = some (.int .u64 0) := by have := R4.out.cell 0; simpa using this
          have f0 := R4.out.frozen 0
          have z1 : wa2.cell? ⟨wa0.heap.size, 1, none⟩ = some (.slice none 0 0) := by have := R4.out.cell 1; simpa using this
          have f1 := R4.out.frozen 1
          have z2 : wa2.cell? ⟨wa0.heap.size, 2, none⟩ = some (.slice none 0 0) := by have := R4.out.cell 2; simpa using this
          have f2 := R4.out.frozen 2
          have z3 : wa2.cell? ⟨wa0.heap.size, 3, none⟩ = some (.slice none 0 0) := by have := R4.out.cell 3; simpa using this
          have f3 := R4.out.frozen 3
          have zl := R4.out.lt
          have HLD : Hid (LaidL wa0.heap.size wa2 (limC L1.E A5 n5 c5) ((((wa2.setCell ⟨wa0.heap.size, 0, none⟩ (.int .u64 (L1.E : Int))).setCell ⟨wa0.heap.size, 1, none⟩ (.slice (A5 0) (n5 0) (c5 0))).setCell ⟨wa0.heap.size, 2, none⟩ (.slice (A5 1) (n5 1) (c5 1))).setCell ⟨wa0.heap.size, 3, none⟩ (.slice (A5 2) (n5 2) (c5 2)))) := hide (laidL_of R4.out rfl)
          go_simp
          have HQ2 := hide (HQ.out.trans (HLD.out.below.mono G4.out))
          refine hK.out _ _ HQ2.out (fun _ => ?_)
          clear hK K z0 z1 z2 z3 f0 f1 f2 f3 zl
          (try simp only [Act.put, List.getElem_toArray, List.getElem_cons_succ, List.getElem_cons_zero, List.setIfInBounds_toArray, List.set_cons_zero, List.set_cons_succ])
          have HL2 := hide (show LimRd ((((wa2.setCell ⟨wa0.heap.size, 0, none⟩ (.int .u64 (L1.E : Int))).setCell ⟨wa0.heap.size, 1, none⟩ (.slice (A5 0) (n5 0) (c5 0))).setCell ⟨wa0.heap.size, 2, none⟩ (.slice (A5 1) (n5 1) (c5 1))).setCell ⟨wa0.heap.size, 3, none⟩ (.slice (A5 2) (n5 2) (c5 2))) ((((wa2.setCell ⟨wa0.heap.size, 0, none⟩ (.int .u64 (L1.E : Int))).setCell ⟨wa0.heap.size, 1, none⟩ (.slice (A5 0) (n5 0) (c5 0))).setCell ⟨wa0.heap.size, 2, none⟩ (.slice (A5 1) (n5 1) (c5 1))).setCell ⟨wa0.heap.size, 3, none⟩ (.slice (A5 2) (n5 2) (c5 2))).heap.size A5 n5 L1.r from NE.out _ HLD.out)
          generalize ((((wa2.setCell ⟨wa0.heap.size, 0, none⟩ (.int .u64 (L1.E : Int))).setCell ⟨wa0.heap.size, 1, none⟩ (.slice (A5 0) (n5 0) (c5 0))).setCell ⟨wa0.heap.size, 2, none⟩ (.slice (A5 1) (n5 1) (c5 1))).setCell ⟨wa0.heap.size, 3, none⟩ (.slice (A5 2) (n5 2) (c5 2))) = wt at *
          (refine wpAnyH_take (i := 8) (v := ?_) rfl (by kernel_rfl) (by kernel_rfl) (by kernel_rfl) (fun _ _ _ h => h) (Or.inl ⟨by rfl, ?_⟩) (by assumption) ?_; rotate_left; (focus (intro w hSw; (try dsimp only at hSw); go_simp; first | done | with_reducible rfl)); (try simp only [Act.put, List.getElem_toArray, List.getElem_cons_succ, List.getElem_cons_zero, List.setIfInBounds_toArray, List.set_cons_zero, List.set_cons_succ]))
          refine wpAnyH_done (by kernel_rfl) ?_ _
          go_wp2_with fail
          go_meet
          case rel => exact ⟨_, A5, n5, c5, rfl, rfl, HLD.out.row, HL2.out, HQ2.out, G4.out⟩
    · go_simp
      refine hK0.out _ _ (HQ.out.alloc HQ.out.size _) (fun _ => ?_)
      clear hK0 K0
      (try simp only [Act.put, List.getElem_toArray, List.getElem_cons_succ, List.getElem_cons_zero, List.setIfInBounds_toArray, List.set_cons_zero, List.set_cons_succ])
      have hb0 : Below wd.heap.size wd (wd.alloc (.cells zeroC 26)) := (Below.refl _ _).alloc (Nat.le_refl _) _
      have R4 := hide (RowAt.new wd 26 zeroC)
      have G4 := hide HQ.out.size
      replace HQ := hide (HQ.out.alloc HQ.out.size (.cells zeroC 26))
      clear hb0
      generalize wd.alloc (.cells zeroC 26) = wa0 at *
      refine wpAnyH_ready (rs := [0]) (by kernel_rfl) (by simp) ?_
      refine (AllReadyH.cons rfl (fun K1 hK1 => ?_) AllReadyH.nil)
      · go_simp
        refine (HNW.out _).mono ?_
        rintro e wa1 ⟨rfl, hb1⟩
        replace R4 := hide (R4.out.below hb1)
        replace HQ := hide (HQ.out.trans (hb1.mono HQ.out.size))
        clear hb1
        refine hK1.out _ _ (HQ.out) (fun _ => ?_)
        clear hK1 K1
        (try simp only [Act.put, List.getElem_toArray, List.getElem_cons_succ, List.getElem_cons_zero, List.setIfInBounds_toArray, List.set_cons_zero, List.set_cons_succ])
        refine wpAnyH_ready (rs := [2]) (by kernel_rfl) (by simp) ?_
        refine (AllReadyH.cons rfl (fun K2 hK2 => ?_) AllReadyH.nil)
        · go_simp
          refine (HRE.out _).mono ?_
          rintro e wa2 hrr
          obtain ⟨A5, n5, c5, ⟨rfl, ho5⟩, hb2⟩ := HRT.out _ _ _ hrr
          have NE : Hid (∀ w8, LaidL wd.heap.size wa2 (limC L1.E A5 n5 c5) w8 → LimRd w8 w8.heap.size A5 n5 L1.r) := hide (fun w8 h8 => (ho5.other (fun j h1 h2 => h8.block j (by have := R4.out.lt; omega))).rd)
          replace R4 := hide (R4.out.below hb2)
          replace HQ := hide (HQ.out.trans (hb2.mono HQ.out.size))
          clear hb2 ho5 hrr
          refine hK2.out _ _ (HQ.out) (fun _ => ?_)
          clear hK2 K2
          (try simp only [Act.put, List.getElem_toArray, List.getElem_cons_succ, List.getElem_cons_zero, List.setIfInBounds_toArray, List.set_cons_zero, List.set_cons_succ])
          (refine wpAnyH_take (i := 3) (v := ?_) rfl (by kernel_rfl) (by kernel_rfl) (by kernel_rfl) (fun _ _ _ h => h) (Or.inl ⟨by rfl, ?_⟩) (by assumption) ?_; rotate_left; (focus (intro w hSw; (try dsimp only at hSw); go_simp; first | done | with_reducible rfl)); (try simp only [Act.put, List.getElem_toArray, List.getElem_cons_succ, List.getElem_cons_zero, List.setIfInBounds_toArray, List.set_cons_zero, List.set_cons_succ]))
          (refine wpAnyH_take (i := 4) (v := ?_) rfl (by kernel_rfl) (by kernel_rfl) (by kernel_rfl) (fun _ _ _ h => h) (Or.inl ⟨by rfl, ?_⟩) (by assumption) ?_; rotate_left; (focus (intro w hSw; (try dsimp only at hSw); go_simp; first | done | with_reducible rfl)); (try simp only [Act.put, List.getElem_toArray, List.getElem_cons_succ, List.getElem_cons_zero, List.setIfInBounds_toArray, List.set_cons_zero, List.set_cons_succ]))
          (refine wpAnyH_take (i := 5) (v := ?_) rfl (by kernel_rfl) (by kernel_rfl) (by kernel_rfl) (fun _ _ _ h => h) (Or.inl ⟨by rfl, ?_⟩) (by assumption) ?_; rotate_left; (focus (intro w hSw; (try dsimp only at hSw); go_simp; first | done | with_reducible rfl)); (try simp only [Act.put, List.getElem_toArray, List.getElem_cons_succ, List.getElem_cons_zero, List.setIfInBounds_toArray, List.set_cons_zero, List.set_cons_succ]))
          refine wpAnyH_ready (rs := [7]) (by kernel_rfl) (by simp) ?_
          refine AllReadyH.cons rfl (fun K hK => ?_) AllReadyH.nil
          have z0 : wa2.cell? ⟨wd.heap.size, 0, none⟩ = some (.int .u64 0) := by have := R4.out.cell 0; simpa using this
          have f0 := R4.out.frozen 0
          have z1 : wa2.cell? ⟨wd.heap.size, 1, none⟩ = some (.slice none 0 0) := by have := R4.out.cell 1; simpa using this
          have f1 := R4.out.frozen 1
          have z2 : wa2.cell? ⟨wd.heap.size, 2, none⟩ = some (.slice none 0 0) := by have := R4.out.cell 2; simpa using this
          have f2 := R4.out.frozen 2
          have z3 : wa2.cell? ⟨wd.heap.size, 3, none⟩ = some (.slice none 0 0) := by have := R4.out.cell 3; simpa using this
          have f3 := R4.out.frozen 3
          have zl := R4.out.lt
          have HLD : Hid (LaidL wd.heap.size wa2 (limC L1.E A5 n5 c5) ((((wa2.setCell ⟨wd.heap.size, 0, none⟩ (.int .u64 (L1.E : Int))).setCell ⟨wd.heap.size, 1, none⟩ (.slice (A5 0) (n5 0) (c5 0))).setCell ⟨wd.heap.size, 2, none⟩ (.slice (A5 1) (n5 1) (c5 1))).setCell ⟨wd.heap.size, 3, none⟩ (.slice (A5 2) (n5 2) (c5 2)))) := hide (laidL_of R4.out rfl)
          go_simp
          have HQ2 := hide (HQ.out.trans (HLD.out.below.mono G4.out))
          refine hK.out _ _ HQ2.out (fun _ => ?_)
          clear hK K z0 z1 z2 z3 f0 f1 f2 f3 zl
          (try simp only [Act.put, List.getElem_toArray, List.getElem_cons_succ, List.getElem_cons_zero, List.setIfInBounds_toArray, List.set_cons_zero, List.set_cons_succ])
          have HL2 := hide (show LimRd ((((wa2.setCell ⟨wd.heap.size, 0, none⟩ (.int .u64 (L1.E : Int))).setCell ⟨wd.heap.size, 1, none⟩ (.slice (A5 0) (n5 0) (c5 0))).setCell ⟨wd.heap.size, 2, none⟩ (.slice (A5 1) (n5 1) (c5 1))).setCell ⟨wd.heap.size, 3, none⟩ (.slice (A5 2) (n5 2) (c5 2))) ((((wa2.setCell ⟨wd.heap.size, 0, none⟩ (.int .u64 (L1.E : Int))).setCell ⟨wd.heap.size, 1, none⟩ (.slice (A5 0) (n5 0) (c5 0))).setCell ⟨wd.heap.size, 2, none⟩ (.slice (A5 1) (n5 1) (c5 1))).setCell ⟨wd.heap.size, 3, none⟩ (.slice (A5 2) (n5 2) (c5 2))).heap.size A5 n5 L1.r from NE.out _ HLD.out)
          generalize ((((wa2.setCell ⟨wd.heap.size, 0, none⟩ (.int .u64 (L1.E : Int))).setCell ⟨wd.heap.size, 1, none⟩ (.slice (A5 0) (n5 0) (c5 0))).setCell ⟨wd.heap.size, 2, none⟩ (.slice (A5 1) (n5 1) (c5 1))).setCell ⟨wd.heap.size, 3, none⟩ (.slice (A5 2) (n5 2) (c5 2))) = wt at *
          (refine wpAnyH_take (i := 8) (v := ?_) rfl (by kernel_rfl) (by kernel_rfl) (by kernel_rfl) (fun _ _ _ h => h) (Or.inl ⟨by rfl, ?_⟩) (by assumption) ?_; rotate_left; (focus (intro w hSw; (try dsimp only at hSw); go_simp; first | done | with_reducible rfl)); (try simp only [Act.put, List.getElem_toArray, List.getElem_cons_succ, List.getElem_cons_zero, List.setIfInBounds_toArray, List.set_cons_zero, List.set_cons_succ]))
          refine wpAnyH_done (by kernel_rfl) ?_ _
          go_wp2_with fail
          go_meet
          case rel => exact ⟨_, A5, n5, c5, rfl, rfl, HLD.out.row, HL2.out, HQ2.out, G4.out⟩

  case rest =>
    rename_i K hK
    refine hK _ _ ?_
    clear hK K
    obtain ⟨w4, hw4⟩ : ∃ w, w = wc := ⟨_, rfl⟩
    subst hw4
    obtain ⟨g4, A5, n5, c5, rfl, rfl, hr4, hl4, hb4, hg4⟩ := hcut
    have R4 := hide hr4
    have HL1 := hide hl4
    have HWK := hide (HWK.out.later hb4)
    have HB4 := hide (HB.out.trans (hb4.mono HB.out.size))
    have G4 := hide (show W.heap.size + 1 + 1 + 1 ≤ g4 from by omega)
    clear hr4 hl4 hb4 hg4 a0 a1 al HRT HRE
    have q0 : w4.cell? ⟨g4, 0, none⟩ = some (.int .u64 (L1.E : Int)) := by have := R4.out.cell 0; simpa [limC] using this
    have q1 : w4.cell? ⟨g4, 1, none⟩ = some (.slice (A5 0) (n5 0) (c5 0)) := by have := R4.out.cell 1; simpa [limC] using this
    have q2 : w4.cell? ⟨g4, 2, none⟩ = some (.slice (A5 1) (n5 1) (c5 1)) := by have := R4.out.cell 2; simpa [limC] using this
    have q3 : w4.cell? ⟨g4, 3, none⟩ = some (.slice (A5 2) (n5 2) (c5 2)) := by have := R4.out.cell 3; simpa [limC] using this
    have ql := R4.out.lt
    have hgl := R4.out.lt
    have HC := hide (Advance_any w4.heap.size A5 n5 c5 L1 w4 HL1.out (by decide) (Nat.le_refl _) (fun k hk => by have := lens_ok (l := L1) (by decide +kernel) HL1.out.len k hk; omega) wkG1)
    go_wp2_with fail
    with_reducible refine HC.out.mono ?_
    rintro e w4b hres
    obtain ⟨A6, n6, c6, ⟨rfl, ho⟩, hb⟩ := outRes_ok hres wk2
    have HO := hide ho
    have R4 := hide (R4.out.below hb)
    have HWK := hide (HWK.out.later hb)
    have HB4 := hide (HB4.out.trans (hb.mono HB4.out.size))
    clear q0 q1 q2 q3 ql HC hres ho
    have q0 : w4b.cell? ⟨g4, 0, none⟩ = some (.int .u64 (L1.E : Int)) := by have := R4.out.cell 0; simpa [limC] using this
    have q1 : w4b.cell? ⟨g4, 1, none⟩ = some (.slice (A5 0) (n5 0) (c5 0)) := by have := R4.out.cell 1; simpa [limC] using this
    have q2 : w4b.cell? ⟨g4, 2, none⟩ = some (.slice (A5 1) (n5 1) (c5 1)) := by have := R4.out.cell 2; simpa [limC] using this
    have q3 : w4b.cell? ⟨g4, 3, none⟩ = some (.slice (A5 2) (n5 2) (c5 2)) := by have := R4.out.cell 3; simpa [limC] using this
    have qf0 := R4.out.frozen 0
    have qf1 := R4.out.frozen 1
    have qf2 := R4.out.frozen 2
    have qf3 := R4.out.frozen 3
    have ql := R4.out.lt
    have HLD : Hid (LaidL g4 w4b (limC L2.E A6 n6 c6) ((((w4b.setCell ⟨g4, 0, none⟩ (.int .u64 (L2.E : Int))).setCell ⟨g4, 1, none⟩ (.slice (A6 0) (n6 0) (c6 0))).setCell ⟨g4, 2, none⟩ (.slice (A6 1) (n6 1) (c6 1))).setCell ⟨g4, 3, none⟩ (.slice (A6 2) (n6 2) (c6 2)))) := hide (laidL_of R4.out rfl)
    clear hb
    go_upto_region 4 with (fail)
    have HL2 := hide (show LimRd ((((w4b.setCell ⟨g4, 0, none⟩ (.int .u64 (L2.E : Int))).setCell ⟨g4, 1, none⟩ (.slice (A6 0) (n6 0) (c6 0))).setCell ⟨g4, 2, none⟩ (.slice (A6 1) (n6 1) (c6 1))).setCell ⟨g4, 3, none⟩ (.slice (A6 2) (n6 2) (c6 2))) ((((w4b.setCell ⟨g4, 0, none⟩ (.int .u64 (L2.E : Int))).setCell ⟨g4, 1, none⟩ (.slice (A6 0) (n6 0) (c6 0))).setCell ⟨g4, 2, none⟩ (.slice (A6 1) (n6 1) (c6 1))).setCell ⟨g4, 3, none⟩ (.slice (A6 2) (n6 2) (c6 2))).heap.size A6 n6 L2.r from (HO.out.other (fun j h1 h2 => HLD.out.block j (by omega))).rd)
    generalize ((((w4b.setCell ⟨g4, 0, none⟩ (.int .u64 (L2.E : Int))).setCell ⟨g4, 1, none⟩ (.slice (A6 0) (n6 0) (c6 0))).setCell ⟨g4, 2, none⟩ (.slice (A6 1) (n6 1) (c6 1))).setCell ⟨g4, 3, none⟩ (.slice (A6 2) (n6 2) (c6 2))) = w5 at *
    have R4 := hide HLD.out.row
    have HWK := hide (HWK.out.laid HLD.out G4.out)
    have HB4 := hide (HB4.out.trans (HLD.out.below.mono (by have := G4.out; omega)))
    clear q0 q1 q2 q3 ql qf0 qf1 qf2 qf3 HO HLD hgl
    have q0 : w5.cell? ⟨g4, 0, none⟩ = some (.int .u64 (L2.E : Int)) := by have := R4.out.cell 0; simpa [limC] using this
    have q1 : w5.cell? ⟨g4, 1, none⟩ = some (.slice (A6 0) (n6 0) (c6 0)) := by have := R4.out.cell 1; simpa [limC] using this
    have q2 : w5.cell? ⟨g4, 2, none⟩ = some (.slice (A6 1) (n6 1) (c6 1)) := by have := R4.out.cell 2; simpa [limC] using this
    have q3 : w5.cell? ⟨g4, 3, none⟩ = some (.slice (A6 2) (n6 2) (c6 2)) := by have := R4.out.cell 3; simpa [limC] using this
    have ql := R4.out.lt
    have hgl := R4.out.lt
    have b0 := row20 HWK.out.b
    have b1 := row21 HWK.out.b
    have bl := HWK.out.b.lt
    have HC := hide (Retire_any w5.heap.size A6 n6 c6 L2 2 0 w5 HL2.out (by decide) (Nat.le_refl _) (fun k hk => by have := lens_ok (l := L2) (by decide +kernel) HL2.out.len k hk; omega) wkG2 (by omega))
    go_wp2_with fail
    with_reducible refine HC.out.mono ?_
    rintro e w5b hres
    obtain ⟨A7, n7, c7, ⟨rfl, ho⟩, hb⟩ := outRes_ok hres wk3
    have HO := hide ho
    have R4 := hide (R4.out.below hb)
    have HWK := hide (HWK.out.later hb)
    have HB4 := hide (HB4.out.trans (hb.mono HB4.out.size))
    clear q0 q1 q2 q3 ql HC hres ho b0 b1 bl
    have q0 : w5b.cell? ⟨g4, 0, none⟩ = some (.int .u64 (L2.E : Int)) := by have := R4.out.cell 0; simpa [limC] using this
    have q1 : w5b.cell? ⟨g4, 1, none⟩ = some (.slice (A6 0) (n6 0) (c6 0)) := by have := R4.out.cell 1; simpa [limC] using this
    have q2 : w5b.cell? ⟨g4, 2, none⟩ = some (.slice (A6 1) (n6 1) (c6 1)) := by have := R4.out.cell 2; simpa [limC] using this
    have q3 : w5b.cell? ⟨g4, 3, none⟩ = some (.slice (A6 2) (n6 2) (c6 2)) := by have := R4.out.cell 3; simpa [limC] using this
    have qf0 := R4.out.frozen 0
    have qf1 := R4.out.frozen 1
    have qf2 := R4.out.frozen 2
    have qf3 := R4.out.frozen 3
    have ql := R4.out.lt
    have HLD : Hid (LaidL g4 w5b (limC L3.E A7 n7 c7) ((((w5b.setCell ⟨g4, 0, none⟩ (.int .u64 (L3.E : Int))).setCell ⟨g4, 1, none⟩ (.slice (A7 0) (n7 0) (c7 0))).setCell ⟨g4, 2, none⟩ (.slice (A7 1) (n7 1) (c7 1))).setCell ⟨g4, 3, none⟩ (.slice (A7 2) (n7 2) (c7 2)))) := hide (laidL_of R4.out rfl)
    clear hb
    go_upto_region 5 with (fail)
    have HL3 := hide (show LimRd ((((w5b.setCell ⟨g4, 0, none⟩ (.int .u64 (L3.E : Int))).setCell ⟨g4, 1, none⟩ (.slice (A7 0) (n7 0) (c7 0))).setCell ⟨g4, 2, none⟩ (.slice (A7 1) (n7 1) (c7 1))).setCell ⟨g4, 3, none⟩ (.slice (A7 2) (n7 2) (c7 2))) ((((w5b.setCell ⟨g4, 0, none⟩ (.int .u64 (L3.E : Int))).setCell ⟨g4, 1, none⟩ (.slice (A7 0) (n7 0) (c7 0))).setCell ⟨g4, 2, none⟩ (.slice (A7 1) (n7 1) (c7 1))).setCell ⟨g4, 3, none⟩ (.slice (A7 2) (n7 2) (c7 2))).heap.size A7 n7 L3.r from (HO.out.other (fun j h1 h2 => HLD.out.block j (by omega))).rd)
    generalize ((((w5b.setCell ⟨g4, 0, none⟩ (.int .u64 (L3.E : Int))).setCell ⟨g4, 1, none⟩ (.slice (A7 0) (n7 0) (c7 0))).setCell ⟨g4, 2, none⟩ (.slice (A7 1) (n7 1) (c7 1))).setCell ⟨g4, 3, none⟩ (.slice (A7 2) (n7 2) (c7 2))) = w6 at *
    have R4 := hide HLD.out.row
    have HWK := hide (HWK.out.laid HLD.out G4.out)
    have HB4 := hide (HB4.out.trans (HLD.out.below.mono (by have := G4.out; omega)))
    clear q0 q1 q2 q3 ql qf0 qf1 qf2 qf3 HO HLD hgl
    have q0 : w6.cell? ⟨g4, 0, none⟩ = some (.int .u64 (L3.E : Int)) := by have := R4.out.cell 0; simpa [limC] using this
    have q1 : w6.cell? ⟨g4, 1, none⟩ = some (.slice (A7 0) (n7 0) (c7 0)) := by have := R4.out.cell 1; simpa [limC] using this
    have q2 : w6.cell? ⟨g4, 2, none⟩ = some (.slice (A7 1) (n7 1) (c7 1)) := by have := R4.out.cell 2; simpa [limC] using this
    have q3 : w6.cell? ⟨g4, 3, none⟩ = some (.slice (A7 2) (n7 2) (c7 2)) := by have := R4.out.cell 3; simpa [limC] using this
    have ql := R4.out.lt
    have hgl := R4.out.lt
    have HC := hide (Advance_any w6.heap.size A7 n7 c7 L3 w6 HL3.out (by decide) (Nat.le_refl _) (fun k hk => by have := lens_ok (l := L3) (by decide +kernel) HL3.out.len k hk; omega) wkG3)
    go_wp2_with fail
    with_reducible refine HC.out.mono ?_
    rintro e w6b hres
    obtain ⟨A8, n8, c8, ⟨rfl, ho⟩, hb⟩ := outRes_ok hres wk4
    have HO := hide ho
    have R4 := hide (R4.out.below hb)
    have HWK := hide (HWK.out.later hb)
    have HB4 := hide (HB4.out.trans (hb.mono HB4.out.size))
    clear q0 q1 q2 q3 ql HC hres ho
    have q0 : w6b.cell? ⟨g4, 0, none⟩ = some (.int .u64 (L3.E : Int)) := by have := R4.out.cell 0; simpa [limC] using this
    have q1 : w6b.cell? ⟨g4, 1, none⟩ = some (.slice (A7 0) (n7 0) (c7 0)) := by have := R4.out.cell 1; simpa [limC] using this
    have q2 : w6b.cell? ⟨g4, 2, none⟩ = some (.slice (A7 1) (n7 1) (c7 1)) := by have := R4.out.cell 2; simpa [limC] using this
    have q3 : w6b.cell? ⟨g4, 3, none⟩ = some (.slice (A7 2) (n7 2) (c7 2)) := by have := R4.out.cell 3; simpa [limC] using this
    have qf0 := R4.out.frozen 0
    have qf1 := R4.out.frozen 1
    have qf2 := R4.out.frozen 2
    have qf3 := R4.out.frozen 3
    have ql := R4.out.lt
    have HLD : Hid (LaidL g4 w6b (limC L4.E A8 n8 c8) ((((w6b.setCell ⟨g4, 0, none⟩ (.int .u64 (L4.E : Int))).setCell ⟨g4, 1, none⟩ (.slice (A8 0) (n8 0) (c8 0))).setCell ⟨g4, 2, none⟩ (.slice (A8 1) (n8 1) (c8 1))).setCell ⟨g4, 3, none⟩ (.slice (A8 2) (n8 2) (c8 2)))) := hide (laidL_of R4.out rfl)
    clear hb
    go_upto_region 6 with (fail)
    have HL4 := hide (show LimRd ((((w6b.setCell ⟨g4, 0, none⟩ (.int .u64 (L4.E : Int))).setCell ⟨g4, 1, none⟩ (.slice (A8 0) (n8 0) (c8 0))).setCell ⟨g4, 2, none⟩ (.slice (A8 1) (n8 1) (c8 1))).setCell ⟨g4, 3, none⟩ (.slice (A8 2) (n8 2) (c8 2))) ((((w6b.setCell ⟨g4, 0, none⟩ (.int .u64 (L4.E : Int))).setCell ⟨g4, 1, none⟩ (.slice (A8 0) (n8 0) (c8 0))).setCell ⟨g4, 2, none⟩ (.slice (A8 1) (n8 1) (c8 1))).setCell ⟨g4, 3, none⟩ (.slice (A8 2) (n8 2) (c8 2))).heap.size A8 n8 L4.r from (HO.out.other (fun j h1 h2 => HLD.out.block j (by omega))).rd)
    generalize ((((w6b.setCell ⟨g4, 0, none⟩ (.int .u64 (L4.E : Int))).setCell ⟨g4, 1, none⟩ (.slice (A8 0) (n8 0) (c8 0))).setCell ⟨g4, 2, none⟩ (.slice (A8 1) (n8 1) (c8 1))).setCell ⟨g4, 3, none⟩ (.slice (A8 2) (n8 2) (c8 2))) = w7 at *
    have R4 := hide HLD.out.row
    have HWK := hide (HWK.out.laid HLD.out G4.out)
    have HB4 := hide (HB4.out.trans (HLD.out.below.mono (by have := G4.out; omega)))
    clear q0 q1 q2 q3 ql qf0 qf1 qf2 qf3 HO HLD hgl

    have q0 : w7.cell? ⟨g4, 0, none⟩ = some (.int .u64 (L4.E : Int)) := by have := R4.out.cell 0; simpa [limC] using this
    have q1 : w7.cell? ⟨g4, 1, none⟩ = some (.slice (A8 0) (n8 0) (c8 0)) := by have := R4.out.cell 1; simpa [limC] using this
    have q2 : w7.cell? ⟨g4, 2, none⟩ = some (.slice (A8 1) (n8 1) (c8 1)) := by have := R4.out.cell 2; simpa [limC] using this
    have q3 : w7.cell? ⟨g4, 3, none⟩ = some (.slice (A8 2) (n8 2) (c8 2)) := by have := R4.out.cell 3; simpa [limC] using this
    have ql := R4.out.lt
    have hls8 : ∀ k, k < 3 → n8 k ≤ 4096 := fun k hk => by have := lens_ok (l := L4) (by decide +kernel) HL4.out.len k hk; omega
    have HC := hide (Advance_any w7.heap.size A8 n8 c8 L4 w7 HL4.out (by decide) (Nat.le_refl _) hls8 wkG4)
    go_wp2_with fail
    with_reducible refine HC.out.mono ?_
    rintro e w8 hres
    obtain ⟨rfl, hb⟩ := outRes_err hres wk5
    have HBX := hide (hb.trans ((Below.refl _ _).alloc hb.size (.cells zeroC 26)))
    clear q0 q1 q2 q3 ql HC hres hb
    go_upto_region 7 with (fail)
    generalize w8.alloc (.cells zeroC 26) = w9 at *
    have R4 := hide (R4.out.below HBX.out)
    have HWK := hide (HWK.out.later HBX.out)
    have HL4 := hide ((HL4.out.below HBX.out).more HBX.out.size)
    have HB4 := hide (HB4.out.trans (HBX.out.mono HB4.out.size))
    clear HBX
    have q0 : w9.cell? ⟨g4, 0, none⟩ = some (.int .u64 (L4.E : Int)) := by have := R4.out.cell 0; simpa [limC] using this
    have q1 : w9.cell? ⟨g4, 1, none⟩ = some (.slice (A8 0) (n8 0) (c8 0)) := by have := R4.out.cell 1; simpa [limC] using this
    have q2 : w9.cell? ⟨g4, 2, none⟩ = some (.slice (A8 1) (n8 1) (c8 1)) := by have := R4.out.cell 2; simpa [limC] using this
    have q3 : w9.cell? ⟨g4, 3, none⟩ = some (.slice (A8 2) (n8 2) (c8 2)) := by have := R4.out.cell 3; simpa [limC] using this
    have ql := R4.out.lt
    have HC := hide (when_any w9.heap.size A8 n8 c8 L4 2 w9 HL4.out (by decide) (Nat.le_refl _) hls8 wkG4 1 true wk6)
    go_wp2_with fail
    with_reducible refine HC.out.mono ?_
    rintro e wp ⟨rfl, hb⟩
    have R4 := hide (R4.out.below hb)
    have HWK := hide (HWK.out.later hb)
    have HL4 := hide ((HL4.out.below hb).more hb.size)
    have HB4 := hide (HB4.out.trans (hb.mono HB4.out.size))
    clear q0 q1 q2 q3 ql HC hb
    have a0 := row20 HWK.out.a
    have a1 := row21 HWK.out.a
    have al := HWK.out.a.lt
    have b0 := row20 HWK.out.b
    have b1 := row21 HWK.out.b
    have bl := HWK.out.b.lt
    have c0 := row20 HWK.out.c
    have c1 := row21 HWK.out.c
    have cl := HWK.out.c.lt
    have HON := hide (HW.out.below (HB4.out.mono hB))
    have o0 := HON.out.slab
    have o1 := HON.out.gen
    have ol : 0 < wp.heap.size := by have := HB4.out.size; omega
    have HRU := hide (fun (w : World) (gb : Nat) (h : Rd w w.heap.size 2 (some ⟨gb, 0, none⟩) 8 (Cs encE wkSteps)) => Run_any w.heap.size (fun _ => none) (fun _ => 0) (fun _ => 0) lim0 8 8 (some ⟨gb, 0, none⟩) wkSteps w (zero_rd w _) (by decide) (Nat.le_refl _) (fun _ _ => by omega) gen_zero h rfl (by omega) wkSteps_gen)
    have HRV := hide (fun (w : World) (e : Ending) (w' : World) (h : OutResR w (runR lim0 wkSteps) e w') => wkRun h)
    go_upto_region 8 with (fail)
    go_cut [13, 14, 15] from 51 to 66 (fun s13 s14 s15 wx => ∃ (At : Option Addr) (ct : Nat), s14 = .slice At 3 ct ∧ s15 = .int .i64 0 ∧ Rd wx wx.heap.size 2 At 3 (Cs encE [(1, 0), (2, 0), (3, 0)]) ∧ Below wp.heap.size wp wx)
    case first =>
      refine wp_region_held_drew (S := fun wX => Below wp.heap.size wp wX) (by kernel_rfl) (Below.refl _ _).drew (fun hHeld => ?_)
      have HQ := hide ((Below.refl wp.heap.size wp).drew)
      (refine wpAnyH_take (i := 1) (v := ?_) rfl (by kernel_rfl) (by kernel_rfl) (by kernel_rfl) (fun _ _ _ h => h) (Or.inl ⟨by rfl, ?_⟩) (by assumption) ?_; rotate_left; (focus (intro w hSw; (try dsimp only at hSw); have kf0 := kept hSw a0; have kf1 := kept hSw a1; go_simp; first | done | with_reducible rfl)); (try simp only [Act.put, List.getElem_toArray, List.getElem_cons_succ, List.getElem_cons_zero, List.setIfInBounds_toArray, List.set_cons_zero, List.set_cons_succ]))
      (refine wpAnyH_take (i := 2) (v := ?_) rfl (by kernel_rfl) (by kernel_rfl) (by kernel_rfl) (fun _ _ _ h => h) (Or.inl ⟨by rfl, ?_⟩) (by assumption) ?_; rotate_left; (focus (intro w hSw; (try dsimp only at hSw); have kf0 := kept hSw o0; have kf1 := kept hSw o1; go_simp; first | done | with_reducible rfl)); (try simp only [Act.put, List.getElem_toArray, List.getElem_cons_succ, List.getElem_cons_zero, List.setIfInBounds_toArray, List.set_cons_zero, List.set_cons_succ]))
      (refine wpAnyH_take (i := 3) (v := ?_) rfl (by kernel_rfl) (by kernel_rfl) (by kernel_rfl) (fun _ _ _ h => h) (Or.inl ⟨by rfl, ?_⟩) (by assumption) ?_; rotate_left; (focus (intro w hSw; (try dsimp only at hSw); have kf0 := kept hSw b0; have kf1 := kept hSw b1; go_simp; first | done | with_reducible rfl)); (try simp only [Act.put, List.getElem_toArray, List.getElem_cons_succ, List.getElem_cons_zero, List.setIfInBounds_toArray, List.set_cons_zero, List.set_cons_succ]))
      (refine wpAnyH_take (i := 4) (v := ?_) rfl (by kernel_rfl) (by kernel_rfl) (by kernel_rfl) (fun _ _ _ h => h) (Or.inl ⟨by rfl, ?_⟩) (by assumption) ?_; rotate_left; (focus (intro w hSw; (try dsimp only at hSw); have kf0 := kept hSw o0; have kf1 := kept hSw o1; go_simp; first | done | with_reducible rfl)); (try simp only [Act.put, List.getElem_toArray, List.getElem_cons_succ, List.getElem_cons_zero, List.setIfInBounds_toArray, List.set_cons_zero, List.set_cons_succ]))
      (refine wpAnyH_take (i := 5) (v := ?_) rfl (by kernel_rfl) (by kernel_rfl) (by kernel_rfl) (fun _ _ _ h => h) (Or.inl ⟨by rfl, ?_⟩) (by assumption) ?_; rotate_left; (focus (intro w hSw; (try dsimp only at hSw); have kf0 := kept hSw c0; have kf1 := kept hSw c1; go_simp; first | done | with_reducible rfl)); (try simp only [Act.put, List.getElem_toArray, List.getElem_cons_succ, List.getElem_cons_zero, List.setIfInBounds_toArray, List.set_cons_zero, List.set_cons_succ]))
      (refine wpAnyH_take (i := 6) (v := ?_) rfl (by kernel_rfl) (by kernel_rfl) (by kernel_rfl) (fun _ _ _ h => h) (Or.inl ⟨by rfl, ?_⟩) (by assumption) ?_; rotate_left; (focus (intro w hSw; (try dsimp only at hSw); have kf0 := kept hSw o0; have kf1 := kept hSw o1; go_simp; first | done | with_reducible rfl)); (try simp only [Act.put, List.getElem_toArray, List.getElem_cons_succ, List.getElem_cons_zero, List.setIfInBounds_toArray, List.set_cons_zero, List.set_cons_succ]))
      (refine wpAnyH_take (i := 7) (v := ?_) rfl (by kernel_rfl) (by kernel_rfl) (by kernel_rfl) (fun _ _ _ h => h) (Or.inl ⟨by rfl, ?_⟩) (by assumption) ?_; rotate_left; (focus (intro w hSw; (try dsimp only at hSw); have kf0 := kept hSw o0; have kf1 := kept hSw o1; go_simp; first | done | with_reducible rfl)); (try simp only [Act.put, List.getElem_toArray, List.getElem_cons_succ, List.getElem_cons_zero, List.setIfInBounds_toArray, List.set_cons_zero, List.set_cons_succ]))
      (refine wpAnyH_take (i := 8) (v := ?_) rfl (by kernel_rfl) (by kernel_rfl) (by kernel_rfl) (fun _ _ _ h => h) (Or.inl ⟨by rfl, ?_⟩) (by assumption) ?_; rotate_left; (focus (intro w hSw; (try dsimp only at hSw); have kf0 := kept hSw o0; have kf1 := kept hSw o1; go_simp; first | done | with_reducible rfl)); (try simp only [Act.put, List.getElem_toArray, List.getElem_cons_succ, List.getElem_cons_zero, List.setIfInBounds_toArray, List.set_cons_zero, List.set_cons_succ]))
      generalize wp.drew = wd at *
      refine wpAnyH_ready (rs := [0, 9, 15]) (by kernel_rfl) (by simp) ?_
      refine (AllReadyH.cons rfl (fun K0 hK0 => ?_) (AllReadyH.cons rfl (fun K0 hK0 => ?_) (AllReadyH.cons rfl (fun K0 hK0 => ?_) AllReadyH.nil)))
      · go_simp
        refine (HNW.out _).mono ?_
        rintro e wa0 ⟨rfl, hb0⟩
        replace HQ := hide (HQ.out.trans (hb0.mono HQ.out.size))
        clear hb0
        refine hK0.out _ _ (HQ.out) (fun _ => ?_)
        clear hK0 K0
        (try simp only [Act.put, List.getElem_toArray, List.getElem_cons_succ, List.getElem_cons_zero, List.setIfInBounds_toArray, List.set_cons_zero, List.set_cons_succ])
        refine wpAnyH_ready (rs := [9, 15]) (by kernel_rfl) (by simp) ?_
        refine (AllReadyH.cons rfl (fun K1 hK1 => ?_) (AllReadyH.cons rfl (fun K1 hK1 => ?_) AllReadyH.nil))
        · go_simp
          refine hK1.out _ _ (HQ.out.alloc HQ.out.size _) (fun _ => ?_)
          clear hK1 K1
          (try simp only [Act.put, List.getElem_toArray, List.getElem_cons_succ, List.getElem_cons_zero, List.setIfInBounds_toArray, List.set_cons_zero, List.set_cons_succ])
          have hb1 : Below wa0.heap.size wa0 (wa0.alloc (.cells #[.int .i64 1, .int .u64 0, .int .i64 (-1), .int .u64 0, .int .i64 2, .int .u64 0, .int .i64 (-1), .int .u64 0, .int .i64 3, .int .u64 0, .int .i64 (-1), .int .u64 0, .int .i64 (-1), .int .u64 0, .int .i64 (-1), .int .u64 0] 34)) := (Below.refl _ _).alloc (Nat.le_refl _) _
          have HSL := hide (show Rd (wa0.alloc (.cells #[.int .i64 1, .int .u64 0, .int .i64 (-1), .int .u64 0, .int .i64 2, .int .u64 0, .int .i64 (-1), .int .u64 0, .int .i64 3, .int .u64 0, .int .i64 (-1), .int .u64 0, .int .i64 (-1), .int .u64 0, .int .i64 (-1), .int .u64 0] 34)) (wa0.alloc (.cells #[.int .i64 1, .int .u64 0, .int .i64 (-1), .int .u64 0, .int .i64 2, .int .u64 0, .int .i64 (-1), .int .u64 0, .int .i64 3, .int .u64 0, .int .i64 (-1), .int .u64 0, .int .i64 (-1), .int .u64 0, .int .i64 (-1), .int .u64 0] 34)).heap.size 2 (some ⟨wa0.heap.size, 0, none⟩) 8 (Cs encE wkSteps) from (Rd.new wa0 #[.int .i64 1, .int .u64 0, .int .i64 (-1), .int .u64 0, .int .i64 2, .int .u64 0, .int .i64 (-1), .int .u64 0, .int .i64 3, .int .u64 0, .int .i64 (-1), .int .u64 0, .int .i64 (-1), .int .u64 0, .int .i64 (-1), .int .u64 0] 34 2 8 rfl).more (by simp))
          replace HQ := hide (HQ.out.alloc HQ.out.size (.cells #[.int .i64 1, .int .u64 0, .int .i64 (-1), .int .u64 0, .int .i64 2, .int .u64 0, .int .i64 (-1), .int .u64 0, .int .i64 3, .int .u64 0, .int .i64 (-1), .int .u64 0, .int .i64 (-1), .int .u64 0, .int .i64 (-1), .int .u64 0] 34))
          clear hb1
          generalize wa0.alloc (.cells #[.int .i64 1, .int .u64 0, .int .i64 (-1), .int .u64 0, .int .i64 2, .int .u64 0, .int .i64 (-1), .int .u64 0, .int .i64 3, .int .u64 0, .int .i64 (-1), .int .u64 0, .int .i64 (-1), .int .u64 0, .int .i64 (-1), .int .u64 0] 34) = wa1 at *
          refine wpAnyH_ready (rs := [10, 15]) (by kernel_rfl) (by simp) ?_
          refine (AllReadyH.cons rfl (fun K2 hK2 => ?_) (AllReadyH.cons rfl (fun K2 hK2 => ?_) AllReadyH.nil))
          · go_simp
            refine (HRU.out _ wa0.heap.size HSL.out).mono ?_
            rintro e wa2 hrr
            obtain ⟨l5, A5, n5, c5, At, ct, ⟨rfl, ho5⟩, hb2⟩ := HRV.out _ _ _ hrr
            have HL := hide ho5.rd
            replace HQ := hide (HQ.out.trans (hb2.mono HQ.out.size))
            clear hb2 ho5 hrr HSL
            refine hK2.out _ _ (HQ.out) (fun _ => ?_)
            clear hK2 K2
            (try simp only [Act.put, List.getElem_toArray, List.getElem_cons_succ, List.getElem_cons_zero, List.setIfInBounds_toArray, List.set_cons_zero, List.set_cons_succ])
            (refine wpAnyH_take (i := 11) (v := ?_) rfl (by kernel_rfl) (by kernel_rfl) (by kernel_rfl) (fun _ _ _ h => h) (Or.inl ⟨by rfl, ?_⟩) (by assumption) ?_; rotate_left; (focus (intro w hSw; (try dsimp only at hSw); go_simp; first | done | with_reducible rfl)); (try simp only [Act.put, List.getElem_toArray, List.getElem_cons_succ, List.getElem_cons_zero, List.setIfInBounds_toArray, List.set_cons_zero, List.set_cons_succ]))
            (refine wpAnyH_take (i := 12) (v := ?_) rfl (by kernel_rfl) (by kernel_rfl) (by kernel_rfl) (fun _ _ _ h => h) (Or.inl ⟨by rfl, ?_⟩) (by assumption) ?_; rotate_left; (focus (intro w hSw; (try dsimp only at hSw); go_simp; first | done | with_reducible rfl)); (try simp only [Act.put, List.getElem_toArray, List.getElem_cons_succ, List.getElem_cons_zero, List.setIfInBounds_toArray, List.set_cons_zero, List.set_cons_succ]))
            (refine wpAnyH_take (i := 13) (v := ?_) rfl (by kernel_rfl) (by kernel_rfl) (by kernel_rfl) (fun _ _ _ h => h) (Or.inl ⟨by rfl, ?_⟩) (by assumption) ?_; rotate_left; (focus (intro w hSw; (try dsimp only at hSw); go_simp; first | done | with_reducible rfl)); (try simp only [Act.put, List.getElem_toArray, List.getElem_cons_succ, List.getElem_cons_zero, List.setIfInBounds_toArray, List.set_cons_zero, List.set_cons_succ]))
            (refine wpAnyH_take (i := 14) (v := ?_) rfl (by kernel_rfl) (by kernel_rfl) (by kernel_rfl) (fun _ _ _ h => h) (Or.inl ⟨by rfl, ?_⟩) (by assumption) ?_; rotate_left; (focus (intro w hSw; (try dsimp only at hSw); go_simp; first | done | with_reducible rfl)); (try simp only [Act.put, List.getElem_toArray, List.getElem_cons_succ, List.getElem_cons_zero, List.setIfInBounds_toArray, List.set_cons_zero, List.set_cons_succ]))
            refine wpAnyH_ready (rs := [15]) (by kernel_rfl) (by simp) ?_
            refine (AllReadyH.cons rfl (fun K3 hK3 => ?_) AllReadyH.nil)
            · go_simp
              refine hK3.out _ _ (HQ.out.alloc HQ.out.size _) (fun _ => ?_)
              clear hK3 K3
              (try simp only [Act.put, List.getElem_toArray, List.getElem_cons_succ, List.getElem_cons_zero, List.setIfInBounds_toArray, List.set_cons_zero, List.set_cons_succ])
              have hb3 : Below wa2.heap.size wa2 (wa2.alloc (.cells zeroC 26)) := (Below.refl _ _).alloc (Nat.le_refl _) _
              have R4 := hide (RowAt.new wa2 26 zeroC)
              have G4 := hide HQ.out.size
              have NE : Hid (∀ w8, LaidL wa2.heap.size (wa2.alloc (.cells zeroC 26)) (limC l5.E A5 n5 c5) w8 → Rd w8 w8.heap.size 2 At 3 (Cs encE [(1, 0), (2, 0), (3, 0)])) := hide (fun w8 h8 => ((HL.out.below hb3).keep (fun p hp => cell_of_heap (h8.block p.block (Nat.ne_of_lt hp)))).more (by have := h8.below.size; have := hb3.size; omega))
              replace HQ := hide (HQ.out.alloc HQ.out.size (.cells zeroC 26))
              clear hb3
              generalize wa2.alloc (.cells zeroC 26) = wa3 at *
              refine wpAnyH_ready (rs := [16]) (by kernel_rfl) (by simp) ?_
              refine AllReadyH.cons rfl (fun K hK => ?_) AllReadyH.nil
              have z0 : wa3.cell? ⟨wa2.heap.size, 0, none⟩ = some (.int .u64 0) := by have := R4.out.cell 0; simpa using this
              have f0 := R4.out.frozen 0
              have z1 : wa3.cell? ⟨wa2.heap.size, 1, none⟩ = some (.slice none 0 0) := by have := R4.out.cell 1; simpa using this
              have f1 := R4.out.frozen 1
              have z2 : wa3.cell? ⟨wa2.heap.size, 2, none⟩ = some (.slice none 0 0) := by have := R4.out.cell 2; simpa using this
              have f2 := R4.out.frozen 2
              have z3 : wa3.cell? ⟨wa2.heap.size, 3, none⟩ = some (.slice none 0 0) := by have := R4.out.cell 3; simpa using this
              have f3 := R4.out.frozen 3
              have zl := R4.out.lt
              have HLD : Hid (LaidL wa2.heap.size wa3 (limC l5.E A5 n5 c5) ((((wa3.setCell ⟨wa2.heap.size, 0, none⟩ (.int .u64 (l5.E : Int))).setCell ⟨wa2.heap.size, 1, none⟩ (.slice (A5 0) (n5 0) (c5 0))).setCell ⟨wa2.heap.size, 2, none⟩ (.slice (A5 1) (n5 1) (c5 1))).setCell ⟨wa2.heap.size, 3, none⟩ (.slice (A5 2) (n5 2) (c5 2)))) := hide (laidL_of R4.out rfl)
              go_simp
              have HQ2 := hide (HQ.out.trans (HLD.out.below.mono G4.out))
              refine hK.out _ _ HQ2.out (fun _ => ?_)
              clear hK K z0 z1 z2 z3 f0 f1 f2 f3 zl
              (try simp only [Act.put, List.getElem_toArray, List.getElem_cons_succ, List.getElem_cons_zero, List.setIfInBounds_toArray, List.set_cons_zero, List.set_cons_succ])
              have HL2 := hide (show Rd ((((wa3.setCell ⟨wa2.heap.size, 0, none⟩ (.int .u64 (l5.E : Int))).setCell ⟨wa2.heap.size, 1, none⟩ (.slice (A5 0) (n5 0) (c5 0))).setCell ⟨wa2.heap.size, 2, none⟩ (.slice (A5 1) (n5 1) (c5 1))).setCell ⟨wa2.heap.size, 3, none⟩ (.slice (A5 2) (n5 2) (c5 2))) ((((wa3.setCell ⟨wa2.heap.size, 0, none⟩ (.int .u64 (l5.E : Int))).setCell ⟨wa2.heap.size, 1, none⟩ (.slice (A5 0) (n5 0) (c5 0))).setCell ⟨wa2.heap.size, 2, none⟩ (.slice (A5 1) (n5 1) (c5 1))).setCell ⟨wa2.heap.size, 3, none⟩ (.slice (A5 2) (n5 2) (c5 2))).heap.size 2 At 3 (Cs encE [(1, 0), (2, 0), (3, 0)]) from NE.out _ HLD.out)
              generalize ((((wa3.setCell ⟨wa2.heap.size, 0, none⟩ (.int .u64 (l5.E : Int))).setCell ⟨wa2.heap.size, 1, none⟩ (.slice (A5 0) (n5 0) (c5 0))).setCell ⟨wa2.heap.size, 2, none⟩ (.slice (A5 1) (n5 1) (c5 1))).setCell ⟨wa2.heap.size, 3, none⟩ (.slice (A5 2) (n5 2) (c5 2))) = wt at *
              (refine wpAnyH_take (i := 17) (v := ?_) rfl (by kernel_rfl) (by kernel_rfl) (by kernel_rfl) (fun _ _ _ h => h) (Or.inl ⟨by rfl, ?_⟩) (by assumption) ?_; rotate_left; (focus (intro w hSw; (try dsimp only at hSw); go_simp; first | done | with_reducible rfl)); (try simp only [Act.put, List.getElem_toArray, List.getElem_cons_succ, List.getElem_cons_zero, List.setIfInBounds_toArray, List.set_cons_zero, List.set_cons_succ]))
              (refine wpAnyH_take (i := 18) (v := ?_) rfl (by kernel_rfl) (by kernel_rfl) (by kernel_rfl) (fun _ _ _ h => h) (Or.inl ⟨by rfl, ?_⟩) (by assumption) ?_; rotate_left; (focus (intro w hSw; (try dsimp only at hSw); go_simp; first | done | with_reducible rfl)); (try simp only [Act.put, List.getElem_toArray, List.getElem_cons_succ, List.getElem_cons_zero, List.setIfInBounds_toArray, List.set_cons_zero, List.set_cons_succ]))
              refine wpAnyH_done (by kernel_rfl) ?_ _
              go_wp2_with fail
              go_meet
              case rel => exact ⟨At, ct, rfl, rfl, HL2.out, HQ2.out⟩
          · go_simp
            refine hK2.out _ _ (HQ.out.alloc HQ.out.size _) (fun _ => ?_)
            clear hK2 K2
            (try simp only [Act.put, List.getElem_toArray, List.getElem_cons_succ, List.getElem_cons_zero, List.setIfInBounds_toArray, List.set_cons_zero, List.set_cons_succ])
            have hb2 : Below wa1.heap.size wa1 (wa1.alloc (.cells zeroC 26)) := (Below.refl _ _).alloc (Nat.le_refl _) _
            replace HSL := hide ((HSL.out.below hb2).more hb2.size)
            have R4 := hide (RowAt.new wa1 26 zeroC)
            have G4 := hide HQ.out.size
            replace HQ := hide (HQ.out.alloc HQ.out.size (.cells zeroC 26))
            clear hb2
            generalize wa1.alloc (.cells zeroC 26) = wa2 at *
            refine wpAnyH_ready (rs := [10]) (by kernel_rfl) (by simp) ?_
            refine (AllReadyH.cons rfl (fun K3 hK3 => ?_) AllReadyH.nil)
            · go_simp
              refine (HRU.out _ wa0.heap.size HSL.out).mono ?_
              rintro e wa3 hrr
              obtain ⟨l5, A5, n5, c5, At, ct, ⟨rfl, ho5⟩, hb3⟩ := HRV.out _ _ _ hrr
              have NE : Hid (∀ w8, LaidL wa1.heap.size wa3 (limC l5.E A5 n5 c5) w8 → Rd w8 w8.heap.size 2 At 3 (Cs encE [(1, 0), (2, 0), (3, 0)])) := hide (fun w8 h8 => (OwnO.other ho5 (fun j h1 h2 _ => h8.block j (by have := R4.out.lt; omega))).rd)
              replace R4 := hide (R4.out.below hb3)
              replace HQ := hide (HQ.out.trans (hb3.mono HQ.out.size))
              clear hb3 ho5 hrr HSL
              refine hK3.out _ _ (HQ.out) (fun _ => ?_)
              clear hK3 K3
              (try simp only [Act.put, List.getElem_toArray, List.getElem_cons_succ, List.getElem_cons_zero, List.setIfInBounds_toArray, List.set_cons_zero, List.set_cons_succ])
              (refine wpAnyH_take (i := 11) (v := ?_) rfl (by kernel_rfl) (by kernel_rfl) (by kernel_rfl) (fun _ _ _ h => h) (Or.inl ⟨by rfl, ?_⟩) (by assumption) ?_; rotate_left; (focus (intro w hSw; (try dsimp only at hSw); go_simp; first | done | with_reducible rfl)); (try simp only [Act.put, List.getElem_toArray, List.getElem_cons_succ, List.getElem_cons_zero, List.setIfInBounds_toArray, List.set_cons_zero, List.set_cons_succ]))
              (refine wpAnyH_take (i := 12) (v := ?_) rfl (by kernel_rfl) (by kernel_rfl) (by kernel_rfl) (fun _ _ _ h => h) (Or.inl ⟨by rfl, ?_⟩) (by assumption) ?_; rotate_left; (focus (intro w hSw; (try dsimp only at hSw); go_simp; first | done | with_reducible rfl)); (try simp only [Act.put, List.getElem_toArray, List.getElem_cons_succ, List.getElem_cons_zero, List.setIfInBounds_toArray, List.set_cons_zero, List.set_cons_succ]))
              (refine wpAnyH_take (i := 13) (v := ?_) rfl (by kernel_rfl) (by kernel_rfl) (by kernel_rfl) (fun _ _ _ h => h) (Or.inl ⟨by rfl, ?_⟩) (by assumption) ?_; rotate_left; (focus (intro w hSw; (try dsimp only at hSw); go_simp; first | done | with_reducible rfl)); (try simp only [Act.put, List.getElem_toArray, List.getElem_cons_succ, List.getElem_cons_zero, List.setIfInBounds_toArray, List.set_cons_zero, List.set_cons_succ]))
              (refine wpAnyH_take (i := 14) (v := ?_) rfl (by kernel_rfl) (by kernel_rfl) (by kernel_rfl) (fun _ _ _ h => h) (Or.inl ⟨by rfl, ?_⟩) (by assumption) ?_; rotate_left; (focus (intro w hSw; (try dsimp only at hSw); go_simp; first | done | with_reducible rfl)); (try simp only [Act.put, List.getElem_toArray, List.getElem_cons_succ, List.getElem_cons_zero, List.setIfInBounds_toArray, List.set_cons_zero, List.set_cons_succ]))
              refine wpAnyH_ready (rs := [16]) (by kernel_rfl) (by simp) ?_
              refine AllReadyH.cons rfl (fun K hK => ?_) AllReadyH.nil
              have z0 : wa3.cell? ⟨wa1.heap.size, 0, none⟩ = some (.int .u64 0) := by have := R4.out.cell 0; simpa using this
              have f0 := R4.out.frozen 0
              have z1 : wa3.cell? ⟨wa1.heap.size, 1, none⟩ = some (.slice none 0 0) := by have := R4.out.cell 1; simpa using this
              have f1 := R4.out.frozen 1
              have z2 : wa3.cell? ⟨wa1.heap.size, 2, none⟩ = some (.slice none 0 0) := by have := R4.out.cell 2; simpa using this
              have f2 := R4.out.frozen 2
              have z3 : wa3.cell? ⟨wa1.heap.size, 3, none⟩ = some (.slice none 0 0) := by have := R4.out.cell 3; simpa using this
              have f3 := R4.out.frozen 3
              have zl := R4.out.lt
              have HLD : Hid (LaidL wa1.heap.size wa3 (limC l5.E A5 n5 c5) ((((wa3.setCell ⟨wa1.heap.size, 0, none⟩ (.int .u64 (l5.E : Int))).setCell ⟨wa1.heap.size, 1, none⟩ (.slice (A5 0) (n5 0) (c5 0))).setCell ⟨wa1.heap.size, 2, none⟩ (.slice (A5 1) (n5 1) (c5 1))).setCell ⟨wa1.heap.size, 3, none⟩ (.slice (A5 2) (n5 2) (c5 2)))) := hide (laidL_of R4.out rfl)
              go_simp
              have HQ2 := hide (HQ.out.trans (HLD.out.below.mono G4.out))
              refine hK.out _ _ HQ2.out (fun _ => ?_)
              clear hK K z0 z1 z2 z3 f0 f1 f2 f3 zl
              (try simp only [Act.put, List.getElem_toArray, List.getElem_cons_succ, List.getElem_cons_zero, List.setIfInBounds_toArray, List.set_cons_zero, List.set_cons_succ])
              have HL2 := hide (show Rd ((((wa3.setCell ⟨wa1.heap.size, 0, none⟩ (.int .u64 (l5.E : Int))).setCell ⟨wa1.heap.size, 1, none⟩ (.slice (A5 0) (n5 0) (c5 0))).setCell ⟨wa1.heap.size, 2, none⟩ (.slice (A5 1) (n5 1) (c5 1))).setCell ⟨wa1.heap.size, 3, none⟩ (.slice (A5 2) (n5 2) (c5 2))) ((((wa3.setCell ⟨wa1.heap.size, 0, none⟩ (.int .u64 (l5.E : Int))).setCell ⟨wa1.heap.size, 1, none⟩ (.slice (A5 0) (n5 0) (c5 0))).setCell ⟨wa1.heap.size, 2, none⟩ (.slice (A5 1) (n5 1) (c5 1))).setCell ⟨wa1.heap.size, 3, none⟩ (.slice (A5 2) (n5 2) (c5 2))).heap.size 2 At 3 (Cs encE [(1, 0), (2, 0), (3, 0)]) from NE.out _ HLD.out)
              generalize ((((wa3.setCell ⟨wa1.heap.size, 0, none⟩ (.int .u64 (l5.E : Int))).setCell ⟨wa1.heap.size, 1, none⟩ (.slice (A5 0) (n5 0) (c5 0))).setCell ⟨wa1.heap.size, 2, none⟩ (.slice (A5 1) (n5 1) (c5 1))).setCell ⟨wa1.heap.size, 3, none⟩ (.slice (A5 2) (n5 2) (c5 2))) = wt at *
              (refine wpAnyH_take (i := 17) (v := ?_) rfl (by kernel_rfl) (by kernel_rfl) (by kernel_rfl) (fun _ _ _ h => h) (Or.inl ⟨by rfl, ?_⟩) (by assumption) ?_; rotate_left; (focus (intro w hSw; (try dsimp only at hSw); go_simp; first | done | with_reducible rfl)); (try simp only [Act.put, List.getElem_toArray, List.getElem_cons_succ, List.getElem_cons_zero, List.setIfInBounds_toArray, List.set_cons_zero, List.set_cons_succ]))
              (refine wpAnyH_take (i := 18) (v := ?_) rfl (by kernel_rfl) (by kernel_rfl) (by kernel_rfl) (fun _ _ _ h => h) (Or.inl ⟨by rfl, ?_⟩) (by assumption) ?_; rotate_left; (focus (intro w hSw; (try dsimp only at hSw); go_simp; first | done | with_reducible rfl)); (try simp only [Act.put, List.getElem_toArray, List.getElem_cons_succ, List.getElem_cons_zero, List.setIfInBounds_toArray, List.set_cons_zero, List.set_cons_succ]))
              refine wpAnyH_done (by kernel_rfl) ?_ _
              go_wp2_with fail
              go_meet
              case rel => exact ⟨At, ct, rfl, rfl, HL2.out, HQ2.out⟩
        · go_simp
          refine hK1.out _ _ (HQ.out.alloc HQ.out.size _) (fun _ => ?_)
          clear hK1 K1
          (try simp only [Act.put, List.getElem_toArray, List.getElem_cons_succ, List.getElem_cons_zero, List.setIfInBounds_toArray, List.set_cons_zero, List.set_cons_succ])
          have hb1 : Below wa0.heap.size wa0 (wa0.alloc (.cells zeroC 26)) := (Below.refl _ _).alloc (Nat.le_refl _) _
          have R4 := hide (RowAt.new wa0 26 zeroC)
          have G4 := hide HQ.out.size
          replace HQ := hide (HQ.out.alloc HQ.out.size (.cells zeroC 26))
          clear hb1
          generalize wa0.alloc (.cells zeroC 26) = wa1 at *
          refine wpAnyH_ready (rs := [9]) (by kernel_rfl) (by simp) ?_
          refine (AllReadyH.cons rfl (fun K2 hK2 => ?_) AllReadyH.nil)
          · go_simp
            refine hK2.out _ _ (HQ.out.alloc HQ.out.size _) (fun _ => ?_)
            clear hK2 K2
            (try simp only [Act.put, List.getElem_toArray, List.getElem_cons_succ, List.getElem_cons_zero, List.setIfInBounds_toArray, List.set_cons_zero, List.set_cons_succ])
            have hb2 : Below wa1.heap.size wa1 (wa1.alloc (.cells #[.int .i64 1, .int .u64 0, .int .i64 (-1), .int .u64 0, .int .i64 2, .int .u64 0, .int .i64 (-1), .int .u64 0, .int .i64 3, .int .u64 0, .int .i64 (-1), .int .u64 0, .int .i64 (-1), .int .u64 0, .int .i64 (-1), .int .u64 0] 34)) := (Below.refl _ _).alloc (Nat.le_refl _) _
            replace R4 := hide (R4.out.below hb2)
            have HSL := hide (show Rd (wa1.alloc (.cells #[.int .i64 1, .int .u64 0, .int .i64 (-1), .int .u64 0, .int .i64 2, .int .u64 0, .int .i64 (-1), .int .u64 0, .int .i64 3, .int .u64 0, .int .i64 (-1), .int .u64 0, .int .i64 (-1), .int .u64 0, .int .i64 (-1), .int .u64 0] 34)) (wa1.alloc (.cells #[.int .i64 1, .int .u64 0, .int .i64 (-1), .int .u64 0, .int .i64 2, .int .u64 0, .int .i64 (-1), .int .u64 0, .int .i64 3, .int .u64 0, .int .i64 (-1), .int .u64 0, .int .i64 (-1), .int .u64 0, .int .i64 (-1), .int .u64 0] 34)).heap.size 2 (some ⟨wa1.heap.size, 0, none⟩) 8 (Cs encE wkSteps) from (Rd.new wa1 #[.int .i64 1, .int .u64 0, .int .i64 (-1), .int .u64 0, .int .i64 2, .int .u64 0, .int .i64 (-1), .int .u64 0, .int .i64 3, .int .u64 0, .int .i64 (-1), .int .u64 0, .int .i64 (-1), .int .u64 0, .int .i64 (-1), .int .u64 0] 34 2 8 rfl).more (by simp))
            replace HQ := hide (HQ.out.alloc HQ.out.size (.cells #[.int .i64 1, .int .u64 0, .int .i64 (-1), .int .u64 0, .int .i64 2, .int .u64 0, .int .i64 (-1), .int .u64 0, .int .i64 3, .int .u64 0, .int .i64 (-1), .int .u64 0, .int .i64 (-1), .int .u64 0, .int .i64 (-1), .int .u64 0] 34))
            clear hb2
            generalize wa1.alloc (.cells #[.int .i64 1, .int .u64 0, .int .i64 (-1), .int .u64 0, .int .i64 2, .int .u64 0, .int .i64 (-1), .int .u64 0, .int .i64 3, .int .u64 0, .int .i64 (-1), .int .u64 0, .int .i64 (-1), .int .u64 0, .int .i64 (-1), .int .u64 0] 34) = wa2 at *
            refine wpAnyH_ready (rs := [10]) (by kernel_rfl) (by simp) ?_
            refine (AllReadyH.cons rfl (fun K3 hK3 => ?_) AllReadyH.nil)
            · go_simp
              refine (HRU.out _ wa1.heap.size HSL.out).mono ?_
              rintro e wa3 hrr
              obtain ⟨l5, A5, n5, c5, At, ct, ⟨rfl, ho5⟩, hb3⟩ := HRV.out _ _ _ hrr
              have NE : Hid (∀ w8, LaidL wa0.heap.size wa3 (limC l5.E A5 n5 c5) w8 → Rd w8 w8.heap.size 2 At 3 (Cs encE [(1, 0), (2, 0), (3, 0)])) := hide (fun w8 h8 => (OwnO.other ho5 (fun j h1 h2 _ => h8.block j (by have := R4.out.lt; omega))).rd)
              replace R4 := hide (R4.out.below hb3)
              replace HQ := hide (HQ.out.trans (hb3.mono HQ.out.size))
              clear hb3 ho5 hrr HSL
              refine hK3.out _ _ (HQ.out) (fun _ => ?_)
              clear hK3 K3
              (try simp only [Act.put, List.getElem_toArray, List.getElem_cons_succ, List.getElem_cons_zero, List.setIfInBounds_toArray, List.set_cons_zero, List.set_cons_succ])
              (refine wpAnyH_take (i := 11) (v := ?_) rfl (by kernel_rfl) (by kernel_rfl) (by kernel_rfl) (fun _ _ _ h => h) (Or.inl ⟨by rfl, ?_⟩) (by assumption) ?_; rotate_left; (focus (intro w hSw; (try dsimp only at hSw); go_simp; first | done | with_reducible rfl)); (try simp only [Act.put, List.getElem_toArray, List.getElem_cons_succ, List.getElem_cons_zero, List.setIfInBounds_toArray, List.set_cons_zero, List.set_cons_succ]))
              (refine wpAnyH_take (i := 12) (v := ?_) rfl (by kernel_rfl) (by kernel_rfl) (by kernel_rfl) (fun _ _ _ h => h) (Or.inl ⟨by rfl, ?_⟩) (by assumption) ?_; rotate_left; (focus (intro w hSw; (try dsimp only at hSw); go_simp; first | done | with_reducible rfl)); (try simp only [Act.put, List.getElem_toArray, List.getElem_cons_succ, List.getElem_cons_zero, List.setIfInBounds_toArray, List.set_cons_zero, List.set_cons_succ]))
              (refine wpAnyH_take (i := 13) (v := ?_) rfl (by kernel_rfl) (by kernel_rfl) (by kernel_rfl) (fun _ _ _ h => h) (Or.inl ⟨by rfl, ?_⟩) (by assumption) ?_; rotate_left; (focus (intro w hSw; (try dsimp only at hSw); go_simp; first | done | with_reducible rfl)); (try simp only [Act.put, List.getElem_toArray, List.getElem_cons_succ, List.getElem_cons_zero, List.setIfInBounds_toArray, List.set_cons_zero, List.set_cons_succ]))
              (refine wpAnyH_take (i := 14) (v := ?_) rfl (by kernel_rfl) (by kernel_rfl) (by kernel_rfl) (fun _ _ _ h => h) (Or.inl ⟨by rfl, ?_⟩) (by assumption) ?_; rotate_left; (focus (intro w hSw; (try dsimp only at hSw); go_simp; first | done | with_reducible rfl)); (try simp only [Act.put, List.getElem_toArray, List.getElem_cons_succ, List.getElem_cons_zero, List.setIfInBounds_toArray, List.set_cons_zero, List.set_cons_succ]))
              refine wpAnyH_ready (rs := [16]) (by kernel_rfl) (by simp) ?_
              refine AllReadyH.cons rfl (fun K hK => ?_) AllReadyH.nil
              have z0 : wa3.cell? ⟨wa0.heap.size, 0, none⟩ = some (.int .u64 0) := by have := R4.out.cell 0; simpa using this
              have f0 := R4.out.frozen 0
              have z1 : wa3.cell? ⟨wa0.heap.size, 1, none⟩ = some (.slice none 0 0) := by have := R4.out.cell 1; simpa using this
              have f1 := R4.out.frozen 1
              have z2 : wa3.cell? ⟨wa0.heap.size, 2, none⟩ = some (.slice none 0 0) := by have := R4.out.cell 2; simpa using this
              have f2 := R4.out.frozen 2
              have z3 : wa3.cell? ⟨wa0.heap.size, 3, none⟩ = some (.slice none 0 0) := by have := R4.out.cell 3; simpa using this
              have f3 := R4.out.frozen 3
              have zl := R4.out.lt
              have HLD : Hid (LaidL wa0.heap.size wa3 (limC l5.E A5 n5 c5) ((((wa3.setCell ⟨wa0.heap.size, 0, none⟩ (.int .u64 (l5.E : Int))).setCell ⟨wa0.heap.size, 1, none⟩ (.slice (A5 0) (n5 0) (c5 0))).setCell ⟨wa0.heap.size, 2, none⟩ (.slice (A5 1) (n5 1) (c5 1))).setCell ⟨wa0.heap.size, 3, none⟩ (.slice (A5 2) (n5 2) (c5 2)))) := hide (laidL_of R4.out rfl)
              go_simp
              have HQ2 := hide (HQ.out.trans (HLD.out.below.mono G4.out))
              refine hK.out _ _ HQ2.out (fun _ => ?_)
              clear hK K z0 z1 z2 z3 f0 f1 f2 f3 zl
              (try simp only [Act.put, List.getElem_toArray, List.getElem_cons_succ, List.getElem_cons_zero, List.setIfInBounds_toArray, List.set_cons_zero, List.set_cons_succ])
              have HL2 := hide (show Rd ((((wa3.setCell ⟨wa0.heap.size, 0, none⟩ (.int .u64 (l5.E : Int))).setCell ⟨wa0.heap.size, 1, none⟩ (.slice (A5 0) (n5 0) (c5 0))).setCell ⟨wa0.heap.size, 2, none⟩ (.slice (A5 1) (n5 1) (c5 1))).setCell ⟨wa0.heap.size, 3, none⟩ (.slice (A5 2) (n5 2) (c5 2))) ((((wa3.setCell ⟨wa0.heap.size, 0, none⟩ (.int .u64 (l5.E : Int))).setCell ⟨wa0.heap.size, 1, none⟩ (.slice (A5 0) (n5 0) (c5 0))).setCell ⟨wa0.heap.size, 2, none⟩ (.slice (A5 1) (n5 1) (c5 1))).setCell ⟨wa0.heap.size, 3, none⟩ (.slice (A5 2) (n5 2) (c5 2))).heap.size 2 At 3 (Cs encE [(1, 0), (2, 0), (3, 0)]) from NE.out _ HLD.out)
              generalize ((((wa3.setCell ⟨wa0.heap.size, 0, none⟩ (.int .u64 (l5.E : Int))).setCell ⟨wa0.heap.size, 1, none⟩ (.slice (A5 0) (n5 0) (c5 0))).setCell ⟨wa0.heap.size, 2, none⟩ (.slice (A5 1) (n5 1) (c5 1))).setCell ⟨wa0.heap.size, 3, none⟩ (.slice (A5 2) (n5 2) (c5 2))) = wt at *
              (refine wpAnyH_take (i := 17) (v := ?_) rfl (by kernel_rfl) (by kernel_rfl) (by kernel_rfl) (fun _ _ _ h => h) (Or.inl ⟨by rfl, ?_⟩) (by assumption) ?_; rotate_left; (focus (intro w hSw; (try dsimp only at hSw); go_simp; first | done | with_reducible rfl)); (try simp only [Act.put, List.getElem_toArray, List.getElem_cons_succ, List.getElem_cons_zero, List.setIfInBounds_toArray, List.set_cons_zero, List.set_cons_succ]))
              (refine wpAnyH_take (i := 18) (v := ?_) rfl (by kernel_rfl) (by kernel_rfl) (by kernel_rfl) (fun _ _ _ h => h) (Or.inl ⟨by rfl, ?_⟩) (by assumption) ?_; rotate_left; (focus (intro w hSw; (try dsimp only at hSw); go_simp; first | done | with_reducible rfl)); (try simp only [Act.put, List.getElem_toArray, List.getElem_cons_succ, List.getElem_cons_zero, List.setIfInBounds_toArray, List.set_cons_zero, List.set_cons_succ]))
              refine wpAnyH_done (by kernel_rfl) ?_ _
              go_wp2_with fail
              go_meet
              case rel => exact ⟨At, ct, rfl, rfl, HL2.out, HQ2.out⟩
      · go_simp
        refine hK0.out _ _ (HQ.out.alloc HQ.out.size _) (fun _ => ?_)
        clear hK0 K0
        (try simp only [Act.put, List.getElem_toArray, List.getElem_cons_succ, List.getElem_cons_zero, List.setIfInBounds_toArray, List.set_cons_zero, List.set_cons_succ])
        have hb0 : Below wd.heap.size wd (wd.alloc (.cells #[.int .i64 1, .int .u64 0, .int .i64 (-1), .int .u64 0, .int .i64 2, .int .u64 0, .int .i64 (-1), .int .u64 0, .int .i64 3, .int .u64 0, .int .i64 (-1), .int .u64 0, .int .i64 (-1), .int .u64 0, .int .i64 (-1), .int .u64 0] 34)) := (Below.refl _ _).alloc (Nat.le_refl _) _
        have HSL := hide (show Rd (wd.alloc (.cells #[.int .i64 1, .int .u64 0, .int .i64 (-1), .int .u64 0, .int .i64 2, .int .u64 0, .int .i64 (-1), .int .u64 0, .int .i64 3, .int .u64 0, .int .i64 (-1), .int .u64 0, .int .i64 (-1), .int .u64 0, .int .i64 (-1), .int .u64 0] 34)) (wd.alloc (.cells #[.int .i64 1, .int .u64 0, .int .i64 (-1), .int .u64 0, .int .i64 2, .int .u64 0, .int .i64 (-1), .int .u64 0, .int .i64 3, .int .u64 0, .int .i64 (-1), .int .u64 0, .int .i64 (-1), .int .u64 0, .int .i64 (-1), .int .u64 0] 34)).heap.size 2 (some ⟨wd.heap.size, 0, none⟩) 8 (Cs encE wkSteps) from (Rd.new wd #[.int .i64 1, .int .u64 0, .int .i64 (-1), .int .u64 0, .int .i64 2, .int .u64 0, .int .i64 (-1), .int .u64 0, .int .i64 3, .int .u64 0, .int .i64 (-1), .int .u64 0, .int .i64 (-1), .int .u64 0, .int .i64 (-1), .int .u64 0] 34 2 8 rfl).more (by simp))
        replace HQ := hide (HQ.out.alloc HQ.out.size (.cells #[.int .i64 1, .int .u64 0, .int .i64 (-1), .int .u64 0, .int .i64 2, .int .u64 0, .int .i64 (-1), .int .u64 0, .int .i64 3, .int .u64 0, .int .i64 (-1), .int .u64 0, .int .i64 (-1), .int .u64 0, .int .i64 (-1), .int .u64 0] 34))
        clear hb0
        generalize wd.alloc (.cells #[.int .i64 1, .int .u64 0, .int .i64 (-1), .int .u64 0, .int .i64 2, .int .u64 0, .int .i64 (-1), .int .u64 0, .int .i64 3, .int .u64 0, .int .i64 (-1), .int .u64 0, .int .i64 (-1), .int .u64 0, .int .i64 (-1), .int .u64 0] 34) = wa0 at *
        refine wpAnyH_ready (rs := [0, 15]) (by kernel_rfl) (by simp) ?_
        refine (AllReadyH.cons rfl (fun K1 hK1 => ?_) (AllReadyH.cons rfl (fun K1 hK1 => ?_) AllReadyH.nil))
        · go_simp
          refine (HNW.out _).mono ?_
          rintro e wa1 ⟨rfl, hb1⟩
          replace HSL := hide ((HSL.out.below hb1).more hb1.size)
          replace HQ := hide (HQ.out.trans (hb1.mono HQ.out.size))
          clear hb1
          refine hK1.out _ _ (HQ.out) (fun _ => ?_)
          clear hK1 K1
          (try simp only [Act.put, List.getElem_toArray, List.getElem_cons_succ, List.getElem_cons_zero, List.setIfInBounds_toArray, List.set_cons_zero, List.set_cons_succ])
          refine wpAnyH_ready (rs := [10, 15]) (by kernel_rfl) (by simp) ?_
          refine (AllReadyH.cons rfl (fun K2 hK2 => ?_) (AllReadyH.cons rfl (fun K2 hK2 => ?_) AllReadyH.nil))
          · go_simp
            refine (HRU.out _ wd.heap.size HSL.out).mono ?_
            rintro e wa2 hrr
            obtain ⟨l5, A5, n5, c5, At, ct, ⟨rfl, ho5⟩, hb2⟩ := HRV.out _ _ _ hrr
            have HL := hide ho5.rd
            replace HQ := hide (HQ.out.trans (hb2.mono HQ.out.size))
            clear hb2 ho5 hrr HSL
            refine hK2.out _ _ (HQ.out) (fun _ => ?_)
            clear hK2 K2
            (try simp only [Act.put, List.getElem_toArray, List.getElem_cons_succ, List.getElem_cons_zero, List.setIfInBounds_toArray, List.set_cons_zero, List.set_cons_succ])
            (refine wpAnyH_take (i := 11) (v := ?_) rfl (by kernel_rfl) (by kernel_rfl) (by kernel_rfl) (fun _ _ _ h => h) (Or.inl ⟨by rfl, ?_⟩) (by assumption) ?_; rotate_left; (focus (intro w hSw; (try dsimp only at hSw); go_simp; first | done | with_reducible rfl)); (try simp only [Act.put, List.getElem_toArray, List.getElem_cons_succ, List.getElem_cons_zero, List.setIfInBounds_toArray, List.set_cons_zero, List.set_cons_succ]))
            (refine wpAnyH_take (i := 12) (v := ?_) rfl (by kernel_rfl) (by kernel_rfl) (by kernel_rfl) (fun _ _ _ h => h) (Or.inl ⟨by rfl, ?_⟩) (by assumption) ?_; rotate_left; (focus (intro w hSw; (try dsimp only at hSw); go_simp; first | done | with_reducible rfl)); (try simp only [Act.put, List.getElem_toArray, List.getElem_cons_succ, List.getElem_cons_zero, List.setIfInBounds_toArray, List.set_cons_zero, List.set_cons_succ]))
            (refine wpAnyH_take (i := 13) (v := ?_) rfl (by kernel_rfl) (by kernel_rfl) (by kernel_rfl) (fun _ _ _ h => h) (Or.inl ⟨by rfl, ?_⟩) (by assumption) ?_; rotate_left; (focus (intro w hSw; (try dsimp only at hSw); go_simp; first | done | with_reducible rfl)); (try simp only [Act.put, List.getElem_toArray, List.getElem_cons_succ, List.getElem_cons_zero, List.setIfInBounds_toArray, List.set_cons_zero, List.set_cons_succ]))
            (refine wpAnyH_take (i := 14) (v := ?_) rfl (by kernel_rfl) (by kernel_rfl) (by kernel_rfl) (fun _ _ _ h => h) (Or.inl ⟨by rfl, ?_⟩) (by assumption) ?_; rotate_left; (focus (intro w hSw; (try dsimp only at hSw); go_simp; first | done | with_reducible rfl)); (try simp only [Act.put, List.getElem_toArray, List.getElem_cons_succ, List.getElem_cons_zero, List.setIfInBounds_toArray, List.set_cons_zero, List.set_cons_succ]))
            refine wpAnyH_ready (rs := [15]) (by kernel_rfl) (by simp) ?_
            refine (AllReadyH.cons rfl (fun K3 hK3 => ?_) AllReadyH.nil)
            · go_simp
              refine hK3.out _ _ (HQ.out.alloc HQ.out.size _) (fun _ => ?_)
              clear hK3 K3
              (try simp only [Act.put, List.getElem_toArray, List.getElem_cons_succ, List.getElem_cons_zero, List.setIfInBounds_toArray, List.set_cons_zero, List.set_cons_succ])
              have hb3 : Below wa2.heap.size wa2 (wa2.alloc (.cells zeroC 26)) := (Below.refl _ _).alloc (Nat.le_refl _) _
              have R4 := hide (RowAt.new wa2 26 zeroC)
              have G4 := hide HQ.out.size
              have NE : Hid (∀ w8, LaidL wa2.heap.size (wa2.alloc (.cells zeroC 26)) (limC l5.E A5 n5 c5) w8 → Rd w8 w8.heap.size 2 At 3 (Cs encE [(1, 0), (2, 0), (3, 0)])) := hide (fun w8 h8 => ((HL.out.below hb3).keep (fun p hp => cell_of_heap (h8.block p.block (Nat.ne_of_lt hp)))).more (by have := h8.below.size; have := hb3.size; omega))
              replace HQ := hide (HQ.out.alloc HQ.out.size (.cells zeroC 26))
              clear hb3
              generalize wa2.alloc (.cells zeroC 26) = wa3 at *
              refine wpAnyH_ready (rs := [16]) (by kernel_rfl) (by simp) ?_
              refine AllReadyH.cons rfl (fun K hK => ?_) AllReadyH.nil
              have z0 : wa3.cell? ⟨wa2.heap.size, 0, none⟩ = some (.int .u64 0) := by have := R4.out.cell 0; simpa using this
              have f0 := R4.out.frozen 0
              have z1 : wa3.cell? ⟨wa2.heap.size, 1, none⟩ = some (.slice none 0 0) := by have := R4.out.cell 1; simpa using this
              have f1 := R4.out.frozen 1
              have z2 : wa3.cell? ⟨wa2.heap.size, 2, none⟩ = some (.slice none 0 0) := by have := R4.out.cell 2; simpa using this
              have f2 := R4.out.frozen 2
              have z3 : wa3.cell? ⟨wa2.heap.size, 3, none⟩ = some (.slice none 0 0) := by have := R4.out.cell 3; simpa using this
              have f3 := R4.out.frozen 3
              have zl := R4.out.lt
              have HLD : Hid (LaidL wa2.heap.size wa3 (limC l5.E A5 n5 c5) ((((wa3.setCell ⟨wa2.heap.size, 0, none⟩ (.int .u64 (l5.E : Int))).setCell ⟨wa2.heap.size, 1, none⟩ (.slice (A5 0) (n5 0) (c5 0))).setCell ⟨wa2.heap.size, 2, none⟩ (.slice (A5 1) (n5 1) (c5 1))).setCell ⟨wa2.heap.size, 3, none⟩ (.slice (A5 2) (n5 2) (c5 2)))) := hide (laidL_of R4.out rfl)
              go_simp
              have HQ2 := hide (HQ.out.trans (HLD.out.below.mono G4.out))
              refine hK.out _ _ HQ2.out (fun _ => ?_)
              clear hK K z0 z1 z2 z3 f0 f1 f2 f3 zl
              (try simp only [Act.put, List.getElem_toArray, List.getElem_cons_succ, List.getElem_cons_zero, List.setIfInBounds_toArray, List.set_cons_zero, List.set_cons_succ])
              have HL2 := hide (show Rd ((((wa3.setCell ⟨wa2.heap.size, 0, none⟩ (.int .u64 (l5.E : Int))).setCell ⟨wa2.heap.size, 1, none⟩ (.slice (A5 0) (n5 0) (c5 0))).setCell ⟨wa2.heap.size, 2, none⟩ (.slice (A5 1) (n5 1) (c5 1))).setCell ⟨wa2.heap.size, 3, none⟩ (.slice (A5 2) (n5 2) (c5 2))) ((((wa3.setCell ⟨wa2.heap.size, 0, none⟩ (.int .u64 (l5.E : Int))).setCell ⟨wa2.heap.size, 1, none⟩ (.slice (A5 0) (n5 0) (c5 0))).setCell ⟨wa2.heap.size, 2, none⟩ (.slice (A5 1) (n5 1) (c5 1))).setCell ⟨wa2.heap.size, 3, none⟩ (.slice (A5 2) (n5 2) (c5 2))).heap.size 2 At 3 (Cs encE [(1, 0), (2, 0), (3, 0)]) from NE.out _ HLD.out)
              generalize ((((wa3.setCell ⟨wa2.heap.size, 0, none⟩ (.int .u64 (l5.E : Int))).setCell ⟨wa2.heap.size, 1, none⟩ (.slice (A5 0) (n5 0) (c5 0))).setCell ⟨wa2.heap.size, 2, none⟩ (.slice (A5 1) (n5 1) (c5 1))).setCell ⟨wa2.heap.size, 3, none⟩ (.slice (A5 2) (n5 2) (c5 2))) = wt at *
              (refine wpAnyH_take (i := 17) (v := ?_) rfl (by kernel_rfl) (by kernel_rfl) (by kernel_rfl) (fun _ _ _ h => h) (Or.inl ⟨by rfl, ?_⟩) (by assumption) ?_; rotate_left; (focus (intro w hSw; (try dsimp only at hSw); go_simp; first | done | with_reducible rfl)); (try simp only [Act.put, List.getElem_toArray, List.getElem_cons_succ, List.getElem_cons_zero, List.setIfInBounds_toArray, List.set_cons_zero, List.set_cons_succ]))
              (refine wpAnyH_take (i := 18) (v := ?_) rfl (by kernel_rfl) (by kernel_rfl) (by kernel_rfl) (fun _ _ _ h => h) (Or.inl ⟨by rfl, ?_⟩) (by assumption) ?_; rotate_left; (focus (intro w hSw; (try dsimp only at hSw); go_simp; first | done | with_reducible rfl)); (try simp only [Act.put, List.getElem_toArray, List.getElem_cons_succ, List.getElem_cons_zero, List.setIfInBounds_toArray, List.set_cons_zero, List.set_cons_succ]))
              refine wpAnyH_done (by kernel_rfl) ?_ _
              go_wp2_with fail
              go_meet
              case rel => exact ⟨At, ct, rfl, rfl, HL2.out, HQ2.out⟩
          · go_simp
            refine hK2.out _ _ (HQ.out.alloc HQ.out.size _) (fun _ => ?_)
            clear hK2 K2
            (try simp only [Act.put, List.getElem_toArray, List.getElem_cons_succ, List.getElem_cons_zero, List.setIfInBounds_toArray, List.set_cons_zero, List.set_cons_succ])
            have hb2 : Below wa1.heap.size wa1 (wa1.alloc (.cells zeroC 26)) := (Below.refl _ _).alloc (Nat.le_refl _) _
            replace HSL := hide ((HSL.out.below hb2).more hb2.size)
            have R4 := hide (RowAt.new wa1 26 zeroC)
            have G4 := hide HQ.out.size
            replace HQ := hide (HQ.out.alloc HQ.out.size (.cells zeroC 26))
            clear hb2
            generalize wa1.alloc (.cells zeroC 26) = wa2 at *
            refine wpAnyH_ready (rs := [10]) (by kernel_rfl) (by simp) ?_
            refine (AllReadyH.cons rfl (fun K3 hK3 => ?_) AllReadyH.nil)
            · go_simp
              refine (HRU.out _ wd.heap.size HSL.out).mono ?_
              rintro e wa3 hrr
              obtain ⟨l5, A5, n5, c5, At, ct, ⟨rfl, ho5⟩, hb3⟩ := HRV.out _ _ _ hrr
              have NE : Hid (∀ w8, LaidL wa1.heap.size wa3 (limC l5.E A5 n5 c5) w8 → Rd w8 w8.heap.size 2 At 3 (Cs encE [(1, 0), (2, 0), (3, 0)])) := hide (fun w8 h8 => (OwnO.other ho5 (fun j h1 h2 _ => h8.block j (by have := R4.out.lt; omega))).rd)
              replace R4 := hide (R4.out.below hb3)
              replace HQ := hide (HQ.out.trans (hb3.mono HQ.out.size))
              clear hb3 ho5 hrr HSL
              refine hK3.out _ _ (HQ.out) (fun _ => ?_)
              clear hK3 K3
              (try simp only [Act.put, List.getElem_toArray, List.getElem_cons_succ, List.getElem_cons_zero, List.setIfInBounds_toArray, List.set_cons_zero, List.set_cons_succ])
              (refine wpAnyH_take (i := 11) (v := ?_) rfl (by kernel_rfl) (by kernel_rfl) (by kernel_rfl) (fun _ _ _ h => h) (Or.inl ⟨by rfl, ?_⟩) (by assumption) ?_; rotate_left; (focus (intro w hSw; (try dsimp only at hSw); go_simp; first | done | with_reducible rfl)); (try simp only [Act.put, List.getElem_toArray, List.getElem_cons_succ, List.getElem_cons_zero, List.setIfInBounds_toArray, List.set_cons_zero, List.set_cons_succ]))
              (refine wpAnyH_take (i := 12) (v := ?_) rfl (by kernel_rfl) (by kernel_rfl) (by kernel_rfl) (fun _ _ _ h => h) (Or.inl ⟨by rfl, ?_⟩) (by assumption) ?_; rotate_left; (focus (intro w hSw; (try dsimp only at hSw); go_simp; first | done | with_reducible rfl)); (try simp only [Act.put, List.getElem_toArray, List.getElem_cons_succ, List.getElem_cons_zero, List.setIfInBounds_toArray, List.set_cons_zero, List.set_cons_succ]))
              (refine wpAnyH_take (i := 13) (v := ?_) rfl (by kernel_rfl) (by kernel_rfl) (by kernel_rfl) (fun _ _ _ h => h) (Or.inl ⟨by rfl, ?_⟩) (by assumption) ?_; rotate_left; (focus (intro w hSw; (try dsimp only at hSw); go_simp; first | done | with_reducible rfl)); (try simp only [Act.put, List.getElem_toArray, List.getElem_cons_succ, List.getElem_cons_zero, List.setIfInBounds_toArray, List.set_cons_zero, List.set_cons_succ]))
              (refine wpAnyH_take (i := 14) (v := ?_) rfl (by kernel_rfl) (by kernel_rfl) (by kernel_rfl) (fun _ _ _ h => h) (Or.inl ⟨by rfl, ?_⟩) (by assumption) ?_; rotate_left; (focus (intro w hSw; (try dsimp only at hSw); go_simp; first | done | with_reducible rfl)); (try simp only [Act.put, List.getElem_toArray, List.getElem_cons_succ, List.getElem_cons_zero, List.setIfInBounds_toArray, List.set_cons_zero, List.set_cons_succ]))
              refine wpAnyH_ready (rs := [16]) (by kernel_rfl) (by simp) ?_
              refine AllReadyH.cons rfl (fun K hK => ?_) AllReadyH.nil
              have z0 : wa3.cell? ⟨wa1.heap.size, 0, none⟩ = some (.int .u64 0) := by have := R4.out.cell 0; simpa using this
              have f0 := R4.out.frozen 0
              have z1 : wa3.cell? ⟨wa1.heap.size, 1, none⟩ = some (.slice none 0 0) := by have := R4.out.cell 1; simpa using this
              have f1 := R4.out.frozen 1
              have z2 : wa3.cell? ⟨wa1.heap.size, 2, none⟩ = some (.slice none 0 0) := by have := R4.out.cell 2; simpa using this
              have f2 := R4.out.frozen 2
              have z3 : wa3.cell? ⟨wa1.heap.size, 3, none⟩ = some (.slice none 0 0) := by have := R4.out.cell 3; simpa using this
              have f3 := R4.out.frozen 3
              have zl := R4.out.lt
              have HLD : Hid (LaidL wa1.heap.size wa3 (limC l5.E A5 n5 c5) ((((wa3.setCell ⟨wa1.heap.size, 0, none⟩ (.int .u64 (l5.E : Int))).setCell ⟨wa1.heap.size, 1, none⟩ (.slice (A5 0) (n5 0) (c5 0))).setCell ⟨wa1.heap.size, 2, none⟩ (.slice (A5 1) (n5 1) (c5 1))).setCell ⟨wa1.heap.size, 3, none⟩ (.slice (A5 2) (n5 2) (c5 2)))) := hide (laidL_of R4.out rfl)
              go_simp
              have HQ2 := hide (HQ.out.trans (HLD.out.below.mono G4.out))
              refine hK.out _ _ HQ2.out (fun _ => ?_)
              clear hK K z0 z1 z2 z3 f0 f1 f2 f3 zl
              (try simp only [Act.put, List.getElem_toArray, List.getElem_cons_succ, List.getElem_cons_zero, List.setIfInBounds_toArray, List.set_cons_zero, List.set_cons_succ])
              have HL2 := hide (show Rd ((((wa3.setCell ⟨wa1.heap.size, 0, none⟩ (.int .u64 (l5.E : Int))).setCell ⟨wa1.heap.size, 1, none⟩ (.slice (A5 0) (n5 0) (c5 0))).setCell ⟨wa1.heap.size, 2, none⟩ (.slice (A5 1) (n5 1) (c5 1))).setCell ⟨wa1.heap.size, 3, none⟩ (.slice (A5 2) (n5 2) (c5 2))) ((((wa3.setCell ⟨wa1.heap.size, 0, none⟩ (.int .u64 (l5.E : Int))).setCell ⟨wa1.heap.size, 1, none⟩ (.slice (A5 0) (n5 0) (c5 0))).setCell ⟨wa1.heap.size, 2, none⟩ (.slice (A5 1) (n5 1) (c5 1))).setCell ⟨wa1.heap.size, 3, none⟩ (.slice (A5 2) (n5 2) (c5 2))).heap.size 2 At 3 (Cs encE [(1, 0), (2, 0), (3, 0)]) from NE.out _ HLD.out)
              generalize ((((wa3.setCell ⟨wa1.heap.size, 0, none⟩ (.int .u64 (l5.E : Int))).setCell ⟨wa1.heap.size, 1, none⟩ (.slice (A5 0) (n5 0) (c5 0))).setCell ⟨wa1.heap.size, 2, none⟩ (.slice (A5 1) (n5 1) (c5 1))).setCell ⟨wa1.heap.size, 3, none⟩ (.slice (A5 2) (n5 2) (c5 2))) = wt at *
              (refine wpAnyH_take (i := 17) (v := ?_) rfl (by kernel_rfl) (by kernel_rfl) (by kernel_rfl) (fun _ _ _ h => h) (Or.inl ⟨by rfl, ?_⟩) (by assumption) ?_; rotate_left; (focus (intro w hSw; (try dsimp only at hSw); go_simp; first | done | with_reducible rfl)); (try simp only [Act.put, List.getElem_toArray, List.getElem_cons_succ, List.getElem_cons_zero, List.setIfInBounds_toArray, List.set_cons_zero, List.set_cons_succ]))
              (refine wpAnyH_take (i := 18) (v := ?_) rfl (by kernel_rfl) (by kernel_rfl) (by kernel_rfl) (fun _ _ _ h => h) (Or.inl ⟨by rfl, ?_⟩) (by assumption) ?_; rotate_left; (focus (intro w hSw; (try dsimp only at hSw); go_simp; first | done | with_reducible rfl)); (try simp only [Act.put, List.getElem_toArray, List.getElem_cons_succ, List.getElem_cons_zero, List.setIfInBounds_toArray, List.set_cons_zero, List.set_cons_succ]))
              refine wpAnyH_done (by kernel_rfl) ?_ _
              go_wp2_with fail
              go_meet
              case rel => exact ⟨At, ct, rfl, rfl, HL2.out, HQ2.out⟩
        · go_simp
          refine hK1.out _ _ (HQ.out.alloc HQ.out.size _) (fun _ => ?_)
          clear hK1 K1
          (try simp only [Act.put, List.getElem_toArray, List.getElem_cons_succ, List.getElem_cons_zero, List.setIfInBounds_toArray, List.set_cons_zero, List.set_cons_succ])
          have hb1 : Below wa0.heap.size wa0 (wa0.alloc (.cells zeroC 26)) := (Below.refl _ _).alloc (Nat.le_refl _) _
          replace HSL := hide ((HSL.out.below hb1).more hb1.size)
          have R4 := hide (RowAt.new wa0 26 zeroC)
          have G4 := hide HQ.out.size
          replace HQ := hide (HQ.out.alloc HQ.out.size (.cells zeroC 26))
          clear hb1
          generalize wa0.alloc (.cells zeroC 26) = wa1 at *
          refine wpAnyH_ready (rs := [0]) (by kernel_rfl) (by simp) ?_
          refine (AllReadyH.cons rfl (fun K2 hK2 => ?_) AllReadyH.nil)
          · go_simp
            refine (HNW.out _).mono ?_
            rintro e wa2 ⟨rfl, hb2⟩
            replace R4 := hide (R4.out.below hb2)
            replace HSL := hide ((HSL.out.below hb2).more hb2.size)
            replace HQ := hide (HQ.out.trans (hb2.mono HQ.out.size))
            clear hb2
            refine hK2.out _ _ (HQ.out) (fun _ => ?_)
            clear hK2 K2
            (try simp only [Act.put, List.getElem_toArray, List.getElem_cons_succ, List.getElem_cons_zero, List.setIfInBounds_toArray, List.set_cons_zero, List.set_cons_succ])
            refine wpAnyH_ready (rs := [10]) (by kernel_rfl) (by simp) ?_
            refine (AllReadyH.cons rfl (fun K3 hK3 => ?_) AllReadyH.nil)
            · go_simp
              refine (HRU.out _ wd.heap.size HSL.out).mono ?_
              rintro e wa3 hrr
              obtain ⟨l5, A5, n5, c5, At, ct, ⟨rfl, ho5⟩, hb3⟩ := HRV.out _ _ _ hrr
              have NE : Hid (∀ w8, LaidL wa0.heap.size wa3 (limC l5.E A5 n5 c5) w8 → Rd w8 w8.heap.size 2 At 3 (Cs encE [(1, 0), (2, 0), (3, 0)])) := hide (fun w8 h8 => (OwnO.other ho5 (fun j h1 h2 _ => h8.block j (by have := R4.out.lt; omega))).rd)
              replace R4 := hide (R4.out.below hb3)
              replace HQ := hide (HQ.out.trans (hb3.mono HQ.out.size))
              clear hb3 ho5 hrr HSL
              refine hK3.out _ _ (HQ.out) (fun _ => ?_)
              clear hK3 K3
              (try simp only [Act.put, List.getElem_toArray, List.getElem_cons_succ, List.getElem_cons_zero, List.setIfInBounds_toArray, List.set_cons_zero, List.set_cons_succ])
              (refine wpAnyH_take (i := 11) (v := ?_) rfl (by kernel_rfl) (by kernel_rfl) (by kernel_rfl) (fun _ _ _ h => h) (Or.inl ⟨by rfl, ?_⟩) (by assumption) ?_; rotate_left; (focus (intro w hSw; (try dsimp only at hSw); go_simp; first | done | with_reducible rfl)); (try simp only [Act.put, List.getElem_toArray, List.getElem_cons_succ, List.getElem_cons_zero, List.setIfInBounds_toArray, List.set_cons_zero, List.set_cons_succ]))
              (refine wpAnyH_take (i := 12) (v := ?_) rfl (by kernel_rfl) (by kernel_rfl) (by kernel_rfl) (fun _ _ _ h => h) (Or.inl ⟨by rfl, ?_⟩) (by assumption) ?_; rotate_left; (focus (intro w hSw; (try dsimp only at hSw); go_simp; first | done | with_reducible rfl)); (try simp only [Act.put, List.getElem_toArray, List.getElem_cons_succ, List.getElem_cons_zero, List.setIfInBounds_toArray, List.set_cons_zero, List.set_cons_succ]))
              (refine wpAnyH_take (i := 13) (v := ?_) rfl (by kernel_rfl) (by kernel_rfl) (by kernel_rfl) (fun _ _ _ h => h) (Or.inl ⟨by rfl, ?_⟩) (by assumption) ?_; rotate_left; (focus (intro w hSw; (try dsimp only at hSw); go_simp; first | done | with_reducible rfl)); (try simp only [Act.put, List.getElem_toArray, List.getElem_cons_succ, List.getElem_cons_zero, List.setIfInBounds_toArray, List.set_cons_zero, List.set_cons_succ]))
              (refine wpAnyH_take (i := 14) (v := ?_) rfl (by kernel_rfl) (by kernel_rfl) (by kernel_rfl) (fun _ _ _ h => h) (Or.inl ⟨by rfl, ?_⟩) (by assumption) ?_; rotate_left; (focus (intro w hSw; (try dsimp only at hSw); go_simp; first | done | with_reducible rfl)); (try simp only [Act.put, List.getElem_toArray, List.getElem_cons_succ, List.getElem_cons_zero, List.setIfInBounds_toArray, List.set_cons_zero, List.set_cons_succ]))
              refine wpAnyH_ready (rs := [16]) (by kernel_rfl) (by simp) ?_
              refine AllReadyH.cons rfl (fun K hK => ?_) AllReadyH.nil
              have z0 : wa3.cell? ⟨wa0.heap.size, 0, none⟩ = some (.int .u64 0) := by have := R4.out.cell 0; simpa using this
              have f0 := R4.out.frozen 0
              have z1 : wa3.cell? ⟨wa0.heap.size, 1, none⟩ = some (.slice none 0 0) := by have := R4.out.cell 1; simpa using this
              have f1 := R4.out.frozen 1
              have z2 : wa3.cell? ⟨wa0.heap.size, 2, none⟩ = some (.slice none 0 0) := by have := R4.out.cell 2; simpa using this
              have f2 := R4.out.frozen 2
              have z3 : wa3.cell? ⟨wa0.heap.size, 3, none⟩ = some (.slice none 0 0) := by have := R4.out.cell 3; simpa using this
              have f3 := R4.out.frozen 3
              have zl := R4.out.lt
              have HLD : Hid (LaidL wa0.heap.size wa3 (limC l5.E A5 n5 c5) ((((wa3.setCell ⟨wa0.heap.size, 0, none⟩ (.int .u64 (l5.E : Int))).setCell ⟨wa0.heap.size, 1, none⟩ (.slice (A5 0) (n5 0) (c5 0))).setCell ⟨wa0.heap.size, 2, none⟩ (.slice (A5 1) (n5 1) (c5 1))).setCell ⟨wa0.heap.size, 3, none⟩ (.slice (A5 2) (n5 2) (c5 2)))) := hide (laidL_of R4.out rfl)
              go_simp
              have HQ2 := hide (HQ.out.trans (HLD.out.below.mono G4.out))
              refine hK.out _ _ HQ2.out (fun _ => ?_)
              clear hK K z0 z1 z2 z3 f0 f1 f2 f3 zl
              (try simp only [Act.put, List.getElem_toArray, List.getElem_cons_succ, List.getElem_cons_zero, List.setIfInBounds_toArray, List.set_cons_zero, List.set_cons_succ])
              have HL2 := hide (show Rd ((((wa3.setCell ⟨wa0.heap.size, 0, none⟩ (.int .u64 (l5.E : Int))).setCell ⟨wa0.heap.size, 1, none⟩ (.slice (A5 0) (n5 0) (c5 0))).setCell ⟨wa0.heap.size, 2, none⟩ (.slice (A5 1) (n5 1) (c5 1))).setCell ⟨wa0.heap.size, 3, none⟩ (.slice (A5 2) (n5 2) (c5 2))) ((((wa3.setCell ⟨wa0.heap.size, 0, none⟩ (.int .u64 (l5.E : Int))).setCell ⟨wa0.heap.size, 1, none⟩ (.slice (A5 0) (n5 0) (c5 0))).setCell ⟨wa0.heap.size, 2, none⟩ (.slice (A5 1) (n5 1) (c5 1))).setCell ⟨wa0.heap.size, 3, none⟩ (.slice (A5 2) (n5 2) (c5 2))).heap.size 2 At 3 (Cs encE [(1, 0), (2, 0), (3, 0)]) from NE.out _ HLD.out)
              generalize ((((wa3.setCell ⟨wa0.heap.size, 0, none⟩ (.int .u64 (l5.E : Int))).setCell ⟨wa0.heap.size, 1, none⟩ (.slice (A5 0) (n5 0) (c5 0))).setCell ⟨wa0.heap.size, 2, none⟩ (.slice (A5 1) (n5 1) (c5 1))).setCell ⟨wa0.heap.size, 3, none⟩ (.slice (A5 2) (n5 2) (c5 2))) = wt at *
              (refine wpAnyH_take (i := 17) (v := ?_) rfl (by kernel_rfl) (by kernel_rfl) (by kernel_rfl) (fun _ _ _ h => h) (Or.inl ⟨by rfl, ?_⟩) (by assumption) ?_; rotate_left; (focus (intro w hSw; (try dsimp only at hSw); go_simp; first | done | with_reducible rfl)); (try simp only [Act.put, List.getElem_toArray, List.getElem_cons_succ, List.getElem_cons_zero, List.setIfInBounds_toArray, List.set_cons_zero, List.set_cons_succ]))
              (refine wpAnyH_take (i := 18) (v := ?_) rfl (by kernel_rfl) (by kernel_rfl) (by kernel_rfl) (fun _ _ _ h => h) (Or.inl ⟨by rfl, ?_⟩) (by assumption) ?_; rotate_left; (focus (intro w hSw; (try dsimp only at hSw); go_simp; first | done | with_reducible rfl)); (try simp only [Act.put, List.getElem_toArray, List.getElem_cons_succ, List.getElem_cons_zero, List.setIfInBounds_toArray, List.set_cons_zero, List.set_cons_succ]))
              refine wpAnyH_done (by kernel_rfl) ?_ _
              go_wp2_with fail
              go_meet
              case rel => exact ⟨At, ct, rfl, rfl, HL2.out, HQ2.out⟩
      · go_simp
        refine hK0.out _ _ (HQ.out.alloc HQ.out.size _) (fun _ => ?_)
        clear hK0 K0
        (try simp only [Act.put, List.getElem_toArray, List.getElem_cons_succ, List.getElem_cons_zero, List.setIfInBounds_toArray, List.set_cons_zero, List.set_cons_succ])
        have hb0 : Below wd.heap.size wd (wd.alloc (.cells zeroC 26)) := (Below.refl _ _).alloc (Nat.le_refl _) _
        have R4 := hide (RowAt.new wd 26 zeroC)
        have G4 := hide HQ.out.size
        replace HQ := hide (HQ.out.alloc HQ.out.size (.cells zeroC 26))
        clear hb0
        generalize wd.alloc (.cells zeroC 26) = wa0 at *
        refine wpAnyH_ready (rs := [0, 9]) (by kernel_rfl) (by simp) ?_
        refine (AllReadyH.cons rfl (fun K1 hK1 => ?_) (AllReadyH.cons rfl (fun K1 hK1 => ?_) AllReadyH.nil))
        · go_simp
          refine (HNW.out _).mono ?_
          rintro e wa1 ⟨rfl, hb1⟩
          replace R4 := hide (R4.out.below hb1)
          replace HQ := hide (HQ.out.trans (hb1.mono HQ.out.size))
          clear hb1
          refine hK1.out _ _ (HQ.out) (fun _ => ?_)
          clear hK1 K1
          (try simp only [Act.put, List.getElem_toArray, List.getElem_cons_succ, List.getElem_cons_zero, List.setIfInBounds_toArray, List.set_cons_zero, List.set_cons_succ])
          refine wpAnyH_ready (rs := [9]) (by kernel_rfl) (by simp) ?_
          refine (AllReadyH.cons rfl (fun K2 hK2 => ?_) AllReadyH.nil)
          · go_simp
            refine hK2.out _ _ (HQ.out.alloc HQ.out.size _) (fun _ => ?_)
            clear hK2 K2
            (try simp only [Act.put, List.getElem_toArray, List.getElem_cons_succ, List.getElem_cons_zero, List.setIfInBounds_toArray, List.set_cons_zero, List.set_cons_succ])
            have hb2 : Below wa1.heap.size wa1 (wa1.alloc (.cells #[.int .i64 1, .int .u64 0, .int .i64 (-1), .int .u64 0, .int .i64 2, .int .u64 0, .int .i64 (-1), .int .u64 0, .int .i64 3, .int .u64 0, .int .i64 (-1), .int .u64 0, .int .i64 (-1), .int .u64 0, .int .i64 (-1), .int .u64 0] 34)) := (Below.refl _ _).alloc (Nat.le_refl _) _
            replace R4 := hide (R4.out.below hb2)
            have HSL := hide (show Rd (wa1.alloc (.cells #[.int .i64 1, .int .u64 0, .int .i64 (-1), .int .u64 0, .int .i64 2, .int .u64 0, .int .i64 (-1), .int .u64 0, .int .i64 3, .int .u64 0, .int .i64 (-1), .int .u64 0, .int .i64 (-1), .int .u64 0, .int .i64 (-1), .int .u64 0] 34)) (wa1.alloc (.cells #[.int .i64 1, .int .u64 0, .int .i64 (-1), .int .u64 0, .int .i64 2, .int .u64 0, .int .i64 (-1), .int .u64 0, .int .i64 3, .int .u64 0, .int .i64 (-1), .int .u64 0, .int .i64 (-1), .int .u64 0, .int .i64 (-1), .int .u64 0] 34)).heap.size 2 (some ⟨wa1.heap.size, 0, none⟩) 8 (Cs encE wkSteps) from (Rd.new wa1 #[.int .i64 1, .int .u64 0, .int .i64 (-1), .int .u64 0, .int .i64 2, .int .u64 0, .int .i64 (-1), .int .u64 0, .int .i64 3, .int .u64 0, .int .i64 (-1), .int .u64 0, .int .i64 (-1), .int .u64 0, .int .i64 (-1), .int .u64 0] 34 2 8 rfl).more (by simp))
            replace HQ := hide (HQ.out.alloc HQ.out.size (.cells #[.int .i64 1, .int .u64 0, .int .i64 (-1), .int .u64 0, .int .i64 2, .int .u64 0, .int .i64 (-1), .int .u64 0, .int .i64 3, .int .u64 0, .int .i64 (-1), .int .u64 0, .int .i64 (-1), .int .u64 0, .int .i64 (-1), .int .u64 0] 34))
            clear hb2
            generalize wa1.alloc (.cells #[.int .i64 1, .int .u64 0, .int .i64 (-1), .int .u64 0, .int .i64 2, .int .u64 0, .int .i64 (-1), .int .u64 0, .int .i64 3, .int .u64 0, .int .i64 (-1), .int .u64 0, .int .i64 (-1), .int .u64 0, .int .i64 (-1), .int .u64 0] 34) = wa2 at *
            refine wpAnyH_ready (rs := [10]) (by kernel_rfl) (by simp) ?_
            refine (AllReadyH.cons rfl (fun K3 hK3 => ?_) AllReadyH.nil)
            · go_simp
              refine (HRU.out _ wa1.heap.size HSL.out).mono ?_
              rintro e wa3 hrr
              obtain ⟨l5, A5, n5, c5, At, ct, ⟨rfl, ho5⟩, hb3⟩ := HRV.out _ _ _ hrr
              have NE : Hid (∀ w8, LaidL wd.heap.size wa3 (limC l5.E A5 n5 c5) w8 → Rd w8 w8.heap.size 2 At 3 (Cs encE [(1, 0), (2, 0), (3, 0)])) := hide (fun w8 h8 => (OwnO.other ho5 (fun j h1 h2 _ => h8.block j (by have := R4.out.lt; omega))).rd)
              replace R4 := hide (R4.out.below hb3)
              replace HQ := hide (HQ.out.trans (hb3.mono HQ.out.size))
              clear hb3 ho5 hrr HSL
              refine hK3.out _ _ (HQ.out) (fun _ => ?_)
              clear hK3 K3
              (try simp only [Act.put, List.getElem_toArray, List.getElem_cons_succ, List.getElem_cons_zero, List.setIfInBounds_toArray, List.set_cons_zero, List.set_cons_succ])
              (refine wpAnyH_take (i := 11) (v := ?_) rfl (by kernel_rfl) (by kernel_rfl) (by kernel_rfl) (fun _ _ _ h => h) (Or.inl ⟨by rfl, ?_⟩) (by assumption) ?_; rotate_left; (focus (intro w hSw; (try dsimp only at hSw); go_simp; first | done | with_reducible rfl)); (try simp only [Act.put, List.getElem_toArray, List.getElem_cons_succ, List.getElem_cons_zero, List.setIfInBounds_toArray, List.set_cons_zero, List.set_cons_succ]))
              (refine wpAnyH_take (i := 12) (v := ?_) rfl (by kernel_rfl) (by kernel_rfl) (by kernel_rfl) (fun _ _ _ h => h) (Or.inl ⟨by rfl, ?_⟩) (by assumption) ?_; rotate_left; (focus (intro w hSw; (try dsimp only at hSw); go_simp; first | done | with_reducible rfl)); (try simp only [Act.put, List.getElem_toArray, List.getElem_cons_succ, List.getElem_cons_zero, List.setIfInBounds_toArray, List.set_cons_zero, List.set_cons_succ]))
              (refine wpAnyH_take (i := 13) (v := ?_) rfl (by kernel_rfl) (by kernel_rfl) (by kernel_rfl) (fun _ _ _ h => h) (Or.inl ⟨by rfl, ?_⟩) (by assumption) ?_; rotate_left; (focus (intro w hSw; (try dsimp only at hSw); go_simp; first | done | with_reducible rfl)); (try simp only [Act.put, List.getElem_toArray, List.getElem_cons_succ, List.getElem_cons_zero, List.setIfInBounds_toArray, List.set_cons_zero, List.set_cons_succ]))
              (refine wpAnyH_take (i := 14) (v := ?_) rfl (by kernel_rfl) (by kernel_rfl) (by kernel_rfl) (fun _ _ _ h => h) (Or.inl ⟨by rfl, ?_⟩) (by assumption) ?_; rotate_left; (focus (intro w hSw; (try dsimp only at hSw); go_simp; first | done | with_reducible rfl)); (try simp only [Act.put, List.getElem_toArray, List.getElem_cons_succ, List.getElem_cons_zero, List.setIfInBounds_toArray, List.set_cons_zero, List.set_cons_succ]))
              refine wpAnyH_ready (rs := [16]) (by kernel_rfl) (by simp) ?_
              refine AllReadyH.cons rfl (fun K hK => ?_) AllReadyH.nil
              have z0 : wa3.cell? ⟨wd.heap.size, 0, none⟩ = some (.int .u64 0) := by have := R4.out.cell 0; simpa using this
              have f0 := R4.out.frozen 0
              have z1 : wa3.cell? ⟨wd.heap.size, 1, none⟩ = some (.slice none 0 0) := by have := R4.out.cell 1; simpa using this
              have f1 := R4.out.frozen 1
              have z2 : wa3.cell? ⟨wd.heap.size, 2, none⟩ = some (.slice none 0 0) := by have := R4.out.cell 2; simpa using this
              have f2 := R4.out.frozen 2
              have z3 : wa3.cell? ⟨wd.heap.size, 3, none⟩ = some (.slice none 0 0) := by have := R4.out.cell 3; simpa using this
              have f3 := R4.out.frozen 3
              have zl := R4.out.lt
              have HLD : Hid (LaidL wd.heap.size wa3 (limC l5.E A5 n5 c5) ((((wa3.setCell ⟨wd.heap.size, 0, none⟩ (.int .u64 (l5.E : Int))).setCell ⟨wd.heap.size, 1, none⟩ (.slice (A5 0) (n5 0) (c5 0))).setCell ⟨wd.heap.size, 2, none⟩ (.slice (A5 1) (n5 1) (c5 1))).setCell ⟨wd.heap.size, 3, none⟩ (.slice (A5 2) (n5 2) (c5 2)))) := hide (laidL_of R4.out rfl)
              go_simp
              have HQ2 := hide (HQ.out.trans (HLD.out.below.mono G4.out))
              refine hK.out _ _ HQ2.out (fun _ => ?_)
              clear hK K z0 z1 z2 z3 f0 f1 f2 f3 zl
              (try simp only [Act.put, List.getElem_toArray, List.getElem_cons_succ, List.getElem_cons_zero, List.setIfInBounds_toArray, List.set_cons_zero, List.set_cons_succ])
              have HL2 := hide (show Rd ((((wa3.setCell ⟨wd.heap.size, 0, none⟩ (.int .u64 (l5.E : Int))).setCell ⟨wd.heap.size, 1, none⟩ (.slice (A5 0) (n5 0) (c5 0))).setCell ⟨wd.heap.size, 2, none⟩ (.slice (A5 1) (n5 1) (c5 1))).setCell ⟨wd.heap.size, 3, none⟩ (.slice (A5 2) (n5 2) (c5 2))) ((((wa3.setCell ⟨wd.heap.size, 0, none⟩ (.int .u64 (l5.E : Int))).setCell ⟨wd.heap.size, 1, none⟩ (.slice (A5 0) (n5 0) (c5 0))).setCell ⟨wd.heap.size, 2, none⟩ (.slice (A5 1) (n5 1) (c5 1))).setCell ⟨wd.heap.size, 3, none⟩ (.slice (A5 2) (n5 2) (c5 2))).heap.size 2 At 3 (Cs encE [(1, 0), (2, 0), (3, 0)]) from NE.out _ HLD.out)
              generalize ((((wa3.setCell ⟨wd.heap.size, 0, none⟩ (.int .u64 (l5.E : Int))).setCell ⟨wd.heap.size, 1, none⟩ (.slice (A5 0) (n5 0) (c5 0))).setCell ⟨wd.heap.size, 2, none⟩ (.slice (A5 1) (n5 1) (c5 1))).setCell ⟨wd.heap.size, 3, none⟩ (.slice (A5 2) (n5 2) (c5 2))) = wt at *
              (refine wpAnyH_take (i := 17) (v := ?_) rfl (by kernel_rfl) (by kernel_rfl) (by kernel_rfl) (fun _ _ _ h => h) (Or.inl ⟨by rfl, ?_⟩) (by assumption) ?_; rotate_left; (focus (intro w hSw; (try dsimp only at hSw); go_simp; first | done | with_reducible rfl)); (try simp only [Act.put, List.getElem_toArray, List.getElem_cons_succ, List.getElem_cons_zero, List.setIfInBounds_toArray, List.set_cons_zero, List.set_cons_succ]))
              (refine wpAnyH_take (i := 18) (v := ?_) rfl (by kernel_rfl) (by kernel_rfl) (by kernel_rfl) (fun _ _ _ h => h) (Or.inl ⟨by rfl, ?_⟩) (by assumption) ?_; rotate_left; (focus (intro w hSw; (try dsimp only at hSw); go_simp; first | done | with_reducible rfl)); (try simp only [Act.put, List.getElem_toArray, List.getElem_cons_succ, List.getElem_cons_zero, List.setIfInBounds_toArray, List.set_cons_zero, List.set_cons_succ]))
              refine wpAnyH_done (by kernel_rfl) ?_ _
              go_wp2_with fail
              go_meet
              case rel => exact ⟨At, ct, rfl, rfl, HL2.out, HQ2.out⟩
        · go_simp
          refine hK1.out _ _ (HQ.out.alloc HQ.out.size _) (fun _ => ?_)
          clear hK1 K1
          (try simp only [Act.put, List.getElem_toArray, List.getElem_cons_succ, List.getElem_cons_zero, List.setIfInBounds_toArray, List.set_cons_zero, List.set_cons_succ])
          have hb1 : Below wa0.heap.size wa0 (wa0.alloc (.cells #[.int .i64 1, .int .u64 0, .int .i64 (-1), .int .u64 0, .int .i64 2, .int .u64 0, .int .i64 (-1), .int .u64 0, .int .i64 3, .int .u64 0, .int .i64 (-1), .int .u64 0, .int .i64 (-1), .int .u64 0, .int .i64 (-1), .int .u64 0] 34)) := (Below.refl _ _).alloc (Nat.le_refl _) _
          replace R4 := hide (R4.out.below hb1)
          have HSL := hide (show Rd (wa0.alloc (.cells #[.int .i64 1, .int .u64 0, .int .i64 (-1), .int .u64 0, .int .i64 2, .int .u64 0, .int .i64 (-1), .int .u64 0, .int .i64 3, .int .u64 0, .int .i64 (-1), .int .u64 0, .int .i64 (-1), .int .u64 0, .int .i64 (-1), .int .u64 0] 34)) (wa0.alloc (.cells #[.int .i64 1, .int .u64 0, .int .i64 (-1), .int .u64 0, .int .i64 2, .int .u64 0, .int .i64 (-1), .int .u64 0, .int .i64 3, .int .u64 0, .int .i64 (-1), .int .u64 0, .int .i64 (-1), .int .u64 0, .int .i64 (-1), .int .u64 0] 34)).heap.size 2 (some ⟨wa0.heap.size, 0, none⟩) 8 (Cs encE wkSteps) from (Rd.new wa0 #[.int .i64 1, .int .u64 0, .int .i64 (-1), .int .u64 0, .int .i64 2, .int .u64 0, .int .i64 (-1), .int .u64 0, .int .i64 3, .int .u64 0, .int .i64 (-1), .int .u64 0, .int .i64 (-1), .int .u64 0, .int .i64 (-1), .int .u64 0] 34 2 8 rfl).more (by simp))
          replace HQ := hide (HQ.out.alloc HQ.out.size (.cells #[.int .i64 1, .int .u64 0, .int .i64 (-1), .int .u64 0, .int .i64 2, .int .u64 0, .int .i64 (-1), .int .u64 0, .int .i64 3, .int .u64 0, .int .i64 (-1), .int .u64 0, .int .i64 (-1), .int .u64 0, .int .i64 (-1), .int .u64 0] 34))
          clear hb1
          generalize wa0.alloc (.cells #[.int .i64 1, .int .u64 0, .int .i64 (-1), .int .u64 0, .int .i64 2, .int .u64 0, .int .i64 (-1), .int .u64 0, .int .i64 3, .int .u64 0, .int .i64 (-1), .int .u64 0, .int .i64 (-1), .int .u64 0, .int .i64 (-1), .int .u64 0] 34) = wa1 at *
          refine wpAnyH_ready (rs := [0]) (by kernel_rfl) (by simp) ?_
          refine (AllReadyH.cons rfl (fun K2 hK2 => ?_) AllReadyH.nil)
          · go_simp
            refine (HNW.out _).mono ?_
            rintro e wa2 ⟨rfl, hb2⟩
            replace R4 := hide (R4.out.below hb2)
            replace HSL := hide ((HSL.out.below hb2).more hb2.size)
            replace HQ := hide (HQ.out.trans (hb2.mono HQ.out.size))
            clear hb2
            refine hK2.out _ _ (HQ.out) (fun _ => ?_)
            clear hK2 K2
            (try simp only [Act.put, List.getElem_toArray, List.getElem_cons_succ, List.getElem_cons_zero, List.setIfInBounds_toArray, List.set_cons_zero, List.set_cons_succ])
            refine wpAnyH_ready (rs := [10]) (by kernel_rfl) (by simp) ?_
            refine (AllReadyH.cons rfl (fun K3 hK3 => ?_) AllReadyH.nil)
            · go_simp
              refine (HRU.out _ wa0.heap.size HSL.out).mono ?_
              rintro e wa3 hrr
              obtain ⟨l5, A5, n5, c5, At, ct, ⟨rfl, ho5⟩, hb3⟩ := HRV.out _ _ _ hrr
              have NE : Hid (∀ w8, LaidL wd.heap.size wa3 (limC l5.E A5 n5 c5) w8 → Rd w8 w8.heap.size 2 At 3 (Cs encE [(1, 0), (2, 0), (3, 0)])) := hide (fun w8 h8 => (OwnO.other ho5 (fun j h1 h2 _ => h8.block j (by have := R4.out.lt; omega))).rd)
              replace R4 := hide (R4.out.below hb3)
              replace HQ := hide (HQ.out.trans (hb3.mono HQ.out.size))
              clear hb3 ho5 hrr HSL
              refine hK3.out _ _ (HQ.out) (fun _ => ?_)
              clear hK3 K3
              (try simp only [Act.put, List.getElem_toArray, List.getElem_cons_succ, List.getElem_cons_zero, List.setIfInBounds_toArray, List.set_cons_zero, List.set_cons_succ])
              (refine wpAnyH_take (i := 11) (v := ?_) rfl (by kernel_rfl) (by kernel_rfl) (by kernel_rfl) (fun _ _ _ h => h) (Or.inl ⟨by rfl, ?_⟩) (by assumption) ?_; rotate_left; (focus (intro w hSw; (try dsimp only at hSw); go_simp; first | done | with_reducible rfl)); (try simp only [Act.put, List.getElem_toArray, List.getElem_cons_succ, List.getElem_cons_zero, List.setIfInBounds_toArray, List.set_cons_zero, List.set_cons_succ]))
              (refine wpAnyH_take (i := 12) (v := ?_) rfl (by kernel_rfl) (by kernel_rfl) (by kernel_rfl) (fun _ _ _ h => h) (Or.inl ⟨by rfl, ?_⟩) (by assumption) ?_; rotate_left; (focus (intro w hSw; (try dsimp only at hSw); go_simp; first | done | with_reducible rfl)); (try simp only [Act.put, List.getElem_toArray, List.getElem_cons_succ, List.getElem_cons_zero, List.setIfInBounds_toArray, List.set_cons_zero, List.set_cons_succ]))
              (refine wpAnyH_take (i := 13) (v := ?_) rfl (by kernel_rfl) (by kernel_rfl) (by kernel_rfl) (fun _ _ _ h => h) (Or.inl ⟨by rfl, ?_⟩) (by assumption) ?_; rotate_left; (focus (intro w hSw; (try dsimp only at hSw); go_simp; first | done | with_reducible rfl)); (try simp only [Act.put, List.getElem_toArray, List.getElem_cons_succ, List.getElem_cons_zero, List.setIfInBounds_toArray, List.set_cons_zero, List.set_cons_succ]))
              (refine wpAnyH_take (i := 14) (v := ?_) rfl (by kernel_rfl) (by kernel_rfl) (by kernel_rfl) (fun _ _ _ h => h) (Or.inl ⟨by rfl, ?_⟩) (by assumption) ?_; rotate_left; (focus (intro w hSw; (try dsimp only at hSw); go_simp; first | done | with_reducible rfl)); (try simp only [Act.put, List.getElem_toArray, List.getElem_cons_succ, List.getElem_cons_zero, List.setIfInBounds_toArray, List.set_cons_zero, List.set_cons_succ]))
              refine wpAnyH_ready (rs := [16]) (by kernel_rfl) (by simp) ?_
              refine AllReadyH.cons rfl (fun K hK => ?_) AllReadyH.nil
              have z0 : wa3.cell? ⟨wd.heap.size, 0, none⟩ = some (.int .u64 0) := by have := R4.out.cell 0; simpa using this
              have f0 := R4.out.frozen 0
              have z1 : wa3.cell? ⟨wd.heap.size, 1, none⟩ = some (.slice none 0 0) := by have := R4.out.cell 1; simpa using this
              have f1 := R4.out.frozen 1
              have z2 : wa3.cell? ⟨wd.heap.size, 2, none⟩ = some (.slice none 0 0) := by have := R4.out.cell 2; simpa using this
              have f2 := R4.out.frozen 2
              have z3 : wa3.cell? ⟨wd.heap.size, 3, none⟩ = some (.slice none 0 0) := by have := R4.out.cell 3; simpa using this
              have f3 := R4.out.frozen 3
              have zl := R4.out.lt
              have HLD : Hid (LaidL wd.heap.size wa3 (limC l5.E A5 n5 c5) ((((wa3.setCell ⟨wd.heap.size, 0, none⟩ (.int .u64 (l5.E : Int))).setCell ⟨wd.heap.size, 1, none⟩ (.slice (A5 0) (n5 0) (c5 0))).setCell ⟨wd.heap.size, 2, none⟩ (.slice (A5 1) (n5 1) (c5 1))).setCell ⟨wd.heap.size, 3, none⟩ (.slice (A5 2) (n5 2) (c5 2)))) := hide (laidL_of R4.out rfl)
              go_simp
              have HQ2 := hide (HQ.out.trans (HLD.out.below.mono G4.out))
              refine hK.out _ _ HQ2.out (fun _ => ?_)
              clear hK K z0 z1 z2 z3 f0 f1 f2 f3 zl
              (try simp only [Act.put, List.getElem_toArray, List.getElem_cons_succ, List.getElem_cons_zero, List.setIfInBounds_toArray, List.set_cons_zero, List.set_cons_succ])
              have HL2 := hide (show Rd ((((wa3.setCell ⟨wd.heap.size, 0, none⟩ (.int .u64 (l5.E : Int))).setCell ⟨wd.heap.size, 1, none⟩ (.slice (A5 0) (n5 0) (c5 0))).setCell ⟨wd.heap.size, 2, none⟩ (.slice (A5 1) (n5 1) (c5 1))).setCell ⟨wd.heap.size, 3, none⟩ (.slice (A5 2) (n5 2) (c5 2))) ((((wa3.setCell ⟨wd.heap.size, 0, none⟩ (.int .u64 (l5.E : Int))).setCell ⟨wd.heap.size, 1, none⟩ (.slice (A5 0) (n5 0) (c5 0))).setCell ⟨wd.heap.size, 2, none⟩ (.slice (A5 1) (n5 1) (c5 1))).setCell ⟨wd.heap.size, 3, none⟩ (.slice (A5 2) (n5 2) (c5 2))).heap.size 2 At 3 (Cs encE [(1, 0), (2, 0), (3, 0)]) from NE.out _ HLD.out)
              generalize ((((wa3.setCell ⟨wd.heap.size, 0, none⟩ (.int .u64 (l5.E : Int))).setCell ⟨wd.heap.size, 1, none⟩ (.slice (A5 0) (n5 0) (c5 0))).setCell ⟨wd.heap.size, 2, none⟩ (.slice (A5 1) (n5 1) (c5 1))).setCell ⟨wd.heap.size, 3, none⟩ (.slice (A5 2) (n5 2) (c5 2))) = wt at *
              (refine wpAnyH_take (i := 17) (v := ?_) rfl (by kernel_rfl) (by kernel_rfl) (by kernel_rfl) (fun _ _ _ h => h) (Or.inl ⟨by rfl, ?_⟩) (by assumption) ?_; rotate_left; (focus (intro w hSw; (try dsimp only at hSw); go_simp; first | done | with_reducible rfl)); (try simp only [Act.put, List.getElem_toArray, List.getElem_cons_succ, List.getElem_cons_zero, List.setIfInBounds_toArray, List.set_cons_zero, List.set_cons_succ]))
              (refine wpAnyH_take (i := 18) (v := ?_) rfl (by kernel_rfl) (by kernel_rfl) (by kernel_rfl) (fun _ _ _ h => h) (Or.inl ⟨by rfl, ?_⟩) (by assumption) ?_; rotate_left; (focus (intro w hSw; (try dsimp only at hSw); go_simp; first | done | with_reducible rfl)); (try simp only [Act.put, List.getElem_toArray, List.getElem_cons_succ, List.getElem_cons_zero, List.setIfInBounds_toArray, List.set_cons_zero, List.set_cons_succ]))
              refine wpAnyH_done (by kernel_rfl) ?_ _
              go_wp2_with fail
              go_meet
              case rel => exact ⟨At, ct, rfl, rfl, HL2.out, HQ2.out⟩
    case rest =>
      rename_i K hK
      refine hK _ _ ?_
      clear hK K
      obtain ⟨wq, hwq⟩ : ∃ w, w = wc := ⟨_, rfl⟩
      subst hwq
      obtain ⟨At, ct, rfl, rfl, htk, hb⟩ := hcut
      have R4 := hide (R4.out.below hb)
      have HWK := hide (HWK.out.later hb)
      have HL4 := hide ((HL4.out.below hb).more hb.size)
      have HB4 := hide (HB4.out.trans (hb.mono HB4.out.size))
      have HTK := hide htk
      clear a0 a1 al b0 b1 bl c0 c1 cl o0 o1 ol HON HRU HRV htk hb
      have l0 : wq.cell? ⟨g4, 0, none⟩ = some (.int .u64 (L4.E : Int)) := by have := R4.out.cell 0; simpa [limC] using this
      have l1 : wq.cell? ⟨g4, 1, none⟩ = some (.slice (A8 0) (n8 0) (c8 0)) := by have := R4.out.cell 1; simpa [limC] using this
      have l2 : wq.cell? ⟨g4, 2, none⟩ = some (.slice (A8 1) (n8 1) (c8 1)) := by have := R4.out.cell 2; simpa [limC] using this
      have l3 : wq.cell? ⟨g4, 3, none⟩ = some (.slice (A8 2) (n8 2) (c8 2)) := by have := R4.out.cell 3; simpa [limC] using this
      have ll := R4.out.lt
      have a0 := row20 HWK.out.a
      have a1 := row21 HWK.out.a
      have al := HWK.out.a.lt
      have b0 := row20 HWK.out.b
      have b1 := row21 HWK.out.b
      have bl := HWK.out.b.lt
      have c0 := row20 HWK.out.c
      have c1 := row21 HWK.out.c
      have cl := HWK.out.c.lt
      have HRD := hide (fun (w : World) (hb : Below wq.heap.size wq w) => show Calls Tryd.prog 25 #[.agg (limC L4.E A8 n8 c8)] w fun e W' => ∃ v, e = .returned v ∧ W'.ownsRow w.heap.size 34 2 v 1 (Cs encE [(1, 0)]) ∧ Below w.heap.size w W' from ready_any wq.heap.size A8 n8 c8 L4 w (HL4.out.below hb) (by decide) hb.size hls8 wkG4 [(1, 0)] wk8)
      have HHD := hide (fun (w : World) (hb : Below wq.heap.size wq w) => show Calls Tryd.prog 9 #[.agg (limC L4.E A8 n8 c8)] w fun e W' => ∃ v, e = .returned v ∧ W'.ownsRow w.heap.size 34 2 v 2 (Cs encE [(1, 0), (2, 0)]) ∧ Below w.heap.size w W' from held_any wq.heap.size A8 n8 c8 L4 w (HL4.out.below hb) (by decide) hb.size hls8 wkG4 [(1, 0), (2, 0)] wk9)
      go_upto_region 9 with (fail)
      go_cut [0] from 66 to 116 (fun s0 wx => s0 = .bool true ∧ Below wq.heap.size wq wx)
      case first =>
        refine wp_region_held_drew (S := fun wX => Below wq.heap.size wq wX) (by kernel_rfl) (Below.refl _ _).drew (fun hHeld => ?_)
        have HQ := hide ((Below.refl wq.heap.size wq).drew)
        (refine wpAnyH_take (i := 0) (v := ?_) rfl (by kernel_rfl) (by kernel_rfl) (by kernel_rfl) (fun _ _ _ h => h) (Or.inl ⟨by rfl, ?_⟩) (by assumption) ?_; rotate_left; (focus (intro w hSw; (try dsimp only at hSw); go_simp; first | done | with_reducible rfl)); (try simp only [Act.put, List.getElem_toArray, List.getElem_cons_succ, List.getElem_cons_zero, List.setIfInBounds_toArray, List.set_cons_zero, List.set_cons_succ]))
        (refine wpAnyH_take (i := 1) (v := ?_) rfl (by kernel_rfl) (by kernel_rfl) (by kernel_rfl) (fun _ _ _ h => h) (Or.inl ⟨by rfl, ?_⟩) (by assumption) ?_; rotate_left; (focus (intro w hSw; (try dsimp only at hSw); go_simp; first | done | with_reducible rfl)); (try simp only [Act.put, List.getElem_toArray, List.getElem_cons_succ, List.getElem_cons_zero, List.setIfInBounds_toArray, List.set_cons_zero, List.set_cons_succ]))
        (refine wpAnyH_take (i := 2) (v := ?_) rfl (by kernel_rfl) (by kernel_rfl) (by kernel_rfl) (fun _ _ _ h => h) (Or.inl ⟨by rfl, ?_⟩) (by assumption) ?_; rotate_left; (focus (intro w hSw; (try dsimp only at hSw); go_simp; first | done | with_reducible rfl)); (try simp only [Act.put, List.getElem_toArray, List.getElem_cons_succ, List.getElem_cons_zero, List.setIfInBounds_toArray, List.set_cons_zero, List.set_cons_succ]))
        (refine wpAnyH_take (i := 3) (v := ?_) rfl (by kernel_rfl) (by kernel_rfl) (by kernel_rfl) (fun _ _ _ h => h) (Or.inl ⟨by rfl, ?_⟩) (by assumption) ?_; rotate_left; (focus (intro w hSw; (try dsimp only at hSw); go_simp; first | done | with_reducible rfl)); (try simp only [Act.put, List.getElem_toArray, List.getElem_cons_succ, List.getElem_cons_zero, List.setIfInBounds_toArray, List.set_cons_zero, List.set_cons_succ]))
        (refine wpAnyH_take (i := 4) (v := ?_) rfl (by kernel_rfl) (by kernel_rfl) (by kernel_rfl) (fun _ _ _ h => h) (Or.inl ⟨by rfl, ?_⟩) (by assumption) ?_; rotate_left; (focus (intro w hSw; (try dsimp only at hSw); go_simp; first | done | with_reducible rfl)); (try simp only [Act.put, List.getElem_toArray, List.getElem_cons_succ, List.getElem_cons_zero, List.setIfInBounds_toArray, List.set_cons_zero, List.set_cons_succ]))
        (refine wpAnyH_take (i := 5) (v := ?_) rfl (by kernel_rfl) (by kernel_rfl) (by kernel_rfl) (fun _ _ _ h => h) (Or.inl ⟨by rfl, ?_⟩) (by assumption) ?_; rotate_left; (focus (intro w hSw; (try dsimp only at hSw); go_simp; first | done | with_reducible rfl)); (try simp only [Act.put, List.getElem_toArray, List.getElem_cons_succ, List.getElem_cons_zero, List.setIfInBounds_toArray, List.set_cons_zero, List.set_cons_succ]))
        (refine wpAnyH_take (i := 6) (v := ?_) rfl (by kernel_rfl) (by kernel_rfl) (by kernel_rfl) (fun _ _ _ h => h) (Or.inl ⟨by rfl, ?_⟩) (by assumption) ?_; rotate_left; (focus (intro w hSw; (try dsimp only at hSw); go_simp; first | done | with_reducible rfl)); (try simp only [Act.put, List.getElem_toArray, List.getElem_cons_succ, List.getElem_cons_zero, List.setIfInBounds_toArray, List.set_cons_zero, List.set_cons_succ]))
        (refine wpAnyH_take (i := 7) (v := ?_) rfl (by kernel_rfl) (by kernel_rfl) (by kernel_rfl) (fun _ _ _ h => h) (Or.inl ⟨by rfl, ?_⟩) (by assumption) ?_; rotate_left; (focus (intro w hSw; (try dsimp only at hSw); go_simp; first | done | with_reducible rfl)); (try simp only [Act.put, List.getElem_toArray, List.getElem_cons_succ, List.getElem_cons_zero, List.setIfInBounds_toArray, List.set_cons_zero, List.set_cons_succ]))
        (refine wpAnyH_take (i := 8) (v := ?_) rfl (by kernel_rfl) (by kernel_rfl) (by kernel_rfl) (fun _ _ _ h => h) (Or.inl ⟨by rfl, ?_⟩) (by assumption) ?_; rotate_left; (focus (intro w hSw; (try dsimp only at hSw); go_simp; first | done | with_reducible rfl)); (try simp only [Act.put, List.getElem_toArray, List.getElem_cons_succ, List.getElem_cons_zero, List.setIfInBounds_toArray, List.set_cons_zero, List.set_cons_succ]))
        (refine wpAnyH_take (i := 9) (v := ?_) rfl (by kernel_rfl) (by kernel_rfl) (by kernel_rfl) (fun _ _ _ h => h) (Or.inl ⟨by rfl, ?_⟩) (by assumption) ?_; rotate_left; (focus (intro w hSw; (try dsimp only at hSw); go_simp; first | done | with_reducible rfl)); (try simp only [Act.put, List.getElem_toArray, List.getElem_cons_succ, List.getElem_cons_zero, List.setIfInBounds_toArray, List.set_cons_zero, List.set_cons_succ]))
        (refine wpAnyH_take (i := 10) (v := ?_) rfl (by kernel_rfl) (by kernel_rfl) (by kernel_rfl) (fun _ _ _ h => h) (Or.inl ⟨by rfl, ?_⟩) (by assumption) ?_; rotate_left; (focus (intro w hSw; (try dsimp only at hSw); go_simp; first | done | with_reducible rfl)); (try simp only [Act.put, List.getElem_toArray, List.getElem_cons_succ, List.getElem_cons_zero, List.setIfInBounds_toArray, List.set_cons_zero, List.set_cons_succ]))
        (refine wpAnyH_take (i := 11) (v := ?_) rfl (by kernel_rfl) (by kernel_rfl) (by kernel_rfl) (fun _ _ _ h => h) (Or.inl ⟨by rfl, ?_⟩) (by assumption) ?_; rotate_left; (focus (intro w hSw; (try dsimp only at hSw); go_simp; first | done | with_reducible rfl)); (try simp only [Act.put, List.getElem_toArray, List.getElem_cons_succ, List.getElem_cons_zero, List.setIfInBounds_toArray, List.set_cons_zero, List.set_cons_succ]))
        (refine wpAnyH_take (i := 12) (v := ?_) rfl (by kernel_rfl) (by kernel_rfl) (by kernel_rfl) (fun _ _ _ h => h) (Or.inl ⟨by rfl, ?_⟩) (by assumption) ?_; rotate_left; (focus (intro w hSw; (try dsimp only at hSw); go_simp; first | done | with_reducible rfl)); (try simp only [Act.put, List.getElem_toArray, List.getElem_cons_succ, List.getElem_cons_zero, List.setIfInBounds_toArray, List.set_cons_zero, List.set_cons_succ]))
        (refine wpAnyH_take (i := 13) (v := ?_) rfl (by kernel_rfl) (by kernel_rfl) (by kernel_rfl) (fun _ _ _ h => h) (Or.inl ⟨by rfl, ?_⟩) (by assumption) ?_; rotate_left; (focus (intro w hSw; (try dsimp only at hSw); go_simp; first | done | with_reducible rfl)); (try simp only [Act.put, List.getElem_toArray, List.getElem_cons_succ, List.getElem_cons_zero, List.setIfInBounds_toArray, List.set_cons_zero, List.set_cons_succ]))
        (refine wpAnyH_take (i := 14) (v := ?_) rfl (by kernel_rfl) (by kernel_rfl) (by kernel_rfl) (fun _ _ _ h => h) (Or.inl ⟨by rfl, ?_⟩) (by assumption) ?_; rotate_left; (focus (intro w hSw; (try dsimp only at hSw); go_simp; first | done | with_reducible rfl)); (try simp only [Act.put, List.getElem_toArray, List.getElem_cons_succ, List.getElem_cons_zero, List.setIfInBounds_toArray, List.set_cons_zero, List.set_cons_succ]))
        (refine wpAnyH_take (i := 15) (v := ?_) rfl (by kernel_rfl) (by kernel_rfl) (by kernel_rfl) (fun _ _ _ h => h) (Or.inl ⟨by rfl, ?_⟩) (by assumption) ?_; rotate_left; (focus (intro w hSw; (try dsimp only at hSw); go_simp; first | done | with_reducible rfl)); (try simp only [Act.put, List.getElem_toArray, List.getElem_cons_succ, List.getElem_cons_zero, List.setIfInBounds_toArray, List.set_cons_zero, List.set_cons_succ]))
        (refine wpAnyH_take (i := 16) (v := ?_) rfl (by kernel_rfl) (by kernel_rfl) (by kernel_rfl) (fun _ _ _ h => h) (Or.inl ⟨by rfl, ?_⟩) (by assumption) ?_; rotate_left; (focus (intro w hSw; (try dsimp only at hSw); go_simp; first | done | with_reducible rfl)); (try simp only [Act.put, List.getElem_toArray, List.getElem_cons_succ, List.getElem_cons_zero, List.setIfInBounds_toArray, List.set_cons_zero, List.set_cons_succ]))
        (refine wpAnyH_take (i := 17) (v := ?_) rfl (by kernel_rfl) (by kernel_rfl) (by kernel_rfl) (fun _ _ _ h => h) (Or.inl ⟨by rfl, ?_⟩) (by assumption) ?_; rotate_left; (focus (intro w hSw; (try dsimp only at hSw); go_simp; first | done | with_reducible rfl)); (try simp only [Act.put, List.getElem_toArray, List.getElem_cons_succ, List.getElem_cons_zero, List.setIfInBounds_toArray, List.set_cons_zero, List.set_cons_succ]))
        (refine wpAnyH_take (i := 18) (v := ?_) rfl (by kernel_rfl) (by kernel_rfl) (by kernel_rfl) (fun _ _ _ h => h) (Or.inl ⟨by rfl, ?_⟩) (by assumption) ?_; rotate_left; (focus (intro w hSw; (try dsimp only at hSw); go_simp; first | done | with_reducible rfl)); (try simp only [Act.put, List.getElem_toArray, List.getElem_cons_succ, List.getElem_cons_zero, List.setIfInBounds_toArray, List.set_cons_zero, List.set_cons_succ]))
        (refine wpAnyH_take (i := 19) (v := ?_) rfl (by kernel_rfl) (by kernel_rfl) (by kernel_rfl) (fun _ _ _ h => h) (Or.inl ⟨by rfl, ?_⟩) (by assumption) ?_; rotate_left; (focus (intro w hSw; (try dsimp only at hSw); go_simp; first | done | with_reducible rfl)); (try simp only [Act.put, List.getElem_toArray, List.getElem_cons_succ, List.getElem_cons_zero, List.setIfInBounds_toArray, List.set_cons_zero, List.set_cons_succ]))
        (refine wpAnyH_take (i := 20) (v := ?_) rfl (by kernel_rfl) (by kernel_rfl) (by kernel_rfl) (fun _ _ _ h => h) (Or.inl ⟨by rfl, ?_⟩) (by assumption) ?_; rotate_left; (focus (intro w hSw; (try dsimp only at hSw); go_simp; first | done | with_reducible rfl)); (try simp only [Act.put, List.getElem_toArray, List.getElem_cons_succ, List.getElem_cons_zero, List.setIfInBounds_toArray, List.set_cons_zero, List.set_cons_succ]))
        (refine wpAnyH_take (i := 21) (v := ?_) rfl (by kernel_rfl) (by kernel_rfl) (by kernel_rfl) (fun _ _ _ h => h) (Or.inl ⟨by rfl, ?_⟩) (by assumption) ?_; rotate_left; (focus (intro w hSw; (try dsimp only at hSw); go_simp; first | done | with_reducible rfl)); (try simp only [Act.put, List.getElem_toArray, List.getElem_cons_succ, List.getElem_cons_zero, List.setIfInBounds_toArray, List.set_cons_zero, List.set_cons_succ]))
        (refine wpAnyH_take (i := 22) (v := ?_) rfl (by kernel_rfl) (by kernel_rfl) (by kernel_rfl) (fun _ _ _ h => h) (Or.inl ⟨by rfl, ?_⟩) (by assumption) ?_; rotate_left; (focus (intro w hSw; (try dsimp only at hSw); go_simp; first | done | with_reducible rfl)); (try simp only [Act.put, List.getElem_toArray, List.getElem_cons_succ, List.getElem_cons_zero, List.setIfInBounds_toArray, List.set_cons_zero, List.set_cons_succ]))
        (refine wpAnyH_take (i := 23) (v := ?_) rfl (by kernel_rfl) (by kernel_rfl) (by kernel_rfl) (fun _ _ _ h => h) (Or.inl ⟨by rfl, ?_⟩) (by assumption) ?_; rotate_left; (focus (intro w hSw; (try dsimp only at hSw); have kf0 := kept hSw l0; have kf1 := kept hSw l1; have kf2 := kept hSw l2; have kf3 := kept hSw l3; go_simp; first | done | with_reducible rfl)); (try simp only [Act.put, List.getElem_toArray, List.getElem_cons_succ, List.getElem_cons_zero, List.setIfInBounds_toArray, List.set_cons_zero, List.set_cons_succ]))
        (refine wpAnyH_take (i := 25) (v := ?_) rfl (by kernel_rfl) (by kernel_rfl) (by kernel_rfl) (fun _ _ _ h => h) (Or.inl ⟨by rfl, ?_⟩) (by assumption) ?_; rotate_left; (focus (intro w hSw; (try dsimp only at hSw); have kf0 := kept hSw a0; have kf1 := kept hSw a1; go_simp; first | done | with_reducible rfl)); (try simp only [Act.put, List.getElem_toArray, List.getElem_cons_succ, List.getElem_cons_zero, List.setIfInBounds_toArray, List.set_cons_zero, List.set_cons_succ]))
        generalize wq.drew = wd at *
        refine wpAnyH_ready (rs := [24, 26]) (by kernel_rfl) (by simp) ?_
        refine (AllReadyH.cons rfl (fun K0 hK0 => ?_) (AllReadyH.cons rfl (fun K0 hK0 => ?_) AllReadyH.nil))
        · go_simp
          refine (HRD.out _ HQ.out).mono ?_
          rintro e wa ⟨vr, rfl, hor, hba⟩
          obtain ⟨Ar, cr, rfl, _⟩ := own_form hor
          have HRY := hide (Rd.of_own hor)
          replace HQ := hide (HQ.out.trans (hba.mono HQ.out.size))
          clear hba hor
          refine hK0.out _ _ (HQ.out) (fun _ => ?_)
          clear hK0 K0
          (try simp only [Act.put, List.getElem_toArray, List.getElem_cons_succ, List.getElem_cons_zero, List.setIfInBounds_toArray, List.set_cons_zero, List.set_cons_succ])
          refine wpAnyH_ready (rs := [26]) (by kernel_rfl) (by simp) ?_
          refine (AllReadyH.cons rfl (fun K1 hK1 => ?_) AllReadyH.nil)
          go_simp
          refine hK1.out _ _ (HQ.out.alloc HQ.out.size _) (fun _ => ?_)
          clear hK1 K1
          (try simp only [Act.put, List.getElem_toArray, List.getElem_cons_succ, List.getElem_cons_zero, List.setIfInBounds_toArray, List.set_cons_zero, List.set_cons_succ])
          have hbx : Below wa.heap.size wa (wa.alloc (.cells #[.int .i64 1, .int .u64 0] 34)) := (Below.refl _ _).alloc (Nat.le_refl _) _
          replace HRY := hide ((HRY.out.below hbx).more hbx.size)
          have HSB := hide (show Rd (wa.alloc (.cells #[.int .i64 1, .int .u64 0] 34)) (wa.alloc (.cells #[.int .i64 1, .int .u64 0] 34)).heap.size 2 (some ⟨wa.heap.size, 0, none⟩) 1 (Cs encE [(1, 0)]) from (Rd.new wa #[.int .i64 1, .int .u64 0] 34 2 1 rfl).more (by simp))
          replace HQ := hide (HQ.out.alloc HQ.out.size (.cells #[.int .i64 1, .int .u64 0] 34))
          clear hbx
          generalize wa.alloc (.cells #[.int .i64 1, .int .u64 0] 34) = wz at *
          generalize wa.heap.size = gb at *
          refine wpAnyH_ready (rs := [27]) (by kernel_rfl) (by simp) ?_
          refine (AllReadyH.cons rfl (fun K2 hK2 => ?_) AllReadyH.nil)
          go_simp
          have HE1 := hide (show Calls Tryd.prog 12 #[.slice Ar 1 cr, .slice (some ⟨gb, 0, none⟩) 1 1] wz _ from EqualE wz.heap.size wz.heap.size Ar (some ⟨gb, 0, none⟩) cr 1 [(1, 0)] [(1, 0)] wz HRY.out HSB.out (Nat.le_refl _) (Nat.le_refl _) (by simp) (by simp) true (by decide))
          with_reducible refine HE1.out.mono ?_
          rintro e wb ⟨rfl, hbb⟩
          replace HQ := hide (HQ.out.trans (hbb.mono HQ.out.size))
          clear hbb HE1 HRY HSB
          refine hK2.out _ _ (HQ.out) (fun _ => ?_)
          clear hK2 K2
          (try simp only [Act.put, List.getElem_toArray, List.getElem_cons_succ, List.getElem_cons_zero, List.setIfInBounds_toArray, List.set_cons_zero, List.set_cons_succ])
          (refine wpAnyH_take (i := 28) (v := ?_) rfl (by kernel_rfl) (by kernel_rfl) (by kernel_rfl) (fun _ _ _ h => h) (Or.inl ⟨by rfl, ?_⟩) (by assumption) ?_; rotate_left; (focus (intro w hSw; (try dsimp only at hSw); go_simp; first | done | with_reducible rfl)); (try simp only [Act.put, List.getElem_toArray, List.getElem_cons_succ, List.getElem_cons_zero, List.setIfInBounds_toArray, List.set_cons_zero, List.set_cons_succ]))
          (refine wpAnyH_take (i := 29) (v := ?_) rfl (by kernel_rfl) (by kernel_rfl) (by kernel_rfl) (fun _ _ _ h => h) (Or.inl ⟨by rfl, ?_⟩) (by assumption) ?_; rotate_left; (focus (intro w hSw; (try dsimp only at hSw); go_simp; first | done | with_reducible rfl)); (try simp only [Act.put, List.getElem_toArray, List.getElem_cons_succ, List.getElem_cons_zero, List.setIfInBounds_toArray, List.set_cons_zero, List.set_cons_succ]))
          (refine wpAnyH_take (i := 30) (v := ?_) rfl (by kernel_rfl) (by kernel_rfl) (by kernel_rfl) (fun _ _ _ h => h) (Or.inl ⟨by rfl, ?_⟩) (by assumption) ?_; rotate_left; (focus (intro w hSw; (try dsimp only at hSw); go_simp; first | done | with_reducible rfl)); (try simp only [Act.put, List.getElem_toArray, List.getElem_cons_succ, List.getElem_cons_zero, List.setIfInBounds_toArray, List.set_cons_zero, List.set_cons_succ]))
          (refine wpAnyH_take (i := 31) (v := ?_) rfl (by kernel_rfl) (by kernel_rfl) (by kernel_rfl) (fun _ _ _ h => h) (Or.inl ⟨by rfl, ?_⟩) (by assumption) ?_; rotate_left; (focus (intro w hSw; (try dsimp only at hSw); go_simp; first | done | with_reducible rfl)); (try simp only [Act.put, List.getElem_toArray, List.getElem_cons_succ, List.getElem_cons_zero, List.setIfInBounds_toArray, List.set_cons_zero, List.set_cons_succ]))
          (refine wpAnyH_take (i := 32) (v := ?_) rfl (by kernel_rfl) (by kernel_rfl) (by kernel_rfl) (fun _ _ _ h => h) (Or.inl ⟨by rfl, ?_⟩) (by assumption) ?_; rotate_left; (focus (intro w hSw; (try dsimp only at hSw); go_simp; first | done | with_reducible rfl)); (try simp only [Act.put, List.getElem_toArray, List.getElem_cons_succ, List.getElem_cons_zero, List.setIfInBounds_toArray, List.set_cons_zero, List.set_cons_succ]))
          (refine wpAnyH_take (i := 33) (v := ?_) rfl (by kernel_rfl) (by kernel_rfl) (by kernel_rfl) (fun _ _ _ h => h) (Or.inl ⟨by rfl, ?_⟩) (by assumption) ?_; rotate_left; (focus (intro w hSw; (try dsimp only at hSw); go_simp; first | done | with_reducible rfl)); (try simp only [Act.put, List.getElem_toArray, List.getElem_cons_succ, List.getElem_cons_zero, List.setIfInBounds_toArray, List.set_cons_zero, List.set_cons_succ]))
          (refine wpAnyH_take (i := 34) (v := ?_) rfl (by kernel_rfl) (by kernel_rfl) (by kernel_rfl) (fun _ _ _ h => h) (Or.inl ⟨by rfl, ?_⟩) (by assumption) ?_; rotate_left; (focus (intro w hSw; (try dsimp only at hSw); go_simp; first | done | with_reducible rfl)); (try simp only [Act.put, List.getElem_toArray, List.getElem_cons_succ, List.getElem_cons_zero, List.setIfInBounds_toArray, List.set_cons_zero, List.set_cons_succ]))
          (refine wpAnyH_take (i := 35) (v := ?_) rfl (by kernel_rfl) (by kernel_rfl) (by kernel_rfl) (fun _ _ _ h => h) (Or.inl ⟨by rfl, ?_⟩) (by assumption) ?_; rotate_left; (focus (intro w hSw; (try dsimp only at hSw); go_simp; first | done | with_reducible rfl)); (try simp only [Act.put, List.getElem_toArray, List.getElem_cons_succ, List.getElem_cons_zero, List.setIfInBounds_toArray, List.set_cons_zero, List.set_cons_succ]))
          (refine wpAnyH_take (i := 36) (v := ?_) rfl (by kernel_rfl) (by kernel_rfl) (by kernel_rfl) (fun _ _ _ h => h) (Or.inl ⟨by rfl, ?_⟩) (by assumption) ?_; rotate_left; (focus (intro w hSw; (try dsimp only at hSw); go_simp; first | done | with_reducible rfl)); (try simp only [Act.put, List.getElem_toArray, List.getElem_cons_succ, List.getElem_cons_zero, List.setIfInBounds_toArray, List.set_cons_zero, List.set_cons_succ]))
          (refine wpAnyH_take (i := 37) (v := ?_) rfl (by kernel_rfl) (by kernel_rfl) (by kernel_rfl) (fun _ _ _ h => h) (Or.inl ⟨by rfl, ?_⟩) (by assumption) ?_; rotate_left; (focus (intro w hSw; (try dsimp only at hSw); go_simp; first | done | with_reducible rfl)); (try simp only [Act.put, List.getElem_toArray, List.getElem_cons_succ, List.getElem_cons_zero, List.setIfInBounds_toArray, List.set_cons_zero, List.set_cons_succ]))
          (refine wpAnyH_take (i := 38) (v := ?_) rfl (by kernel_rfl) (by kernel_rfl) (by kernel_rfl) (fun _ _ _ h => h) (Or.inl ⟨by rfl, ?_⟩) (by assumption) ?_; rotate_left; (focus (intro w hSw; (try dsimp only at hSw); have kf0 := kept hSw a0; have kf1 := kept hSw a1; go_simp; first | done | with_reducible rfl)); (try simp only [Act.put, List.getElem_toArray, List.getElem_cons_succ, List.getElem_cons_zero, List.setIfInBounds_toArray, List.set_cons_zero, List.set_cons_succ]))
          (refine wpAnyH_take (i := 39) (v := ?_) rfl (by kernel_rfl) (by kernel_rfl) (by kernel_rfl) (fun _ _ _ h => h) (Or.inl ⟨by rfl, ?_⟩) (by assumption) ?_; rotate_left; (focus (intro w hSw; (try dsimp only at hSw); have kf0 := kept hSw b0; have kf1 := kept hSw b1; go_simp; first | done | with_reducible rfl)); (try simp only [Act.put, List.getElem_toArray, List.getElem_cons_succ, List.getElem_cons_zero, List.setIfInBounds_toArray, List.set_cons_zero, List.set_cons_succ]))
          (refine wpAnyH_take (i := 40) (v := ?_) rfl (by kernel_rfl) (by kernel_rfl) (by kernel_rfl) (fun _ _ _ h => h) (Or.inl ⟨by rfl, ?_⟩) (by assumption) ?_; rotate_left; (focus (intro w hSw; (try dsimp only at hSw); have kf0 := kept hSw c0; have kf1 := kept hSw c1; go_simp; first | done | with_reducible rfl)); (try simp only [Act.put, List.getElem_toArray, List.getElem_cons_succ, List.getElem_cons_zero, List.setIfInBounds_toArray, List.set_cons_zero, List.set_cons_succ]))
          refine wpAnyH_ready (rs := [41]) (by kernel_rfl) (by simp) ?_
          refine (AllReadyH.cons rfl (fun K3 hK3 => ?_) AllReadyH.nil)
          go_simp
          refine hK3.out _ _ (HQ.out.alloc HQ.out.size _) (fun _ => ?_)
          clear hK3 K3
          (try simp only [Act.put, List.getElem_toArray, List.getElem_cons_succ, List.getElem_cons_zero, List.setIfInBounds_toArray, List.set_cons_zero, List.set_cons_succ])
          have HSB := hide (show Rd (wb.alloc (.cells #[.int .i64 1, .int .u64 0, .int .i64 2, .int .u64 0, .int .i64 3, .int .u64 0] 34)) (wb.alloc (.cells #[.int .i64 1, .int .u64 0, .int .i64 2, .int .u64 0, .int .i64 3, .int .u64 0] 34)).heap.size 2 (some ⟨wb.heap.size, 0, none⟩) 3 (Cs encE [(1, 0), (2, 0), (3, 0)]) from (Rd.new wb #[.int .i64 1, .int .u64 0, .int .i64 2, .int .u64 0, .int .i64 3, .int .u64 0] 34 2 3 rfl).more (by simp))
          replace HQ := hide (HQ.out.alloc HQ.out.size (.cells #[.int .i64 1, .int .u64 0, .int .i64 2, .int .u64 0, .int .i64 3, .int .u64 0] 34))
          generalize wb.alloc (.cells #[.int .i64 1, .int .u64 0, .int .i64 2, .int .u64 0, .int .i64 3, .int .u64 0] 34) = wc at *
          refine wpAnyH_ready (rs := [42]) (by kernel_rfl) (by simp) ?_
          refine (AllReadyH.cons rfl (fun K4 hK4 => ?_) AllReadyH.nil)
          go_simp
          have HE1 := hide (show Calls Tryd.prog 12 #[.slice At 3 ct, .slice (some ⟨wb.heap.size, 0, none⟩) 3 3] wc _ from EqualE wq.heap.size wc.heap.size At (some ⟨wb.heap.size, 0, none⟩) ct 3 [(1, 0), (2, 0), (3, 0)] [(1, 0), (2, 0), (3, 0)] wc (HTK.out.below HQ.out) HSB.out HQ.out.size (Nat.le_refl _) (by simp) (by simp) true (by decide))
          with_reducible refine HE1.out.mono ?_
          rintro e we ⟨rfl, hbe⟩
          replace HQ := hide (HQ.out.trans (hbe.mono HQ.out.size))
          clear hbe HE1 HSB
          refine hK4.out _ _ (HQ.out) (fun _ => ?_)
          clear hK4 K4
          (try simp only [Act.put, List.getElem_toArray, List.getElem_cons_succ, List.getElem_cons_zero, List.setIfInBounds_toArray, List.set_cons_zero, List.set_cons_succ])
          (refine wpAnyH_take (i := 43) (v := ?_) rfl (by kernel_rfl) (by kernel_rfl) (by kernel_rfl) (fun _ _ _ h => h) (Or.inl ⟨by rfl, ?_⟩) (by assumption) ?_; rotate_left; (focus (intro w hSw; (try dsimp only at hSw); go_simp; first | done | with_reducible rfl)); (try simp only [Act.put, List.getElem_toArray, List.getElem_cons_succ, List.getElem_cons_zero, List.setIfInBounds_toArray, List.set_cons_zero, List.set_cons_succ]))
          (refine wpAnyH_take (i := 44) (v := ?_) rfl (by kernel_rfl) (by kernel_rfl) (by kernel_rfl) (fun _ _ _ h => h) (Or.inl ⟨by rfl, ?_⟩) (by assumption) ?_; rotate_left; (focus (intro w hSw; (try dsimp only at hSw); go_simp; first | done | with_reducible rfl)); (try simp only [Act.put, List.getElem_toArray, List.getElem_cons_succ, List.getElem_cons_zero, List.setIfInBounds_toArray, List.set_cons_zero, List.set_cons_succ]))
          (refine wpAnyH_take (i := 45) (v := ?_) rfl (by kernel_rfl) (by kernel_rfl) (by kernel_rfl) (fun _ _ _ h => h) (Or.inl ⟨by rfl, ?_⟩) (by assumption) ?_; rotate_left; (focus (intro w hSw; (try dsimp only at hSw); have kf0 := kept hSw l0; have kf1 := kept hSw l1; have kf2 := kept hSw l2; have kf3 := kept hSw l3; go_simp; first | done | with_reducible rfl)); (try simp only [Act.put, List.getElem_toArray, List.getElem_cons_succ, List.getElem_cons_zero, List.setIfInBounds_toArray, List.set_cons_zero, List.set_cons_succ]))
          refine wpAnyH_ready (rs := [46]) (by kernel_rfl) (by simp) ?_
          refine (AllReadyH.cons rfl (fun K5 hK5 => ?_) AllReadyH.nil)
          go_simp
          refine (HHD.out we HQ.out).mono ?_
          rintro e wf ⟨vh, rfl, hoh, hbf⟩
          obtain ⟨Ah, ch, rfl, _⟩ := own_form hoh
          replace HQ := hide (HQ.out.trans (hbf.mono HQ.out.size))
          clear hbf
          refine hK5.out _ _ (HQ.out) (fun _ => ?_)
          clear hK5 K5
          (try simp only [Act.put, List.getElem_toArray, List.getElem_cons_succ, List.getElem_cons_zero, List.setIfInBounds_toArray, List.set_cons_zero, List.set_cons_succ])
          (refine wpAnyH_take (i := 47) (v := ?_) rfl (by kernel_rfl) (by kernel_rfl) (by kernel_rfl) (fun _ _ _ h => h) (Or.inl ⟨by rfl, ?_⟩) (by assumption) ?_; rotate_left; (focus (intro w hSw; (try dsimp only at hSw); go_simp; first | done | with_reducible rfl)); (try simp only [Act.put, List.getElem_toArray, List.getElem_cons_succ, List.getElem_cons_zero, List.setIfInBounds_toArray, List.set_cons_zero, List.set_cons_succ]))
          (refine wpAnyH_take (i := 48) (v := ?_) rfl (by kernel_rfl) (by kernel_rfl) (by kernel_rfl) (fun _ _ _ h => h) (Or.inl ⟨by rfl, ?_⟩) (by assumption) ?_; rotate_left; (focus (intro w hSw; (try dsimp only at hSw); go_simp; first | done | with_reducible rfl)); (try simp only [Act.put, List.getElem_toArray, List.getElem_cons_succ, List.getElem_cons_zero, List.setIfInBounds_toArray, List.set_cons_zero, List.set_cons_succ]))
          (refine wpAnyH_take (i := 49) (v := ?_) rfl (by kernel_rfl) (by kernel_rfl) (by kernel_rfl) (fun _ _ _ h => h) (Or.inl ⟨by rfl, ?_⟩) (by assumption) ?_; rotate_left; (focus (intro w hSw; (try dsimp only at hSw); go_simp; first | done | with_reducible rfl)); (try simp only [Act.put, List.getElem_toArray, List.getElem_cons_succ, List.getElem_cons_zero, List.setIfInBounds_toArray, List.set_cons_zero, List.set_cons_succ]))
          (refine wpAnyH_take (i := 50) (v := ?_) rfl (by kernel_rfl) (by kernel_rfl) (by kernel_rfl) (fun _ _ _ h => h) (Or.inl ⟨by rfl, ?_⟩) (by assumption) ?_; rotate_left; (focus (intro w hSw; (try dsimp only at hSw); go_simp; first | done | with_reducible rfl)); (try simp only [Act.put, List.getElem_toArray, List.getElem_cons_succ, List.getElem_cons_zero, List.setIfInBounds_toArray, List.set_cons_zero, List.set_cons_succ]))
          refine wpAnyH_done (by kernel_rfl) ?_ _
          go_wp2_with fail
          go_meet
          case rel => exact ⟨rfl, HQ.out⟩
        · go_simp
          refine hK0.out _ _ (HQ.out.alloc HQ.out.size _) (fun _ => ?_)
          clear hK0 K0
          (try simp only [Act.put, List.getElem_toArray, List.getElem_cons_succ, List.getElem_cons_zero, List.setIfInBounds_toArray, List.set_cons_zero, List.set_cons_succ])
          have HSB := hide (show Rd (wd.alloc (.cells #[.int .i64 1, .int .u64 0] 34)) (wd.alloc (.cells #[.int .i64 1, .int .u64 0] 34)).heap.size 2 (some ⟨wd.heap.size, 0, none⟩) 1 (Cs encE [(1, 0)]) from (Rd.new wd #[.int .i64 1, .int .u64 0] 34 2 1 rfl).more (by simp))
          replace HQ := hide (HQ.out.alloc HQ.out.size (.cells #[.int .i64 1, .int .u64 0] 34))
          generalize wd.alloc (.cells #[.int .i64 1, .int .u64 0] 34) = wa at *
          generalize wd.heap.size = gb at *
          refine wpAnyH_ready (rs := [24]) (by kernel_rfl) (by simp) ?_
          refine (AllReadyH.cons rfl (fun K1 hK1 => ?_) AllReadyH.nil)
          go_simp
          refine (HRD.out _ HQ.out).mono ?_
          rintro e wz ⟨vr, rfl, hor, hba⟩
          obtain ⟨Ar, cr, rfl, _⟩ := own_form hor
          have HRY := hide (Rd.of_own hor)
          replace HSB := hide ((HSB.out.below hba).more hba.size)
          replace HQ := hide (HQ.out.trans (hba.mono HQ.out.size))
          clear hba hor
          refine hK1.out _ _ (HQ.out) (fun _ => ?_)
          clear hK1 K1
          (try simp only [Act.put, List.getElem_toArray, List.getElem_cons_succ, List.getElem_cons_zero, List.setIfInBounds_toArray, List.set_cons_zero, List.set_cons_succ])
          refine wpAnyH_ready (rs := [27]) (by kernel_rfl) (by simp) ?_
          refine (AllReadyH.cons rfl (fun K2 hK2 => ?_) AllReadyH.nil)
          go_simp
          have HE1 := hide (show Calls Tryd.prog 12 #[.slice Ar 1 cr, .slice (some ⟨gb, 0, none⟩) 1 1] wz _ from EqualE wz.heap.size wz.heap.size Ar (some ⟨gb, 0, none⟩) cr 1 [(1, 0)] [(1, 0)] wz HRY.out HSB.out (Nat.le_refl _) (Nat.le_refl _) (by simp) (by simp) true (by decide))
          with_reducible refine HE1.out.mono ?_
          rintro e wb ⟨rfl, hbb⟩
          replace HQ := hide (HQ.out.trans (hbb.mono HQ.out.size))
          clear hbb HE1 HRY HSB
          refine hK2.out _ _ (HQ.out) (fun _ => ?_)
          clear hK2 K2
          (try simp only [Act.put, List.getElem_toArray, List.getElem_cons_succ, List.getElem_cons_zero, List.setIfInBounds_toArray, List.set_cons_zero, List.set_cons_succ])
          (refine wpAnyH_take (i := 28) (v := ?_) rfl (by kernel_rfl) (by kernel_rfl) (by kernel_rfl) (fun _ _ _ h => h) (Or.inl ⟨by rfl, ?_⟩) (by assumption) ?_; rotate_left; (focus (intro w hSw; (try dsimp only at hSw); go_simp; first | done | with_reducible rfl)); (try simp only [Act.put, List.getElem_toArray, List.getElem_cons_succ, List.getElem_cons_zero, List.setIfInBounds_toArray, List.set_cons_zero, List.set_cons_succ]))
          (refine wpAnyH_take (i := 29) (v := ?_) rfl (by kernel_rfl) (by kernel_rfl) (by kernel_rfl) (fun _ _ _ h => h) (Or.inl ⟨by rfl, ?_⟩) (by assumption) ?_; rotate_left; (focus (intro w hSw; (try dsimp only at hSw); go_simp; first | done | with_reducible rfl)); (try simp only [Act.put, List.getElem_toArray, List.getElem_cons_succ, List.getElem_cons_zero, List.setIfInBounds_toArray, List.set_cons_zero, List.set_cons_succ]))
          (refine wpAnyH_take (i := 30) (v := ?_) rfl (by kernel_rfl) (by kernel_rfl) (by kernel_rfl) (fun _ _ _ h => h) (Or.inl ⟨by rfl, ?_⟩) (by assumption) ?_; rotate_left; (focus (intro w hSw; (try dsimp only at hSw); go_simp; first | done | with_reducible rfl)); (try simp only [Act.put, List.getElem_toArray, List.getElem_cons_succ, List.getElem_cons_zero, List.setIfInBounds_toArray, List.set_cons_zero, List.set_cons_succ]))
          (refine wpAnyH_take (i := 31) (v := ?_) rfl (by kernel_rfl) (by kernel_rfl) (by kernel_rfl) (fun _ _ _ h => h) (Or.inl ⟨by rfl, ?_⟩) (by assumption) ?_; rotate_left; (focus (intro w hSw; (try dsimp only at hSw); go_simp; first | done | with_reducible rfl)); (try simp only [Act.put, List.getElem_toArray, List.getElem_cons_succ, List.getElem_cons_zero, List.setIfInBounds_toArray, List.set_cons_zero, List.set_cons_succ]))
          (refine wpAnyH_take (i := 32) (v := ?_) rfl (by kernel_rfl) (by kernel_rfl) (by kernel_rfl) (fun _ _ _ h => h) (Or.inl ⟨by rfl, ?_⟩) (by assumption) ?_; rotate_left; (focus (intro w hSw; (try dsimp only at hSw); go_simp; first | done | with_reducible rfl)); (try simp only [Act.put, List.getElem_toArray, List.getElem_cons_succ, List.getElem_cons_zero, List.setIfInBounds_toArray, List.set_cons_zero, List.set_cons_succ]))
          (refine wpAnyH_take (i := 33) (v := ?_) rfl (by kernel_rfl) (by kernel_rfl) (by kernel_rfl) (fun _ _ _ h => h) (Or.inl ⟨by rfl, ?_⟩) (by assumption) ?_; rotate_left; (focus (intro w hSw; (try dsimp only at hSw); go_simp; first | done | with_reducible rfl)); (try simp only [Act.put, List.getElem_toArray, List.getElem_cons_succ, List.getElem_cons_zero, List.setIfInBounds_toArray, List.set_cons_zero, List.set_cons_succ]))
          (refine wpAnyH_take (i := 34) (v := ?_) rfl (by kernel_rfl) (by kernel_rfl) (by kernel_rfl) (fun _ _ _ h => h) (Or.inl ⟨by rfl, ?_⟩) (by assumption) ?_; rotate_left; (focus (intro w hSw; (try dsimp only at hSw); go_simp; first | done | with_reducible rfl)); (try simp only [Act.put, List.getElem_toArray, List.getElem_cons_succ, List.getElem_cons_zero, List.setIfInBounds_toArray, List.set_cons_zero, List.set_cons_succ]))
          (refine wpAnyH_take (i := 35) (v := ?_) rfl (by kernel_rfl) (by kernel_rfl) (by kernel_rfl) (fun _ _ _ h => h) (Or.inl ⟨by rfl, ?_⟩) (by assumption) ?_; rotate_left; (focus (intro w hSw; (try dsimp only at hSw); go_simp; first | done | with_reducible rfl)); (try simp only [Act.put, List.getElem_toArray, List.getElem_cons_succ, List.getElem_cons_zero, List.setIfInBounds_toArray, List.set_cons_zero, List.set_cons_succ]))
          (refine wpAnyH_take (i := 36) (v := ?_) rfl (by kernel_rfl) (by kernel_rfl) (by kernel_rfl) (fun _ _ _ h => h) (Or.inl ⟨by rfl, ?_⟩) (by assumption) ?_; rotate_left; (focus (intro w hSw; (try dsimp only at hSw); go_simp; first | done | with_reducible rfl)); (try simp only [Act.put, List.getElem_toArray, List.getElem_cons_succ, List.getElem_cons_zero, List.setIfInBounds_toArray, List.set_cons_zero, List.set_cons_succ]))
          (refine wpAnyH_take (i := 37) (v := ?_) rfl (by kernel_rfl) (by kernel_rfl) (by kernel_rfl) (fun _ _ _ h => h) (Or.inl ⟨by rfl, ?_⟩) (by assumption) ?_; rotate_left; (focus (intro w hSw; (try dsimp only at hSw); go_simp; first | done | with_reducible rfl)); (try simp only [Act.put, List.getElem_toArray, List.getElem_cons_succ, List.getElem_cons_zero, List.setIfInBounds_toArray, List.set_cons_zero, List.set_cons_succ]))
          (refine wpAnyH_take (i := 38) (v := ?_) rfl (by kernel_rfl) (by kernel_rfl) (by kernel_rfl) (fun _ _ _ h => h) (Or.inl ⟨by rfl, ?_⟩) (by assumption) ?_; rotate_left; (focus (intro w hSw; (try dsimp only at hSw); have kf0 := kept hSw a0; have kf1 := kept hSw a1; go_simp; first | done | with_reducible rfl)); (try simp only [Act.put, List.getElem_toArray, List.getElem_cons_succ, List.getElem_cons_zero, List.setIfInBounds_toArray, List.set_cons_zero, List.set_cons_succ]))
          (refine wpAnyH_take (i := 39) (v := ?_) rfl (by kernel_rfl) (by kernel_rfl) (by kernel_rfl) (fun _ _ _ h => h) (Or.inl ⟨by rfl, ?_⟩) (by assumption) ?_; rotate_left; (focus (intro w hSw; (try dsimp only at hSw); have kf0 := kept hSw b0; have kf1 := kept hSw b1; go_simp; first | done | with_reducible rfl)); (try simp only [Act.put, List.getElem_toArray, List.getElem_cons_succ, List.getElem_cons_zero, List.setIfInBounds_toArray, List.set_cons_zero, List.set_cons_succ]))
          (refine wpAnyH_take (i := 40) (v := ?_) rfl (by kernel_rfl) (by kernel_rfl) (by kernel_rfl) (fun _ _ _ h => h) (Or.inl ⟨by rfl, ?_⟩) (by assumption) ?_; rotate_left; (focus (intro w hSw; (try dsimp only at hSw); have kf0 := kept hSw c0; have kf1 := kept hSw c1; go_simp; first | done | with_reducible rfl)); (try simp only [Act.put, List.getElem_toArray, List.getElem_cons_succ, List.getElem_cons_zero, List.setIfInBounds_toArray, List.set_cons_zero, List.set_cons_succ]))
          refine wpAnyH_ready (rs := [41]) (by kernel_rfl) (by simp) ?_
          refine (AllReadyH.cons rfl (fun K3 hK3 => ?_) AllReadyH.nil)
          go_simp
          refine hK3.out _ _ (HQ.out.alloc HQ.out.size _) (fun _ => ?_)
          clear hK3 K3
          (try simp only [Act.put, List.getElem_toArray, List.getElem_cons_succ, List.getElem_cons_zero, List.setIfInBounds_toArray, List.set_cons_zero, List.set_cons_succ])
          have HSB := hide (show Rd (wb.alloc (.cells #[.int .i64 1, .int .u64 0, .int .i64 2, .int .u64 0, .int .i64 3, .int .u64 0] 34)) (wb.alloc (.cells #[.int .i64 1, .int .u64 0, .int .i64 2, .int .u64 0, .int .i64 3, .int .u64 0] 34)).heap.size 2 (some ⟨wb.heap.size, 0, none⟩) 3 (Cs encE [(1, 0), (2, 0), (3, 0)]) from (Rd.new wb #[.int .i64 1, .int .u64 0, .int .i64 2, .int .u64 0, .int .i64 3, .int .u64 0] 34 2 3 rfl).more (by simp))
          replace HQ := hide (HQ.out.alloc HQ.out.size (.cells #[.int .i64 1, .int .u64 0, .int .i64 2, .int .u64 0, .int .i64 3, .int .u64 0] 34))
          generalize wb.alloc (.cells #[.int .i64 1, .int .u64 0, .int .i64 2, .int .u64 0, .int .i64 3, .int .u64 0] 34) = wc at *
          refine wpAnyH_ready (rs := [42]) (by kernel_rfl) (by simp) ?_
          refine (AllReadyH.cons rfl (fun K4 hK4 => ?_) AllReadyH.nil)
          go_simp
          have HE1 := hide (show Calls Tryd.prog 12 #[.slice At 3 ct, .slice (some ⟨wb.heap.size, 0, none⟩) 3 3] wc _ from EqualE wq.heap.size wc.heap.size At (some ⟨wb.heap.size, 0, none⟩) ct 3 [(1, 0), (2, 0), (3, 0)] [(1, 0), (2, 0), (3, 0)] wc (HTK.out.below HQ.out) HSB.out HQ.out.size (Nat.le_refl _) (by simp) (by simp) true (by decide))
          with_reducible refine HE1.out.mono ?_
          rintro e we ⟨rfl, hbe⟩
          replace HQ := hide (HQ.out.trans (hbe.mono HQ.out.size))
          clear hbe HE1 HSB
          refine hK4.out _ _ (HQ.out) (fun _ => ?_)
          clear hK4 K4
          (try simp only [Act.put, List.getElem_toArray, List.getElem_cons_succ, List.getElem_cons_zero, List.setIfInBounds_toArray, List.set_cons_zero, List.set_cons_succ])
          (refine wpAnyH_take (i := 43) (v := ?_) rfl (by kernel_rfl) (by kernel_rfl) (by kernel_rfl) (fun _ _ _ h => h) (Or.inl ⟨by rfl, ?_⟩) (by assumption) ?_; rotate_left; (focus (intro w hSw; (try dsimp only at hSw); go_simp; first | done | with_reducible rfl)); (try simp only [Act.put, List.getElem_toArray, List.getElem_cons_succ, List.getElem_cons_zero, List.setIfInBounds_toArray, List.set_cons_zero, List.set_cons_succ]))
          (refine wpAnyH_take (i := 44) (v := ?_) rfl (by kernel_rfl) (by kernel_rfl) (by kernel_rfl) (fun _ _ _ h => h) (Or.inl ⟨by rfl, ?_⟩) (by assumption) ?_; rotate_left; (focus (intro w hSw; (try dsimp only at hSw); go_simp; first | done | with_reducible rfl)); (try simp only [Act.put, List.getElem_toArray, List.getElem_cons_succ, List.getElem_cons_zero, List.setIfInBounds_toArray, List.set_cons_zero, List.set_cons_succ]))
          (refine wpAnyH_take (i := 45) (v := ?_) rfl (by kernel_rfl) (by kernel_rfl) (by kernel_rfl) (fun _ _ _ h => h) (Or.inl ⟨by rfl, ?_⟩) (by assumption) ?_; rotate_left; (focus (intro w hSw; (try dsimp only at hSw); have kf0 := kept hSw l0; have kf1 := kept hSw l1; have kf2 := kept hSw l2; have kf3 := kept hSw l3; go_simp; first | done | with_reducible rfl)); (try simp only [Act.put, List.getElem_toArray, List.getElem_cons_succ, List.getElem_cons_zero, List.setIfInBounds_toArray, List.set_cons_zero, List.set_cons_succ]))
          refine wpAnyH_ready (rs := [46]) (by kernel_rfl) (by simp) ?_
          refine (AllReadyH.cons rfl (fun K5 hK5 => ?_) AllReadyH.nil)
          go_simp
          refine (HHD.out we HQ.out).mono ?_
          rintro e wf ⟨vh, rfl, hoh, hbf⟩
          obtain ⟨Ah, ch, rfl, _⟩ := own_form hoh
          replace HQ := hide (HQ.out.trans (hbf.mono HQ.out.size))
          clear hbf
          refine hK5.out _ _ (HQ.out) (fun _ => ?_)
          clear hK5 K5
          (try simp only [Act.put, List.getElem_toArray, List.getElem_cons_succ, List.getElem_cons_zero, List.setIfInBounds_toArray, List.set_cons_zero, List.set_cons_succ])
          (refine wpAnyH_take (i := 47) (v := ?_) rfl (by kernel_rfl) (by kernel_rfl) (by kernel_rfl) (fun _ _ _ h => h) (Or.inl ⟨by rfl, ?_⟩) (by assumption) ?_; rotate_left; (focus (intro w hSw; (try dsimp only at hSw); go_simp; first | done | with_reducible rfl)); (try simp only [Act.put, List.getElem_toArray, List.getElem_cons_succ, List.getElem_cons_zero, List.setIfInBounds_toArray, List.set_cons_zero, List.set_cons_succ]))
          (refine wpAnyH_take (i := 48) (v := ?_) rfl (by kernel_rfl) (by kernel_rfl) (by kernel_rfl) (fun _ _ _ h => h) (Or.inl ⟨by rfl, ?_⟩) (by assumption) ?_; rotate_left; (focus (intro w hSw; (try dsimp only at hSw); go_simp; first | done | with_reducible rfl)); (try simp only [Act.put, List.getElem_toArray, List.getElem_cons_succ, List.getElem_cons_zero, List.setIfInBounds_toArray, List.set_cons_zero, List.set_cons_succ]))
          (refine wpAnyH_take (i := 49) (v := ?_) rfl (by kernel_rfl) (by kernel_rfl) (by kernel_rfl) (fun _ _ _ h => h) (Or.inl ⟨by rfl, ?_⟩) (by assumption) ?_; rotate_left; (focus (intro w hSw; (try dsimp only at hSw); go_simp; first | done | with_reducible rfl)); (try simp only [Act.put, List.getElem_toArray, List.getElem_cons_succ, List.getElem_cons_zero, List.setIfInBounds_toArray, List.set_cons_zero, List.set_cons_succ]))
          (refine wpAnyH_take (i := 50) (v := ?_) rfl (by kernel_rfl) (by kernel_rfl) (by kernel_rfl) (fun _ _ _ h => h) (Or.inl ⟨by rfl, ?_⟩) (by assumption) ?_; rotate_left; (focus (intro w hSw; (try dsimp only at hSw); go_simp; first | done | with_reducible rfl)); (try simp only [Act.put, List.getElem_toArray, List.getElem_cons_succ, List.getElem_cons_zero, List.setIfInBounds_toArray, List.set_cons_zero, List.set_cons_succ]))
          refine wpAnyH_done (by kernel_rfl) ?_ _
          go_wp2_with fail
          go_meet
          case rel => exact ⟨rfl, HQ.out⟩
      case rest =>
        rename_i K hK
        refine hK _ _ ?_
        clear hK K
        obtain ⟨wf, hwf⟩ : ∃ w, w = wc := ⟨_, rfl⟩
        subst hwf
        obtain ⟨rfl, hb⟩ := hcut
        have HF := hide (HB4.out.trans (hb.mono HB4.out.size))
        go_wp2_with fail
        go_ret
        exact ⟨rfl, HF.out⟩
end Go.Proofs.YthnpcmigphpolaaDoor
