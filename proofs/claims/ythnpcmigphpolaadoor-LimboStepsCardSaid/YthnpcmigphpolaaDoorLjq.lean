/-
  The law's: a limbo written over.
-/
import Derived.Test.YthnpcmigphpolaaDoorLjkp
set_option linter.unusedSimpArgs false
set_option linter.unusedVariables false
namespace Go.Proofs.YthnpcmigphpolaaDoor
open Go Go.RowKit
attribute [local go_sem] via_cell via_frozen

/-- What lies between two bounds alone is written, or is new. -/
structure Betw (lo hi : Nat) (w w' : World) : Prop where
  os : w'.os = w.os
  tape : w'.tape = w.tape
  output : w'.output = w.output
  size : w.heap.size ≤ w'.heap.size
  block : ∀ j, (j < lo ∨ hi ≤ j) → j < w.heap.size → w'.heap[j]? = w.heap[j]?
theorem Betw.refl (lo hi : Nat) (w : World) : Betw lo hi w w := ⟨rfl, rfl, rfl, Nat.le_refl _, fun _ _ _ => rfl⟩
theorem Betw.set {lo hi : Nat} {a w : World} (h : Betw lo hi a w) {b i : Nat} {v : Value} (h1 : lo ≤ b) (h2 : b < hi) : Betw lo hi a (w.setCell ⟨b, i, none⟩ v) :=
  ⟨h.os, h.tape, h.output, by simpa using h.size, fun j hj hs => (heap_setCell_ne _ _ _ _ (by show j ≠ b; omega)).trans (h.block j hj hs)⟩
theorem Betw.then {lo hi : Nat} {a w w' : World} (h : Betw lo hi a w) (hb : Below w.heap.size w w') : Betw lo hi a w' :=
  ⟨hb.os.trans h.os, hb.tape.trans h.tape, hb.output.trans h.output, Nat.le_trans h.size hb.size, fun j hj hs => (hb.block j (Nat.lt_of_lt_of_le hs h.size)).trans (h.block j hj hs)⟩
theorem Betw.of_below {lo hi : Nat} {a w : World} (hb : Below a.heap.size a w) : Betw lo hi a w := (Betw.refl lo hi a).then hb
theorem Betw.below {lo hi : Nat} {w w' : World} (h : Betw lo hi w w') (hl : lo ≤ w.heap.size) : Below lo w w' := ⟨h.os, h.tape, h.output, h.size, fun j hj => h.block j (.inl hj) (Nat.lt_of_lt_of_le hj hl)⟩
/-- The Gens of a limbo's rows, which lie between two bounds. -/
structure Gen3 (w : World) (lo hi : Nat) (A : Nat → Option Addr) (n : Nat → Nat) : Prop where
  row : ∀ k, k < 3 → 0 < n k → ∃ (g o : Nat) (cur : Array Value), A k = some ⟨g, o, none⟩ ∧ lo ≤ g ∧ g < hi ∧ RowAt w g 34 cur ∧ ∀ j, j < n k → ∃ z : Int, cur[o + (j * 2 + 1)]? = some (.int .u64 z)
theorem gen_set {cs : Array Value} {i j : Nat} {y : Int} (h : ∃ x : Int, cs[j]? = some (.int .u64 x)) : ∃ x : Int, (cs.setIfInBounds i (.int .u64 y))[j]? = some (.int .u64 x) := by
  obtain ⟨x, hx⟩ := h
  rw [Array.getElem?_setIfInBounds]
  by_cases e : i = j
  · subst e
    have hlt := (Array.getElem?_eq_some_iff.1 hx).1
    rw [if_pos rfl, if_pos hlt]
    exact ⟨y, rfl⟩
  · rw [if_neg e]; exact ⟨x, hx⟩
theorem Gen3.keep {w w' : World} {lo hi : Nat} {A : Nat → Option Addr} {n : Nat → Nat} (h : Gen3 w lo hi A n) (hk : ∀ g, lo ≤ g → g < hi → g < w.heap.size → w'.heap[g]? = w.heap[g]?) : Gen3 w' lo hi A n :=
  ⟨fun k hk3 h0 => by obtain ⟨g, o, cur, h1, h2, h3, h4, h5⟩ := h.row k hk3 h0; exact ⟨g, o, cur, h1, h2, h3, h4.heap (hk g h2 h3 h4.lt), h5⟩⟩
theorem Gen3.below {w w' : World} {lo hi : Nat} {A : Nat → Option Addr} {n : Nat → Nat} (h : Gen3 w lo hi A n) (hb : Below w.heap.size w w') : Gen3 w' lo hi A n := h.keep (fun g _ _ hs => hb.block g hs)
theorem Gen3.set {w : World} {lo hi g i : Nat} {A : Nat → Option Addr} {n : Nat → Nat} (h : Gen3 w lo hi A n) (y : Int) : Gen3 (w.setCell ⟨g, i, none⟩ (.int .u64 y)) lo hi A n :=
  ⟨fun k hk3 h0 => by
    obtain ⟨g', o, cur, h1, h2, h3, h4, h5⟩ := h.row k hk3 h0
    by_cases e : g' = g
    · subst e
      exact ⟨g', o, _, h1, h2, h3, h4.set i (.int .u64 y), fun j hj => gen_set (h5 j hj)⟩
    · exact ⟨g', o, cur, h1, h2, h3, h4.setNe e, h5⟩⟩
theorem Gen3.mono {w : World} {lo lo2 hi hi2 : Nat} {A : Nat → Option Addr} {n : Nat → Nat} (h : Gen3 w lo hi A n) (h1 : lo2 ≤ lo) (h2 : hi ≤ hi2) : Gen3 w lo2 hi2 A n :=
  ⟨fun k hk3 h0 => by obtain ⟨g, o, cur, a1, a2, a3, a4, a5⟩ := h.row k hk3 h0; exact ⟨g, o, cur, a1, Nat.le_trans h1 a2, Nat.lt_of_lt_of_le a3 h2, a4, a5⟩⟩
theorem Gen3.zero (w : World) (lo hi : Nat) : Gen3 w lo hi (fun _ => none) (fun _ => 0) := ⟨fun k _ h => absurd h (Nat.lt_irrefl 0)⟩
theorem Gen3.of_own {w : World} {base : Nat} {A : Nat → Option Addr} {n c : Nat → Nat} {r : Nat → List Ent} (h : LimOwn w base A n c r) : Gen3 w base w.heap.size A n := by
  refine ⟨fun k hk h0 => ?_⟩
  have hl := h.len k hk
  rcases (h.own k hk).2 with ⟨_, h1⟩ | ⟨g, o, cap, cur, hv, hb, hh, _, _, _, ht⟩
  · omega
  · injection hv with h1 h2 h3
    have hr : RowAt w g 34 cur := hh
    refine ⟨g, o, cur, h1, hb, hr.lt, hr, fun j hj => ?_⟩
    have hj2 : j < (r k).length := by omega
    have e1 := Cs_at encE_len (r k) j 1 hj2 (by omega)
    refine ⟨((r k)[j]).2, ?_⟩
    rw [← ht] at e1
    rw [List.getElem?_take] at e1
    split at e1
    · rw [List.getElem?_drop, Array.getElem?_toList] at e1; rw [e1]; rfl
    · simp [encE] at e1
set_option maxHeartbeats 4000000 in
theorem spoil_any (lo hi : Nat) (E : Nat) (A : Nat → Option Addr) (n c : Nat → Nat) (W : World) (h : Gen3 W lo hi A n) (hh : hi ≤ W.heap.size) (hm : ∀ k, k < 3 → n k ≤ 4096) :
    Calls Tryd.prog 22 #[.agg (limC E A n c)] W fun e W' => e = .returned (.tuple #[]) ∧ Betw lo hi W W' := by
  obtain ⟨w1, hw1⟩ : ∃ w1, W.alloc (.cells (limC E A n c) 26) = w1 := ⟨_, rfl⟩
  have b1 : Below W.heap.size W w1 := by rw [← hw1]; exact (Below.refl _ _).alloc (Nat.le_refl _) _
  have R1 := hide (show RowAt w1 W.heap.size 26 (limC E A n c) from by have h := RowAt.new W 26 (limC E A n c); rwa [hw1] at h)
  have HG0 := hide (h.below b1)
  have HB0 : Hid (Betw lo hi W w1) := hide (Betw.of_below b1)
  have HM := hide hm
  clear h hm b1 hh
  subst hw1
  go_enter Tryd.func22, Tryd.ntmps22
  go_wp2_with fail
  generalize W.alloc (.cells (limC E A n c) 26) = w2 at *
  have q1 : w2.cell? ⟨W.heap.size, 1, none⟩ = some (.slice (A 0) (n 0) (c 0)) := by have := R1.out.cell 1; simpa [limC] using this
  have q2 : w2.cell? ⟨W.heap.size, 2, none⟩ = some (.slice (A 1) (n 1) (c 1)) := by have := R1.out.cell 2; simpa [limC] using this
  have q3 : w2.cell? ⟨W.heap.size, 3, none⟩ = some (.slice (A 2) (n 2) (c 2)) := by have := R1.out.cell 3; simpa [limC] using this
  have ql := R1.out.lt
  go_wp2_with fail
  clear q1 q2 q3 ql R1
  go_loopw [7] (fun i wr => ∃ (k : Nat), k ≤ 3 ∧ i = .int .i64 (k : Int) ∧ Gen3 wr lo hi A n ∧ Betw lo hi W wr) (fun i _ => 3 - (intOf i).toNat)
  case atStart => exact ⟨0, by omega, rfl, HG0.out, HB0.out⟩
  case round =>
    obtain ⟨k, hk, rfl, hg1, hb1⟩ := hrel
    clear HG0 HB0
    have HG0 := hide hg1
    have HB0 := hide hb1
    clear hg1 hb1
    by_cases hlt : k < 3
    · have hki : (k : Int) < 3 := by omega
      have hix := index_rows A n c k hlt
      have hnm := HM.out k hlt
      obtain ⟨m, hmm⟩ : ∃ m, n k = m := ⟨_, rfl⟩
      have HMM := hide hmm
      rw [hmm] at hix hnm
      clear hmm
      go_wp2_with fail
      clear hix
      go_loopw [12] (fun i wr2 => ∃ (j : Nat), j ≤ m ∧ i = .int .i64 (j : Int) ∧ Gen3 wr2 lo hi A n ∧ Betw lo hi W wr2) (fun i _ => m - (intOf i).toNat)
      case atStart => exact ⟨0, by omega, rfl, HG0.out, HB0.out⟩
      case round =>
        obtain ⟨j, hj, rfl, hg1, hb1⟩ := hrel
        by_cases hlt2 : j < m
        · have hji : (j : Int) < (m : Int) := by omega
          obtain ⟨g, o, cur, hA, h1, h2, hrow, hcur⟩ := hg1.row k hlt (by rw [HMM.out]; omega)
          obtain ⟨z, hz⟩ := hcur j (by rw [HMM.out]; omega)
          have HG1 := hide (hg1.set (g := g) (i := o + (j * 2 + 1)) (IntKind.u64.wrap (z + 1)))
          have HB1 := hide (hb1.set (b := g) (i := o + (j * 2 + 1)) (v := .int .u64 (IntKind.u64.wrap (z + 1))) h1 h2)
          have d0 := (hrow.cell (o + (j * 2 + 1))).trans hz
          rw [← Nat.add_assoc] at d0 HG1 HB1
          have df := hrow.frozen (o + j * 2 + 1)
          have dl := hrow.lt
          clear hrow hcur hz hg1 hb1 HG0 HB0 h1 h2
          go_wp2_with fail
          go_roundw
          case rel => exact ⟨j + 1, by omega, by go_num, HG1.out, HB1.out⟩
          case measure => simp [intOf]; omega
        · obtain rfl : j = m := by omega
          have HG1 := hide hg1
          have HB1 := hide hb1
          clear hg1 hb1
          go_wp2_with fail
          go_roundw
          case rel => exact ⟨k + 1, by omega, by go_num, HG1.out, HB1.out⟩
          case measure => simp [intOf]; omega
    · obtain rfl : k = 3 := by omega
      go_wp2_with fail
      go_end0
      exact ⟨rfl, HB0.out⟩
end Go.Proofs.YthnpcmigphpolaaDoor
