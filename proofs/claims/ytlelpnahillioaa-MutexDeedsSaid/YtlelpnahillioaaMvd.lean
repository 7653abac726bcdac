/-
  The law's: mutexes written over.
-/
import Derived.Test.YtlelpnahillioaaMvp
set_option linter.unusedSimpArgs false
set_option linter.unusedVariables false
namespace Go.Proofs.Ytlelpnahillioaa
open Go Go.RowKit
attribute [local go_sem] via_cell via_frozen

/-- What lies between two bounds alone is written. -/
structure Betw (lo hi : Nat) (w w' : World) : Prop where
  os : w'.os = w.os
  tape : w'.tape = w.tape
  output : w'.output = w.output
  size : w'.heap.size = w.heap.size
  block : ∀ j, (j < lo ∨ hi ≤ j) → w'.heap[j]? = w.heap[j]?
theorem Betw.refl (lo hi : Nat) (w : World) : Betw lo hi w w := ⟨rfl, rfl, rfl, rfl, fun _ _ => rfl⟩
theorem Betw.set {lo hi : Nat} {a w : World} (h : Betw lo hi a w) {b i : Nat} {v : Value} (h1 : lo ≤ b) (h2 : b < hi) : Betw lo hi a (w.setCell ⟨b, i, none⟩ v) :=
  ⟨h.os, h.tape, h.output, by rw [← h.size]; simp [World.setCell], fun j hj => (heap_setCell_ne _ _ _ _ (by show j ≠ b; omega)).trans (h.block j hj)⟩
theorem Betw.below {lo hi : Nat} {w w' : World} (h : Betw lo hi w w') : Below lo w w' := ⟨h.os, h.tape, h.output, Nat.le_of_eq h.size.symm, fun j hj => h.block j (.inl hj)⟩
theorem Own.betw {b lo hi : Nat} {w w' : World} {A : Option Addr} {m c : Nat} {l : Ml} (h : Own b w A m c l) (hb : Betw lo hi w w') (hh : hi ≤ b) : Own b w' A m c l := by
  obtain ⟨ts, h1, h2, h3⟩ := h.ex
  exact ⟨ts, h1, h2, h3.other (Nat.le_of_eq hb.size.symm) (fun j hj _ => hb.block j (.inr (Nat.le_trans hh hj)))⟩
theorem int_set {cs : Array Value} {i j : Nat} {y : Int} (h : ∃ x : Int, cs[j]? = some (.int .i64 x)) : ∃ x : Int, (cs.setIfInBounds i (.int .i64 y))[j]? = some (.int .i64 x) := by
  obtain ⟨x, hx⟩ := h
  rw [Array.getElem?_setIfInBounds]
  by_cases e : i = j
  · subst e
    have hlt := (Array.getElem?_eq_some_iff.1 hx).1
    rw [if_pos rfl, if_pos hlt]
    exact ⟨y, rfl⟩
  · rw [if_neg e]; exact ⟨x, hx⟩
structure SpQ (base top gl : Nat) (t : Mm) (w : World) : Prop where
  ex : 0 < t.q.length → ∃ b o cs, t.A = some ⟨b, o, none⟩ ∧ base ≤ b ∧ b < top ∧ b ≠ gl ∧ RowAt w b 3 cs ∧ ∀ j, j < t.q.length → ∃ x : Int, cs[o + j]? = some (.int .i64 x)
structure SpI (base top gl m : Nat) (hs : List Mm) (w : World) : Prop where
  row : ∃ cs, RowAt w gl 47 cs ∧ ∀ k, k < m → (∃ x : Int, cs[k * 2]? = some (.int .i64 x)) ∧ cs[k * 2 + 1]? = some (.slice (hs.getD k mmZ).A (hs.getD k mmZ).q.length (hs.getD k mmZ).c)
  bd : base ≤ gl ∧ gl < top
  qs : ∀ k, k < m → SpQ base top gl (hs.getD k mmZ) w
theorem SpI.setWho {base top gl m : Nat} {hs : List Mm} {w : World} (h : SpI base top gl m hs w) {k : Nat} (hk : k < m) (y : Int) : SpI base top gl m hs (w.setCell ⟨gl, k * 2, none⟩ (.int .i64 y)) := by
  obtain ⟨cs, h1, h2⟩ := h.row
  refine ⟨⟨_, h1.set (k * 2) (.int .i64 y), fun k' hk' => ⟨int_set (h2 k' hk').1, ?_⟩⟩, h.bd, fun k' hk' => ⟨fun h0 => ?_⟩⟩
  · rw [Array.getElem?_setIfInBounds, if_neg (by omega)]; exact (h2 k' hk').2
  · obtain ⟨b, o, cq, e, a1, a2, a3, a4, a5⟩ := (h.qs k' hk').ex h0
    exact ⟨b, o, cq, e, a1, a2, a3, a4.setNe a3, a5⟩
theorem SpI.setQ {base top gl m : Nat} {hs : List Mm} {w : World} (h : SpI base top gl m hs w) {b i : Nat} (hb : b ≠ gl) (y : Int) : SpI base top gl m hs (w.setCell ⟨b, i, none⟩ (.int .i64 y)) := by
  obtain ⟨cs, h1, h2⟩ := h.row
  refine ⟨⟨cs, h1.setNe (fun e => hb e.symm), h2⟩, h.bd, fun k' hk' => ⟨fun h0 => ?_⟩⟩
  obtain ⟨b', o, cq, e, a1, a2, a3, a4, a5⟩ := (h.qs k' hk').ex h0
  by_cases e2 : b' = b
  · subst e2
    exact ⟨b', o, _, e, a1, a2, a3, a4.set i (.int .i64 y), fun j hj => int_set (a5 j hj)⟩
  · exact ⟨b', o, cq, e, a1, a2, a3, a4.setNe e2, a5⟩
theorem SpI.below {base top gl m : Nat} {hs : List Mm} {w w' : World} (h : SpI base top gl m hs w) (hb : Below top w w') : SpI base top gl m hs w' := by
  obtain ⟨cs, h1, h2⟩ := h.row
  refine ⟨⟨cs, h1.belowB h.bd.2 hb, h2⟩, h.bd, fun k' hk' => ⟨fun h0 => ?_⟩⟩
  obtain ⟨b', o, cq, e, a1, a2, a3, a4, a5⟩ := (h.qs k' hk').ex h0
  exact ⟨b', o, cq, e, a1, a2, a3, a4.belowB a2 hb, a5⟩
theorem SpI.of {base gl m c : Nat} {ts : List Mm} {w : World} (h : MadeM base w (.slice (some ⟨gl, 0, none⟩) m c) ts) (hm : ts.length = m) (h0 : 0 < m) : SpI base w.heap.size gl m ts w := by
  obtain ⟨gl2, cur, e, hge, hrow, _⟩ := made_head h hm h0
  injection e with e
  injection e with e
  subst e
  refine ⟨⟨cur, hrow, fun k hk => ?_⟩, ⟨hge, hrow.lt⟩, fun k hk => ⟨fun hq0 => ?_⟩⟩
  · obtain ⟨a1, a2, _, _⟩ := made_at h hm hk
    rw [hrow.cell] at a1 a2
    exact ⟨⟨_, a1⟩, a2⟩
  · have hq := h.qs _ (getM_mem (by rw [hm]; exact hk))
    generalize ts.getD k mmZ = t at *
    obtain ⟨b, o, hA, _, hc⟩ := hq.rd.2 (by omega)
    obtain ⟨f1, f2, f3, cs, f4⟩ := hq.fr _ hA
    refine ⟨b, o, cs, hA, f1, f2, fun e => f3 (by rw [← e]; rfl), f4, fun j hj => ?_⟩
    have h2 := hc j (.int .i64 t.q[j]) (by
      have := Cs_at encI_len t.q j 0 hj (by omega)
      simpa [encI] using this)
    rw [show w.cell? ⟨b, o + j, none⟩ = cs[o + j]? from RowAt.cell f4 _] at h2
    exact ⟨_, h2⟩
set_option maxHeartbeats 4000000 in
theorem spoil_any (base : Nat) (A : Option Addr) (c m : Nat) (l : Ml) (Wa W : World) (h : Own base Wa A m c l) (hs : SmallL l) (hb : Below Wa.heap.size Wa W) :
    Calls Try.prog 17 #[.slice A m c] W fun e W' => e = .returned (.tuple #[]) ∧ Betw base Wa.heap.size W W' := by
  obtain ⟨ts, h1, h2, h3⟩ := h.ex
  have hm : m ≤ 4096 := by have := hs.1; rw [← h1, mus_len, h2] at this; exact this
  have HQL := hide (show ∀ k, k < m → (ts.getD k mmZ).q.length ≤ 4096 from fun k hk => hs.2 (ts.getD k mmZ).mu (by rw [← h1]; exact List.mem_map_of_mem (getM_mem (by rw [h2]; exact hk))))
  by_cases h0 : 0 < m
  case neg =>
    obtain rfl : m = 0 := by omega
    clear h h1 h2 h3 hs hb h0 HQL
    go_enter Try.func17, Try.ntmps17
    go_wp2_with fail
    go_loopw [6] (fun i wr => i = .int .i64 0 ∧ wr = W) (fun _ _ => 0)
    case atStart => exact ⟨rfl, rfl⟩
    case round =>
      obtain ⟨rfl, rfl⟩ := hrel
      go_wp2_with fail
      go_end0
      exact ⟨rfl, Betw.refl _ _ _⟩
  obtain ⟨gl, cur, rfl, _, _, _⟩ := made_head h3 h2 h0
  have HI := hide ((SpI.of h3 h2 h0).below hb)
  obtain ⟨top, htop⟩ : ∃ x, Wa.heap.size = x := ⟨_, rfl⟩
  have HGL := hide HI.out.bd
  have HT := hide (show top ≤ W.heap.size from by rw [← htop]; exact hb.size)
  rw [htop] at HI HGL ⊢
  clear h h1 h2 h3 hs hb h0 htop
  go_enter Try.func17, Try.ntmps17
  go_wp2_with fail
  go_loopw [6] (fun i wr => ∃ k : Nat, k ≤ m ∧ i = .int .i64 k ∧ SpI base top gl m ts wr ∧ Betw base top W wr) (fun i _ => m - (intOf i).toNat)
  case atStart => exact ⟨0, Nat.zero_le _, rfl, HI.out, Betw.refl _ _ _⟩
  case round =>
    obtain ⟨k, hk, rfl, hsp, hbw⟩ := hrel
    have HS := hide hsp
    have HBW := hide hbw
    clear hsp hbw
    by_cases hlt : k < m
    · have hkI : (k : Int) < (m : Int) := by omega
      obtain ⟨cs, hrow, hcs⟩ := HS.out.row
      obtain ⟨⟨x, hx⟩, hh⟩ := hcs k hlt
      have d0 := (hrow.cell (k * 2)).trans hx
      have df := hrow.frozen (k * 2)
      have dl := hrow.lt
      have HS1 := hide (HS.out.setWho hlt (wrap64 (x + 1)))
      have HB1 := hide (HBW.out.set (b := gl) (i := k * 2) (v := .int .i64 (wrap64 (x + 1))) HGL.out.1 HGL.out.2)
      obtain ⟨cs1, hrow1, hcs1⟩ := HS1.out.row
      have d1 := (hrow1.cell (k * 2 + 1)).trans (hcs1 k hlt).2
      have hq := HQL.out k hlt
      have HQ1 := hide (fun w (hw : SpI base top gl m ts w) => (hw.qs k hlt).ex)
      have HR1 := hide (fun w (hw : SpI base top gl m ts w) => hw.row)
      obtain ⟨t, ht⟩ : ∃ t, ts.getD k mmZ = t := ⟨_, rfl⟩
      have HTE := hide ht
      rw [ht] at d1 hq HQ1
      obtain ⟨tw, tA, tc, tq⟩ := t
      dsimp only at *
      obtain ⟨tn, htn⟩ : ∃ n, tq.length = n := ⟨_, rfl⟩
      have HTN := hide htn
      rw [htn] at d1 hq HQ1
      clear hrow hcs hx hh hrow1 hcs1 ht htn
      go_upto_region 4 with (fail)
      have dl1 : gl < (wr.setCell ⟨gl, k * 2, none⟩ (.int .i64 (wrap64 (x + 1)))).heap.size := by simpa [World.setCell] using dl
      generalize (wr.setCell ⟨gl, k * 2, none⟩ (.int .i64 (wrap64 (x + 1)))) = w2 at *
      clear d0 df dl HS HBW
      go_wp2_with fail
      clear d1 dl1
      go_loopw [23] (fun i wr2 => ∃ j : Nat, j ≤ tn ∧ i = .int .i64 j ∧ SpI base top gl m ts wr2 ∧ Betw base top W wr2) (fun i _ => tn - (intOf i).toNat)
      case atStart => exact ⟨0, Nat.zero_le _, rfl, HS1.out, HB1.out⟩
      case round =>
        obtain ⟨j, hj, rfl, hsp, hbw⟩ := hrel
        have HS2 := hide hsp
        have HBW2 := hide hbw
        clear hsp hbw
        by_cases hlt2 : j < tn
        · have hjI : (j : Int) < (tn : Int) := by omega
          obtain ⟨cs2, hrow2, hcs2⟩ := HS2.out.row
          have d1 := (hrow2.cell (k * 2 + 1)).trans (hcs2 k hlt).2
          rw [HTE.out] at d1
          dsimp only at d1
          rw [HTN.out] at d1
          have dl := hrow2.lt
          obtain ⟨b, o, cq, hA, hb1, hb2, hb3, hb4, hb5⟩ := HQ1.out _ HS2.out (by omega)
          subst hA
          obtain ⟨y, hy⟩ := hb5 j hlt2
          have e0 := (hb4.cell (o + j)).trans hy
          have ef := hb4.frozen (o + j)
          have el := hb4.lt
          have HS3 := hide (HS2.out.setQ (i := o + j) hb3 (wrap64 (y + 1)))
          have HB3 := hide (HBW2.out.set (i := o + j) (v := .int .i64 (wrap64 (y + 1))) hb1 hb2)
          clear hrow2 hcs2 hb1 hb2 hb3 hb4 hb5 hy
          go_wp2_with fail
          go_roundw
          case rel => exact ⟨j + 1, by omega, by go_num, HS3.out, HB3.out⟩
          case measure => simp [intOf]; omega
        · go_wp2_with fail
          go_roundw
          case rel => exact ⟨k + 1, by omega, by go_num, HS2.out, HBW2.out⟩
          case measure => simp [intOf]; omega
    · go_wp2_with fail
      go_end0
      exact ⟨rfl, HBW.out⟩
end Go.Proofs.Ytlelpnahillioaa
