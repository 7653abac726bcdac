/-
  A table split, over the hand.
-/
import Derived.Test.YtjlbnegdiabglaaDin
set_option linter.unusedSimpArgs false
set_option linter.unusedVariables false
namespace Go.Proofs.Ytjlbnegdiabglaa
open Go Go.RowKit
attribute [local go_sem] via_cell via_frozen

/-- Stands x apart from both? -/
def apartB (low high x : En) : Bool := !decide (x.1 = low.1) && !decide (x.1 = high.1)
theorem apart_any (gl gg : Nat) (low high : En) (W : World) (hl : RowAt W gl 31 #[.int .i64 low.1, .int .u64 low.2]) (hh : RowAt W gg 31 #[.int .i64 high.1, .int .u64 high.2]) :
    ClosP 68 #[.pointer (some ⟨gl, 0, none⟩), .pointer (some ⟨gg, 0, none⟩)] vE (apartB low high) (fun _ => True) W := by
  intro w x hb _
  have q0 := row20 (hl.below hb)
  have ql := (hl.below hb).lt
  have p0 := row20 (hh.below hb)
  have pl := (hh.below hb).lt
  have hB1 : Below w.heap.size w (w.alloc (.cells #[.int .i64 x.1, .int .u64 x.2] 31)) := (Below.refl _ _).alloc (Nat.le_refl _) _
  have HB1 := hide hB1
  obtain ⟨b1, hb1⟩ : ∃ b, (x.1 != low.1) = b := ⟨_, rfl⟩
  obtain ⟨b2, hb2⟩ : ∃ b, (x.1 != high.1) = b := ⟨_, rfl⟩
  have HP := hide (show apartB low high x = (b1 && b2) from by rw [← hb1, ← hb2]; unfold apartB; congr 1 <;> (rw [Bool.eq_iff_iff]; simp))
  rw [HP.out]
  clear hB1 hl hh hb
  cases b1
  · go_enter Try.func68, Try.ntmps68
    go_wp2_with fail
    go_ret
    exact ⟨rfl, HB1.out⟩
  · go_enter Try.func68, Try.ntmps68
    go_wp2_with fail
    go_ret
    exact ⟨ret_bool (by simp), HB1.out⟩
/-- The first half of a span becomes the one, the second half the other. -/
def spl (low high : En) (f half : Nat) : Nat → List En → List En
  | 0, es => es
  | i + 1, es => ((spl low high f half i es).set (f + i) low).set (f + half + i) high
theorem spl_length (low high : En) (f half : Nat) : ∀ i es, (spl low high f half i es).length = es.length
  | 0, _ => rfl
  | i + 1, es => by unfold spl; rw [List.length_set, List.length_set, spl_length low high f half i es]
theorem Cs_set (es : List En) (k : Nat) (x : En) : Cs encE (es.set k x) = ((Cs encE es).set (k * 2) (.int .i64 x.1)).set (k * 2 + 1) (.int .u64 x.2) := by
  induction es generalizing k with
  | nil => rfl
  | cons e es ih =>
    cases k with
    | zero => rfl
    | succ k =>
      have h := ih k
      simp only [Cs, encE] at h ⊢
      simp only [List.set_cons_succ, List.flatMap_cons, h]
      rw [show (k + 1) * 2 = k * 2 + 2 by omega, show k * 2 + 2 + 1 = k * 2 + 1 + 2 by omega]
      rfl
/-- An entry of an own row stored. -/
theorem own_put {w : World} {base g n c : Nat} {es : List En} (h : w.ownsRow base 31 2 (.slice (some ⟨g, 0, none⟩) n c) n (Cs encE es)) (k : Nat) (hk : k < n) (x : En) :
    ((w.setCell ⟨g, k * 2, none⟩ (.int .i64 x.1)).setCell ⟨g, k * 2 + 1, none⟩ (.int .u64 x.2)).ownsRow base 31 2 (.slice (some ⟨g, 0, none⟩) n c) n (Cs encE (es.set k x)) := by
  obtain ⟨h0, (⟨h1, h2⟩ | ⟨gg, cap, cur, hv, hge, hh, hcap, hmax, hsz, htk⟩)⟩ := h
  · omega
  · injection hv with hv1 hv2 hv3
    injection hv1 with hv1
    injection hv1 with hv1
    subst hv1; subst hv3
    refine ⟨by rw [Cs_set, List.length_set, List.length_set, h0], .inr ⟨g, c, _, rfl, hge, ((show RowAt w g 31 cur from hh).set (k * 2) (.int .i64 x.1)).set (k * 2 + 1) (.int .u64 x.2), hcap, hmax, by simpa using hsz, ?_⟩⟩
    rw [Cs_set, ← htk]
    simp only [Array.toList_setIfInBounds]
    rw [List.take_set, List.take_set]
theorem own_cellsE {w : World} {base g n c : Nat} {es : List En} (h : w.ownsRow base 31 2 (.slice (some ⟨g, 0, none⟩) n c) n (Cs encE es)) (hn : es.length = n) {k : Nat} (hk : k < n) :
    (∃ x : En, w.cell? ⟨g, k * 2, none⟩ = some (.int .i64 x.1) ∧ w.cell? ⟨g, k * 2 + 1, none⟩ = some (.int .u64 x.2)) ∧ g < w.heap.size ∧ (∀ i, w.frozen? ⟨g, i, none⟩ = false) ∧ base ≤ g := by
  have hrd := Rd.of_own h
  rw [← hn] at hrd hk
  obtain ⟨b, off, hb, _, hc⟩ := hrd.elem encE_len hk
  injection hb with hb
  injection hb with hb1 hb2 _
  subst hb1; subst hb2
  have e0 := hc 0 _ (by omega) rfl
  have e1 := hc 1 _ (by omega) rfl
  simp only [Nat.zero_add, Nat.add_zero] at e0 e1
  obtain ⟨h0, (⟨h1, h2⟩ | ⟨gg, cap, cur, hv, hge, hh, _⟩)⟩ := h
  · cases h1
  · injection hv with hv1 hv2 hv3
    injection hv1 with hv1
    injection hv1 with hv1
    subst hv1
    have hr : RowAt w g 31 cur := hh
    exact ⟨⟨_, e0, e1⟩, hr.lt, fun i => hr.frozen i, hge⟩
/-- What splitting comes to. -/
def splitO (dep : Int) (es : List En) (e low high : En) : Except Int (Int × List En) :=
  match ((runs es).map (rc dep)).find? (fun x => decide (x.e = e)) with
  | none => .error 4
  | some s =>
    if (okEnt low.1 low.2 && okEnt high.1 high.2 && !decide (low.1 = high.1)) = false then .error 2
    else if es.all (apartB low high) = false then .error 5
    else if s.many = 1 then
      (if dep < 5 then (match ((runs (dbl es)).map (rc (dep + 1))).find? (fun x => decide (x.e = e)) with
        | none => .error 4
        | some s => .ok (dep + 1, spl low high s.at_.toNat (s.many.toNat / 2) (s.many.toNat / 2) (dbl es))) else .error 342)
    else .ok (dep, spl low high s.at_.toNat (s.many.toNat / 2) (s.many.toNat / 2) es)
end Go.Proofs.Ytjlbnegdiabglaa
