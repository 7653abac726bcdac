/-
  The reference's Advance and Take.
-/
import Derived.Test.YthnpcmigphpolaaDoorLjn
set_option linter.unusedSimpArgs false
set_option linter.unusedVariables false
namespace Go.Proofs.YthnpcmigphpolaaDoor
open Go Go.RowKit
attribute [local go_sem] via_cell via_frozen

def valT : Except Int (Lim × Ent) → Lim
  | .ok x => x.1
  | .error _ => lim0
def entT : Except Int (Lim × Ent) → Ent
  | .ok x => x.2
  | .error _ => (0, 0)
def RefResT (W : World) (Q : Nat → Prop) (r : Except Int (Lim × Ent)) (e : Ending) (W' : World) : Prop := ∃ A' n' c', e = .returned (.tuple #[.agg (limC (valT r).E A' n' c'), .agg #[.int .i64 (entT r).1, .int .u64 (entT r).2], .int .i64 (errL r)]) ∧ LimRd W' W'.heap.size A' n' (valT r).r ∧ LowL Q W' A' ∧ CapL n' c' ∧ Below W.heap.size W W'
theorem refResT_err {W W' : World} {Q : Nat → Prop} {r : Except Int (Lim × Ent)} {k : Int} (hr : r = .error k) (hb : Below W.heap.size W W') : RefResT W Q r (.returned (.tuple #[.agg zeroC, .agg #[.int .i64 0, .int .u64 0], .int .i64 k])) W' := by
  subst hr
  exact ⟨fun _ => none, fun _ => 0, fun _ => 0, rfl, zero_rd W' _, fun k p _ h => (by cases h), CapL.zero, hb⟩
theorem refResT_ok {W W' : World} {Q : Nat → Prop} {r : Except Int (Lim × Ent)} {l : Lim} {s g : Int} {A' : Nat → Option Addr} {n' c' : Nat → Nat} (hr : r = .ok (l, (s, g))) (hd : LimRd W' W'.heap.size A' n' l.r) (hl : LowL Q W' A') (hcp : CapL n' c') (hb : Below W.heap.size W W') : RefResT W Q r (.returned (.tuple #[.agg (limC l.E A' n' c'), .agg #[.int .i64 s, .int .u64 g], .int .i64 0])) W' := by
  subst hr
  exact ⟨A', n', c', rfl, hd, hl, hcp, hb⟩
theorem of_two2 {l : Lim} {w : World} {B : Nat} {A : Nat → Option Addr} {n c : Nat → Nat} (h : LimRd w B A n l.r) (hcp : CapL n c) (hok : l.ok = true) (hm : ∀ k, k < 3 → n k ≤ 4096) : ∃ A2 m2 c2, (Calls Tryd.prog 27 #[.agg (limC l.E A n c), .int .u64 2] w fun e W' => e = .returned (.slice A2 m2 c2) ∧ Below w.heap.size w W') ∧ Rd w B 2 A2 m2 (Cs encE (l.at 2)) ∧ (l.at 2).length = m2 ∧ (m2 : Int) ≤ c2 ∧ (c2 : Int) ≤ 9223372036854775807 ∧ m2 ≤ 4096 := by
  have h1 := of_rd h 2
  rw [ofL_ok hok] at h1
  refine ⟨ofA l.E A 2, ofN l.E n 2, ofN l.E c 2, of_two (by have := (ok_out hok).1; unfold LAST at this; omega) w, h1.1, h1.2, ?_⟩
  have := hcp _ (rowN_lt l.E 2)
  have := hm _ (rowN_lt l.E 2)
  unfold ofN
  split
  · omega
  · omega
set_option maxHeartbeats 4000000 in
theorem radv_any (Q : Nat → Prop) (A : Nat → Option Addr) (n c : Nat → Nat) (l : Lim) (W : World) (h : LimRd W W.heap.size A n l.r) (hlo : LowL Q W A) (hl : ∀ j, W.heap.size ≤ j → Q j) (hok : l.ok = true) (hm : ∀ k, k < 3 → n k ≤ 4096) (hcp : CapL n c) :
    Calls Tryd.prog 19 #[.agg (limC l.E A n c)] W (RefRes W Q (doAdv l)) := by
  obtain ⟨w1, hw1⟩ : ∃ w1, W.alloc (.cells (limC l.E A n c) 26) = w1 := ⟨_, rfl⟩
  obtain ⟨w2, hw2⟩ : ∃ w2, w1.alloc (.cells zeroC 26) = w2 := ⟨_, rfl⟩
  have s1 : w1.heap.size = W.heap.size + 1 := by rw [← hw1]; simp
  have s2 : w2.heap.size = W.heap.size + 1 + 1 := by rw [← hw2]; simp [s1]
  have b1 : Below W.heap.size W w1 := by rw [← hw1]; exact (Below.refl _ _).alloc (Nat.le_refl _) _
  have b2 : Below w1.heap.size w1 w2 := by rw [← hw2]; exact (Below.refl _ _).alloc (Nat.le_refl _) _
  have r1 : RowAt w2 W.heap.size 26 (limC l.E A n c) := by have h := RowAt.new W 26 (limC l.E A n c); rw [hw1] at h; exact h.below b2
  have r2 : RowAt w2 (W.heap.size + 1) 26 zeroC := by have h := RowAt.new w1 26 zeroC; rw [hw2, s1] at h; exact h
  have hb0 := b1.trans (b2.mono b1.size)
  have HB := hide hb0
  have R1 := hide r1
  have R2 := hide r2
  have HD0 := hide h
  have HLO := hide hlo
  have HL := hide hl
  have HOK := hide hok
  have HM := hide hm
  have HCP := hide hcp
  obtain ⟨A2, m2, c2, hc2, hr2, hl2, hmc, hcm, hm4⟩ := of_two2 (h.below hb0) hcp hok hm
  have HC := hide hc2
  have HR := hide hr2
  have HLN := hide hl2
  have hEL : (l.E : Int) ≤ 4611686018427387904 := by have := (ok_out hok).1; unfold LAST at this; omega
  clear b1 b2 s1 s2 r1 r2 hb0 h hlo hl hok hm hcp hc2 hr2 hl2
  subst hw2
  subst hw1
  go_enter Tryd.func19, Tryd.ntmps19
  go_upto_region 1 with (fail)
  generalize (W.alloc (.cells (limC l.E A n c) 26)).alloc (.cells zeroC 26) = w3 at *
  have q0 : w3.cell? ⟨W.heap.size, 0, none⟩ = some (.int .u64 (l.E : Int)) := by have := RowAt.cell R1.out 0; simpa [limC] using this
  have q1 : w3.cell? ⟨W.heap.size, 1, none⟩ = some (.slice (A 0) (n 0) (c 0)) := by have := RowAt.cell R1.out 1; simpa [limC] using this
  have q2 : w3.cell? ⟨W.heap.size, 2, none⟩ = some (.slice (A 1) (n 1) (c 1)) := by have := RowAt.cell R1.out 2; simpa [limC] using this
  have q3 : w3.cell? ⟨W.heap.size, 3, none⟩ = some (.slice (A 2) (n 2) (c 2)) := by have := RowAt.cell R1.out 3; simpa [limC] using this
  have ql := R1.out.lt
  go_wp2_with fail
  with_reducible refine HC.out.mono ?_
  rintro e w4 ⟨rfl, hb⟩
  replace R1 := hide (R1.out.below hb)
  replace R2 := hide (R2.out.below hb)
  replace HR := hide (HR.out.below (hb.mono HB.out.size))
  replace HB := hide (HB.out.trans (hb.mono HB.out.size))
  clear q0 q1 q2 q3 ql hb HC
  by_cases hz : l.at 2 = []
  · have hm0 : m2 = 0 := by rw [← HLN.out, hz]; rfl
    subst hm0
    have hd : decide ((0 : Int) < ((0 : Nat) : Int)) = false := rfl
    by_cases hlt : l.E < LAST
    · obtain ⟨E1, hE1⟩ : ∃ E1, l.E + 1 = E1 := ⟨_, rfl⟩
      have HF := hide (show doAdv l = .ok ⟨E1, l.r⟩ from by unfold doAdv; rw [if_neg (by simpa using hz), if_pos hlt, hE1])
      have hd2 : ((l.E : Int) == 4611686018427387904) = false := by unfold LAST at hlt; rw [beq_eq_false_iff_ne]; omega
      have hd3 : (l.E == 4611686018427387904) = false := by unfold LAST at hlt; rw [beq_eq_false_iff_ne]; omega
      have hw1 : IntKind.u64.wrap ((l.E : Int) + 1) = (E1 : Int) := by rw [IntWalk.u64_in _ (by omega)]; omega
      clear hz hlt hE1
      have q0 : w4.cell? ⟨W.heap.size, 0, none⟩ = some (.int .u64 (l.E : Int)) := by have := RowAt.cell R1.out 0; simpa [limC] using this
      have q1 : w4.cell? ⟨W.heap.size, 1, none⟩ = some (.slice (A 0) (n 0) (c 0)) := by have := RowAt.cell R1.out 1; simpa [limC] using this
      have q2 : w4.cell? ⟨W.heap.size, 2, none⟩ = some (.slice (A 1) (n 1) (c 1)) := by have := RowAt.cell R1.out 2; simpa [limC] using this
      have q3 : w4.cell? ⟨W.heap.size, 3, none⟩ = some (.slice (A 2) (n 2) (c 2)) := by have := RowAt.cell R1.out 3; simpa [limC] using this
      have ql := R1.out.lt
      have qf := R1.out.frozen 0
      go_upto_region 6 with (fail)
      have HB5 := hide (HB.out.setCell (p := ⟨W.heap.size, 0, none⟩) (Nat.le_refl _) (.int .u64 (E1 : Int)))
      have R5 := hide (show RowAt (w4.setCell ⟨W.heap.size, 0, none⟩ (.int .u64 (E1 : Int))) W.heap.size 26 (limC E1 A n c) from by have h := R1.out.set 0 (.int .u64 (E1 : Int)); simpa [limC] using h)
      have R6 := hide (R2.out.setNe (g2 := W.heap.size) (o := 0) (v := .int .u64 (E1 : Int)) (by omega))
      clear q0 q1 q2 q3 ql qf R1 R2 HB hw1 hd2 hd3 hEL
      generalize w4.setCell ⟨W.heap.size, 0, none⟩ (.int .u64 (E1 : Int)) = w5 at *
      have q0 : w5.cell? ⟨W.heap.size, 0, none⟩ = some (.int .u64 (E1 : Int)) := by have := RowAt.cell R5.out 0; simpa [limC] using this
      have q1 : w5.cell? ⟨W.heap.size, 1, none⟩ = some (.slice (A 0) (n 0) (c 0)) := by have := RowAt.cell R5.out 1; simpa [limC] using this
      have q2 : w5.cell? ⟨W.heap.size, 2, none⟩ = some (.slice (A 1) (n 1) (c 1)) := by have := RowAt.cell R5.out 2; simpa [limC] using this
      have q3 : w5.cell? ⟨W.heap.size, 3, none⟩ = some (.slice (A 2) (n 2) (c 2)) := by have := RowAt.cell R5.out 3; simpa [limC] using this
      have ql := R5.out.lt
      have z0 : w5.cell? ⟨(W.heap.size + 1), 0, none⟩ = some (.int .u64 0) := by have := RowAt.cell R6.out 0; simpa using this
      have z1 : w5.cell? ⟨(W.heap.size + 1), 1, none⟩ = some (.slice none 0 0) := by have := RowAt.cell R6.out 1; simpa using this
      have z2 : w5.cell? ⟨(W.heap.size + 1), 2, none⟩ = some (.slice none 0 0) := by have := RowAt.cell R6.out 2; simpa using this
      have z3 : w5.cell? ⟨(W.heap.size + 1), 3, none⟩ = some (.slice none 0 0) := by have := RowAt.cell R6.out 3; simpa using this
      have zl := RowAt.lt R6.out
      have f0 := RowAt.frozen R6.out 0
      have f1 := RowAt.frozen R6.out 1
      have f2 := RowAt.frozen R6.out 2
      have f3 := RowAt.frozen R6.out 3
      have HLD : Hid (LaidL (W.heap.size + 1) w5 (limC E1 A n c) ((((w5.setCell ⟨(W.heap.size + 1), 0, none⟩ (.int .u64 (E1 : Int))).setCell ⟨(W.heap.size + 1), 1, none⟩ (.slice (A 0) (n 0) (c 0))).setCell ⟨(W.heap.size + 1), 2, none⟩ (.slice (A 1) (n 1) (c 1))).setCell ⟨(W.heap.size + 1), 3, none⟩ (.slice (A 2) (n 2) (c 2)))) := hide (laidL_of R6.out rfl)
      go_wp2_with fail
      generalize ((((w5.setCell ⟨W.heap.size + 1, 0, none⟩ (.int .u64 (E1 : Int))).setCell ⟨W.heap.size + 1, 1, none⟩ (.slice (A 0) (n 0) (c 0))).setCell ⟨W.heap.size + 1, 2, none⟩ (.slice (A 1) (n 1) (c 1))).setCell ⟨W.heap.size + 1, 3, none⟩ (.slice (A 2) (n 2) (c 2))) = w9 at *
      have y0 : w9.cell? ⟨W.heap.size + 1, 0, none⟩ = some (.int .u64 (E1 : Int)) := by have := HLD.out.row.cell 0; simpa [limC] using this
      have y1 : w9.cell? ⟨W.heap.size + 1, 1, none⟩ = some (.slice (A 0) (n 0) (c 0)) := by have := HLD.out.row.cell 1; simpa [limC] using this
      have y2 : w9.cell? ⟨W.heap.size + 1, 2, none⟩ = some (.slice (A 1) (n 1) (c 1)) := by have := HLD.out.row.cell 2; simpa [limC] using this
      have y3 : w9.cell? ⟨W.heap.size + 1, 3, none⟩ = some (.slice (A 2) (n 2) (c 2)) := by have := HLD.out.row.cell 3; simpa [limC] using this
      have yl := HLD.out.row.lt
      have HBF := hide (HB5.out.trans (HLD.out.below.mono (by omega)))
      refine bodyPost_ret (v := .tuple #[.agg (limC E1 A n c), .int .i64 0]) (by simp [results, Tryd.results19, go_sem, y0, y1, y2, y3, yl]) rfl ?_
      exact refRes_ok (l := ⟨E1, l.r⟩) HF.out ((HD0.out.below HBF.out).more HBF.out.size) (HLO.out.more HBF.out.size) HCP.out HBF.out
    · have HF := hide (show doAdv l = .error 6 from by unfold doAdv; rw [if_neg (by simpa using hz), if_neg hlt])
      have hd2 : ((l.E : Int) == 4611686018427387904) = true := by unfold LAST at hlt; rw [beq_iff_eq]; omega
      have hd3 : (l.E == 4611686018427387904) = true := by unfold LAST at hlt; rw [beq_iff_eq]; omega
      clear hz hlt
      have q0 : w4.cell? ⟨W.heap.size, 0, none⟩ = some (.int .u64 (l.E : Int)) := by have := RowAt.cell R1.out 0; simpa [limC] using this
      have q1 : w4.cell? ⟨W.heap.size, 1, none⟩ = some (.slice (A 0) (n 0) (c 0)) := by have := RowAt.cell R1.out 1; simpa [limC] using this
      have q2 : w4.cell? ⟨W.heap.size, 2, none⟩ = some (.slice (A 1) (n 1) (c 1)) := by have := RowAt.cell R1.out 2; simpa [limC] using this
      have q3 : w4.cell? ⟨W.heap.size, 3, none⟩ = some (.slice (A 2) (n 2) (c 2)) := by have := RowAt.cell R1.out 3; simpa [limC] using this
      have ql := R1.out.lt
      have z0 : w4.cell? ⟨(W.heap.size + 1), 0, none⟩ = some (.int .u64 0) := by have := RowAt.cell R2.out 0; simpa using this
      have z1 : w4.cell? ⟨(W.heap.size + 1), 1, none⟩ = some (.slice none 0 0) := by have := RowAt.cell R2.out 1; simpa using this
      have z2 : w4.cell? ⟨(W.heap.size + 1), 2, none⟩ = some (.slice none 0 0) := by have := RowAt.cell R2.out 2; simpa using this
      have z3 : w4.cell? ⟨(W.heap.size + 1), 3, none⟩ = some (.slice none 0 0) := by have := RowAt.cell R2.out 3; simpa using this
      have zl := RowAt.lt R2.out
      have f0 := RowAt.frozen R2.out 0
      have f1 := RowAt.frozen R2.out 1
      have f2 := RowAt.frozen R2.out 2
      have f3 := RowAt.frozen R2.out 3
      have HLD : Hid (LaidL (W.heap.size + 1) w4 zeroC ((((w4.setCell ⟨(W.heap.size + 1), 0, none⟩ (.int .u64 0)).setCell ⟨(W.heap.size + 1), 1, none⟩ (.slice none 0 0)).setCell ⟨(W.heap.size + 1), 2, none⟩ (.slice none 0 0)).setCell ⟨(W.heap.size + 1), 3, none⟩ (.slice none 0 0))) := hide (laidL_of R2.out rfl)
      go_wp2_with fail
      generalize ((((w4.setCell ⟨W.heap.size + 1, 0, none⟩ (.int .u64 0)).setCell ⟨W.heap.size + 1, 1, none⟩ (.slice none 0 0)).setCell ⟨W.heap.size + 1, 2, none⟩ (.slice none 0 0)).setCell ⟨W.heap.size + 1, 3, none⟩ (.slice none 0 0)) = w99 at *
      have y0 : w99.cell? ⟨W.heap.size + 1, 0, none⟩ = some (.int .u64 0) := by have := HLD.out.row.cell 0; simpa [limC] using this
      have y1 : w99.cell? ⟨W.heap.size + 1, 1, none⟩ = some (.slice none 0 0) := by have := HLD.out.row.cell 1; simpa [limC] using this
      have y2 : w99.cell? ⟨W.heap.size + 1, 2, none⟩ = some (.slice none 0 0) := by have := HLD.out.row.cell 2; simpa [limC] using this
      have y3 : w99.cell? ⟨W.heap.size + 1, 3, none⟩ = some (.slice none 0 0) := by have := HLD.out.row.cell 3; simpa [limC] using this
      have yl := HLD.out.row.lt
      refine bodyPost_ret (v := .tuple #[.agg zeroC, .int .i64 6]) (by simp [results, Tryd.results19, go_sem, y0, y1, y2, y3, yl]) rfl ?_
      exact refRes_err HF.out (HB.out.trans (HLD.out.below.mono (by omega)))
  · have hm0 : 0 < m2 := by rw [← HLN.out]; exact List.length_pos_iff.2 hz
    have HF := hide (show doAdv l = .error 241 from by unfold doAdv; rw [if_pos hz])
    have hd : decide ((0 : Int) < (m2 : Int)) = true := by simpa using hm0
    clear hz
    have z0 : w4.cell? ⟨(W.heap.size + 1), 0, none⟩ = some (.int .u64 0) := by have := RowAt.cell R2.out 0; simpa using this
    have z1 : w4.cell? ⟨(W.heap.size + 1), 1, none⟩ = some (.slice none 0 0) := by have := RowAt.cell R2.out 1; simpa using this
    have z2 : w4.cell? ⟨(W.heap.size + 1), 2, none⟩ = some (.slice none 0 0) := by have := RowAt.cell R2.out 2; simpa using this
    have z3 : w4.cell? ⟨(W.heap.size + 1), 3, none⟩ = some (.slice none 0 0) := by have := RowAt.cell R2.out 3; simpa using this
    have zl := RowAt.lt R2.out
    have f0 := RowAt.frozen R2.out 0
    have f1 := RowAt.frozen R2.out 1
    have f2 := RowAt.frozen R2.out 2
    have f3 := RowAt.frozen R2.out 3
    have HLD : Hid (LaidL (W.heap.size + 1) w4 zeroC ((((w4.setCell ⟨(W.heap.size + 1), 0, none⟩ (.int .u64 0)).setCell ⟨(W.heap.size + 1), 1, none⟩ (.slice none 0 0)).setCell ⟨(W.heap.size + 1), 2, none⟩ (.slice none 0 0)).setCell ⟨(W.heap.size + 1), 3, none⟩ (.slice none 0 0))) := hide (laidL_of R2.out rfl)
    go_wp2_with fail
    generalize ((((w4.setCell ⟨W.heap.size + 1, 0, none⟩ (.int .u64 0)).setCell ⟨W.heap.size + 1, 1, none⟩ (.slice none 0 0)).setCell ⟨W.heap.size + 1, 2, none⟩ (.slice none 0 0)).setCell ⟨W.heap.size + 1, 3, none⟩ (.slice none 0 0)) = w99 at *
    have y0 : w99.cell? ⟨W.heap.size + 1, 0, none⟩ = some (.int .u64 0) := by have := HLD.out.row.cell 0; simpa [limC] using this
    have y1 : w99.cell? ⟨W.heap.size + 1, 1, none⟩ = some (.slice none 0 0) := by have := HLD.out.row.cell 1; simpa [limC] using this
    have y2 : w99.cell? ⟨W.heap.size + 1, 2, none⟩ = some (.slice none 0 0) := by have := HLD.out.row.cell 2; simpa [limC] using this
    have y3 : w99.cell? ⟨W.heap.size + 1, 3, none⟩ = some (.slice none 0 0) := by have := HLD.out.row.cell 3; simpa [limC] using this
    have yl := HLD.out.row.lt
    refine bodyPost_ret (v := .tuple #[.agg zeroC, .int .i64 241]) (by simp [results, Tryd.results19, go_sem, y0, y1, y2, y3, yl]) rfl ?_
    exact refRes_err HF.out (HB.out.trans (HLD.out.below.mono (by omega)))
theorem Rd.tail1 {w : World} {B b o m1 c2 : Nat} {x : Ent} {rest : List Ent} (h : Rd w B 2 (some ⟨b, o, none⟩) (m1 + 1) (Cs encE (x :: rest))) (hl : rest.length = m1) (hm : m1 + 1 ≤ c2) :
    Rd w B 2 (if c2 = 1 then some ⟨b, o, none⟩ else some ⟨b, o + 2, none⟩) m1 (Cs encE rest) := by
  refine ⟨by rw [Cs_length encE_len, hl], fun hp => ?_⟩
  rw [if_neg (by omega)]
  obtain ⟨b', o', e, hb, hc⟩ := h.2 (by omega)
  injection e with e
  injection e with e1 e2
  subst e1; subst e2
  refine ⟨b, o + 2, rfl, hb, fun j u hu => ?_⟩
  rw [Nat.add_assoc]
  refine hc (2 + j) u ?_
  have e3 : Cs encE (x :: rest) = encE x ++ Cs encE rest := rfl
  rw [e3, List.getElem?_append_right (by simp [encE]), show 2 + j - (encE x).length = j from by simp [encE]]
  exact hu
theorem take_row {w : World} {base n1 n9 c : Nat} {A : Option Addr} {xs : List Ent} (h : w.ownsRow base 34 2 (.slice A n9 c) n9 ([] ++ Cs encE xs)) (h9 : 0 + n1 = n9) (hx : xs.length = n1) : Rd w w.heap.size 2 A n9 (Cs encE xs) ∧ xs.length = n9 := ⟨by have := Rd.of_own h; simpa using this, by omega⟩
set_option maxHeartbeats 4000000 in
theorem rtak_any (Q : Nat → Prop) (A : Nat → Option Addr) (n c : Nat → Nat) (l : Lim) (W : World) (h : LimRd W W.heap.size A n l.r) (hlo : LowL Q W A) (hl : ∀ j, W.heap.size ≤ j → Q j) (hok : l.ok = true) (hm : ∀ k, k < 3 → n k ≤ 4096) (hcp : CapL n c) :
    Calls Tryd.prog 20 #[.agg (limC l.E A n c)] W (RefResT W Q (doTake l)) := by
  obtain ⟨w1, hw1⟩ : ∃ w1, W.alloc (.cells (limC l.E A n c) 26) = w1 := ⟨_, rfl⟩
  obtain ⟨w2, hw2⟩ : ∃ w2, w1.alloc (.cells zeroC 26) = w2 := ⟨_, rfl⟩
  obtain ⟨w3, hw3⟩ : ∃ w3, w2.alloc (.cells #[.int .i64 0, .int .u64 0] 34) = w3 := ⟨_, rfl⟩
  have s1 : w1.heap.size = W.heap.size + 1 := by rw [← hw1]; simp
  have s2 : w2.heap.size = W.heap.size + 1 + 1 := by rw [← hw2]; simp [s1]
  have b1 : Below W.heap.size W w1 := by rw [← hw1]; exact (Below.refl _ _).alloc (Nat.le_refl _) _
  have b2 : Below w1.heap.size w1 w2 := by rw [← hw2]; exact (Below.refl _ _).alloc (Nat.le_refl _) _
  have b3 : Below w2.heap.size w2 w3 := by rw [← hw3]; exact (Below.refl _ _).alloc (Nat.le_refl _) _
  have r1 : RowAt w3 W.heap.size 26 (limC l.E A n c) := by have h := RowAt.new W 26 (limC l.E A n c); rw [hw1] at h; exact (h.below b2).below b3
  have r2 : RowAt w3 (W.heap.size + 1) 26 zeroC := by have h := RowAt.new w1 26 zeroC; rw [hw2, s1] at h; exact h.below b3
  have r3 : RowAt w3 (W.heap.size + 1 + 1) 34 #[.int .i64 0, .int .u64 0] := by have h := RowAt.new w2 34 #[.int .i64 0, .int .u64 0]; rw [hw3, s2] at h; exact h
  have hb0 := (b1.trans (b2.mono b1.size)).trans (b3.mono (Nat.le_trans b1.size b2.size))
  have R3 := hide r3
  clear b3 r3
  have HB := hide hb0
  have R1 := hide r1
  have R2 := hide r2
  have HD0 := hide h
  have HLO := hide hlo
  have HL := hide hl
  have HOK := hide hok
  have HM := hide hm
  have HCP := hide hcp
  obtain ⟨A2, m2, c2, hc2, hr2, hl2, hmc, hcm, hm4⟩ := of_two2 (h.below hb0) hcp hok hm
  have HC := hide hc2
  have HR := hide hr2
  have HLN := hide hl2
  have hEL : (l.E : Int) ≤ 4611686018427387904 := by have := (ok_out hok).1; unfold LAST at this; omega
  clear b1 b2 s1 s2 r1 r2 hb0 h hlo hl hok hm hcp hc2 hr2 hl2
  subst hw3
  subst hw2
  subst hw1
  go_enter Tryd.func20, Tryd.ntmps20
  go_upto_region 1 with (fail)
  generalize ((W.alloc (.cells (limC l.E A n c) 26)).alloc (.cells zeroC 26)).alloc (.cells #[.int .i64 0, .int .u64 0] 34) = w3 at *
  have q0 : w3.cell? ⟨W.heap.size, 0, none⟩ = some (.int .u64 (l.E : Int)) := by have := RowAt.cell R1.out 0; simpa [limC] using this
  have q1 : w3.cell? ⟨W.heap.size, 1, none⟩ = some (.slice (A 0) (n 0) (c 0)) := by have := RowAt.cell R1.out 1; simpa [limC] using this
  have q2 : w3.cell? ⟨W.heap.size, 2, none⟩ = some (.slice (A 1) (n 1) (c 1)) := by have := RowAt.cell R1.out 2; simpa [limC] using this
  have q3 : w3.cell? ⟨W.heap.size, 3, none⟩ = some (.slice (A 2) (n 2) (c 2)) := by have := RowAt.cell R1.out 3; simpa [limC] using this
  have ql := R1.out.lt
  go_wp2_with fail
  with_reducible refine HC.out.mono ?_
  rintro e w4 ⟨rfl, hb⟩
  replace R1 := hide (R1.out.below hb)
  replace R2 := hide (R2.out.below hb)
  replace R3 := hide (R3.out.below hb)
  replace HR := hide (HR.out.below (hb.mono HB.out.size))
  replace HB := hide (HB.out.trans (hb.mono HB.out.size))
  clear q0 q1 q2 q3 ql hb HC
  obtain ⟨xs, hxs⟩ : ∃ xs, l.at 2 = xs := ⟨_, rfl⟩
  have HXS := hide hxs
  rw [hxs] at HLN HR
  clear hxs
  cases xs with
  | nil =>
    have hm0 : m2 = 0 := by rw [← HLN.out]; rfl
    subst hm0
    have hd : (((0 : Nat) : Int) == 0) = true := rfl
    have HF := hide (show doTake l = .error 4 from by unfold doTake; rw [HXS.out])
    have z0 : w4.cell? ⟨(W.heap.size + 1), 0, none⟩ = some (.int .u64 0) := by have := RowAt.cell R2.out 0; simpa using this
    have z1 : w4.cell? ⟨(W.heap.size + 1), 1, none⟩ = some (.slice none 0 0) := by have := RowAt.cell R2.out 1; simpa using this
    have z2 : w4.cell? ⟨(W.heap.size + 1), 2, none⟩ = some (.slice none 0 0) := by have := RowAt.cell R2.out 2; simpa using this
    have z3 : w4.cell? ⟨(W.heap.size + 1), 3, none⟩ = some (.slice none 0 0) := by have := RowAt.cell R2.out 3; simpa using this
    have zl := RowAt.lt R2.out
    have f0 := RowAt.frozen R2.out 0
    have f1 := RowAt.frozen R2.out 1
    have f2 := RowAt.frozen R2.out 2
    have f3 := RowAt.frozen R2.out 3
    have HLD : Hid (LaidL (W.heap.size + 1) w4 zeroC ((((w4.setCell ⟨(W.heap.size + 1), 0, none⟩ (.int .u64 0)).setCell ⟨(W.heap.size + 1), 1, none⟩ (.slice none 0 0)).setCell ⟨(W.heap.size + 1), 2, none⟩ (.slice none 0 0)).setCell ⟨(W.heap.size + 1), 3, none⟩ (.slice none 0 0))) := hide (laidL_of R2.out rfl)
    have k0 := row20 R3.out
    have k1 := row21 R3.out
    have kl := R3.out.lt
    have kf0 := R3.out.frozen 0
    have kf1 := R3.out.frozen 1
    have hne : ¬ W.heap.size + 1 + 1 = W.heap.size + 1 := by omega
    have hne' : ¬ W.heap.size + 1 = W.heap.size + 1 + 1 := by omega
    go_wp2_with fail
    have HLT : Hid (LaidT W w4 zeroC #[.int .i64 0, .int .u64 0] ((((((w4.setCell ⟨W.heap.size + 1, 0, none⟩ (.int .u64 0)).setCell ⟨W.heap.size + 1, 1, none⟩ (.slice none 0 0)).setCell ⟨W.heap.size + 1, 2, none⟩ (.slice none 0 0)).setCell ⟨W.heap.size + 1, 3, none⟩ (.slice none 0 0)).setCell ⟨W.heap.size + 1 + 1, 0, none⟩ (.int .i64 0)).setCell ⟨W.heap.size + 1 + 1, 1, none⟩ (.int .u64 0))) := hide (laidT_of R2.out rfl R3.out)
    generalize ((((((w4.setCell ⟨W.heap.size + 1, 0, none⟩ (.int .u64 0)).setCell ⟨W.heap.size + 1, 1, none⟩ (.slice none 0 0)).setCell ⟨W.heap.size + 1, 2, none⟩ (.slice none 0 0)).setCell ⟨W.heap.size + 1, 3, none⟩ (.slice none 0 0)).setCell ⟨W.heap.size + 1 + 1, 0, none⟩ (.int .i64 0)).setCell ⟨W.heap.size + 1 + 1, 1, none⟩ (.int .u64 0)) = w9 at *
    have y0 : w9.cell? ⟨W.heap.size + 1, 0, none⟩ = some (.int .u64 0) := by have := HLT.out.1.1.cell 0; simpa [limC] using this
    have y1 : w9.cell? ⟨W.heap.size + 1, 1, none⟩ = some (.slice none 0 0) := by have := HLT.out.1.1.cell 1; simpa [limC] using this
    have y2 : w9.cell? ⟨W.heap.size + 1, 2, none⟩ = some (.slice none 0 0) := by have := HLT.out.1.1.cell 2; simpa [limC] using this
    have y3 : w9.cell? ⟨W.heap.size + 1, 3, none⟩ = some (.slice none 0 0) := by have := HLT.out.1.1.cell 3; simpa [limC] using this
    have yl := HLT.out.1.1.lt
    have u0 := row20 HLT.out.1.2
    have u1 := row21 HLT.out.1.2
    have ul := HLT.out.1.2.lt
    refine bodyPost_ret (v := .tuple #[.agg zeroC, .agg #[.int .i64 0, .int .u64 0], .int .i64 4]) (by simp [results, Tryd.results20, go_sem, y0, y1, y2, y3, yl, u0, u1, ul]) rfl ?_
    exact refResT_err HF.out (HB.out.trans (HLT.out.2.2.mono (by omega)))
  | cons x rest =>
    obtain ⟨s, g⟩ := x
    obtain ⟨m1, hm1⟩ : ∃ m, rest.length = m := ⟨_, rfl⟩
    have hm2 : m2 = m1 + 1 := by rw [← HLN.out, ← hm1]; rfl
    subst hm2
    have HM1 := hide hm1
    obtain ⟨b, o, rfl, hb, d0, d1⟩ := HR.out.ent HLN.out (k := 0) (by omega)
    simp only [Nat.zero_mul, Nat.add_zero, List.getD_cons_zero] at d0 d1
    have HF := hide (show doTake l = .ok (⟨l.E, upd l.r (rowN l.E 2) rest⟩, (s, g)) from by unfold doTake; rw [HXS.out])
    have hd : (((m1 + 1 : Nat) : Int) == 0) = false := by rw [beq_eq_false_iff_ne]; omega
    have hd0 : ((m1 : Int) + 1 == 0) = false := by rw [beq_eq_false_iff_ne]; omega
    have hle : 2 ≤ l.E := ok_at HOK.out (by omega) (by rw [HXS.out]; simp)
    have HWT := hide (fun (w : World) (As : Option Addr) (ns cs : Nat) => show Calls Tryd.prog 44 #[.agg (limC l.E A n c), .int .u64 2, .slice As ns cs] w _ from with_any A n c l.E 2 As ns cs (by omega) hle (by omega) w)
    have HRT := hide (fun (w : World) (hb : Below (W.heap.size + 1) w4 w) => Rd.tail1 (c2 := c2) (HR.out.below (hb.mono (by omega))) HM1.out (by omega))
    have GLE : Hid (W.heap.size + 1 ≤ w4.heap.size) := hide (Nat.le_of_lt R2.out.lt)
    have hmc2 : m1 + 1 ≤ c2 := by omega
    have hmc3 : ((m1 : Int) + 1) ≤ (c2 : Int) := by omega
    have h1c : (1 : Int) ≤ (c2 : Int) := by omega
    have h1m : (1 : Int) ≤ (m1 : Int) + 1 := by omega
    have RL3 := hide (show W.heap.size + 1 + 1 < w4.heap.size from R3.out.lt)
    have H4 := hide (show m1 ≤ 4096 by omega)
    clear HR HXS hle hm4
    have q0 : w4.cell? ⟨W.heap.size, 0, none⟩ = some (.int .u64 (l.E : Int)) := by have := RowAt.cell R1.out 0; simpa [limC] using this
    have q1 : w4.cell? ⟨W.heap.size, 1, none⟩ = some (.slice (A 0) (n 0) (c 0)) := by have := RowAt.cell R1.out 1; simpa [limC] using this
    have q2 : w4.cell? ⟨W.heap.size, 2, none⟩ = some (.slice (A 1) (n 1) (c 1)) := by have := RowAt.cell R1.out 2; simpa [limC] using this
    have q3 : w4.cell? ⟨W.heap.size, 3, none⟩ = some (.slice (A 2) (n 2) (c 2)) := by have := RowAt.cell R1.out 3; simpa [limC] using this
    have ql := R1.out.lt
    go_upto_region 4 with (fail)
    refine wp_region_held_drew (S := fun wX => Below (W.heap.size + 1) w4 wX) (by kernel_rfl) (Below.refl _ _).drew (fun hHeld => ?_)
    have HQ := hide ((Below.refl w4.heap.size w4).drew)
    (refine wpAnyH_take (i := 0) (v := ?_) rfl (by kernel_rfl) (by kernel_rfl) (by kernel_rfl) (fun _ _ _ h => h) (Or.inl ⟨by rfl, ?_⟩) (by assumption) ?_; rotate_left; (focus (intro w hSw; (try dsimp only at hSw); have kf0 := keptB hSw (by omega) q0; have kf1 := keptB hSw (by omega) q1; have kf2 := keptB hSw (by omega) q2; have kf3 := keptB hSw (by omega) q3; go_simp; first | done | with_reducible rfl)); (try simp only [Act.put, List.getElem_toArray, List.getElem_cons_succ, List.getElem_cons_zero, List.setIfInBounds_toArray, List.set_cons_zero, List.set_cons_succ]))
    (refine wpAnyH_take (i := 2) (v := ?_) rfl (by kernel_rfl) (by kernel_rfl) (by kernel_rfl) (fun _ _ _ h => h) (Or.inl ⟨by rfl, ?_⟩) (by assumption) ?_; rotate_left; (focus (intro w hSw; (try dsimp only at hSw); go_simp; first | done | with_reducible rfl)); (try simp only [Act.put, List.getElem_toArray, List.getElem_cons_succ, List.getElem_cons_zero, List.setIfInBounds_toArray, List.set_cons_zero, List.set_cons_succ]))
    (refine wpAnyH_take (i := 3) (v := ?_) rfl (by kernel_rfl) (by kernel_rfl) (by kernel_rfl) (fun _ _ _ h => h) (Or.inl ⟨by rfl, ?_⟩) (by assumption) ?_; rotate_left; (focus (intro w hSw; (try dsimp only at hSw); go_simp; first | done | with_reducible rfl)); (try simp only [Act.put, List.getElem_toArray, List.getElem_cons_succ, List.getElem_cons_zero, List.setIfInBounds_toArray, List.set_cons_zero, List.set_cons_succ]))
    (refine wpAnyH_take (i := 6) (v := ?_) rfl (by kernel_rfl) (by kernel_rfl) (by kernel_rfl) (fun _ _ _ h => h) (Or.inl ⟨by rfl, ?_⟩) (by assumption) ?_; rotate_left; (focus (intro w hSw; (try dsimp only at hSw); go_simp; first | done | with_reducible rfl)); (try simp only [Act.put, List.getElem_toArray, List.getElem_cons_succ, List.getElem_cons_zero, List.setIfInBounds_toArray, List.set_cons_zero, List.set_cons_succ]))
    (refine wpAnyH_take (i := 7) (v := ?_) rfl (by kernel_rfl) (by kernel_rfl) (by kernel_rfl) (fun _ _ _ h => h) (Or.inl ⟨by rfl, ?_⟩) (by assumption) ?_; rotate_left; (focus (intro w hSw; (try dsimp only at hSw); go_simp; first | done | with_reducible rfl)); (try simp only [Act.put, List.getElem_toArray, List.getElem_cons_succ, List.getElem_cons_zero, List.setIfInBounds_toArray, List.set_cons_zero, List.set_cons_succ]))
    (refine wpAnyH_take (i := 8) (v := ?_) rfl (by kernel_rfl) (by kernel_rfl) (by kernel_rfl) (fun _ _ _ h => h) (Or.inl ⟨by rfl, ?_⟩) (by assumption) ?_; rotate_left; (focus (intro w hSw; (try dsimp only at hSw); have kf0 := keptB hSw (by omega) d0; have kf1 := keptB hSw (by omega) d1; go_simp; first | done | with_reducible rfl)); (try simp only [Act.put, List.getElem_toArray, List.getElem_cons_succ, List.getElem_cons_zero, List.setIfInBounds_toArray, List.set_cons_zero, List.set_cons_succ]))
    generalize w4.drew = wd at *
    refine wpAnyH_ready (rs := [1]) (by kernel_rfl) (by simp) ?_
    refine (AllReadyH.cons rfl (fun K0 hK0 => ?_) AllReadyH.nil)
    go_simp
    have hbx : Below wd.heap.size wd (wd.alloc (.cells #[] 34)) := (Below.refl _ _).alloc (Nat.le_refl _) _
    refine hK0.out _ _ ((HQ.out.alloc HQ.out.size _).mono GLE.out) (fun _ => ?_)
    clear hK0 K0
    (try simp only [Act.put, List.getElem_toArray, List.getElem_cons_succ, List.getElem_cons_zero, List.setIfInBounds_toArray, List.set_cons_zero, List.set_cons_succ])
    have HO := hide (World.ownsRow_lit (base := w4.heap.size) (e := 34) (size := 2) wd #[] 0 HQ.out.size (by simp [maxLen]) rfl)
    replace HQ := hide (HQ.out.trans (hbx.mono HQ.out.size))
    clear hbx
    generalize wd.alloc (.cells #[] 34) = wa at *
    refine wpAnyH_ready (rs := [4]) (by kernel_rfl) (by simp) ?_
    refine (AllReadyH.cons rfl (fun K1 hK1 => ?_) AllReadyH.nil)
    rw [if_pos (by rfl)]
    refine wp_app elE _ _ rfl rfl HO.out rfl (HRT.out _ (HQ.out.mono GLE.out)) (Cs_one_cell encE_one _) (by have := H4.out; omega) HQ.out.size ?_
    intro v4 wb hown hb4 hbq hx4
    replace HO := hide hown
    replace HQ := hide (HQ.out.trans hb4)
    clear hown hb4 hbq hx4
    obtain ⟨A9, c9, rfl, hcq1, hcq2⟩ := own_form2 HO.out
    have HCQ := hide (CapL.pu HCP.out (rowN l.E 2) hcq1 hcq2)
    clear hcq1 hcq2
    generalize hn9 : 0 + m1 = n9 at HO HCQ ⊢
    have HN9 := hide hn9
    clear hn9
    refine hK1.out _ _ ((HQ.out).mono GLE.out) (fun _ => ?_)
    clear hK1 K1
    (try simp only [Act.put, List.getElem_toArray, List.getElem_cons_succ, List.getElem_cons_zero, List.setIfInBounds_toArray, List.set_cons_zero, List.set_cons_succ])
    refine wpAnyH_ready (rs := [5]) (by kernel_rfl) (by simp) ?_
    refine (AllReadyH.cons rfl (fun K2 hK2 => ?_) AllReadyH.nil)
    go_simp
    refine (HWT.out _ A9 n9 c9).mono ?_
    rintro e wc ⟨rfl, hbc⟩
    replace HO := hide (own_keepB HO.out hbc)
    replace HQ := hide (HQ.out.trans (hbc.mono HQ.out.size))
    clear hbc HWT
    refine hK2.out _ _ ((HQ.out).mono GLE.out) (fun _ => ?_)
    clear hK2 K2
    (try simp only [Act.put, List.getElem_toArray, List.getElem_cons_succ, List.getElem_cons_zero, List.setIfInBounds_toArray, List.set_cons_zero, List.set_cons_succ])
    refine wpAnyH_ready (rs := [9]) (by kernel_rfl) (by simp) ?_
    refine (AllReadyH.cons rfl (fun K3 hK3 => ?_) AllReadyH.nil)
    have R9 := hide (show RowAt wc (W.heap.size + 1) 26 zeroC from R2.out.below HQ.out)
    obtain ⟨A8, hA8⟩ : ∃ x, pu A (rowN l.E 2) A9 = x := ⟨_, rfl⟩
    obtain ⟨n8, hn8⟩ : ∃ x, pu n (rowN l.E 2) n9 = x := ⟨_, rfl⟩
    obtain ⟨c8, hc8⟩ : ∃ x, pu c (rowN l.E 2) c9 = x := ⟨_, rfl⟩
    rw [hA8, hn8, hc8]
    have HA8 := hide hA8
    have HN8 := hide hn8
    have HC8 := hide hc8
    clear hA8 hn8 hc8
    have z0 : wc.cell? ⟨(W.heap.size + 1), 0, none⟩ = some (.int .u64 0) := by have := RowAt.cell R9.out 0; simpa using this
    have z1 : wc.cell? ⟨(W.heap.size + 1), 1, none⟩ = some (.slice none 0 0) := by have := RowAt.cell R9.out 1; simpa using this
    have z2 : wc.cell? ⟨(W.heap.size + 1), 2, none⟩ = some (.slice none 0 0) := by have := RowAt.cell R9.out 2; simpa using this
    have z3 : wc.cell? ⟨(W.heap.size + 1), 3, none⟩ = some (.slice none 0 0) := by have := RowAt.cell R9.out 3; simpa using this
    have zl := RowAt.lt R9.out
    have f0 := RowAt.frozen R9.out 0
    have f1 := RowAt.frozen R9.out 1
    have f2 := RowAt.frozen R9.out 2
    have f3 := RowAt.frozen R9.out 3
    have HL9 : Hid (LaidL (W.heap.size + 1) wc (limC l.E A8 n8 c8) ((((wc.setCell ⟨(W.heap.size + 1), 0, none⟩ (.int .u64 (l.E : Int))).setCell ⟨(W.heap.size + 1), 1, none⟩ (.slice (A8 0) (n8 0) (c8 0))).setCell ⟨(W.heap.size + 1), 2, none⟩ (.slice (A8 1) (n8 1) (c8 1))).setCell ⟨(W.heap.size + 1), 3, none⟩ (.slice (A8 2) (n8 2) (c8 2)))) := hide (laidL_of R9.out rfl)
    go_simp
    have HB9 := hide (show Below (W.heap.size + 1) w4 ((((wc.setCell ⟨W.heap.size + 1, 0, none⟩ (.int .u64 (l.E : Int))).setCell ⟨W.heap.size + 1, 1, none⟩ (.slice (A8 0) (n8 0) (c8 0))).setCell ⟨W.heap.size + 1, 2, none⟩ (.slice (A8 1) (n8 1) (c8 1))).setCell ⟨W.heap.size + 1, 3, none⟩ (.slice (A8 2) (n8 2) (c8 2))) from (HQ.out.mono GLE.out).trans HL9.out.below)
    refine hK3.out _ _ (HB9.out) (fun _ => ?_)
    clear hK3 K3
    (try simp only [Act.put, List.getElem_toArray, List.getElem_cons_succ, List.getElem_cons_zero, List.setIfInBounds_toArray, List.set_cons_zero, List.set_cons_succ])
    clear z0 z1 z2 z3 zl f0 f1 f2 f3 R9
    have R3 := hide (show RowAt wc (W.heap.size + 1 + 1) 34 #[.int .i64 0, .int .u64 0] from R3.out.below HQ.out)
    replace R3 := hide (show RowAt ((((wc.setCell ⟨W.heap.size + 1, 0, none⟩ (.int .u64 (l.E : Int))).setCell ⟨W.heap.size + 1, 1, none⟩ (.slice (A8 0) (n8 0) (c8 0))).setCell ⟨W.heap.size + 1, 2, none⟩ (.slice (A8 1) (n8 1) (c8 1))).setCell ⟨W.heap.size + 1, 3, none⟩ (.slice (A8 2) (n8 2) (c8 2))) (W.heap.size + 1 + 1) 34 #[.int .i64 0, .int .u64 0] from (HL9.out.block _ (by omega)).trans R3.out)
    generalize ((((wc.setCell ⟨W.heap.size + 1, 0, none⟩ (.int .u64 (l.E : Int))).setCell ⟨W.heap.size + 1, 1, none⟩ (.slice (A8 0) (n8 0) (c8 0))).setCell ⟨W.heap.size + 1, 2, none⟩ (.slice (A8 1) (n8 1) (c8 1))).setCell ⟨W.heap.size + 1, 3, none⟩ (.slice (A8 2) (n8 2) (c8 2))) = wt at *
    refine wpAnyH_ready (rs := [10]) (by kernel_rfl) (by simp) ?_
    refine (AllReadyH.cons rfl (fun K4 hK4 => ?_) AllReadyH.nil)
    have k0 := row20 R3.out
    have k1 := row21 R3.out
    have kl := R3.out.lt
    have kf0 := R3.out.frozen 0
    have kf1 := R3.out.frozen 1
    go_simp
    have HB10 := hide (show Below (W.heap.size + 1) w4 ((wt.setCell ⟨W.heap.size + 1 + 1, 0, none⟩ (.int .i64 s)).setCell ⟨W.heap.size + 1 + 1, 1, none⟩ (.int .u64 g)) from (HB9.out.setCell (p := ⟨W.heap.size + 1 + 1, 0, none⟩) (by simp) _).setCell (p := ⟨W.heap.size + 1 + 1, 1, none⟩) (by simp) _)
    refine hK4.out _ _ (HB10.out) (fun _ => ?_)
    clear hK4 K4
    (try simp only [Act.put, List.getElem_toArray, List.getElem_cons_succ, List.getElem_cons_zero, List.setIfInBounds_toArray, List.set_cons_zero, List.set_cons_succ])
    have HE9 := hide (show RowAt ((wt.setCell ⟨W.heap.size + 1 + 1, 0, none⟩ (.int .i64 s)).setCell ⟨W.heap.size + 1 + 1, 1, none⟩ (.int .u64 g)) (W.heap.size + 1 + 1) 34 #[.int .i64 s, .int .u64 g] from by have h := (R3.out.set 0 (.int .i64 s)).set 1 (.int .u64 g); simpa using h)
    have HY9 := hide (show RowAt ((wt.setCell ⟨W.heap.size + 1 + 1, 0, none⟩ (.int .i64 s)).setCell ⟨W.heap.size + 1 + 1, 1, none⟩ (.int .u64 g)) (W.heap.size + 1) 26 (limC l.E A8 n8 c8) from (HL9.out.row.setNe (by omega)).setNe (by omega))
    have HBL := hide (show ∀ j, j ≠ W.heap.size + 1 → j ≠ W.heap.size + 1 + 1 → ((wt.setCell ⟨W.heap.size + 1 + 1, 0, none⟩ (.int .i64 s)).setCell ⟨W.heap.size + 1 + 1, 1, none⟩ (.int .u64 g)).heap[j]? = wc.heap[j]? from fun j h1 h2 => by rw [heap_setCell_ne _ _ _ _ h2, heap_setCell_ne _ _ _ _ h2]; exact HL9.out.block j h1)
    clear k0 k1 kl kf0 kf1 R3 HB9 HL9
    generalize ((wt.setCell ⟨W.heap.size + 1 + 1, 0, none⟩ (.int .i64 s)).setCell ⟨W.heap.size + 1 + 1, 1, none⟩ (.int .u64 g)) = wu at *
    have HO9 := hide (own_other2 HO.out (fun g1 h1 _ => HBL.out g1 (by have := R2.out.lt; omega) (by have := RL3.out; omega)))
    have HR9 := hide (take_row HO9.out HN9.out HM1.out)
    have HRES := hide (show LimRd wu wu.heap.size A8 n8 (upd l.r (rowN l.E 2) rest) from by rw [← HA8.out, ← HN8.out]; exact LimRd.put ((HD0.out.below (HB.out.trans (HB10.out.mono (by omega)))).more (Nat.le_trans HB.out.size HB10.out.size)) _ HR9.out.1 HR9.out.2)
    have HLOW : Hid (LowL Q wu A8) := hide (by rw [← HA8.out]; exact (HLO.out.more (Nat.le_trans HB.out.size HB10.out.size)).pu _ (fun p hp => ⟨HL.out _ (Nat.le_trans HB.out.size (own_fresh2 HO9.out p hp).1), (own_fresh2 HO9.out p hp).2⟩))
    have HCAP : Hid (CapL n8 c8) := hide (by rw [← HN8.out, ← HC8.out]; exact HCQ.out)
    have HFIN := hide (HB.out.trans (HB10.out.mono (by omega)))
    (refine wpAnyH_take (i := 11) (v := ?_) rfl (by kernel_rfl) (by kernel_rfl) (by kernel_rfl) (fun _ _ _ h => h) (Or.inl ⟨by rfl, ?_⟩) (by assumption) ?_; rotate_left; (focus (intro w hSw; (try dsimp only at hSw); go_simp; first | done | with_reducible rfl)); (try simp only [Act.put, List.getElem_toArray, List.getElem_cons_succ, List.getElem_cons_zero, List.setIfInBounds_toArray, List.set_cons_zero, List.set_cons_succ]))
    refine wpAnyH_done (by kernel_rfl) ?_ _
    go_wp2_with fail
    all_goals
      have y0 : wu.cell? ⟨W.heap.size + 1, 0, none⟩ = some (.int .u64 (l.E : Int)) := by have := HY9.out.cell 0; simpa [limC] using this
      have y1 : wu.cell? ⟨W.heap.size + 1, 1, none⟩ = some (.slice (A8 0) (n8 0) (c8 0)) := by have := HY9.out.cell 1; simpa [limC] using this
      have y2 : wu.cell? ⟨W.heap.size + 1, 2, none⟩ = some (.slice (A8 1) (n8 1) (c8 1)) := by have := HY9.out.cell 2; simpa [limC] using this
      have y3 : wu.cell? ⟨W.heap.size + 1, 3, none⟩ = some (.slice (A8 2) (n8 2) (c8 2)) := by have := HY9.out.cell 3; simpa [limC] using this
      have yl := HY9.out.lt
      have u0 := row20 HE9.out
      have u1 := row21 HE9.out
      have ul := HE9.out.lt
      refine bodyPost_ret (v := .tuple #[.agg (limC l.E A8 n8 c8), .agg #[.int .i64 s, .int .u64 g], .int .i64 0]) (by simp [results, Tryd.results20, go_sem, y0, y1, y2, y3, yl, u0, u1, ul]) rfl ?_
      exact refResT_ok (l := ⟨l.E, upd l.r (rowN l.E 2) rest⟩) HF.out HRES.out HLOW.out HCAP.out HFIN.out
end Go.Proofs.YthnpcmigphpolaaDoor
