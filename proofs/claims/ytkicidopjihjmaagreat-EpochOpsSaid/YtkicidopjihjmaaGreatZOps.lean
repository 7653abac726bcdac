/-
  EpochOps answers true for every reclaim, and row of ops, and leaves its arguments as they were. No condition.
-/
import Derived.Test.YtkicidopjihjmaaGreatZOpsE
set_option maxHeartbeats 16000000
set_option linter.unusedSimpArgs false
set_option linter.unusedVariables false
set_option maxRecDepth 20000
namespace Go.Proofs.YtkicidopjihjmaaGreat.Li
open Go Go.RowKit
attribute [local go_sem] via_cell via_frozen
def valT : Except Int (Lim × Ent) → Lim
 | .ok x => x.1
 | .error _ => lim0
def entT : Except Int (Lim × Ent) → Ent
 | .ok x => x.2
 | .error _ => (0, 0)
def RefResT (W : World) (Q : Nat → Prop) (r : Except Int (Lim × Ent)) (e : Ending) (W' : World) : Prop := ∃ A' n' c', e = .returned (.tuple #[.agg (limC (valT r).E A' n' c'), .agg #[.int .i64 (entT r).1, .int .u64 (entT r).2], .int .i64 (errL r)]) ∧ LimRd W' W'.heap.size A' n' (valT r).r ∧ LowL Q W' A' n' ∧ CapL n' c' ∧ Below W.heap.size W W'
theorem refResT_err {W W' : World} {Q : Nat → Prop} {r : Except Int (Lim × Ent)} {k : Int} (hr : r = .error k) (hb : Below W.heap.size W W') : RefResT W Q r (.returned (.tuple #[.agg zeroC, .agg #[.int .i64 0, .int .u64 0], .int .i64 k])) W' := by
 subst hr
 exact ⟨fun _ => none, fun _ => 0, fun _ => 0, rfl, zero_rd W' _, fun k p _ _ h => (by cases h), CapL.zero, hb⟩
theorem refResT_ok {W W' : World} {Q : Nat → Prop} {r : Except Int (Lim × Ent)} {l : Lim} {s g : Int} {A' : Nat → Option Addr} {n' c' : Nat → Nat} (hr : r = .ok (l, (s, g))) (hd : LimRd W' W'.heap.size A' n' l.r) (hl : LowL Q W' A' n') (hcp : CapL n' c') (hb : Below W.heap.size W W') : RefResT W Q r (.returned (.tuple #[.agg (limC l.E A' n' c'), .agg #[.int .i64 s, .int .u64 g], .int .i64 0])) W' := by
 subst hr
 exact ⟨A', n', c', rfl, hd, hl, hcp, hb⟩
theorem of_two2 {l : Lim} {w : World} {B : Nat} {A : Nat → Option Addr} {n c : Nat → Nat} (h : LimRd w B A n l.r) (hcp : CapL n c) (hok : l.ok = true) (hm : ∀ k, k < 3 → n k ≤ 4096) : ∃ A2 m2 c2, (Calls Tryz.prog 74 #[.agg (limC l.E A n c), .int .u64 2] w fun e W' => e = .returned (.slice A2 m2 c2) ∧ Below w.heap.size w W') ∧ Rd w B 2 A2 m2 (Cs encE (l.at 2)) ∧ (l.at 2).length = m2 ∧ (m2 : Int) ≤ c2 ∧ (c2 : Int) ≤ 9223372036854775807 ∧ m2 ≤ 4096 := by
 have h1 := of_rd h 2
 rw [ofL_ok hok] at h1
 refine ⟨ofA l.E A 2, ofN l.E n 2, ofN l.E c 2, of_two (by have := (ok_out hok).1; unfold LAST at this; omega) w, h1.1, h1.2, ?_⟩
 have := hcp _ (rowN_lt l.E 2)
 have := hm _ (rowN_lt l.E 2)
 unfold ofN
 split
 · omega
 · omega
theorem radv_any (Q : Nat → Prop) (A : Nat → Option Addr) (n c : Nat → Nat) (l : Lim) (W : World) (h : LimRd W W.heap.size A n l.r) (hlo : LowL Q W A n) (hl : ∀ j, W.heap.size ≤ j → Q j) (hok : l.ok = true) (hm : ∀ k, k < 3 → n k ≤ 4096) (hcp : CapL n c) :
  Calls Tryz.prog 86 #[.agg (limC l.E A n c)] W (RefRes W Q (doAdv l)) := by
 obtain ⟨w1, hw1⟩ : ∃ w1, W.alloc (.cells (limC l.E A n c) 32) = w1 := ⟨_, rfl⟩
 obtain ⟨w2, hw2⟩ : ∃ w2, w1.alloc (.cells zeroC 32) = w2 := ⟨_, rfl⟩
 have s1 : w1.heap.size = W.heap.size + 1 := by rw [← hw1]; simp
 have s2 : w2.heap.size = W.heap.size + 1 + 1 := by rw [← hw2]; simp [s1]
 have b1 := baw hw1
 have b2 := baw hw2
 have r1 : RowAt w2 W.heap.size 32 (limC l.E A n c) := by have h := RowAt.new W 32 (limC l.E A n c); rw [hw1] at h; exact h.below b2
 have r2 : RowAt w2 (W.heap.size + 1) 32 zeroC := by have h := RowAt.new w1 32 zeroC; rw [hw2, s1] at h; exact h
 have hb0 := b1.trans (b2.mono b1.size)
 have HB := Hi hb0
 have R1 := Hi r1
 have R2 := Hi r2
 have HD0 := Hi h
 have HLO := Hi hlo
 have HL := Hi hl
 have HOK := Hi hok
 have HM := Hi hm
 have HCP := Hi hcp
 obtain ⟨A2, m2, c2, hc2, hr2, hl2, hmc, hcm, hm4⟩ := of_two2 (h.below hb0) hcp hok hm
 have HC := Hi hc2
 have HR := Hi hr2
 have HLN := Hi hl2
 have hEL : (l.E : Int) ≤ 4611686018427387904 := by have := (ok_out hok).1; unfold LAST at this; omega
 clear b1 b2 s1 s2 r1 r2 hb0 h hlo hl hok hm hcp hc2 hr2 hl2
 subst hw2
 subst hw1
 go_enter Tryz.func86, Tryz.ntmps86
 go_upto_region 1 with (fail)
 generalize (W.alloc _).alloc _ = w3 at *
 have q0 := cl R1.out 0
 have q1 := cl R1.out 1
 have q2 := cl R1.out 2
 have q3 := cl R1.out 3
 have ql := R1.out.lt
 go_wp2_with fail
 with_reducible refine HC.out.mono ?_
 rintro e w4 ⟨rfl, hb⟩
 replace R1 := Hi (R1.out.below hb)
 replace R2 := Hi (R2.out.below hb)
 replace HR := Hi (HR.out.below (hb.mono HB.out.size))
 replace HB := bt HB hb
 clear q0 q1 q2 q3 ql hb HC
 by_cases hz : l.at 2 = []
 ·
  have hm0 : m2 = 0 := by rw [← HLN.out, hz]; rfl
  subst hm0
  have hd : decide ((0 : Int) < ((0 : Nat) : Int)) = false := rfl
  by_cases hlt : l.E < LAST
  ·
   obtain ⟨E1, hE1⟩ : ∃ E1, l.E + 1 = E1 := ⟨_, rfl⟩
   have HF := Hi (show doAdv l = .ok ⟨E1, l.r⟩ from by unfold doAdv; rw [if_neg (by simpa using hz), if_pos hlt, hE1])
   have hd2 : ((l.E : Int) == 4611686018427387904) = false := by unfold LAST at hlt; rw [beq_eq_false_iff_ne]; omega
   have hd3 : (l.E == 4611686018427387904) = false := by unfold LAST at hlt; rw [beq_eq_false_iff_ne]; omega
   have hw1 : IntKind.u64.wrap ((l.E : Int) + 1) = (E1 : Int) := by rw [IntWalk.u64_in _ (by omega)]; omega
   clear hz hlt hE1
   have q0 := cl R1.out 0
   have q1 := cl R1.out 1
   have q2 := cl R1.out 2
   have q3 := cl R1.out 3
   have ql := R1.out.lt
   have qf := R1.out.frozen 0
   go_upto_region 6 with (fail)
   have HB5 := Hi (HB.out.setCell (p := ⟨W.heap.size, 0, none⟩) (Nat.le_refl _) (.int .u64 (E1 : Int)))
   have R5 := Hi (show RowAt (w4.setCell ⟨W.heap.size, 0, none⟩ (.int .u64 (E1 : Int))) W.heap.size 32 (limC E1 A n c) from by have h := R1.out.set 0 (.int .u64 (E1 : Int)); simpa [limC] using h)
   have R6 := Hi (R2.out.setNe (g2 := W.heap.size) (o := 0) (v := .int .u64 (E1 : Int)) (by omega))
   clear q0 q1 q2 q3 ql qf R1 R2 HB hw1 hd2 hd3 hEL
   generalize w4.setCell _ _ = w5 at *
   have q0 := cl R5.out 0
   have q1 := cl R5.out 1
   have q2 := cl R5.out 2
   have q3 := cl R5.out 3
   have ql := R5.out.lt
   have z0 := cl R6.out 0
   have z1 := cl R6.out 1
   have z2 := cl R6.out 2
   have z3 := cl R6.out 3
   have zl := RowAt.lt R6.out
   have f0 := RowAt.frozen R6.out 0
   have f1 := RowAt.frozen R6.out 1
   have f2 := RowAt.frozen R6.out 2
   have f3 := RowAt.frozen R6.out 3
   have HLD : Hid (LaidL (W.heap.size + 1) w5 (limC E1 A n c) ((((w5.setCell ⟨(W.heap.size + 1), 0, none⟩ (.int .u64 (E1 : Int))).setCell ⟨(W.heap.size + 1), 1, none⟩ (.slice (A 0) (n 0) (c 0))).setCell ⟨(W.heap.size + 1), 2, none⟩ (.slice (A 1) (n 1) (c 1))).setCell ⟨(W.heap.size + 1), 3, none⟩ (.slice (A 2) (n 2) (c 2)))) := Hi (laidL_of R6.out rfl)
   go_wp2_with fail
   generalize (((w5.setCell _ _).setCell _ _).setCell _ _).setCell _ _ = w9 at *
   have y0 := cl HLD.out.row 0
   have y1 := cl HLD.out.row 1
   have y2 := cl HLD.out.row 2
   have y3 := cl HLD.out.row 3
   have yl := HLD.out.row.lt
   have HBF := Hi (HB5.out.trans (HLD.out.below.mono (by omega)))
   refine bodyPost_ret (v := .tuple #[.agg (limC E1 A n c), .int .i64 0]) (by simp [results, Tryz.results86, go_sem, y0, y1, y2, y3, yl]) rfl ?_
   exact refRes_ok (l := ⟨E1, l.r⟩) HF.out ((HD0.out.below HBF.out).more HBF.out.size) (HLO.out.more HBF.out.size) HCP.out HBF.out
  ·
   have HF := Hi (show doAdv l = .error 6 from by unfold doAdv; rw [if_neg (by simpa using hz), if_neg hlt])
   have hd2 : ((l.E : Int) == 4611686018427387904) = true := by unfold LAST at hlt; rw [beq_iff_eq]; omega
   have hd3 : (l.E == 4611686018427387904) = true := by unfold LAST at hlt; rw [beq_iff_eq]; omega
   clear hz hlt
   have q0 := cl R1.out 0
   have q1 := cl R1.out 1
   have q2 := cl R1.out 2
   have q3 := cl R1.out 3
   have ql := R1.out.lt
   have z0 := cl R2.out 0
   have z1 := cl R2.out 1
   have z2 := cl R2.out 2
   have z3 := cl R2.out 3
   have zl := RowAt.lt R2.out
   have f0 := RowAt.frozen R2.out 0
   have f1 := RowAt.frozen R2.out 1
   have f2 := RowAt.frozen R2.out 2
   have f3 := RowAt.frozen R2.out 3
   have HLD : Hid (LaidL (W.heap.size + 1) w4 zeroC ((((w4.setCell ⟨(W.heap.size + 1), 0, none⟩ (.int .u64 0)).setCell ⟨(W.heap.size + 1), 1, none⟩ (.slice none 0 0)).setCell ⟨(W.heap.size + 1), 2, none⟩ (.slice none 0 0)).setCell ⟨(W.heap.size + 1), 3, none⟩ (.slice none 0 0))) := Hi (laidL_of R2.out rfl)
   go_wp2_with fail
   generalize (((w4.setCell _ _).setCell _ _).setCell _ _).setCell _ _ = w99 at *
   have y0 := cl HLD.out.row 0
   have y1 := cl HLD.out.row 1
   have y2 := cl HLD.out.row 2
   have y3 := cl HLD.out.row 3
   have yl := HLD.out.row.lt
   refine bodyPost_ret (v := .tuple #[.agg zeroC, .int .i64 6]) (by simp [results, Tryz.results86, go_sem, y0, y1, y2, y3, yl]) rfl ?_
   exact refRes_err HF.out (HB.out.trans (HLD.out.below.mono (by omega)))
 ·
  have hm0 : 0 < m2 := by rw [← HLN.out]; exact List.length_pos_iff.2 hz
  have HF := Hi (show doAdv l = .error 241 from by unfold doAdv; rw [if_pos hz])
  have hd : decide ((0 : Int) < (m2 : Int)) = true := by simpa using hm0
  clear hz
  have z0 := cl R2.out 0
  have z1 := cl R2.out 1
  have z2 := cl R2.out 2
  have z3 := cl R2.out 3
  have zl := RowAt.lt R2.out
  have f0 := RowAt.frozen R2.out 0
  have f1 := RowAt.frozen R2.out 1
  have f2 := RowAt.frozen R2.out 2
  have f3 := RowAt.frozen R2.out 3
  have HLD : Hid (LaidL (W.heap.size + 1) w4 zeroC ((((w4.setCell ⟨(W.heap.size + 1), 0, none⟩ (.int .u64 0)).setCell ⟨(W.heap.size + 1), 1, none⟩ (.slice none 0 0)).setCell ⟨(W.heap.size + 1), 2, none⟩ (.slice none 0 0)).setCell ⟨(W.heap.size + 1), 3, none⟩ (.slice none 0 0))) := Hi (laidL_of R2.out rfl)
  go_wp2_with fail
  generalize (((w4.setCell _ _).setCell _ _).setCell _ _).setCell _ _ = w99 at *
  have y0 := cl HLD.out.row 0
  have y1 := cl HLD.out.row 1
  have y2 := cl HLD.out.row 2
  have y3 := cl HLD.out.row 3
  have yl := HLD.out.row.lt
  refine bodyPost_ret (v := .tuple #[.agg zeroC, .int .i64 241]) (by simp [results, Tryz.results86, go_sem, y0, y1, y2, y3, yl]) rfl ?_
  exact refRes_err HF.out (HB.out.trans (HLD.out.below.mono (by omega)))
theorem _root_.Go.Proofs.YtkicidopjihjmaaGreat.Rd.tail1 {w : World} {B b o m1 c2 : Nat} {x : Ent} {rest : List Ent} (h : Rd w B 2 (some ⟨b, o, none⟩) (m1 + 1) (Cs encE (x :: rest))) (hl : rest.length = m1) (hm : m1 + 1 ≤ c2) :
  Rd w B 2 (if c2 = 1 then some ⟨b, o, none⟩ else some ⟨b, o + 2, none⟩) m1 (Cs encE rest) := by
 refine ⟨by rw [Cs_length encE_len, hl], fun hp => ?_⟩
 rw [if_neg (by omega)]
 obtain ⟨b', o', e, hb, hc⟩ := h.2 (by omega)
 injection e with e
 injection e with e1 e2
 subst e1; subst e2
 refine ⟨b, o + 2, rfl, hb, fun j u hu => ?_⟩
 rw [Nat.add_assoc]
 refine hc (2 + j) u ?_
 have e3 : Cs encE (x :: rest) = encE x ++ Cs encE rest := rfl
 rw [e3, List.getElem?_append_right (by simp [encE]), show 2 + j - (encE x).length = j from by simp [encE]]
 exact hu
theorem take_row {w : World} {base n1 n9 c : Nat} {A : Option Addr} {xs : List Ent} (h : w.ownsRow base 41 2 (.slice A n9 c) n9 ([] ++ Cs encE xs)) (h9 : 0 + n1 = n9) (hx : xs.length = n1) : Rd w w.heap.size 2 A n9 (Cs encE xs) ∧ xs.length = n9 := ⟨by have := Rd.of_own h; simpa using this, by omega⟩
theorem rtak_any (Q : Nat → Prop) (A : Nat → Option Addr) (n c : Nat → Nat) (l : Lim) (W : World) (h : LimRd W W.heap.size A n l.r) (hlo : LowL Q W A n) (hl : ∀ j, W.heap.size ≤ j → Q j) (hok : l.ok = true) (hm : ∀ k, k < 3 → n k ≤ 4096) (hcp : CapL n c) :
  Calls Tryz.prog 118 #[.agg (limC l.E A n c)] W (RefResT W Q (doTake l)) := by
 obtain ⟨w1, hw1⟩ : ∃ w1, W.alloc (.cells (limC l.E A n c) 32) = w1 := ⟨_, rfl⟩
 obtain ⟨w2, hw2⟩ : ∃ w2, w1.alloc (.cells zeroC 32) = w2 := ⟨_, rfl⟩
 obtain ⟨w3, hw3⟩ : ∃ w3, w2.alloc (.cells #[.int .i64 0, .int .u64 0] 41) = w3 := ⟨_, rfl⟩
 have s1 : w1.heap.size = W.heap.size + 1 := by rw [← hw1]; simp
 have s2 : w2.heap.size = W.heap.size + 1 + 1 := by rw [← hw2]; simp [s1]
 have b1 := baw hw1
 have b2 := baw hw2
 have b3 := baw hw3
 have r1 : RowAt w3 W.heap.size 32 (limC l.E A n c) := by have h := RowAt.new W 32 (limC l.E A n c); rw [hw1] at h; exact (h.below b2).below b3
 have r2 : RowAt w3 (W.heap.size + 1) 32 zeroC := by have h := RowAt.new w1 32 zeroC; rw [hw2, s1] at h; exact h.below b3
 have r3 : RowAt w3 (W.heap.size + 1 + 1) 41 #[.int .i64 0, .int .u64 0] := by have h := RowAt.new w2 41 #[.int .i64 0, .int .u64 0]; rw [hw3, s2] at h; exact h
 have hb0 := (b1.trans (b2.mono b1.size)).trans (b3.mono (Nat.le_trans b1.size b2.size))
 have R3 := Hi r3
 clear b3 r3
 have HB := Hi hb0
 have R1 := Hi r1
 have R2 := Hi r2
 have HD0 := Hi h
 have HLO := Hi hlo
 have HL := Hi hl
 have HOK := Hi hok
 have HM := Hi hm
 have HCP := Hi hcp
 obtain ⟨A2, m2, c2, hc2, hr2, hl2, hmc, hcm, hm4⟩ := of_two2 (h.below hb0) hcp hok hm
 have HC := Hi hc2
 have HR := Hi hr2
 have HLN := Hi hl2
 have hEL : (l.E : Int) ≤ 4611686018427387904 := by have := (ok_out hok).1; unfold LAST at this; omega
 clear b1 b2 s1 s2 r1 r2 hb0 h hlo hl hok hm hcp hc2 hr2 hl2
 subst hw3
 subst hw2
 subst hw1
 go_enter Tryz.func118, Tryz.ntmps118
 go_upto_region 1 with (fail)
 generalize ((W.alloc _).alloc _).alloc _ = w3 at *
 have q0 := cl R1.out 0
 have q1 := cl R1.out 1
 have q2 := cl R1.out 2
 have q3 := cl R1.out 3
 have ql := R1.out.lt
 go_wp2_with fail
 with_reducible refine HC.out.mono ?_
 rintro e w4 ⟨rfl, hb⟩
 replace R1 := Hi (R1.out.below hb)
 replace R2 := Hi (R2.out.below hb)
 replace R3 := Hi (R3.out.below hb)
 replace HR := Hi (HR.out.below (hb.mono HB.out.size))
 replace HB := bt HB hb
 clear q0 q1 q2 q3 ql hb HC
 obtain ⟨xs, hxs⟩ : ∃ xs, l.at 2 = xs := ⟨_, rfl⟩
 have HXS := Hi hxs
 rw [hxs] at HLN HR
 clear hxs
 cases xs with
 | nil =>
  have hm0 : m2 = 0 := by rw [← HLN.out]; rfl
  subst hm0
  have hd : (((0 : Nat) : Int) == 0) = true := rfl
  have HF := Hi (show doTake l = .error 4 from by unfold doTake; rw [HXS.out])
  have z0 := cl R2.out 0
  have z1 := cl R2.out 1
  have z2 := cl R2.out 2
  have z3 := cl R2.out 3
  have zl := RowAt.lt R2.out
  have f0 := RowAt.frozen R2.out 0
  have f1 := RowAt.frozen R2.out 1
  have f2 := RowAt.frozen R2.out 2
  have f3 := RowAt.frozen R2.out 3
  have HLD : Hid (LaidL (W.heap.size + 1) w4 zeroC ((((w4.setCell ⟨(W.heap.size + 1), 0, none⟩ (.int .u64 0)).setCell ⟨(W.heap.size + 1), 1, none⟩ (.slice none 0 0)).setCell ⟨(W.heap.size + 1), 2, none⟩ (.slice none 0 0)).setCell ⟨(W.heap.size + 1), 3, none⟩ (.slice none 0 0))) := Hi (laidL_of R2.out rfl)
  have k0 := row20 R3.out
  have k1 := row21 R3.out
  have kl := R3.out.lt
  have kf0 := R3.out.frozen 0
  have kf1 := R3.out.frozen 1
  have hne : ¬ W.heap.size + 1 + 1 = W.heap.size + 1 := by omega
  have hne' : ¬ W.heap.size + 1 = W.heap.size + 1 + 1 := by omega
  go_wp2_with fail
  have HLT : Hid (LaidT W w4 zeroC #[.int .i64 0, .int .u64 0] ((((((w4.setCell ⟨W.heap.size + 1, 0, none⟩ (.int .u64 0)).setCell ⟨W.heap.size + 1, 1, none⟩ (.slice none 0 0)).setCell ⟨W.heap.size + 1, 2, none⟩ (.slice none 0 0)).setCell ⟨W.heap.size + 1, 3, none⟩ (.slice none 0 0)).setCell ⟨W.heap.size + 1 + 1, 0, none⟩ (.int .i64 0)).setCell ⟨W.heap.size + 1 + 1, 1, none⟩ (.int .u64 0))) := Hi (laidT_of R2.out rfl R3.out)
  generalize (((((w4.setCell _ _).setCell _ _).setCell _ _).setCell _ _).setCell _ _).setCell _ _ = w9 at *
  have y0 := cl HLT.out.1.1 0
  have y1 := cl HLT.out.1.1 1
  have y2 := cl HLT.out.1.1 2
  have y3 := cl HLT.out.1.1 3
  have yl := HLT.out.1.1.lt
  have u0 := row20 HLT.out.1.2
  have u1 := row21 HLT.out.1.2
  have ul := HLT.out.1.2.lt
  refine bodyPost_ret (v := .tuple #[.agg zeroC, .agg #[.int .i64 0, .int .u64 0], .int .i64 4]) (by simp [results, Tryz.results118, go_sem, y0, y1, y2, y3, yl, u0, u1, ul]) rfl ?_
  exact refResT_err HF.out (HB.out.trans (HLT.out.2.2.mono (by omega)))
 | cons x rest =>
  obtain ⟨s, g⟩ := x
  obtain ⟨m1, hm1⟩ : ∃ m, rest.length = m := ⟨_, rfl⟩
  have hm2 : m2 = m1 + 1 := by rw [← HLN.out, ← hm1]; rfl
  subst hm2
  have HM1 := Hi hm1
  obtain ⟨b, o, rfl, hb, d0, d1⟩ := HR.out.ent HLN.out (k := 0) (by omega)
  simp only [Nat.zero_mul, Nat.add_zero, List.getD_cons_zero] at d0 d1
  have HF := Hi (show doTake l = .ok (⟨l.E, upd l.r (rowN l.E 2) rest⟩, (s, g)) from by unfold doTake; rw [HXS.out])
  have hd : (((m1 + 1 : Nat) : Int) == 0) = false := by rw [beq_eq_false_iff_ne]; omega
  have hd0 : ((m1 : Int) + 1 == 0) = false := by rw [beq_eq_false_iff_ne]; omega
  have hle : 2 ≤ l.E := ok_at HOK.out (by omega) (by rw [HXS.out]; simp)
  have HWT := Hi (fun (w : World) (As : Option Addr) (ns cs : Nat) => show Calls Tryz.prog 146 #[.agg (limC l.E A n c), .int .u64 2, .slice As ns cs] w _ from with_any A n c l.E 2 As ns cs (by omega) hle (by omega) w)
  have HRT := Hi (fun (w : World) (hb : Below (W.heap.size + 1) w4 w) => Rd.tail1 (c2 := c2) (HR.out.below (hb.mono (by omega))) HM1.out (by omega))
  have GLE : Hid (W.heap.size + 1 ≤ w4.heap.size) := Hi (Nat.le_of_lt R2.out.lt)
  have hmc2 : m1 + 1 ≤ c2 := by omega
  have hmc3 : ((m1 : Int) + 1) ≤ (c2 : Int) := by omega
  have h1c : (1 : Int) ≤ (c2 : Int) := by omega
  have h1m : (1 : Int) ≤ (m1 : Int) + 1 := by omega
  have RL3 := Hi (show W.heap.size + 1 + 1 < w4.heap.size from R3.out.lt)
  have H4 := Hi (show m1 ≤ 4096 by omega)
  clear HR HXS hle hm4
  have q0 := cl R1.out 0
  have q1 := cl R1.out 1
  have q2 := cl R1.out 2
  have q3 := cl R1.out 3
  have ql := R1.out.lt
  go_upto_region 4 with (fail)
  refine wp_region_held_drew (S := fun wX => Below (W.heap.size + 1) w4 wX) (by kernel_rfl) (Below.refl _ _).drew (fun hHeld => ?_)
  have HQ := Hi ((Below.refl w4.heap.size w4).drew)
  (refine tkH (i := 0) (v := ?_) rfl (Or.inl ⟨by rfl, ?_⟩) ?_; rotate_left; (focus (intro w hSw; (try dsimp only at hSw); have kf0 := keptB hSw (by omega) q0; have kf1 := keptB hSw (by omega) q1; have kf2 := keptB hSw (by omega) q2; have kf3 := keptB hSw (by omega) q3; go_simp; first | done | with_reducible rfl)); (try simp only [Act.put, Na, Nb, Nc, Nd, Nx, Nf]))
  refine tkI (i := 2) rfl ?_
  refine tkI (i := 3) rfl ?_
  refine tkI (i := 6) rfl ?_
  refine tkI (i := 7) rfl ?_
  (refine tkH (i := 8) (v := ?_) rfl (Or.inl ⟨by rfl, ?_⟩) ?_; rotate_left; (focus (intro w hSw; (try dsimp only at hSw); have kf0 := keptB hSw (by omega) d0; have kf1 := keptB hSw (by omega) d1; go_simp; first | done | with_reducible rfl)); (try simp only [Act.put, Na, Nb, Nc, Nd, Nx, Nf]))
  generalize w4.drew = wd at *
  refine ryH (i := 1) rfl (fun K0 hK0 => ?_)
  go_simp
  have hbx := ba wd (.cells #[] 41)
  refine hK0.out _ _ ((HQ.out.alloc HQ.out.size _).mono GLE.out) (fun _ => wnH ?_)
  clear hK0 K0
  have HO := Hi (World.ownsRow_lit (base := w4.heap.size) (e := 41) (size := 2) wd #[] 0 HQ.out.size (by simp [maxLen]) rfl)
  replace HQ := bt HQ hbx
  clear hbx
  generalize wd.alloc (.cells #[] 41) = wa at *
  refine ryH (i := 4) rfl (fun K1 hK1 => ?_)
  rw [if_pos (by rfl)]
  refine wp_app elE _ _ rfl rfl HO.out rfl (HRT.out _ (HQ.out.mono GLE.out)) (Cs_one_cell encE_one _) (by have := H4.out; omega) HQ.out.size ?_
  intro v4 wb hown hb4 hbq hx4
  replace HO := Hi hown
  replace HQ := Hi (HQ.out.trans hb4)
  clear hown hb4 hbq hx4
  obtain ⟨A9, c9, rfl, hcq1, hcq2⟩ := own_form2 HO.out
  have HCQ := Hi (CapL.pu HCP.out (rowN l.E 2) hcq1 hcq2)
  clear hcq1 hcq2
  generalize hn9 : 0 + m1 = n9 at HO HCQ ⊢
  have HN9 := Hi hn9
  clear hn9
  refine hK1.out _ _ ((HQ.out).mono GLE.out) (fun _ => wnH ?_)
  clear hK1 K1
  refine ryH (i := 5) rfl (fun K2 hK2 => ?_)
  go_simp
  refine (HWT.out _ A9 n9 c9).mono ?_
  rintro e wc ⟨rfl, hbc⟩
  replace HO := Hi (own_keepB HO.out hbc)
  replace HQ := bt HQ hbc
  clear hbc HWT
  refine hK2.out _ _ ((HQ.out).mono GLE.out) (fun _ => wnH ?_)
  clear hK2 K2
  refine ryH (i := 9) rfl (fun K3 hK3 => ?_)
  have R9 := Hi (show RowAt wc (W.heap.size + 1) 32 zeroC from R2.out.below HQ.out)
  obtain ⟨A8, hA8⟩ : ∃ x, pu A (rowN l.E 2) A9 = x := ⟨_, rfl⟩
  obtain ⟨n8, hn8⟩ : ∃ x, pu n (rowN l.E 2) n9 = x := ⟨_, rfl⟩
  obtain ⟨c8, hc8⟩ : ∃ x, pu c (rowN l.E 2) c9 = x := ⟨_, rfl⟩
  rw [hA8, hn8, hc8]
  have HA8 := Hi hA8
  have HN8 := Hi hn8
  have HC8 := Hi hc8
  clear hA8 hn8 hc8
  have z0 := cl R9.out 0
  have z1 := cl R9.out 1
  have z2 := cl R9.out 2
  have z3 := cl R9.out 3
  have zl := RowAt.lt R9.out
  have f0 := RowAt.frozen R9.out 0
  have f1 := RowAt.frozen R9.out 1
  have f2 := RowAt.frozen R9.out 2
  have f3 := RowAt.frozen R9.out 3
  have HL9 : Hid (LaidL (W.heap.size + 1) wc (limC l.E A8 n8 c8) ((((wc.setCell ⟨(W.heap.size + 1), 0, none⟩ (.int .u64 (l.E : Int))).setCell ⟨(W.heap.size + 1), 1, none⟩ (.slice (A8 0) (n8 0) (c8 0))).setCell ⟨(W.heap.size + 1), 2, none⟩ (.slice (A8 1) (n8 1) (c8 1))).setCell ⟨(W.heap.size + 1), 3, none⟩ (.slice (A8 2) (n8 2) (c8 2)))) := Hi (laidL_of R9.out rfl)
  go_simp
  have HB9 := Hi ((HQ.out.mono GLE.out).trans HL9.out.below)
  refine hK3.out _ _ HB9.out (fun _ => wnH ?_)
  clear hK3 K3
  clear z0 z1 z2 z3 zl f0 f1 f2 f3 R9
  have R3 := Hi (show RowAt wc (W.heap.size + 1 + 1) 41 #[.int .i64 0, .int .u64 0] from R3.out.below HQ.out)
  replace R3 := Hi (show RowAt ((((wc.setCell ⟨W.heap.size + 1, 0, none⟩ (.int .u64 (l.E : Int))).setCell ⟨W.heap.size + 1, 1, none⟩ (.slice (A8 0) (n8 0) (c8 0))).setCell ⟨W.heap.size + 1, 2, none⟩ (.slice (A8 1) (n8 1) (c8 1))).setCell ⟨W.heap.size + 1, 3, none⟩ (.slice (A8 2) (n8 2) (c8 2))) (W.heap.size + 1 + 1) 41 #[.int .i64 0, .int .u64 0] from (HL9.out.block _ (by omega)).trans R3.out)
  generalize (((wc.setCell _ _).setCell _ _).setCell _ _).setCell _ _ = wt at *
  refine ryH (i := 10) rfl (fun K4 hK4 => ?_)
  have k0 := row20 R3.out
  have k1 := row21 R3.out
  have kl := R3.out.lt
  have kf0 := R3.out.frozen 0
  have kf1 := R3.out.frozen 1
  go_simp
  have HB10 := Hi (show Below (W.heap.size + 1) w4 ((wt.setCell ⟨W.heap.size + 1 + 1, 0, none⟩ (.int .i64 s)).setCell ⟨W.heap.size + 1 + 1, 1, none⟩ (.int .u64 g)) from (HB9.out.setCell (p := ⟨W.heap.size + 1 + 1, 0, none⟩) (by simp) _).setCell (p := ⟨W.heap.size + 1 + 1, 1, none⟩) (by simp) _)
  refine hK4.out _ _ HB10.out (fun _ => wnH ?_)
  clear hK4 K4
  have HE9 := Hi (show RowAt ((wt.setCell ⟨W.heap.size + 1 + 1, 0, none⟩ (.int .i64 s)).setCell ⟨W.heap.size + 1 + 1, 1, none⟩ (.int .u64 g)) (W.heap.size + 1 + 1) 41 #[.int .i64 s, .int .u64 g] from by have h := (R3.out.set 0 (.int .i64 s)).set 1 (.int .u64 g); simpa using h)
  have HY9 := Hi (show RowAt ((wt.setCell ⟨W.heap.size + 1 + 1, 0, none⟩ (.int .i64 s)).setCell ⟨W.heap.size + 1 + 1, 1, none⟩ (.int .u64 g)) (W.heap.size + 1) 32 (limC l.E A8 n8 c8) from (HL9.out.row.setNe (by omega)).setNe (by omega))
  have HBL := Hi (show ∀ j, j ≠ W.heap.size + 1 → j ≠ W.heap.size + 1 + 1 → ((wt.setCell ⟨W.heap.size + 1 + 1, 0, none⟩ (.int .i64 s)).setCell ⟨W.heap.size + 1 + 1, 1, none⟩ (.int .u64 g)).heap[j]? = wc.heap[j]? from fun j h1 h2 => by rw [heap_setCell_ne _ _ _ _ h2, heap_setCell_ne _ _ _ _ h2]; exact HL9.out.block j h1)
  clear k0 k1 kl kf0 kf1 R3 HB9 HL9
  generalize (wt.setCell _ _).setCell _ _ = wu at *
  have HO9 := Hi (own_other2 HO.out (fun g1 h1 _ => HBL.out g1 (by have := R2.out.lt; omega) (by have := RL3.out; omega)))
  have HR9 := Hi (take_row HO9.out HN9.out HM1.out)
  have HRES := Hi (show LimRd wu wu.heap.size A8 n8 (upd l.r (rowN l.E 2) rest) from by rw [← HA8.out, ← HN8.out]; exact LimRd.put ((HD0.out.below (HB.out.trans (HB10.out.mono (by omega)))).more (Nat.le_trans HB.out.size HB10.out.size)) _ HR9.out.1 HR9.out.2)
  have HLOW : Hid (LowL Q wu A8 n8) := Hi (by rw [← HA8.out, ← HN8.out]; exact (HLO.out.more (Nat.le_trans HB.out.size HB10.out.size)).pu _ (fun p hp => ⟨HL.out _ (Nat.le_trans HB.out.size (own_fresh2 HO9.out p hp).1), (own_fresh2 HO9.out p hp).2⟩))
  have HCAP : Hid (CapL n8 c8) := Hi (by rw [← HN8.out, ← HC8.out]; exact HCQ.out)
  have HFIN := Hi (HB.out.trans (HB10.out.mono (by omega)))
  refine tkI (i := 11) rfl ?_
  refine wpAnyH_done (by kernel_rfl) ?_ _
  go_wp2_with fail
  all_goals
   have y0 := cl HY9.out 0
   have y1 := cl HY9.out 1
   have y2 := cl HY9.out 2
   have y3 := cl HY9.out 3
   have yl := HY9.out.lt
   have u0 := row20 HE9.out
   have u1 := row21 HE9.out
   have ul := HE9.out.lt
   refine bodyPost_ret (v := .tuple #[.agg (limC l.E A8 n8 c8), .agg #[.int .i64 s, .int .u64 g], .int .i64 0]) (by simp [results, Tryz.results118, go_sem, y0, y1, y2, y3, yl, u0, u1, ul]) rfl ?_
   exact refResT_ok (l := ⟨l.E, upd l.r (rowN l.E 2) rest⟩) HF.out HRES.out HLOW.out HCAP.out HFIN.out
end Go.Proofs.YtkicidopjihjmaaGreat.Li
namespace Go.Proofs.YtkicidopjihjmaaGreat
open Go Go.RowKit
structure RefQ (Q : Nat → Prop) (w : World) (A0 As : Option Addr) (n0 c0 ns cs : Nat) (A : Nat → Option Addr) (n c : Nat → Nat) (r : Rec) : Prop where
 sl : Rd w w.heap.size 2 A0 n0 (Cs encE r.sl)
 l0 : r.sl.length = n0
 S : Rd w w.heap.size 1 As ns (Cs encW r.S)
 sq : 0 < ns → ∀ p, As = some p → Q p.block
 ls : r.S.length = ns
 lim : Li.LimRd w w.heap.size A n r.l.r
 low : Li.LowL Q w A n
 cap : Li.CapL n c
 two : n0 = 0 ∨ 2 ≤ n0
 slq : 0 < n0 → ∀ p, A0 = some p → Q p.block
theorem rd_lt {w : World} {B sz n : Nat} {A : Option Addr} {xs : List Value} (h : Rd w B sz A n xs) (hn : 0 < n) {p : Addr} (hp : A = some p) : p.block < B := by
 obtain ⟨b, o, e, hb, _⟩ := h.2 hn
 rw [hp] at e
 injection e with e
 rw [e]
 exact hb
theorem RefQ.of_rec {F : Nat → Prop} {w : World} {A0 As : Option Addr} {n0 c0 ns cs : Nat} {A : Nat → Option Addr} {n c : Nat → Nat} {r : Rec} (h : RecF F w A0 As n0 c0 ns cs A n c r) (h2 : n0 = 0 ∨ 2 ≤ n0) : RefQ (fun _ => True) w A0 As n0 c0 ns cs A n c r :=
 ⟨h.sl.rd, h.l0, h.S.rd, fun _ _ _ => trivial, h.ls, h.lim, fun k p hk hn hp => ⟨trivial, rd_lt (h.rw k hk).rd hn hp⟩, fun k hk => ⟨by have := (h.hl k hk).1; omega, by have h2 : c k ≤ 9223372036854775807 := (h.hl k hk).2; omega⟩, h2, fun _ _ _ => trivial⟩
theorem RefQ.below {Q : Nat → Prop} {w w' : World} {A0 As : Option Addr} {n0 c0 ns cs : Nat} {A : Nat → Option Addr} {n c : Nat → Nat} {r : Rec} (h : RefQ Q w A0 As n0 c0 ns cs A n c r) (hb : Below w.heap.size w w') : RefQ Q w' A0 As n0 c0 ns cs A n c r :=
 ⟨(h.sl.below hb).more hb.size, h.l0, (h.S.below hb).more hb.size, h.sq, h.ls, (h.lim.below hb).more hb.size, h.low.more hb.size, h.cap, h.two, h.slq⟩
theorem RefQ.up {Q G : Nat → Prop} {w : World} {A0 As : Option Addr} {n0 c0 ns cs : Nat} {A : Nat → Option Addr} {n c : Nat → Nat} {r : Rec} (h : RefQ Q w A0 As n0 c0 ns cs A n c r) (hG : ∀ j, Q j → j < w.heap.size → G j) : RefQ G w A0 As n0 c0 ns cs A n c r :=
 ⟨h.sl, h.l0, h.S, fun hn p hp => hG _ (h.sq hn p hp) (rd_lt h.S hn hp), h.ls, h.lim, fun k p hk hn hp => ⟨hG _ (h.low k p hk hn hp).1 (h.low k p hk hn hp).2, (h.low k p hk hn hp).2⟩, h.cap, h.two, fun hn p hp => hG _ (h.slq hn p hp) (rd_lt h.sl hn hp)⟩
theorem RefQ.laid {Q : Nat → Prop} {w w' : World} {g : Nat} {A0 As : Option Addr} {n0 c0 ns cs : Nat} {A : Nat → Option Addr} {n c : Nat → Nat} {r : Rec} (h : RefQ Q w A0 As n0 c0 ns cs A n c r) (hl : LaidF g w w') (hQ : ∀ j, Q j → j ≠ g) (hsl : 0 < n0 → ∀ p, A0 = some p → p.block ≠ g) : RefQ Q w' A0 As n0 c0 ns cs A n c r :=
 ⟨(h.sl.laid hsl hl).more hl.size, h.l0, (h.S.laid (fun hn p hp => hQ _ (h.sq hn p hp)) hl).more hl.size, h.sq, h.ls,
  ⟨fun k hk => ((h.lim.1 k hk).laid (fun hn p hp => hQ _ (h.low k p hk hn hp).1) hl).more hl.size, h.lim.2⟩, h.low.more hl.size, h.cap, h.two, h.slq⟩
theorem RefQ.slabs {Q : Nat → Prop} {w : World} {A0 As : Option Addr} {n0 c0 ns cs : Nat} {A : Nat → Option Addr} {n c : Nat → Nat} {r : Rec} (h : RefQ Q w A0 As n0 c0 ns cs A n c r) {A1 : Option Addr} {n1 c1 : Nat} {X : List Ent} (hr : Rd w w.heap.size 2 A1 n1 (Cs encE X)) (hx : X.length = n1) (h2 : n1 = 0 ∨ 2 ≤ n1) (hq : ∀ p, A1 = some p → Q p.block) : RefQ Q w A1 As n1 c1 ns cs A n c ⟨X, r.e, r.S, r.l⟩ :=
 ⟨hr, hx, h.S, h.sq, h.ls, h.lim, h.low, h.cap, h2, fun _ => hq⟩
theorem RefQ.pins {Q : Nat → Prop} {w : World} {A0 As : Option Addr} {n0 c0 ns cs : Nat} {A : Nat → Option Addr} {n c : Nat → Nat} {r : Rec} (h : RefQ Q w A0 As n0 c0 ns cs A n c r) {A1 : Option Addr} {n1 c1 : Nat} {e : Int} {X : List Int} (hr : Rd w w.heap.size 1 A1 n1 (Cs encW X)) (hx : X.length = n1) (hq : 0 < n1 → ∀ p, A1 = some p → Q p.block) : RefQ Q w A0 A1 n0 c0 n1 c1 A n c ⟨r.sl, e, X, r.l⟩ :=
 ⟨h.sl, h.l0, hr, hq, hx, h.lim, h.low, h.cap, h.two, h.slq⟩
theorem RefQ.limbo {Q : Nat → Prop} {w : World} {A0 As : Option Addr} {n0 c0 ns cs : Nat} {A : Nat → Option Addr} {n c : Nat → Nat} {r : Rec} (h : RefQ Q w A0 As n0 c0 ns cs A n c r) {A1 : Nat → Option Addr} {n1 c1 : Nat → Nat} {l : Li.Lim} (hl : Li.LimRd w w.heap.size A1 n1 l.r) (hq : Li.LowL Q w A1 n1) (hc : Li.CapL n1 c1) : RefQ Q w A0 As n0 c0 ns cs A1 n1 c1 ⟨r.sl, r.e, r.S, l⟩ :=
 ⟨h.sl, h.l0, h.S, h.sq, h.ls, hl, hq, hc, h.two, h.slq⟩
def RefOut (Q : Nat → Prop) (w : World) (v : Value) (r : Rec) : Prop := ∃ A0 As n0 c0 ns cs A n c, v = .agg (recC r.e r.l.E A0 As n0 c0 ns cs A n c) ∧ RefQ Q w A0 As n0 c0 ns cs A n c r
theorem RefOut.below {Q : Nat → Prop} {w w' : World} {v : Value} {r : Rec} (h : RefOut Q w v r) (hb : Below w.heap.size w w') : RefOut Q w' v r := by
 obtain ⟨A0, As, n0, c0, ns, cs, A, n, c, hv, h⟩ := h
 exact ⟨A0, As, n0, c0, ns, cs, A, n, c, hv, h.below hb⟩
theorem RefOut.up {Q G : Nat → Prop} {w : World} {v : Value} {r : Rec} (h : RefOut Q w v r) (hG : ∀ j, Q j → j < w.heap.size → G j) : RefOut G w v r := by
 obtain ⟨A0, As, n0, c0, ns, cs, A, n, c, hv, h⟩ := h
 exact ⟨A0, As, n0, c0, ns, cs, A, n, c, hv, h.up hG⟩
theorem RefOut.of_rec {F : Nat → Prop} {w : World} {v : Value} {r : Rec} (h : RecOut F w v r) (h2 : r.sl.length = 0 ∨ 2 ≤ r.sl.length) : RefOut (fun _ => True) w v r := by
 obtain ⟨A0, As, n0, c0, ns, cs, A, n, c, hv, h⟩ := h
 exact ⟨A0, As, n0, c0, ns, cs, A, n, c, hv, RefQ.of_rec h (by rw [← h.l0]; exact h2)⟩
theorem zero_refq (Q : Nat → Prop) (w : World) : RefQ Q w none none 0 0 0 0 (fun _ => none) (fun _ => 0) (fun _ => 0) rec0 :=
 ⟨Rd.none_, rfl, Rd.none_, fun h => absurd h (by omega), rfl, ⟨fun _ _ => Rd.none_, fun _ _ => rfl⟩, fun _ _ _ _ h => (by cases h), Li.CapL.zero, .inl rfl, fun h => absurd h (by omega)⟩
theorem RefOut.zero (Q : Nat → Prop) (w : World) : RefOut Q w (.agg #[.slice none 0 0, .int .u64 0, .slice none 0 0, .int .u64 0, .slice none 0 0, .slice none 0 0, .slice none 0 0]) rec0 :=
 ⟨none, none, 0, 0, 0, 0, fun _ => none, fun _ => 0, fun _ => 0, rfl, zero_refq Q w⟩
theorem refq_fit {Q : Nat → Prop} {w : World} {A0 As : Option Addr} {n0 c0 ns cs : Nat} {A : Nat → Option Addr} {n c : Nat → Nat} {r : Rec} (h : RefQ Q w A0 As n0 c0 ns cs A n c r) (hw : WfR r) : (∀ k, k < 3 → n k ≤ 4096) ∧ (2 ≤ n0 ∧ n0 ≤ 128) ∧ (1 ≤ ns ∧ ns ≤ 8) := by
 have hf := hw.fit
 refine ⟨fun k hk => by rw [← h.lim.2 k hk]; exact hf.rw k hk, ?_, ?_⟩
 ·
  have h1 := arOk_out hw.ok.ar
  rw [← h.l0]
  exact ⟨by have := h1.1; omega, by have := h1.2.1; omega⟩
 ·
  have h1 := Pn.pOk_out hw.ok.pn
  rw [← h.ls]
  exact ⟨h1.1, h1.2.1⟩
end Go.Proofs.YtkicidopjihjmaaGreat
namespace Go.Proofs.YtkicidopjihjmaaGreat
open Go Go.RowKit
attribute [local go_sem] via_cell via_frozen
theorem two_apart {w : World} {B n g : Nat} {A : Option Addr} {xs : List Ent} {t : TypeId} {u v : Value} (h : Rd w B 2 A n (Cs encE xs)) (hx : xs.length = n) (h2 : 2 ≤ n) (hg : RowAt w g t #[u, v]) : ∀ p, A = some p → p.block ≠ g := by
 intro q hq he
 obtain ⟨b, o, e1, hb, hc⟩ := h.2 (by omega)
 rw [hq] at e1
 injection e1 with e1
 subst e1
 have hl : 2 < (Cs encE xs).length := by rw [Cs_length encE_len]; omega
 have h0 := hc 2 _ (List.getElem?_eq_getElem hl)
 have e2 : b = g := he
 subst e2
 rw [hg.cell] at h0
 rw [Array.getElem?_eq_none (by simp)] at h0
 cases h0
set_option maxRecDepth 20000 in
theorem rTag_any (A : Option Addr) (c n : Nat) (s g : Int) (xs : List Ent) (W : World) (h : Rd W W.heap.size 2 A n (Cs encE xs)) (hx : xs.length = n) (hn : n ≤ 4096) (v : Int) (hv : (if meantB xs (s, g) = true then tagOf xs (s, g) else 0) = v) :
  Calls Tryz.prog 114 #[.agg #[.slice A n c], .agg #[.int .i64 s, .int .u64 g]] W fun e W' => (∃ b, e = .returned (.tuple #[.int .i64 v, .bool b])) ∧ Below W.heap.size W W' := by
 have hb : Below W.heap.size W ((W.alloc (.cells #[.slice A n c] 24)).alloc (.cells #[.int .i64 s, .int .u64 g] 41)) := ((Below.refl _ _).alloc (Nat.le_refl _) _).alloc (by simp) _
 have K2 := Hi (row_alloc (RowAt.new W 24 #[.slice A n c]) (.cells #[.int .i64 s, .int .u64 g] 41))
 have al := al2 W #[.slice A n c] 24 #[.int .i64 s, .int .u64 g] 41
 have K3 := Hi al.1.2
 clear al
 have HR := Hi ((h.below hb).more hb.size)
 have HB := Hi hb
 have HX := Hi hx
 have HN := Hi hn
 have HV := Hi hv
 clear hb h hx hn hv
 go_enter Tryz.func114, Tryz.ntmps114
 go_upto_region 1 with (fail)
 generalize (W.alloc _).alloc _ = w1 at *
 have y0 := row1 K2.out
 have yl := K2.out.lt
 have z0 := row20 K3.out
 have z1 := row21 K3.out
 have zl := K3.out.lt
 go_wp2_with fail
 obtain ⟨q, hq⟩ : ∃ q, meantB xs (s, g) = q := ⟨_, rfl⟩
 with_reducible refine (rmeant_any w1.heap.size A c n s g xs w1 HR.out HX.out (Nat.le_refl _) (by have := HN.out; omega) q hq).mono ?_
 rintro e w2 ⟨rfl, hb⟩
 replace K2 := Hi (K2.out.below hb)
 replace K3 := Hi (K3.out.below hb)
 replace HR := Hi ((HR.out.below hb).more hb.size)
 replace HB := bt HB hb
 clear hb y0 yl z0 z1 zl
 cases q with
 | false =>
  have h0 := Hi (show v = 0 from by rw [← HV.out, hq]; rfl)
  clear hq
  go_wp2_with fail
  exact bodyPost_ret (v := .tuple #[.int .i64 0, .bool false]) (by simp [results, Tryz.results114, go_sem]) rfl ⟨⟨_, by rw [h0.out]⟩, HB.out⟩
 | true =>
  obtain ⟨k, hk, hkl, _⟩ := meantB_out hq
  have hk : s = (k : Int) := hk
  subst hk
  have h0 := Hi (show v = (xs.getD k (0, 0)).1 from by rw [← HV.out, hq]; rfl)
  have hkn : k < n := by rw [← HX.out]; exact hkl
  have hki : (k : Int) < (n : Int) := by omega
  obtain ⟨b, o, rfl, hbl, d0, d1⟩ := Rd.ent HR.out HX.out hkn
  generalize xs.getD k (0, 0) = z at *
  have hbl2 : b < w2.heap.size := hbl
  clear hq hkl hbl
  have y0 := row1 K2.out
  have yl := K2.out.lt
  have z0 := row20 K3.out
  have z1 := row21 K3.out
  have zl := K3.out.lt
  go_wp2_with fail
  exact bodyPost_ret (v := .tuple #[.int .i64 z.1, .bool true]) (by simp [results, Tryz.results114, go_sem]) rfl ⟨⟨_, by rw [h0.out]⟩, HB.out⟩
set_option maxRecDepth 20000 in
theorem RPin_any (Q : Nat → Prop) (A1 S1 : Option Addr) (n1 c1 m1 d1 : Nat) (B1 : Nat → Option Addr) (p1 f1 : Nat → Nat) (r : Rec) (o : EOp) (k : Int) (W : World) (hr : RefQ Q W A1 S1 n1 c1 m1 d1 B1 p1 f1 r) (hl : ∀ j, W.heap.size ≤ j → Q j) (hf : FitR r) (hp : Pn.pOk r.e r.S = true) (hb : 0 ≤ o.b) : Calls Tryz.prog 84 #[.agg #[.slice A1 n1 c1, .int .u64 r.e, .slice S1 m1 d1, .int .u64 (r.l.E : Int), .slice (B1 0) (p1 0) (f1 0), .slice (B1 1) (p1 1) (f1 1), .slice (B1 2) (p1 2) (f1 2)], .agg #[.int .i64 o.k, .int .i64 o.g, .int .u64 o.b, .int .i64 o.x.1, .int .u64 o.x.2], .int .i64 k] W fun e W' =>
  (∃ v, e = .returned (.tuple #[v, .int .i64 (Pn.doE r.e r.S k o.g o.b)]) ∧ RefOut Q W' v ⟨r.sl, Pn.doX r.e r.S k o.g o.b, Pn.doS r.e r.S k o.g o.b, r.l⟩) ∧ Below W.heap.size W W' := by
 have al := al3 W #[.slice A1 n1 c1, .int .u64 r.e, .slice S1 m1 d1, .int .u64 (r.l.E : Int), .slice (B1 0) (p1 0) (f1 0), .slice (B1 1) (p1 1) (f1 1), .slice (B1 2) (p1 2) (f1 2)] 34 #[.int .i64 o.k, .int .i64 o.g, .int .u64 o.b, .int .i64 o.x.1, .int .u64 o.x.2] 43 #[.slice none 0 0, .int .u64 0, .slice none 0 0, .int .u64 0, .slice none 0 0, .slice none 0 0, .slice none 0 0] 34
 have b1 := al.2.1
 have b2 := al.2.2.1
 have b3 := al.2.2.2
 have K3 := Hi al.1.1
 have K4 := Hi al.1.2.1
 have K6 := Hi al.1.2.2
 clear al
 have bb := (b1.trans (b2.mono b1.size)).trans (b3.mono (Nat.le_trans b1.size b2.size))
 have R1 := Hi ((hr.up (G := fun j => Q j ∧ j ≠ W.heap.size ∧ j ≠ (W.heap.size + 1 + 1)) (fun j hj hl => ⟨hj, by omega, by omega⟩)).below bb)
 have HQF := Hi hl
 have HB := Hi bb
 have HF := Hi hf
 have HP := Hi hp
 have HO := Hi hb
 clear b1 b2 b3 bb hr hf hp hb hl
 go_enter Tryz.func84, Tryz.ntmps84
 go_upto_region 1 with (fail)
 generalize ((W.alloc _).alloc _).alloc _ = w1 at *
 have HZ := Hi (show W.heap.size + 1 + 1 < w1.heap.size from K6.out.lt)
 obtain ⟨z0, z1, z2, z3, z4, z5, z6⟩ := row7 K3.out
 have zl := K3.out.lt
 obtain ⟨y0, y1, y2, y3, y4⟩ := row5 K4.out
 have yl := K4.out.lt
 go_wp2_with fail
 clear z0 z1 z2 z3 z4 z5 z6 zl y0 y1 y2 y3 y4 yl
 obtain ⟨ke, hke⟩ : ∃ z, Pn.doE r.e r.S k o.g o.b = z := ⟨_, rfl⟩
 obtain ⟨kx, hkx⟩ : ∃ z, Pn.doX r.e r.S k o.g o.b = z := ⟨_, rfl⟩
 obtain ⟨kS, hkS⟩ : ∃ z, Pn.doS r.e r.S k o.g o.b = z := ⟨_, rfl⟩
 obtain ⟨km, hkm⟩ : ∃ z, kS.length = z := ⟨_, rfl⟩
 with_reducible refine (Pn.rDo_any S1 d1 m1 r.e r.S k o.g o.b w1 R1.out.S R1.out.ls HF.out.e.1 HF.out.s HO.out HP.out ke kx kS km hke hkx hkS hkm).mono ?_
 rintro e w2 ⟨A2, c2, rfl, hc1, hc2, hrd, hfr, hb⟩
 have HKE := Hi hke
 have HKX := Hi hkx
 have HKS := Hi hkS
 have HKM := Hi hkm
 have HC := Hi (And.intro hc1 hc2)
 have HRD := Hi hrd
 have HFR := Hi hfr
 clear hke hkx hkS hkm hc1 hc2 hrd hfr
 replace K3 := Hi (K3.out.below hb)
 replace K6 := Hi (K6.out.below hb)
 replace R1 := Hi (R1.out.below hb)
 replace HB := bt HB hb
 clear hb K4
 go_upto_region 2 with (fail)
 have hb := ba w2 (.cells #[.int .u64 kx, .slice A2 km c2] 28)
 have K8 := Hi (RowAt.new w2 28 #[.int .u64 kx, .slice A2 km c2])
 replace K3 := Hi (K3.out.below hb)
 replace K6 := Hi (K6.out.below hb)
 replace R1 := Hi (R1.out.below hb)
 replace HRD := Hi ((HRD.out.below hb).more hb.size)
 replace HB := bt HB hb
 clear hb
 generalize w2.alloc _ = w3 at *
 generalize w2.heap.size = g8 at *
 obtain ⟨⟨z0, z1, z2, z3, z4, z5, z6⟩, ⟨q0, q1, q2, q3, q4, q5, q6⟩, zl⟩ := all7 K3.out
 have u0 := row20 K8.out
 have u1 := row21 K8.out
 have ul := K8.out.lt
 go_upto_region 3 with (fail)
 clear z0 z1 z2 z3 z4 z5 z6 q0 q1 q2 q3 q4 q5 q6 zl u0 u1 ul K8
 have HLD := Hi (show LaidF W.heap.size w3 ((w3.setCell ⟨W.heap.size, 1, none⟩ (.int .u64 kx)).setCell ⟨W.heap.size, 2, none⟩ (.slice A2 km c2)) from ((laid0 W.heap.size w3).set 1 (.int .u64 kx)).set 2 (.slice A2 km c2))
 have HRN := Hi (show RowAt ((w3.setCell ⟨W.heap.size, 1, none⟩ (.int .u64 kx)).setCell ⟨W.heap.size, 2, none⟩ (.slice A2 km c2)) W.heap.size 34 #[.slice A1 n1 c1, .int .u64 kx, .slice A2 km c2, .int .u64 (r.l.E : Int), .slice (B1 0) (p1 0) (f1 0), .slice (B1 1) (p1 1) (f1 1), .slice (B1 2) (p1 2) (f1 2)] from by have h := (K3.out.set 1 (.int .u64 kx)).set 2 (.slice A2 km c2); simpa using h)
 replace K6 := Hi (show RowAt ((w3.setCell ⟨W.heap.size, 1, none⟩ (.int .u64 kx)).setCell ⟨W.heap.size, 2, none⟩ (.slice A2 km c2)) (W.heap.size + 1 + 1) 34 #[.slice none 0 0, .int .u64 0, .slice none 0 0, .int .u64 0, .slice none 0 0, .slice none 0 0, .slice none 0 0] from (HLD.out.block (W.heap.size + 1 + 1) (by omega)).trans K6.out)
 replace R1 := Hi (R1.out.laid HLD.out (fun j h => h.2.1) (rec_apart R1.out.sl R1.out.l0 K3.out))
 replace HRD := Hi ((HRD.out.laid (fun _ p hp => by have h1 := HFR.out p hp; have h2 := HZ.out; omega) HLD.out).more HLD.out.size)
 replace HB := Hi (HB.out.trans (HLD.out.below.mono (Nat.le_refl _)))
 clear HLD K3
 generalize (w3.setCell _ _).setCell _ _ = w4 at *
 obtain ⟨⟨z0, z1, z2, z3, z4, z5, z6⟩, ⟨q0, q1, q2, q3, q4, q5, q6⟩, zl⟩ := all7 K6.out
 obtain ⟨v0, v1, v2, v3, v4, v5, v6⟩ := row7 HRN.out
 have vl := HRN.out.lt
 go_wp2_with fail
 generalize hw : World.setCell _ _ _ = w5
 obtain ⟨hl, hk⟩ := laid7 K6.out hw
 clear z0 z1 z2 z3 z4 z5 z6 q0 q1 q2 q3 q4 q5 q6 zl v0 v1 v2 v3 v4 v5 v6 vl hw
 replace R1 := Hi (R1.out.laid hl (fun j h => h.2.2) (rec_apart (e := 0) (E := 0) (A0 := none) (As := none) (n0 := 0) (c0 := 0) (ns := 0) (cs := 0) (A2 := fun _ => none) (n2 := fun _ => 0) (c2 := fun _ => 0) R1.out.sl R1.out.l0 K6.out))
 replace HRD := Hi ((HRD.out.laid (fun _ p hp => by have h1 := HFR.out p hp; have h2 := HZ.out; omega) hl).more hl.size)
 replace HB := Hi (HB.out.trans (hl.below.mono (by show W.heap.size ≤ W.heap.size + 1 + 1; omega)))
 obtain ⟨z0, z1, z2, z3, z4, z5, z6⟩ := row7 hk
 have zl := hk.lt
 clear hl
 refine bodyPost_ret (v := .tuple #[.agg #[.slice A1 n1 c1, .int .u64 kx, .slice A2 km c2, .int .u64 (r.l.E : Int), .slice (B1 0) (p1 0) (f1 0), .slice (B1 1) (p1 1) (f1 1), .slice (B1 2) (p1 2) (f1 2)], .int .i64 ke]) (by simp [results, Tryz.results84, go_sem, z0, z1, z2, z3, z4, z5, z6, zl]) rfl ⟨⟨_, by rw [HKE.out], ?_⟩, HB.out⟩
 rw [HKX.out, HKS.out]
 exact ⟨A1, A2, n1, c1, km, c2, B1, p1, f1, rfl, (R1.out.up (fun j hj _ => hj.1)).pins HRD.out HKM.out (fun _ p hp => HQF.out _ (by have h1 := HFR.out p hp; have h2 := HZ.out; omega))⟩
def OffBn (Q : Nat → Prop) (A : Option Addr) (g : Nat) : Prop := ∀ p, A = some p → p.block ≠ g ∧ Q p.block
theorem Rd.setB {Q : Nat → Prop} {w : World} {B sz n g : Nat} {A : Option Addr} {xs : List Value} (h : Rd w B sz A n xs) (ho : OffBn Q A g) (o : Nat) (u : Value) : Rd (w.setCell ⟨g, o, none⟩ u) B sz A n xs := by
 cases A with
 | none => exact ⟨h.1, fun hn => by obtain ⟨b, off, e, _⟩ := h.2 hn; cases e⟩
 | some p =>
  obtain ⟨g2, o2, sp⟩ := p
  have hne := (ho _ rfl).1
  rcases Nat.eq_zero_or_pos n with h0 | h0
  · exact ⟨h.1, fun hn => absurd hn (by omega)⟩
  ·
   obtain ⟨b, off, e, _, _⟩ := h.2 h0
   injection e with e
   injection e with e1 e2 e3
   subst e1 e2 e3
   exact rd_setCell_ne h (fun e => hne e.symm)
theorem Rd.keepA {w w' : World} {B sz n : Nat} {A : Option Addr} {xs : List Value} (h : Rd w B sz A n xs) (hk : ∀ p, A = some p → p.block < B → w'.heap[p.block]? = w.heap[p.block]?) : Rd w' B sz A n xs :=
 ⟨h.1, fun hn => by
  obtain ⟨b, off, e, hb, hc⟩ := h.2 hn
  refine ⟨b, off, e, hb, fun j u hj => ?_⟩
  rw [← hc j u hj]
  exact cell_of_heap (p := ⟨b, off + j, none⟩) (hk ⟨b, off, none⟩ e hb)⟩
theorem rRetire_any (Q : Nat → Prop) (A : Option Addr) (c n : Nat) (A2 : Option Addr) (c2 m : Nat) (xs l : List (Int × Int)) (W : World) (h : Rd W W.heap.size 2 A n (Cs encE xs)) (hx : xs.length = n) (ho : arOk xs = true) (hr : Rd W W.heap.size 2 A2 m (Cs encE l)) (hl : l.length = m) (hm : m ≤ 4096) (hu : ∀ e ∈ l, U64 e.2) (hA : ∀ p, A = some p → Q p.block) (hQl : ∀ j, W.heap.size ≤ j → Q j)
  (E : Int) (Y : List (Int × Int)) (hE : rtE xs l = E) (hY : rtA xs l = Y) (k : Nat) (hk : Y.length = k) :
  Calls Tryz.prog 116 #[.agg #[.slice A n c], .slice A2 m c2] W fun e W' => ∃ A' c', e = .returned (.tuple #[.agg #[.slice A' k c'], .int .i64 E]) ∧ Rd W' W'.heap.size 2 A' k (Cs encE Y) ∧ (∀ p, A' = some p → Q p.block) ∧ Below W.heap.size W W' := by
 subst hl
 have HAQ := Hi hA
 have HQL := Hi hQl
 clear hA hQl
 have hn : n ≤ 128 := by have := (arOk_out ho).2.1; omega
 have HE := Hi hE
 have HY := Hi hY
 have HO := Hi ho
 have HU := Hi hu
 have HK := Hi hk
 clear hE hY ho hu hk
 go_enter Tryz.func116, Tryz.ntmps116
 go_wp2_with fail
 obtain ⟨w1, hw1⟩ : ∃ w1, W.alloc (.cells #[.slice A n c] 24) = w1 := ⟨_, rfl⟩
 obtain ⟨w2, hw2⟩ : ∃ w2, w1.alloc (.cells #[.slice none 0 0] 24) = w2 := ⟨_, rfl⟩
 have s1 : w1.heap.size = W.heap.size + 1 := by rw [← hw1]; simp
 have s2 : w2.heap.size = W.heap.size + 1 + 1 := by rw [← hw2]; simp [s1]
 have b1 := baw hw1
 have b2 := baw hw2
 have r1 : RowAt w2 W.heap.size 24 #[.slice A n c] := by have h := RowAt.new W 24 #[.slice A n c]; rw [hw1] at h; exact h.below b2
 have r2 : RowAt w2 (W.heap.size + 1) 24 #[.slice none 0 0] := by have h := RowAt.new w1 24 #[.slice none 0 0]; rw [hw2, s1] at h; exact h
 have hb0 : Below W.heap.size W w2 := b1.trans (b2.mono b1.size)
 rw [hw1, hw2]
 have hoffA : OffBn Q A W.heap.size ∧ OffBn Q A (W.heap.size + 1) := by
  have h2 := (arOk_out HO.out).1
  obtain ⟨b, off, rfl, hb, _⟩ := h.2 (by omega)
  exact ⟨fun p hp => ⟨by injection hp with hp; subst hp; show b ≠ _; omega, HAQ.out p hp⟩, fun p hp => ⟨by injection hp with hp; subst hp; show b ≠ _; omega, HAQ.out p hp⟩⟩
 have R1 := Hi r1
 have R2 := Hi r2
 have HB := Hi hb0
 have HD := Hi ((h.below hb0).more hb0.size)
 have HF := Hi hoffA
 clear hw1 hw2 b1 b2 r1 r2 hb0 s1 hoffA
 go_loopw [10] (fun i wr => ∃ (j : Nat) (ys : List (Int × Int)) (Aj : Option Addr) (cj : Nat), j ≤ l.length ∧ i = .int .i64 j ∧ retS xs (l.take j) = some ys ∧ ys.length = n ∧ RowAt wr W.heap.size 24 #[.slice Aj n cj] ∧ RowAt wr (W.heap.size + 1) 24 #[.slice none 0 0] ∧ Rd wr wr.heap.size 2 Aj n (Cs encE ys) ∧ OffBn Q Aj W.heap.size ∧ OffBn Q Aj (W.heap.size + 1) ∧ Below W.heap.size W wr) (fun i _ => l.length - (intOf i).toNat)
 case atStart => exact ⟨0, xs, A, c, Nat.zero_le _, rfl, by simp [retS], hx, R1.out, R2.out, HD.out, HF.out.1, HF.out.2, HB.out⟩
 case round =>
  obtain ⟨j, ys, Aj, cj, hj, rfl, hret, hyl, hr1, hr2, hrd, hf1, hf2, hbw⟩ := hrel
  have HRT := Hi hret
  have R1 := Hi hr1
  have R2 := Hi hr2
  have HD := Hi hrd
  have HF1 := Hi hf1
  have HF2 := Hi hf2
  have HBW := Hi hbw
  have HYL := Hi hyl
  have x0 := row1 hr1
  have l1 := hr1.lt
  have l2 := hr2.lt
  clear hret hr1 hr2 hrd hf1 hf2 hbw hyl
  by_cases hlt : j < l.length
  ·
   obtain ⟨b1, o1, rfl, hb1, hc1⟩ := (hr.below HBW.out).elem encE_len hlt
   have hd10 := hc1 0 _ (by omega) rfl
   have hd11 := hc1 1 _ (by omega) rfl
   simp only [Nat.add_zero] at hd10
   have hbl1 : b1 < wr.heap.size := by omega
   have HS := Hi (List.take_succ_eq_append_getElem hlt)
   have HSP := Hi (take_split l j hlt)
   have HUX := Hi (HU.out _ (List.getElem_mem hlt))
   clear hc1
   generalize l[j] = x at *
   obtain ⟨s, g⟩ := x
   dsimp only at hd10 hd11 HUX
   obtain ⟨w1, hw1⟩ : ∃ w1, wr.alloc (.cells #[.int .i64 s, .int .u64 g] 41) = w1 := ⟨_, rfl⟩
   have hb1 := baw hw1
   have re : RowAt w1 wr.heap.size 41 #[.int .i64 s, .int .u64 g] := by have h := RowAt.new wr 41 #[.int .i64 s, .int .u64 g]; rw [hw1] at h; exact h
   obtain ⟨q, hq⟩ : ∃ q, meantB ys (s, g) = q := ⟨_, rfl⟩
   have HM := Hi (rmeant_any wr.heap.size Aj cj n s g ys w1 (HD.out.below hb1) HYL.out hb1.size (by omega) q hq)
   have HB1 := Hi hb1
   have RE := Hi re
   have HQ := Hi hq
   have x1 := kept hb1 x0
   have z0 := row20 re
   have z1 := row21 re
   have l4 := re.lt
   have l5 : W.heap.size < w1.heap.size := by omega
   clear hb1 re hq
   go_wp2_with fail
   clear hw1 x1 z0 z1 l4 l5
   refine HM.out.mono ?_
   rintro e w3 ⟨rfl, hb3⟩
   have HB3 := bt HB1 hb3
   have HBF := Hi (HBW.out.trans (HB3.out.mono HBW.out.size))
   have R1 := Hi (R1.out.below HB3.out)
   have R2 := Hi (R2.out.below HB3.out)
   have RE := Hi (RE.out.below hb3)
   have HD := Hi ((HD.out.below HB3.out).more HB3.out.size)
   have x0 := row1 R1.out
   have e0 := row20 RE.out
   have e1 := row21 RE.out
   have l1 := R1.out.lt
   have l2 := R2.out.lt
   have l3 := RE.out.lt
   have y0 := row1 R2.out
   have yf := R2.out.frozen 0
   clear hb3 HM
   cases q
   ·
    have HNO : Hid (retS xs l = none) := Hi (by
     rw [HSP.out, retS_append, HRT.out]
     simp [retS, HQ.out])
    go_wp2_with fail
    have hr9 : RowAt (w3.setCell ⟨W.heap.size + 1, 0, none⟩ (.slice none 0 0)) (W.heap.size + 1) 24 #[.slice none 0 0] := R2.out.set 0 _
    have hE : E = 4 := by rw [← HE.out]; simp [rtE, HO.out, HNO.out]
    have hY : Y = [] := by rw [← HY.out]; simp [rtA, HO.out, HNO.out]
    subst hE hY
    have hk0 : k = 0 := by rw [← HK.out]; rfl
    subst hk0
    exact bodyPost_ret (v := .tuple #[.agg #[.slice none 0 0], .int .i64 4]) (by simp [results, Tryz.results116, go_sem, row1 hr9, hr9.lt, y0, l2]) rfl ⟨none, 0, rfl, Rd.none_, fun p hp => (by cases hp), HBF.out.setCell (p := ⟨W.heap.size + 1, 0, none⟩) (by simp) _⟩
   ·
    obtain ⟨i, hi, hil, hg⟩ := meantB_out HQ.out
    dsimp only at hi hg
    subst hi
    have hin : i < n := by have := HYL.out; omega
    have hiI : (i : Int) < (n : Int) := by omega
    have hrdY : Rd w3 w3.heap.size 2 Aj ys.length (Cs encE ys) := by rw [HYL.out]; exact HD.out
    obtain ⟨b2, o2, rfl, hb2, hc2⟩ := hrdY.elem encE_len hil
    have hd20 := hc2 0 _ (by omega) rfl
    simp only [Nat.add_zero] at hd20
    have HT := Hi (show tagOf ys ((i : Int), g) = ys[i].1 by simp [tagOf, List.getElem?_eq_getElem hil])
    generalize ys[i].1 = t at *
    clear hc2 hrdY hg
    by_cases ht : t = 1
    ·
     subst ht
     have hne : ((1 : Int) != 1) = false := by simp
     have hwi := fun w hw hs => with_any (some ⟨b2, o2, none⟩) cj n (i : Int) 2 g ys w hw HYL.out hs
     have HWI := Hi (hwi w3 HD.out (by omega))
     have HRN : Hid (retS xs (l.take (j + 1)) = some (ys.set i (2, g))) := Hi (by
      rw [HS.out, retS_append, HRT.out]
      simp [retS, HQ.out, HT.out, put1])
     clear hwi
     go_wp2_with fail
     refine HWI.out.mono ?_
     rintro e w4 ⟨A4, c4, rfl, hc4, hcm4, hrd4, hfr4, hb4⟩
     rw [withL_set] at hrd4
     have R1 := Hi (R1.out.below hb4)
     have R2 := Hi (R2.out.below hb4)
     have x0 := row1 R1.out
     have xf := R1.out.frozen 0
     have l1 := R1.out.lt
     have HRD4 := Hi hrd4
     have HF4 := Hi hfr4
     have HB4 := bt HBF hb4
     clear hrd4 hfr4 hb4 hd20
     go_wp2_with fail
     go_roundw
     case rel =>
      have hf1 : OffBn Q A4 W.heap.size := fun p hp => ⟨by have := HF4.out p hp; omega, HQL.out _ (by have := HF4.out p hp; omega)⟩
      have hf2 : OffBn Q A4 (W.heap.size + 1) := fun p hp => ⟨by have := HF4.out p hp; omega, HQL.out _ (by have := HF4.out p hp; omega)⟩
      exact ⟨j + 1, ys.set i (2, g), A4, c4, by omega, by go_num, HRN.out, by rw [List.length_set, HYL.out], R1.out.set 0 _, R2.out.setNe (by omega), by have := HRD4.out.setB hf1 0 (.slice A4 n c4); simpa using this, hf1, hf2, HB4.out.setCell (p := ⟨W.heap.size, 0, none⟩) (Nat.le_refl _) _⟩
     case measure => simp [intOf]; omega
    ·
     have hne : (t != 1) = true := by simpa using ht
     have HNO : Hid (retS xs l = none) := Hi (by
      rw [HSP.out, retS_append, HRT.out]
      simp [retS, HQ.out, HT.out, ht])
     go_wp2_with fail
     have hr9 : RowAt (w3.setCell ⟨W.heap.size + 1, 0, none⟩ (.slice none 0 0)) (W.heap.size + 1) 24 #[.slice none 0 0] := R2.out.set 0 _
     have hE : E = 4 := by rw [← HE.out]; simp [rtE, HO.out, HNO.out]
     have hY : Y = [] := by rw [← HY.out]; simp [rtA, HO.out, HNO.out]
     subst hE hY
     have hk0 : k = 0 := by rw [← HK.out]; rfl
     subst hk0
     exact bodyPost_ret (v := .tuple #[.agg #[.slice none 0 0], .int .i64 4]) (by simp [results, Tryz.results116, go_sem, row1 hr9, hr9.lt, y0, l2]) rfl ⟨none, 0, rfl, Rd.none_, fun p hp => (by cases hp), HBF.out.setCell (p := ⟨W.heap.size + 1, 0, none⟩) (by simp) _⟩
  ·
   obtain rfl : j = l.length := by omega
   have h := HRT.out
   rw [List.take_length] at h
   have hE : E = 0 := by rw [← HE.out]; simp [rtE, HO.out, h]
   have hY : Y = ys := by rw [← HY.out]; simp [rtA, HO.out, h]
   subst hE hY
   have hkn : k = n := by rw [← HK.out, HYL.out]
   subst hkn
   have y0 := row1 R2.out
   have yf := R2.out.frozen 0
   clear h
   go_wp2_with fail
   have hr9 : RowAt (wr.setCell ⟨W.heap.size + 1, 0, none⟩ (.slice Aj k cj)) (W.heap.size + 1) 24 #[.slice Aj k cj] := R2.out.set 0 _
   exact bodyPost_ret (v := .tuple #[.agg #[.slice Aj k cj], .int .i64 0]) (by simp [results, Tryz.results116, go_sem, row1 hr9, hr9.lt, y0, l2]) rfl ⟨Aj, cj, rfl, by have := HD.out.setB HF2.out 0 (.slice Aj k cj); simpa using this, fun p hp => (HF2.out p hp).2, HBW.out.setCell (p := ⟨W.heap.size + 1, 0, none⟩) (by simp) _⟩
theorem rGive_any (Q : Nat → Prop) (A : Option Addr) (c n : Nat) (A2 : Option Addr) (c2 m : Nat) (xs l : List (Int × Int)) (W : World) (h : Rd W W.heap.size 2 A n (Cs encE xs)) (hx : xs.length = n) (ho : arOk xs = true) (hr : Rd W W.heap.size 2 A2 m (Cs encE l)) (hl : l.length = m) (hm : m ≤ 4096) (hu : ∀ e ∈ l, U64 e.2) (hA : ∀ p, A = some p → Q p.block) (hQl : ∀ j, W.heap.size ≤ j → Q j)
  (E : Int) (Y : List (Int × Int)) (hE : gvE xs l = E) (hY : gvA xs l = Y) (k : Nat) (hk : Y.length = k) :
  Calls Tryz.prog 115 #[.agg #[.slice A n c], .slice A2 m c2] W fun e W' => ∃ A' c', e = .returned (.tuple #[.agg #[.slice A' k c'], .int .i64 E]) ∧ Rd W' W'.heap.size 2 A' k (Cs encE Y) ∧ (∀ p, A' = some p → Q p.block) ∧ Below W.heap.size W W' := by
 subst hl
 have HAQ := Hi hA
 have HQL := Hi hQl
 clear hA hQl
 have hn : n ≤ 128 := by have := (arOk_out ho).2.1; omega
 have HE := Hi hE
 have HY := Hi hY
 have HO := Hi ho
 have HU := Hi hu
 have HK := Hi hk
 clear hE hY ho hu hk
 go_enter Tryz.func115, Tryz.ntmps115
 go_wp2_with fail
 obtain ⟨w1, hw1⟩ : ∃ w1, W.alloc (.cells #[.slice A n c] 24) = w1 := ⟨_, rfl⟩
 obtain ⟨w2, hw2⟩ : ∃ w2, w1.alloc (.cells #[.slice none 0 0] 24) = w2 := ⟨_, rfl⟩
 have s1 : w1.heap.size = W.heap.size + 1 := by rw [← hw1]; simp
 have s2 : w2.heap.size = W.heap.size + 1 + 1 := by rw [← hw2]; simp [s1]
 have b1 := baw hw1
 have b2 := baw hw2
 have r1 : RowAt w2 W.heap.size 24 #[.slice A n c] := by have h := RowAt.new W 24 #[.slice A n c]; rw [hw1] at h; exact h.below b2
 have r2 : RowAt w2 (W.heap.size + 1) 24 #[.slice none 0 0] := by have h := RowAt.new w1 24 #[.slice none 0 0]; rw [hw2, s1] at h; exact h
 have hb0 : Below W.heap.size W w2 := b1.trans (b2.mono b1.size)
 rw [hw1, hw2]
 have hoffA : OffBn Q A W.heap.size ∧ OffBn Q A (W.heap.size + 1) := by
  have h2 := (arOk_out HO.out).1
  obtain ⟨b, off, rfl, hb, _⟩ := h.2 (by omega)
  exact ⟨fun p hp => ⟨by injection hp with hp; subst hp; show b ≠ _; omega, HAQ.out p hp⟩, fun p hp => ⟨by injection hp with hp; subst hp; show b ≠ _; omega, HAQ.out p hp⟩⟩
 have R1 := Hi r1
 have R2 := Hi r2
 have HB := Hi hb0
 have HD := Hi ((h.below hb0).more hb0.size)
 have HF := Hi hoffA
 clear hw1 hw2 b1 b2 r1 r2 hb0 s1 hoffA
 go_loopw [10] (fun i wr => ∃ (j : Nat) (ys : List (Int × Int)) (Aj : Option Addr) (cj : Nat), j ≤ l.length ∧ i = .int .i64 j ∧ givS xs (l.take j) = .ok ys ∧ ys.length = n ∧ RowAt wr W.heap.size 24 #[.slice Aj n cj] ∧ RowAt wr (W.heap.size + 1) 24 #[.slice none 0 0] ∧ Rd wr wr.heap.size 2 Aj n (Cs encE ys) ∧ OffBn Q Aj W.heap.size ∧ OffBn Q Aj (W.heap.size + 1) ∧ Below W.heap.size W wr) (fun i _ => l.length - (intOf i).toNat)
 case atStart => exact ⟨0, xs, A, c, Nat.zero_le _, rfl, by simp [givS], hx, R1.out, R2.out, HD.out, HF.out.1, HF.out.2, HB.out⟩
 case round =>
  obtain ⟨j, ys, Aj, cj, hj, rfl, hret, hyl, hr1, hr2, hrd, hf1, hf2, hbw⟩ := hrel
  have HRT := Hi hret
  have R1 := Hi hr1
  have R2 := Hi hr2
  have HD := Hi hrd
  have HF1 := Hi hf1
  have HF2 := Hi hf2
  have HBW := Hi hbw
  have HYL := Hi hyl
  have HOY := Hi (arOk_giv _ _ _ HO.out hret)
  have x0 := row1 hr1
  have l1 := hr1.lt
  have l2 := hr2.lt
  clear hret hr1 hr2 hrd hf1 hf2 hbw hyl
  by_cases hlt : j < l.length
  ·
   obtain ⟨b1, o1, rfl, hb1, hc1⟩ := (hr.below HBW.out).elem encE_len hlt
   have hd10 := hc1 0 _ (by omega) rfl
   have hd11 := hc1 1 _ (by omega) rfl
   simp only [Nat.add_zero] at hd10
   have hbl1 : b1 < wr.heap.size := by omega
   have HS := Hi (List.take_succ_eq_append_getElem hlt)
   have HSP := Hi (take_split l j hlt)
   have HUX := Hi (HU.out _ (List.getElem_mem hlt))
   clear hc1
   generalize l[j] = x at *
   obtain ⟨s, g⟩ := x
   dsimp only at hd10 hd11 HUX
   obtain ⟨w1, hw1⟩ : ∃ w1, wr.alloc (.cells #[.int .i64 s, .int .u64 g] 41) = w1 := ⟨_, rfl⟩
   have hb1 := baw hw1
   have re : RowAt w1 wr.heap.size 41 #[.int .i64 s, .int .u64 g] := by have h := RowAt.new wr 41 #[.int .i64 s, .int .u64 g]; rw [hw1] at h; exact h
   obtain ⟨q, hq⟩ : ∃ q, meantB ys (s, g) = q := ⟨_, rfl⟩
   have HM := Hi (rmeant_any wr.heap.size Aj cj n s g ys w1 (HD.out.below hb1) HYL.out hb1.size (by omega) q hq)
   have HB1 := Hi hb1
   have RE := Hi re
   have HQ := Hi hq
   have x1 := kept hb1 x0
   have z0 := row20 re
   have z1 := row21 re
   have l4 := re.lt
   have l5 : W.heap.size < w1.heap.size := by omega
   clear hb1 re hq
   go_wp2_with fail
   clear hw1 x1 z0 z1 l4 l5
   refine HM.out.mono ?_
   rintro e w3 ⟨rfl, hb3⟩
   have HB3 := bt HB1 hb3
   have HBF := Hi (HBW.out.trans (HB3.out.mono HBW.out.size))
   have R1 := Hi (R1.out.below HB3.out)
   have R2 := Hi (R2.out.below HB3.out)
   have RE := Hi (RE.out.below hb3)
   have HD := Hi ((HD.out.below HB3.out).more HB3.out.size)
   have x0 := row1 R1.out
   have e0 := row20 RE.out
   have e1 := row21 RE.out
   have l1 := R1.out.lt
   have l2 := R2.out.lt
   have l3 := RE.out.lt
   have y0 := row1 R2.out
   have yf := R2.out.frozen 0
   clear hb3 HM
   cases q
   ·
    have HNO : Hid (givS xs l = .error 4) := Hi (by
     rw [HSP.out, givS_append, HRT.out]
     simp [givS, HQ.out])
    go_wp2_with fail
    have hr9 : RowAt (w3.setCell ⟨W.heap.size + 1, 0, none⟩ (.slice none 0 0)) (W.heap.size + 1) 24 #[.slice none 0 0] := R2.out.set 0 _
    have hE : E = 4 := by rw [← HE.out]; simp [gvE, HO.out, HNO.out]
    have hY : Y = [] := by rw [← HY.out]; simp [gvA, HO.out, HNO.out]
    subst hE hY
    have hk0 : k = 0 := by rw [← HK.out]; rfl
    subst hk0
    exact bodyPost_ret (v := .tuple #[.agg #[.slice none 0 0], .int .i64 4]) (by simp [results, Tryz.results115, go_sem, row1 hr9, hr9.lt, y0, l2]) rfl ⟨none, 0, rfl, Rd.none_, fun p hp => (by cases hp), HBF.out.setCell (p := ⟨W.heap.size + 1, 0, none⟩) (by simp) _⟩
   ·
    obtain ⟨i, hi, hil, hg⟩ := meantB_out HQ.out
    dsimp only at hi hg
    subst hi
    have hin : i < n := by have := HYL.out; omega
    have hiI : (i : Int) < (n : Int) := by omega
    have hrdY : Rd w3 w3.heap.size 2 Aj ys.length (Cs encE ys) := by rw [HYL.out]; exact HD.out
    obtain ⟨b2, o2, rfl, hb2, hc2⟩ := hrdY.elem encE_len hil
    have hd20 := hc2 0 _ (by omega) rfl
    simp only [Nat.add_zero] at hd20
    have HT := Hi (show tagOf ys ((i : Int), g) = ys[i].1 by simp [tagOf, List.getElem?_eq_getElem hil])
    have hok := slabOk_out ((arOk_out HOY.out).2.2 _ (List.getElem_mem hil))
    have hgi : ys[i].2 = g := by rw [← hg, List.getD_eq_getElem?_getD, List.getElem?_eq_getElem hil]; rfl
    rw [hgi] at hok
    have hgm := hok.2.2
    clear hok hgi
    generalize ys[i].1 = t at *
    clear hc2 hrdY hg
    by_cases ht : t = 0
    ·
     subst ht
     have hne : ((0 : Int) == 0) = true := by simp
     have HNO : Hid (givS xs l = .error 4) := Hi (by
      rw [HSP.out, givS_append, HRT.out]
      simp [givS, HQ.out, HT.out])
     go_wp2_with fail
     have hr9 : RowAt (w3.setCell ⟨W.heap.size + 1, 0, none⟩ (.slice none 0 0)) (W.heap.size + 1) 24 #[.slice none 0 0] := R2.out.set 0 _
     have hE : E = 4 := by rw [← HE.out]; simp [gvE, HO.out, HNO.out]
     have hY : Y = [] := by rw [← HY.out]; simp [gvA, HO.out, HNO.out]
     subst hE hY
     have hk0 : k = 0 := by rw [← HK.out]; rfl
     subst hk0
     exact bodyPost_ret (v := .tuple #[.agg #[.slice none 0 0], .int .i64 4]) (by simp [results, Tryz.results115, go_sem, row1 hr9, hr9.lt, y0, l2]) rfl ⟨none, 0, rfl, Rd.none_, fun p hp => (by cases hp), HBF.out.setCell (p := ⟨W.heap.size + 1, 0, none⟩) (by simp) _⟩
    ·
     have hne : (t == 0) = false := by simpa using ht
     by_cases hge : g = 1099511627775
     ·
      subst hge
      have hgb : ((1099511627775 : Int) == 1099511627775) = true := by simp
      have HNO : Hid (givS xs l = .error 6) := Hi (by
       rw [HSP.out, givS_append, HRT.out]
       simp [givS, HQ.out, HT.out, ht])
      go_wp2_with fail
      have hr9 : RowAt (w3.setCell ⟨W.heap.size + 1, 0, none⟩ (.slice none 0 0)) (W.heap.size + 1) 24 #[.slice none 0 0] := R2.out.set 0 _
      have hE : E = 6 := by rw [← HE.out]; simp [gvE, HO.out, HNO.out]
      have hY : Y = [] := by rw [← HY.out]; simp [gvA, HO.out, HNO.out]
      subst hE hY
      have hk0 : k = 0 := by rw [← HK.out]; rfl
      subst hk0
      exact bodyPost_ret (v := .tuple #[.agg #[.slice none 0 0], .int .i64 6]) (by simp [results, Tryz.results115, go_sem, row1 hr9, hr9.lt, y0, l2]) rfl ⟨none, 0, rfl, Rd.none_, fun p hp => (by cases hp), HBF.out.setCell (p := ⟨W.heap.size + 1, 0, none⟩) (by simp) _⟩
     ·
      have hgb : (g == 1099511627775) = false := by simpa using hge
      have g0 := HUX.out.1
      have g0' : (0 : Int) ≤ g + 1 := by omega
      have g1' : g + 1 < 18446744073709551616 := by omega
      have hglt : g < 1099511627775 := by omega
      have HWI := Hi (with_any (some ⟨b2, o2, none⟩) cj n (i : Int) 0 (g + 1) ys w3 HD.out HYL.out (by omega))
      have HRN : Hid (givS xs (l.take (j + 1)) = .ok (ys.set i (0, g + 1))) := Hi (by
       rw [HS.out, givS_append, HRT.out]
       simp [givS, HQ.out, HT.out, ht, hglt])
      clear hge ht
      go_wp2_with fail
      refine HWI.out.mono ?_
      rintro e w4 ⟨A4, c4, rfl, hc4, hcm4, hrd4, hfr4, hb4⟩
      rw [withL_set] at hrd4
      have R1 := Hi (R1.out.below hb4)
      have R2 := Hi (R2.out.below hb4)
      have x0 := row1 R1.out
      have xf := R1.out.frozen 0
      have l1 := R1.out.lt
      have HRD4 := Hi hrd4
      have HF4 := Hi hfr4
      have HB4 := bt HBF hb4
      clear hrd4 hfr4 hb4 hd20
      go_wp2_with fail
      go_roundw
      case rel =>
       have hf1 : OffBn Q A4 W.heap.size := fun p hp => ⟨by have := HF4.out p hp; omega, HQL.out _ (by have := HF4.out p hp; omega)⟩
       have hf2 : OffBn Q A4 (W.heap.size + 1) := fun p hp => ⟨by have := HF4.out p hp; omega, HQL.out _ (by have := HF4.out p hp; omega)⟩
       exact ⟨j + 1, ys.set i (0, g + 1), A4, c4, by omega, by go_num, HRN.out, by rw [List.length_set, HYL.out], R1.out.set 0 _, R2.out.setNe (by omega), by have := HRD4.out.setB hf1 0 (.slice A4 n c4); simpa using this, hf1, hf2, HB4.out.setCell (p := ⟨W.heap.size, 0, none⟩) (Nat.le_refl _) _⟩
      case measure => simp [intOf]; omega
  ·
   obtain rfl : j = l.length := by omega
   have h := HRT.out
   rw [List.take_length] at h
   have hE : E = 0 := by rw [← HE.out]; simp [gvE, HO.out, h]
   have hY : Y = ys := by rw [← HY.out]; simp [gvA, HO.out, h]
   subst hE hY
   have hkn : k = n := by rw [← HK.out, HYL.out]
   subst hkn
   have y0 := row1 R2.out
   have yf := R2.out.frozen 0
   clear h
   go_wp2_with fail
   have hr9 : RowAt (wr.setCell ⟨W.heap.size + 1, 0, none⟩ (.slice Aj k cj)) (W.heap.size + 1) 24 #[.slice Aj k cj] := R2.out.set 0 _
   exact bodyPost_ret (v := .tuple #[.agg #[.slice Aj k cj], .int .i64 0]) (by simp [results, Tryz.results115, go_sem, row1 hr9, hr9.lt, y0, l2]) rfl ⟨Aj, cj, rfl, by have := HD.out.setB HF2.out 0 (.slice Aj k cj); simpa using this, fun p hp => (HF2.out p hp).2, HBW.out.setCell (p := ⟨W.heap.size + 1, 0, none⟩) (by simp) _⟩
def RTk (Q : Nat → Prop) (W : World) (E : Int) (Y L : List (Int × Int)) (k m : Nat) (e : Ending) (W' : World) : Prop :=
 ∃ A' c' A2 c2, e = .returned (.tuple #[.agg #[.slice A' k c'], .slice A2 m c2, .int .i64 E]) ∧ Rd W' W'.heap.size 2 A' k (Cs encE Y) ∧ Rd W' W'.heap.size 2 A2 m (Cs encE L) ∧ (∀ p, A' = some p → Q p.block) ∧ Below W.heap.size W W'
theorem rTake_any (Q : Nat → Prop) (A : Option Addr) (c n : Nat) (many : Int) (xs : List (Int × Int)) (W : World) (h : Rd W W.heap.size 2 A n (Cs encE xs)) (hx : xs.length = n) (ho : arOk xs = true) (hA : ∀ p, A = some p → Q p.block) (hQl : ∀ j, W.heap.size ≤ j → Q j)
  (E : Int) (Y L : List (Int × Int)) (hE : tkE xs many = E) (hY : tkA xs many = Y) (hL : tkL xs many = L) (k m : Nat) (hk : Y.length = k) (hm : L.length = m) :
  Calls Tryz.prog 113 #[.agg #[.slice A n c], .int .i64 many] W (RTk Q W E Y L k m) := by
 have hn : n ≤ 128 := by have := (arOk_out ho).2.1; omega
 have HAQ := Hi hA
 have HQL := Hi hQl
 clear hA hQl
 have HE := Hi hE
 have HY := Hi hY
 have HL := Hi hL
 have HO := Hi ho
 have HK := Hi hk
 have HMM := Hi hm
 have HXX := Hi hx
 clear hE hY hL hk hm
 have hbad : ∀ E', E = E' → E' ≠ 0 → Y = [] ∧ L = [] ∧ k = 0 ∧ m = 0 := fun E' h1 h2 => by
  subst h1
  have h3 : Y = [] := by rw [← HY.out]; simp [tkA, HE.out, h2]
  have h4 : L = [] := by rw [← HL.out]; simp [tkL, HE.out, h2]
  refine ⟨h3, h4, ?_, ?_⟩
  · rw [← HK.out, h3]; rfl
  · rw [← HMM.out, h4]; rfl
 have HBAD := Hi hbad
 clear hbad
 by_cases hneg : many < 0
 ·
  have hE4 : E = 2 := by rw [← HE.out]; simp [tkE, HO.out, hneg]
  obtain ⟨rfl, rfl, rfl, rfl⟩ := HBAD.out 2 hE4 (by omega)
  subst hE4
  go_enter Tryz.func113, Tryz.ntmps113
  go_wp2_with fail
  refine bodyPost_ret (v := .tuple #[.agg #[.slice none 0 0], .slice none 0 0, .int .i64 2]) (by simp [results, Tryz.results113, go_sem]) rfl ⟨none, 0, none, 0, rfl, Rd.none_, Rd.none_, fun p hp => (by cases hp), ?_⟩
  exact ((Below.refl _ _).alloc (Nat.le_refl _) _).alloc (by simp) _
 ·
  have hneg' : decide (many < 0) = false := by simp; omega
  obtain ⟨M, rfl⟩ := Int.eq_ofNat_of_zero_le (show 0 ≤ many by omega)
  clear hneg
  go_enter Tryz.func113, Tryz.ntmps113
  go_wp2_with fail
  obtain ⟨w1, hw1⟩ : ∃ w1, W.alloc (.cells #[.slice A n c] 24) = w1 := ⟨_, rfl⟩
  obtain ⟨w2, hw2⟩ : ∃ w2, w1.alloc (.cells #[.slice none 0 0] 24) = w2 := ⟨_, rfl⟩
  have s1 : w1.heap.size = W.heap.size + 1 := by rw [← hw1]; simp
  have s2 : w2.heap.size = W.heap.size + 1 + 1 := by rw [← hw2]; simp [s1]
  have b1 := baw hw1
  have b2 := baw hw2
  have r1 : RowAt w2 W.heap.size 24 #[.slice A n c] := by have h := RowAt.new W 24 #[.slice A n c]; rw [hw1] at h; exact h.below b2
  have r2 : RowAt w2 (W.heap.size + 1) 24 #[.slice none 0 0] := by have h := RowAt.new w1 24 #[.slice none 0 0]; rw [hw2, s1] at h; exact h
  have hb0 : Below W.heap.size W w2 := b1.trans (b2.mono b1.size)
  rw [hw1, hw2]
  have hoffA : OffBn Q A W.heap.size ∧ OffBn Q A (W.heap.size + 1) := by
   have h2 := (arOk_out HO.out).1
   obtain ⟨b, off, rfl, hb, _⟩ := h.2 (by omega)
   exact ⟨fun p hp => ⟨by injection hp with hp; subst hp; show b ≠ _; omega, HAQ.out p hp⟩, fun p hp => ⟨by injection hp with hp; subst hp; show b ≠ _; omega, HAQ.out p hp⟩⟩
  have HEN := Hi (rents_any A c n 0 xs w2 ((h.below hb0).more hb0.size) hx (by omega))
  have R1 := Hi r1
  have R2 := Hi r2
  have HB := Hi hb0
  have HD := Hi ((h.below hb0).more hb0.size)
  have HF := Hi hoffA
  clear hw1 hw2 b1 b2 r1 r2 hb0 s1 hoffA h hx
  refine HEN.out.mono ?_
  rintro e w3 ⟨Al, cl, rfl, hcl, hclm, hrdl, hfrl, hb3⟩
  have R1 := Hi (R1.out.below hb3)
  have R2 := Hi (R2.out.below hb3)
  have HB := bt HB hb3
  have HD := Hi ((HD.out.below hb3).more hb3.size)
  have HRL := Hi hrdl
  have HFL := Hi hfrl
  have l1 := R1.out.lt
  have l2 := R2.out.lt
  obtain ⟨ls, hls⟩ : ∃ ls, ents xs 0 = ls := ⟨_, rfl⟩
  have hlx := ents_length xs 0
  have hxl := HXX.out
  rw [hls] at HRL hcl hlx ⊢
  have HLS := Hi hls
  clear hb3 hrdl hfrl HEN hls
  by_cases hgt : ls.length < M
  ·
   have hgI : (ls.length : Int) < (M : Int) := by omega
   have hE4 : E = 6 := by rw [← HE.out]; simp [tkE, HO.out, HLS.out]; omega
   obtain ⟨rfl, rfl, rfl, rfl⟩ := HBAD.out 6 hE4 (by omega)
   subst hE4
   have y0 := row1 R2.out
   have yf := R2.out.frozen 0
   go_wp2_with fail
   have hr9 : RowAt (w3.setCell ⟨W.heap.size + 1, 0, none⟩ (.slice none 0 0)) (W.heap.size + 1) 24 #[.slice none 0 0] := R2.out.set 0 _
   exact bodyPost_ret (v := .tuple #[.agg #[.slice none 0 0], .slice none 0 0, .int .i64 6]) (by simp [results, Tryz.results113, go_sem, row1 hr9, hr9.lt, y0, l2]) rfl ⟨none, 0, none, 0, rfl, Rd.none_, Rd.none_, fun p hp => (by cases hp), HB.out.setCell (p := ⟨W.heap.size + 1, 0, none⟩) (by simp) _⟩
  ·
   have hgI : decide ((ls.length : Int) < (M : Int)) = false := by simp; omega
   have hE0 : E = 0 := by
    rw [← HE.out]; simp only [tkE, HO.out, HLS.out, if_true]; rw [if_neg (by omega), if_neg (by omega)]
   subst hE0
   have HYM : Hid (Y = tk xs M) := Hi (by rw [← HY.out]; simp [tkA, HE.out])
   have HLM : Hid (L = ls.take M) := Hi (by rw [← HL.out]; simp [tkL, HE.out, HLS.out])
   have hMl : M ≤ ls.length := by omega
   have hMc : (M : Int) ≤ (cl : Int) := by omega
   have hclI : (cl : Int) ≤ 9223372036854775807 := by omega
   have hlI : (ls.length : Int) ≤ (cl : Int) := by omega
   have HRM : Hid (Rd w3 w3.heap.size 2 Al M (Cs encE (ls.take M))) := Hi (by
    have h := HRL.out.take hMl
    rw [← Cs_take encE_len] at h
    exact h)
   have hlm : (ls.take M).length = M := by rw [List.length_take]; omega
   go_wp2_with fail
   go_loopw [24] (fun i wr => ∃ (j : Nat) (Aj : Option Addr) (cj : Nat), j ≤ M ∧ i = .int .i64 j ∧ RowAt wr W.heap.size 24 #[.slice Aj n cj] ∧ Rd wr wr.heap.size 2 Aj n (Cs encE (tk xs j)) ∧ OffBn Q Aj W.heap.size ∧ OffBn Q Aj (W.heap.size + 1) ∧ Past W.heap.size w3 wr) (fun i _ => M - (intOf i).toNat)
   case atStart => exact ⟨0, A, c, Nat.zero_le _, rfl, R1.out, by simpa [tk] using HD.out, HF.out.1, HF.out.2, Past.refl _ _⟩
   case round =>
    obtain ⟨j, Aj, cj, hj, rfl, hr1, hrd, hf1, hf2, hpw⟩ := hrel
    have R1 := Hi hr1
    have HD := Hi hrd
    have HF1 := Hi hf1
    have HF2 := Hi hf2
    have HPW := Hi hpw
    have hpsz := hpw.size
    have x0 := row1 hr1
    have xf := hr1.frozen 0
    have l1 := hr1.lt
    have hrl : Rd wr wr.heap.size 2 Al (ls.take M).length (Cs encE (ls.take M)) := by
     rw [hlm]
     refine Rd.more (HRM.out.keepA (fun p hAl hpB => ?_)) hpsz
     have := HFL.out p hAl
     exact hpw.block _ (by omega) hpB
    clear hr1 hrd hf1 hf2 hpw
    by_cases hlt : j < M
    ·
     have hjl : j < (ls.take M).length := by rw [hlm]; exact hlt
     have hjl2 : j < (ents xs 0).length := by rw [HLS.out]; omega
     obtain ⟨b1, o1, rfl, hb1, hc1⟩ := hrl.elem encE_len hjl
     have hd10 := hc1 0 _ (by omega) rfl
     have hd11 := hc1 1 _ (by omega) rfl
     simp only [Nat.add_zero] at hd10
     have hx1 : (ls.take M)[j] = (ents xs 0)[j] := by
      rw [List.getElem_take]; congr 1; exact HLS.out.symm
     rw [hx1] at hd10 hd11
     have HS := Hi (tk_succ xs j hjl2)
     have hmem := ents_mem (List.getElem_mem hjl2)
     generalize (ents xs 0)[j] = x at *
     obtain ⟨s, g⟩ := x
     dsimp only at hd10 hd11 hmem
     obtain ⟨i, rfl⟩ := Int.eq_ofNat_of_zero_le hmem.1
     have hbn := ba wr (.cells #[.int .i64 (i : Int), .int .u64 g] 41)
     have HWI := Hi (with_any Aj cj n (i : Int) 1 g (tk xs j) _ ((HD.out.below hbn).more hbn.size) (by rw [tk_length]; exact HXX.out) (by omega))
     have HBN := Hi hbn
     clear hc1 hx1 hmem hbn hrl hjl hjl2
     go_wp2_with fail
     refine HWI.out.mono ?_
     rintro e w4 ⟨A4, c4, rfl, hc4, hcm4, hrd4, hfr4, hb4⟩
     rw [withL_set] at hrd4
     have HB4 := bt HBN hb4
     have R1 := Hi (R1.out.below HB4.out)
     have x0 := row1 R1.out
     have xf := R1.out.frozen 0
     have l1 := R1.out.lt
     have HRD4 := Hi hrd4
     have HF4 := Hi hfr4
     clear hrd4 hfr4 hb4 hd10 hd11
     go_wp2_with fail
     go_roundw
     case rel =>
      have hf1 : OffBn Q A4 W.heap.size := fun p hp => ⟨by have := HF4.out p hp; have : (wr.alloc (.cells #[.int .i64 (i : Int), .int .u64 g] 41)).heap.size = wr.heap.size + 1 := (by simp); omega, HQL.out _ (by have := HF4.out p hp; have : (wr.alloc (.cells #[.int .i64 (i : Int), .int .u64 g] 41)).heap.size = wr.heap.size + 1 := (by simp); omega)⟩
      have hf2 : OffBn Q A4 (W.heap.size + 1) := fun p hp => ⟨by have := HF4.out p hp; have : (wr.alloc (.cells #[.int .i64 (i : Int), .int .u64 g] 41)).heap.size = wr.heap.size + 1 := (by simp); omega, HQL.out _ (by have := HF4.out p hp; have : (wr.alloc (.cells #[.int .i64 (i : Int), .int .u64 g] 41)).heap.size = wr.heap.size + 1 := (by simp); omega)⟩
      refine ⟨j + 1, A4, c4, by omega, by go_num, R1.out.set 0 _, ?_, hf1, hf2, (HPW.out.trans (Past.of_below (by omega) HB4.out)).trans (Past.set _ _)⟩
      have h := HRD4.out.setB hf1 0 (.slice A4 n c4)
      rw [HS.out]
      simpa [put1] using h
     case measure => simp [intOf]; omega
    ·
     obtain rfl : j = M := by omega
     have R2 := Hi (show RowAt wr (W.heap.size + 1) 24 #[.slice none 0 0] from (HPW.out.block (W.heap.size + 1) (by omega) (by omega)).trans R2.out)
     have y0 := row1 R2.out
     have yf := R2.out.frozen 0
     have l2 : W.heap.size + 1 < wr.heap.size := by omega
     have HRL := Hi hrl
     clear hrl
     go_wp2_with fail
     go_region
     go_wp2_with fail
     have hr9 : RowAt ((wr.setCell ⟨W.heap.size + 1, 0, none⟩ (.slice Aj n cj)).drew) (W.heap.size + 1) 24 #[.slice Aj n cj] := RowAt.set R2.out 0 _
     have hkn : k = n := by rw [← HK.out, HYM.out, tk_length, HXX.out]
     have hmn : m = j := by rw [← HMM.out, HLM.out, hlm]
     subst hkn hmn
     refine bodyPost_ret (v := .tuple #[.agg #[.slice Aj k cj], .slice Al m cl, .int .i64 0]) (by simp [results, Tryz.results113, go_sem, row1 hr9, hr9.lt, y0, l2]) rfl ⟨Aj, cj, Al, cl, rfl, ?_, ?_, fun p hp => (HF2.out p hp).2, ?_⟩
     ·
      rw [HYM.out]
      have := (HD.out.setB HF2.out 0 (.slice Aj k cj)).drew
      simpa using this
     ·
      rw [HLM.out]
      have h := HRL.out
      rw [hlm] at h
      have h2 := h.setB (Q := fun _ => True) (g := W.heap.size + 1) (fun p hp => ⟨by have := HFL.out p hp; omega, trivial⟩) 0 (.slice Aj k cj)
      simpa using h2.drew
     ·
      have hP : Below W.heap.size W wr := HB.out.trans HPW.out.below
      exact (hP.setCell (p := ⟨W.heap.size + 1, 0, none⟩) (by simp) _).drew
def StepOk (r : Rec) (o : EOp) (r2 : Rec) (y : Ent) (b : Bool) (k : Int) : Prop := match stepR r [] o with
 | .ok (r', t) => k = 0 ∧ r2 = r' ∧ y = lastT t ∧ b = !t.isEmpty
 | .error c => k = c
def StepRes (Q : Nat → Prop) (r : Rec) (o : EOp) (W : World) (e : Ending) (W' : World) : Prop := (∃ v r2 y b k, e = .returned (.tuple #[v, .agg #[.int .i64 y.1, .int .u64 y.2], .bool b, .int .i64 k]) ∧ RefOut Q W' v r2 ∧ StepOk r o r2 y b k) ∧ Below W.heap.size W W'
theorem stepOk_err {r r2 : Rec} {o : EOp} {y : Ent} {b : Bool} {k : Int} (h : stepR r [] o = .error k) : StepOk r o r2 y b k := by unfold StepOk; rw [h]
theorem laid72 {w w' : World} {g h : Nat} {t t2 : TypeId} {u0 u1 u2 u3 u4 u5 u6 v0 v1 v2 v3 v4 v5 v6 a b a' b' : Value} (h4 : RowAt w g t #[u0, u1, u2, u3, u4, u5, u6]) (h5 : RowAt w h t2 #[a, b]) (hne : h ≠ g)
  (hw : (((((((((w.setCell ⟨g, 0, none⟩ v0).setCell ⟨g, 1, none⟩ v1).setCell ⟨g, 2, none⟩ v2).setCell ⟨g, 3, none⟩ v3).setCell ⟨g, 4, none⟩ v4).setCell ⟨g, 5, none⟩ v5).setCell ⟨g, 6, none⟩ v6).setCell ⟨h, 0, none⟩ a').setCell ⟨h, 1, none⟩ b') = w') : ∃ wm, LaidF g w wm ∧ LaidF h wm w' ∧ RowAt w' g t #[v0, v1, v2, v3, v4, v5, v6] ∧ RowAt w' h t2 #[a', b'] := by
 obtain ⟨wm, hwm⟩ : ∃ wm, (((((((w.setCell ⟨g, 0, none⟩ v0).setCell ⟨g, 1, none⟩ v1).setCell ⟨g, 2, none⟩ v2).setCell ⟨g, 3, none⟩ v3).setCell ⟨g, 4, none⟩ v4).setCell ⟨g, 5, none⟩ v5).setCell ⟨g, 6, none⟩ v6) = wm := ⟨_, rfl⟩
 obtain ⟨l1, k1⟩ := laid7 h4 hwm
 rw [hwm] at hw
 subst hw
 have h5m : RowAt wm h t2 #[a, b] := (l1.block h hne).trans h5
 have l2 : LaidF h wm ((wm.setCell ⟨h, 0, none⟩ a').setCell ⟨h, 1, none⟩ b') := ((laid0 h wm).set 0 a').set 1 b'
 refine ⟨wm, l1, l2, (l2.block g (Ne.symm hne)).trans k1, ?_⟩
 have h2 := (h5m.set 0 a').set 1 b'
 simpa using h2
theorem laid10 {w w' : World} {g : Nat} {t : TypeId} {u0 u1 u2 u3 u4 u5 u6 v0 : Value} (h : RowAt w g t #[u0, u1, u2, u3, u4, u5, u6]) (hw : w.setCell ⟨g, 0, none⟩ v0 = w') : LaidF g w w' ∧ RowAt w' g t #[v0, u1, u2, u3, u4, u5, u6] := by
 subst hw
 refine ⟨(laid0 g w).set 0 v0, ?_⟩
 have h2 := h.set 0 v0
 simpa using h2
theorem laid34 {w w' : World} {g : Nat} {t : TypeId} {u0 u1 u2 u3 u4 u5 u6 v3 v4 v5 v6 : Value} (h : RowAt w g t #[u0, u1, u2, u3, u4, u5, u6]) (hw : ((((w.setCell ⟨g, 3, none⟩ v3).setCell ⟨g, 4, none⟩ v4).setCell ⟨g, 5, none⟩ v5).setCell ⟨g, 6, none⟩ v6) = w') : LaidF g w w' ∧ RowAt w' g t #[u0, u1, u2, v3, v4, v5, v6] := by
 subst hw
 refine ⟨((((laid0 g w).set 3 v3).set 4 v4).set 5 v5).set 6 v6, ?_⟩
 have h2 := (((h.set 3 v3).set 4 v4).set 5 v5).set 6 v6
 simpa using h2
theorem apart_zero {w : World} {B n g : Nat} {A : Option Addr} {xs : List Ent} {t : TypeId} (h : Rd w B 2 A n (Cs encE xs)) (hx : xs.length = n) (hg : RowAt w g t #[.slice none 0 0, .int .u64 0, .slice none 0 0, .int .u64 0, .slice none 0 0, .slice none 0 0, .slice none 0 0]) : 0 < n → ∀ p, A = some p → p.block ≠ g :=
 rec_apart (e := 0) (E := 0) (A0 := none) (As := none) (n0 := 0) (c0 := 0) (ns := 0) (cs := 0) (A2 := fun _ => none) (n2 := fun _ => 0) (c2 := fun _ => 0) h hx hg
theorem give_len {ss : List Ent} {x : Ent} (ho : arOk ss = true) : (gvA ss [x]).length = 0 ∨ 2 ≤ (gvA ss [x]).length := by
 by_cases h0 : gvE ss [x] = 0
 ·
  right
  rw [(giv_one (ys := []) ho h0).2.2.2, List.length_set]
  exact (arOk_out ho).1
 ·
  left
  unfold gvE at h0
  unfold gvA
  rw [if_pos ho] at h0 ⊢
  cases h : givS ss [x] with
  | ok ys => rw [h] at h0; exact absurd rfl h0
  | error k => rfl
theorem reti_len {ss : List Ent} {x : Ent} (ho : arOk ss = true) : (rtA ss [x]).length = 0 ∨ 2 ≤ (rtA ss [x]).length := by
 by_cases h0 : rtE ss [x] = 0
 ·
  right
  rw [(ret_one ho h0).2.2, List.length_set]
  exact (arOk_out ho).1
 ·
  left
  unfold rtE at h0
  unfold rtA
  rw [if_pos ho] at h0 ⊢
  cases h : retS ss [x] with
  | some ys => rw [h] at h0; exact absurd rfl h0
  | none => rfl
theorem back_step {r : Rec} {og ob : Int} {x : Ent} (hm : metR r x = true ∧ tagOf r.sl x = 1) : StepOk r ⟨4, og, ob, x⟩ ⟨gvA r.sl [x], r.e, r.S, r.l⟩ (0, 0) false (gvE r.sl [x]) := by
 have hs : stepR r [] ⟨4, og, ob, x⟩ = backR r [] x := rfl
 unfold StepOk
 rw [hs]
 unfold backR
 rw [if_pos hm]
 by_cases h0 : gvE r.sl [x] = 0
 · rw [if_pos h0]; exact ⟨h0, rfl, rfl, rfl⟩
 · rw [if_neg h0]
theorem reti_step_no {r r2 : Rec} {og ob : Int} {x : Ent} (h0 : rtE r.sl [x] ≠ 0) : StepOk r ⟨5, og, ob, x⟩ r2 (0, 0) false (rtE r.sl [x]) := by
 have hs : stepR r [] ⟨5, og, ob, x⟩ = retiR r [] x := rfl
 unfold StepOk
 rw [hs]
 unfold retiR
 rw [if_neg h0]
theorem reti_step {r : Rec} {og ob : Int} {x : Ent} (hl : r.l.ok = true) (h0 : rtE r.sl [x] = 0) : StepOk r ⟨5, og, ob, x⟩ ⟨rtA r.sl [x], r.e, r.S, Li.valL (Li.doRet r.l x)⟩ (0, 0) false (Li.errL (Li.doRet r.l x)) := by
 have hs : stepR r [] ⟨5, og, ob, x⟩ = retiR r [] x := rfl
 unfold StepOk
 rw [hs]
 unfold retiR
 rw [if_pos h0]
 have h2 : Li.retR r.l x = Li.doRet r.l x := by unfold Li.retR; rw [if_pos hl]
 rw [h2]
 cases h : Li.doRet r.l x with
 | ok l => exact ⟨rfl, rfl, rfl, rfl⟩
 | error k => rfl
theorem RefQ.fin {Q P : Nat → Prop} {w wm w' : World} {g h : Nat} {t t2 : TypeId} {a b : Value} {A0 As : Option Addr} {n0 c0 ns cs : Nat} {A : Nat → Option Addr} {n c : Nat → Nat} {r : Rec} (hr : RefQ Q w A0 As n0 c0 ns cs A n c r) (l1 : LaidF g w wm) (l2 : LaidF h wm w') (k4 : RowAt w g t #[.slice none 0 0, .int .u64 0, .slice none 0 0, .int .u64 0, .slice none 0 0, .slice none 0 0, .slice none 0 0]) (k5 : RowAt w h t2 #[a, b]) (hne : h ≠ g) (hQ : ∀ j, Q j → j ≠ g ∧ j ≠ h) (hP : ∀ j, Q j → P j) : RefOut P w' (.agg (recC r.e r.l.E A0 As n0 c0 ns cs A n c)) r := by
 have k5m : RowAt wm h t2 #[a, b] := (l1.block h hne).trans k5
 have h1 := hr.laid l1 (fun j h => (hQ j h).1) (apart_zero hr.sl hr.l0 k4)
 have h2 := h1.laid l2 (fun j h => (hQ j h).2) (fun h0 => two_apart h1.sl h1.l0 (by have := hr.two; omega) k5m)
 exact ⟨A0, As, n0, c0, ns, cs, A, n, c, rfl, h2.up (fun j hj _ => hP j hj)⟩
set_option maxRecDepth 20000 in
theorem RSlabs4 (Q : Nat → Prop) (A1 S1 : Option Addr) (n1 c1 m1 d1 : Nat) (B1 : Nat → Option Addr) (p1 f1 : Nat → Nat) (r : Rec) (og ob : Int) (x : Ent) (W : World) (hr : RefQ Q W A1 S1 n1 c1 m1 d1 B1 p1 f1 r) (hl : ∀ j, W.heap.size ≤ j → Q j) (hw : WfR r) (hx : U64 x.2) : Calls Tryz.prog 85 #[.agg #[.slice A1 n1 c1, .int .u64 r.e, .slice S1 m1 d1, .int .u64 (r.l.E : Int), .slice (B1 0) (p1 0) (f1 0), .slice (B1 1) (p1 1) (f1 1), .slice (B1 2) (p1 2) (f1 2)], .agg #[.int .i64 4, .int .i64 og, .int .u64 ob, .int .i64 x.1, .int .u64 x.2]] W (StepRes Q r ⟨4, og, ob, x⟩ W) := by
 have al := al4 W #[.slice A1 n1 c1, .int .u64 r.e, .slice S1 m1 d1, .int .u64 (r.l.E : Int), .slice (B1 0) (p1 0) (f1 0), .slice (B1 1) (p1 1) (f1 1), .slice (B1 2) (p1 2) (f1 2)] 34 #[.int .i64 4, .int .i64 og, .int .u64 ob, .int .i64 x.1, .int .u64 x.2] 43 #[.slice none 0 0, .int .u64 0, .slice none 0 0, .int .u64 0, .slice none 0 0, .slice none 0 0, .slice none 0 0] 34 #[.int .i64 0, .int .u64 0] 41
 have b1 := al.2.1
 have b2 := al.2.2.1
 have b3 := al.2.2.2.1
 have b4 := al.2.2.2.2
 have K2 := Hi al.1.1
 have K3 := Hi al.1.2.1
 have K4 := Hi al.1.2.2.1
 have K5 := Hi al.1.2.2.2
 clear al
 have bb := ((b1.trans (b2.mono b1.size)).trans (b3.mono (Nat.le_trans b1.size b2.size))).trans (b4.mono (Nat.le_trans (Nat.le_trans b1.size b2.size) b3.size))
 have HFT := Hi (refq_fit hr hw)
 have R := Hi ((hr.up (G := fun j => Q j ∧ j ≠ W.heap.size ∧ j ≠ (W.heap.size + 1 + 1) ∧ j ≠ (W.heap.size + 1 + 1 + 1)) (fun j hj hl => ⟨hj, by omega, by omega, by omega⟩)).below bb)
 have HQF := Hi hl
 have HB := Hi bb
 have HW := Hi hw
 have HX := Hi hx
 clear b1 b2 b3 b4 bb hr hw hx hl
 go_enter Tryz.func85, Tryz.ntmps85
 go_upto_region 2 with (fail)
 generalize (((W.alloc _).alloc _).alloc _).alloc _ = w1 at *
 have HZ := Hi (show W.heap.size + 1 + 1 + 1 < w1.heap.size from K5.out.lt)
 obtain ⟨y0, y1, y2, y3, y4⟩ := row5 K3.out
 have yl := K3.out.lt
 obtain ⟨z0, z1, z2, z3, z4, z5, z6⟩ := row7 K2.out
 have zl := K2.out.lt
 go_wp2_with fail
 clear y0 y1 y2 y3 y4 yl z0 z1 z2 z3 z4 z5 z6 zl
 obtain ⟨tg, htg⟩ : ∃ z, (if meantB r.sl (x.1, x.2) = true then tagOf r.sl (x.1, x.2) else 0) = z := ⟨_, rfl⟩
 have HTG := Hi htg
 with_reducible refine (rTag_any A1 c1 n1 x.1 x.2 r.sl w1 R.out.sl R.out.l0 (by have := HFT.out.2.1.2; omega) tg htg).mono ?_
 rintro e w2 ⟨⟨bz, rfl⟩, hb⟩
 replace R := Hi (R.out.below hb)
 replace K2 := Hi (K2.out.below hb)
 replace K3 := Hi (K3.out.below hb)
 replace K4 := Hi (K4.out.below hb)
 replace K5 := Hi (K5.out.below hb)
 replace HB := bt HB hb
 clear hb htg
 by_cases h1 : tg = 1
 case neg =>
  have e1 : (tg == 1) = false := by simpa using h1
  have HS := Hi (show stepR r [] ⟨4, og, ob, x⟩ = .error 4 from by
   show backR r [] x = _
   unfold backR
   rw [if_neg (fun h => h1 (by rw [← HTG.out]; unfold metR at h; rw [Bool.and_eq_true] at h; rw [if_pos h.1.2]; exact h.2))])
  clear h1
  obtain ⟨⟨z0, z1, z2, z3, z4, z5, z6⟩, ⟨q0, q1, q2, q3, q4, q5, q6⟩, zl⟩ := all7 K2.out
  obtain ⟨⟨v0, v1, v2, v3, v4, v5, v6⟩, ⟨s0, s1, s2, s3, s4, s5, s6⟩, vl⟩ := all7 K4.out
  have u0 := row20 K5.out
  have u1 := row21 K5.out
  have ul := K5.out.lt
  have uf0 := K5.out.frozen 0
  have uf1 := K5.out.frozen 1
  go_wp2_with fail
  generalize hw : World.setCell _ _ _ = wF
  obtain ⟨wm, l1, l2, k4, k5⟩ := laid72 K4.out K5.out (by omega) hw
  have HO := RefQ.fin R.out l1 l2 K4.out K5.out (by omega) (fun j h => h.2.2) (fun j h => h.1)
  have HBF := (HB.out.trans (l1.below.mono (by omega))).trans (l2.below.mono (by omega))
  clear z0 z1 z2 z3 z4 z5 z6 q0 q1 q2 q3 q4 q5 q6 zl v0 v1 v2 v3 v4 v5 v6 s0 s1 s2 s3 s4 s5 s6 vl u0 u1 ul uf0 uf1 hw l1 l2
  obtain ⟨z0, z1, z2, z3, z4, z5, z6⟩ := row7 k4
  have zl := k4.lt
  have u0 := row20 k5
  have u1 := row21 k5
  have ul := k5.lt
  refine bodyPost_ret (v := .tuple #[.agg #[.slice A1 n1 c1, .int .u64 r.e, .slice S1 m1 d1, .int .u64 (r.l.E : Int), .slice (B1 0) (p1 0) (f1 0), .slice (B1 1) (p1 1) (f1 1), .slice (B1 2) (p1 2) (f1 2)], .agg #[.int .i64 0, .int .u64 0], .bool false, .int .i64 4]) (by simp [results, Tryz.results85, go_sem, z0, z1, z2, z3, z4, z5, z6, zl, u0, u1, ul]) rfl ⟨⟨_, _, (0, 0), false, 4, rfl, HO, stepOk_err HS.out⟩, HBF⟩
 case pos =>
  subst h1
  have HM := Hi (show metR r x = true ∧ tagOf r.sl x = 1 from by
   have h := HTG.out
   split at h
   · rename_i hm; exact ⟨by unfold metR; rw [HW.out.ok.ar]; exact hm, h⟩
   · cases h)
  clear HTG
  obtain ⟨y0, y1, y2, y3, y4⟩ := row5 K3.out
  have yl := K3.out.lt
  obtain ⟨z0, z1, z2, z3, z4, z5, z6⟩ := row7 K2.out
  have zl := K2.out.lt
  go_wp2_with fail
  clear y0 y1 y2 y3 y4 yl z0 z1 z2 z3 z4 z5 z6 zl
  have hb := ba w2 (.cells #[.int .i64 x.1, .int .u64 x.2] 41)
  have HL := Hi (show Rd (w2.alloc (.cells #[.int .i64 x.1, .int .u64 x.2] 41)) (w2.alloc (.cells #[.int .i64 x.1, .int .u64 x.2] 41)).heap.size 2 (some ⟨w2.heap.size, 0, none⟩) 1 (Cs encE [x]) from (Rd.new w2 #[.int .i64 x.1, .int .u64 x.2] 41 2 1 rfl).more (by simp))
  replace R := Hi (R.out.below hb)
  replace K2 := Hi (K2.out.below hb)
  replace K3 := Hi (K3.out.below hb)
  replace K4 := Hi (K4.out.below hb)
  replace K5 := Hi (K5.out.below hb)
  replace HB := bt HB hb
  clear hb
  generalize w2.alloc _ = w3 at *
  generalize w2.heap.size = gl at *
  obtain ⟨ge, hge⟩ : ∃ z, gvE r.sl [x] = z := ⟨_, rfl⟩
  obtain ⟨gy, hgy⟩ : ∃ z, gvA r.sl [x] = z := ⟨_, rfl⟩
  obtain ⟨gk, hgk⟩ : ∃ z, gy.length = z := ⟨_, rfl⟩
  have HGE := Hi hge
  have HGY := Hi hgy
  have HGK := Hi hgk
  have HGN := Hi (show gk = 0 ∨ 2 ≤ gk from by rw [← hgk, ← hgy]; exact give_len HW.out.ok.ar)
  have HQW := Hi (show W.heap.size + 1 + 1 + 1 < w3.heap.size from K5.out.lt)
  with_reducible refine (rGive_any (fun j => Q j ∧ j ≠ W.heap.size ∧ j ≠ (W.heap.size + 1 + 1) ∧ j ≠ (W.heap.size + 1 + 1 + 1)) A1 c1 n1 (some ⟨gl, 0, none⟩) 1 1 r.sl [x] w3 R.out.sl R.out.l0 HW.out.ok.ar HL.out rfl (by omega) (by intro e he; simp at he; rw [he]; exact HX.out) (fun p hp => R.out.slq (by have := HFT.out.2.1.1; omega) p hp) (fun j hj => ⟨HQF.out j (by have := HQW.out; omega), by have := HQW.out; omega, by have := HQW.out; omega, by have := HQW.out; omega⟩) ge gy hge hgy gk hgk).mono ?_
  rintro e w4 ⟨A7, c7, rfl, hrd, haq, hb⟩
  replace R := Hi (R.out.below hb)
  replace K2 := Hi (K2.out.below hb)
  replace K3 := Hi (K3.out.below hb)
  replace K4 := Hi (K4.out.below hb)
  replace K5 := Hi (K5.out.below hb)
  replace HB := bt HB hb
  have HRD := Hi hrd
  have HAQ := Hi haq
  clear hb hrd haq hge hgy hgk HL HQW
  obtain ⟨z0, z1, z2, z3, z4, z5, z6⟩ := row7 K2.out
  have zf := K2.out.frozen 0
  have zl := K2.out.lt
  go_upto_region 14 with (fail)
  clear z0 z1 z2 z3 z4 z5 z6 zl zf
  generalize hw : World.setCell _ _ _ = ws
  obtain ⟨hl, hk⟩ := laid10 K2.out hw
  have HR2 := Hi ((R.out.laid hl (fun j h => h.2.1) (rec_apart R.out.sl R.out.l0 K2.out)).slabs (c1 := c7) ((HRD.out.laid (rec_apart HRD.out HGK.out K2.out) hl).more hl.size) HGK.out HGN.out HAQ.out)
  replace K3 := Hi (show RowAt _ _ _ _ from (hl.block _ (by omega)).trans K3.out)
  replace K4 := Hi (show RowAt _ _ _ _ from (hl.block _ (by omega)).trans K4.out)
  replace K5 := Hi (show RowAt _ _ _ _ from (hl.block _ (by omega)).trans K5.out)
  replace HB := Hi (HB.out.trans (hl.below.mono (Nat.le_refl _)))
  replace K2 := Hi hk
  replace R := Hi HR2.out
  clear hl hk hw HR2
  obtain ⟨⟨z0, z1, z2, z3, z4, z5, z6⟩, ⟨q0, q1, q2, q3, q4, q5, q6⟩, zl⟩ := all7 K2.out
  obtain ⟨⟨v0, v1, v2, v3, v4, v5, v6⟩, ⟨s0, s1, s2, s3, s4, s5, s6⟩, vl⟩ := all7 K4.out
  have u0 := row20 K5.out
  have u1 := row21 K5.out
  have ul := K5.out.lt
  have uf0 := K5.out.frozen 0
  have uf1 := K5.out.frozen 1
  go_wp2_with fail
  generalize hw : World.setCell _ _ _ = wF
  obtain ⟨wm, l1, l2, k4, k5⟩ := laid72 K4.out K5.out (by omega) hw
  have HO := RefQ.fin R.out l1 l2 K4.out K5.out (by omega) (fun j h => h.2.2) (fun j h => h.1)
  have HBF := (HB.out.trans (l1.below.mono (by omega))).trans (l2.below.mono (by omega))
  clear z0 z1 z2 z3 z4 z5 z6 q0 q1 q2 q3 q4 q5 q6 zl v0 v1 v2 v3 v4 v5 v6 s0 s1 s2 s3 s4 s5 s6 vl u0 u1 ul uf0 uf1 hw l1 l2
  obtain ⟨z0, z1, z2, z3, z4, z5, z6⟩ := row7 k4
  have zl := k4.lt
  have u0 := row20 k5
  have u1 := row21 k5
  have ul := k5.lt
  refine bodyPost_ret (v := .tuple #[.agg #[.slice A7 gk c7, .int .u64 r.e, .slice S1 m1 d1, .int .u64 (r.l.E : Int), .slice (B1 0) (p1 0) (f1 0), .slice (B1 1) (p1 1) (f1 1), .slice (B1 2) (p1 2) (f1 2)], .agg #[.int .i64 0, .int .u64 0], .bool false, .int .i64 ge]) (by simp [results, Tryz.results85, go_sem, z0, z1, z2, z3, z4, z5, z6, zl, u0, u1, ul]) rfl ⟨⟨_, _, (0, 0), false, ge, rfl, HO, by have h := back_step (og := og) (ob := ob) HM.out; rw [HGE.out, HGY.out] at h; exact h⟩, HBF⟩
set_option maxRecDepth 20000 in
theorem RSlabs5 (Q : Nat → Prop) (A1 S1 : Option Addr) (n1 c1 m1 d1 : Nat) (B1 : Nat → Option Addr) (p1 f1 : Nat → Nat) (r : Rec) (og ob : Int) (x : Ent) (W : World) (hr : RefQ Q W A1 S1 n1 c1 m1 d1 B1 p1 f1 r) (hl : ∀ j, W.heap.size ≤ j → Q j) (hw : WfR r) (hx : U64 x.2) : Calls Tryz.prog 85 #[.agg #[.slice A1 n1 c1, .int .u64 r.e, .slice S1 m1 d1, .int .u64 (r.l.E : Int), .slice (B1 0) (p1 0) (f1 0), .slice (B1 1) (p1 1) (f1 1), .slice (B1 2) (p1 2) (f1 2)], .agg #[.int .i64 5, .int .i64 og, .int .u64 ob, .int .i64 x.1, .int .u64 x.2]] W (StepRes Q r ⟨5, og, ob, x⟩ W) := by
 have al := al4 W #[.slice A1 n1 c1, .int .u64 r.e, .slice S1 m1 d1, .int .u64 (r.l.E : Int), .slice (B1 0) (p1 0) (f1 0), .slice (B1 1) (p1 1) (f1 1), .slice (B1 2) (p1 2) (f1 2)] 34 #[.int .i64 5, .int .i64 og, .int .u64 ob, .int .i64 x.1, .int .u64 x.2] 43 #[.slice none 0 0, .int .u64 0, .slice none 0 0, .int .u64 0, .slice none 0 0, .slice none 0 0, .slice none 0 0] 34 #[.int .i64 0, .int .u64 0] 41
 have b1 := al.2.1
 have b2 := al.2.2.1
 have b3 := al.2.2.2.1
 have b4 := al.2.2.2.2
 have K2 := Hi al.1.1
 have K3 := Hi al.1.2.1
 have K4 := Hi al.1.2.2.1
 have K5 := Hi al.1.2.2.2
 clear al
 have bb := ((b1.trans (b2.mono b1.size)).trans (b3.mono (Nat.le_trans b1.size b2.size))).trans (b4.mono (Nat.le_trans (Nat.le_trans b1.size b2.size) b3.size))
 have HFT := Hi (refq_fit hr hw)
 have R := Hi ((hr.up (G := fun j => Q j ∧ j ≠ W.heap.size ∧ j ≠ (W.heap.size + 1 + 1) ∧ j ≠ (W.heap.size + 1 + 1 + 1)) (fun j hj hl => ⟨hj, by omega, by omega, by omega⟩)).below bb)
 have HQF := Hi hl
 have HB := Hi bb
 have HW := Hi hw
 have HX := Hi hx
 clear b1 b2 b3 b4 bb hr hw hx hl
 go_enter Tryz.func85, Tryz.ntmps85
 go_upto_region 2 with (fail)
 generalize (((W.alloc _).alloc _).alloc _).alloc _ = w1 at *
 have HZ := Hi (show W.heap.size + 1 + 1 + 1 < w1.heap.size from K5.out.lt)
 obtain ⟨y0, y1, y2, y3, y4⟩ := row5 K3.out
 have yl := K3.out.lt
 obtain ⟨z0, z1, z2, z3, z4, z5, z6⟩ := row7 K2.out
 have zl := K2.out.lt
 go_wp2_with fail
 clear y0 y1 y2 y3 y4 yl z0 z1 z2 z3 z4 z5 z6 zl
 have hb := ba w1 (.cells #[.int .i64 x.1, .int .u64 x.2] 41)
 have HL := Hi (show Rd (w1.alloc (.cells #[.int .i64 x.1, .int .u64 x.2] 41)) (w1.alloc (.cells #[.int .i64 x.1, .int .u64 x.2] 41)).heap.size 2 (some ⟨w1.heap.size, 0, none⟩) 1 (Cs encE [x]) from (Rd.new w1 #[.int .i64 x.1, .int .u64 x.2] 41 2 1 rfl).more (by simp))
 replace R := Hi (R.out.below hb)
 replace K2 := Hi (K2.out.below hb)
 replace K3 := Hi (K3.out.below hb)
 replace K4 := Hi (K4.out.below hb)
 replace K5 := Hi (K5.out.below hb)
 replace HB := bt HB hb
 clear hb
 generalize w1.alloc _ = w2 at *
 generalize w1.heap.size = gl at *
 obtain ⟨ge, hge⟩ : ∃ z, rtE r.sl [x] = z := ⟨_, rfl⟩
 obtain ⟨gy, hgy⟩ : ∃ z, rtA r.sl [x] = z := ⟨_, rfl⟩
 obtain ⟨gk, hgk⟩ : ∃ z, gy.length = z := ⟨_, rfl⟩
 have HGE := Hi hge
 have HGY := Hi hgy
 have HGK := Hi hgk
 have HGN := Hi (show gk = 0 ∨ 2 ≤ gk from by rw [← hgk, ← hgy]; exact reti_len HW.out.ok.ar)
 have HQW := Hi (show W.heap.size + 1 + 1 + 1 < w2.heap.size from K5.out.lt)
 with_reducible refine (rRetire_any (fun j => Q j ∧ j ≠ W.heap.size ∧ j ≠ (W.heap.size + 1 + 1) ∧ j ≠ (W.heap.size + 1 + 1 + 1)) A1 c1 n1 (some ⟨gl, 0, none⟩) 1 1 r.sl [x] w2 R.out.sl R.out.l0 HW.out.ok.ar HL.out rfl (by omega) (by intro e he; simp at he; rw [he]; exact HX.out) (fun p hp => R.out.slq (by have := HFT.out.2.1.1; omega) p hp) (fun j hj => ⟨HQF.out j (by have := HQW.out; omega), by have := HQW.out; omega, by have := HQW.out; omega, by have := HQW.out; omega⟩) ge gy hge hgy gk hgk).mono ?_
 rintro e w3 ⟨A7, c7, rfl, hrd, haq, hb⟩
 replace R := Hi (R.out.below hb)
 replace K2 := Hi (K2.out.below hb)
 replace K3 := Hi (K3.out.below hb)
 replace K4 := Hi (K4.out.below hb)
 replace K5 := Hi (K5.out.below hb)
 replace HB := bt HB hb
 have HRD := Hi hrd
 have HAQ := Hi haq
 clear hb hrd haq hge hgy hgk HL HQW
 obtain ⟨z0, z1, z2, z3, z4, z5, z6⟩ := row7 K2.out
 have zf := K2.out.frozen 0
 have zl := K2.out.lt
 go_upto_region 17 with (fail)
 clear z0 z1 z2 z3 z4 z5 z6 zl zf
 generalize hw : World.setCell _ _ _ = ws
 obtain ⟨hl, hk⟩ := laid10 K2.out hw
 have HR2 := Hi ((R.out.laid hl (fun j h => h.2.1) (rec_apart R.out.sl R.out.l0 K2.out)).slabs (c1 := c7) ((HRD.out.laid (rec_apart HRD.out HGK.out K2.out) hl).more hl.size) HGK.out HGN.out HAQ.out)
 replace K3 := Hi (show RowAt _ _ _ _ from (hl.block _ (by omega)).trans K3.out)
 replace K4 := Hi (show RowAt _ _ _ _ from (hl.block _ (by omega)).trans K4.out)
 replace K5 := Hi (show RowAt _ _ _ _ from (hl.block _ (by omega)).trans K5.out)
 replace HB := Hi (HB.out.trans (hl.below.mono (Nat.le_refl _)))
 replace K2 := Hi hk
 replace R := Hi HR2.out
 clear hl hk hw HR2
 by_cases h0 : ge = 0
 case neg =>
  have e1 : (ge == 0) = false := by simpa using h0
  have HG0 := Hi h0
  clear h0
  obtain ⟨⟨z0, z1, z2, z3, z4, z5, z6⟩, ⟨q0, q1, q2, q3, q4, q5, q6⟩, zl⟩ := all7 K2.out
  obtain ⟨⟨v0, v1, v2, v3, v4, v5, v6⟩, ⟨s0, s1, s2, s3, s4, s5, s6⟩, vl⟩ := all7 K4.out
  have u0 := row20 K5.out
  have u1 := row21 K5.out
  have ul := K5.out.lt
  have uf0 := K5.out.frozen 0
  have uf1 := K5.out.frozen 1
  go_wp2_with fail
  generalize hw : World.setCell _ _ _ = wF
  obtain ⟨wm, l1, l2, k4, k5⟩ := laid72 K4.out K5.out (by omega) hw
  have HO := RefQ.fin R.out l1 l2 K4.out K5.out (by omega) (fun j h => h.2.2) (fun j h => h.1)
  have HBF := (HB.out.trans (l1.below.mono (by omega))).trans (l2.below.mono (by omega))
  clear z0 z1 z2 z3 z4 z5 z6 q0 q1 q2 q3 q4 q5 q6 zl v0 v1 v2 v3 v4 v5 v6 s0 s1 s2 s3 s4 s5 s6 vl u0 u1 ul uf0 uf1 hw l1 l2
  obtain ⟨z0, z1, z2, z3, z4, z5, z6⟩ := row7 k4
  have zl := k4.lt
  have u0 := row20 k5
  have u1 := row21 k5
  have ul := k5.lt
  refine bodyPost_ret (v := .tuple #[.agg #[.slice A7 gk c7, .int .u64 r.e, .slice S1 m1 d1, .int .u64 (r.l.E : Int), .slice (B1 0) (p1 0) (f1 0), .slice (B1 1) (p1 1) (f1 1), .slice (B1 2) (p1 2) (f1 2)], .agg #[.int .i64 0, .int .u64 0], .bool false, .int .i64 ge]) (by simp [results, Tryz.results85, go_sem, z0, z1, z2, z3, z4, z5, z6, zl, u0, u1, ul]) rfl ⟨⟨_, _, (0, 0), false, ge, rfl, HO, by have h := reti_step_no (r := r) (r2 := ⟨gy, r.e, r.S, r.l⟩) (og := og) (ob := ob) (x := x) (by rw [HGE.out]; exact HG0.out); rw [HGE.out] at h; exact h⟩, HBF⟩
 case pos =>
  subst h0
  obtain ⟨y0, y1, y2, y3, y4⟩ := row5 K3.out
  have yl := K3.out.lt
  obtain ⟨z0, z1, z2, z3, z4, z5, z6⟩ := row7 K2.out
  have zl := K2.out.lt
  go_wp2_with fail
  clear y0 y1 y2 y3 y4 yl z0 z1 z2 z3 z4 z5 z6 zl
  have HLQ := Hi (show W.heap.size + 1 + 1 + 1 < ws.heap.size from K5.out.lt)
  with_reducible refine (Li.rret_any (fun j => Q j ∧ j ≠ W.heap.size ∧ j ≠ (W.heap.size + 1 + 1) ∧ j ≠ (W.heap.size + 1 + 1 + 1)) B1 p1 f1 r.l x.1 x.2 ws R.out.lim R.out.low (fun j hj => ⟨HQF.out j (by have := HLQ.out; omega), by have := HLQ.out; omega, by have := HLQ.out; omega, by have := HLQ.out; omega⟩) HW.out.ok.lm HFT.out.1 R.out.cap).mono ?_
  rintro e w4 ⟨B9, p9, f9, rfl, hli, hlow, hcap, hb⟩
  replace R := Hi (R.out.below hb)
  replace K2 := Hi (K2.out.below hb)
  replace K3 := Hi (K3.out.below hb)
  replace K4 := Hi (K4.out.below hb)
  replace K5 := Hi (K5.out.below hb)
  replace HB := bt HB hb
  have HLI := Hi hli
  have HLOW := Hi hlow
  have HCAP := Hi hcap
  obtain ⟨re, hre⟩ : ∃ z, Li.errL (Li.doRet r.l (x.1, x.2)) = z := ⟨_, rfl⟩
  obtain ⟨rl, hrl⟩ : ∃ z, Li.valL (Li.doRet r.l (x.1, x.2)) = z := ⟨_, rfl⟩
  rw [hrl] at HLI
  rw [hre, hrl]
  have HRE := Hi hre
  have HRL := Hi hrl
  clear hb hli hlow hcap hre hrl
  obtain ⟨⟨z0, z1, z2, z3, z4, z5, z6⟩, ⟨q0, q1, q2, q3, q4, q5, q6⟩, zl⟩ := all7 K2.out
  go_upto_region 19 with (fail)
  clear z0 z1 z2 z3 z4 z5 z6 q0 q1 q2 q3 q4 q5 q6 zl
  generalize hw : World.setCell _ _ _ = wt
  obtain ⟨hl, hk⟩ := laid34 K2.out hw
  have HR2 := Hi ((R.out.limbo (c1 := f9) HLI.out HLOW.out HCAP.out).laid hl (fun j h => h.2.1) (rec_apart R.out.sl R.out.l0 K2.out))
  replace K3 := Hi (show RowAt _ _ _ _ from (hl.block _ (by omega)).trans K3.out)
  replace K4 := Hi (show RowAt _ _ _ _ from (hl.block _ (by omega)).trans K4.out)
  replace K5 := Hi (show RowAt _ _ _ _ from (hl.block _ (by omega)).trans K5.out)
  replace HB := Hi (HB.out.trans (hl.below.mono (Nat.le_refl _)))
  replace K2 := Hi hk
  replace R := Hi HR2.out
  clear hl hk hw HR2 HLI HLOW HCAP
  obtain ⟨⟨z0, z1, z2, z3, z4, z5, z6⟩, ⟨q0, q1, q2, q3, q4, q5, q6⟩, zl⟩ := all7 K2.out
  obtain ⟨⟨v0, v1, v2, v3, v4, v5, v6⟩, ⟨s0, s1, s2, s3, s4, s5, s6⟩, vl⟩ := all7 K4.out
  have u0 := row20 K5.out
  have u1 := row21 K5.out
  have ul := K5.out.lt
  have uf0 := K5.out.frozen 0
  have uf1 := K5.out.frozen 1
  go_wp2_with fail
  generalize hw : World.setCell _ _ _ = wF
  obtain ⟨wm, l1, l2, k4, k5⟩ := laid72 K4.out K5.out (by omega) hw
  have HO := RefQ.fin R.out l1 l2 K4.out K5.out (by omega) (fun j h => h.2.2) (fun j h => h.1)
  have HBF := (HB.out.trans (l1.below.mono (by omega))).trans (l2.below.mono (by omega))
  clear z0 z1 z2 z3 z4 z5 z6 q0 q1 q2 q3 q4 q5 q6 zl v0 v1 v2 v3 v4 v5 v6 s0 s1 s2 s3 s4 s5 s6 vl u0 u1 ul uf0 uf1 hw l1 l2
  obtain ⟨z0, z1, z2, z3, z4, z5, z6⟩ := row7 k4
  have zl := k4.lt
  have u0 := row20 k5
  have u1 := row21 k5
  have ul := k5.lt
  refine bodyPost_ret (v := .tuple #[.agg #[.slice A7 gk c7, .int .u64 r.e, .slice S1 m1 d1, .int .u64 (rl.E : Int), .slice (B9 0) (p9 0) (f9 0), .slice (B9 1) (p9 1) (f9 1), .slice (B9 2) (p9 2) (f9 2)], .agg #[.int .i64 0, .int .u64 0], .bool false, .int .i64 re]) (by simp [results, Tryz.results85, go_sem, z0, z1, z2, z3, z4, z5, z6, zl, u0, u1, ul]) rfl ⟨⟨_, _, (0, 0), false, re, rfl, HO, by have h := reti_step (og := og) (ob := ob) (x := x) HW.out.ok.lm HGE.out; rw [HGY.out, show Li.doRet r.l x = Li.doRet r.l (x.1, x.2) from rfl, HRE.out, HRL.out] at h; exact h⟩, HBF⟩
theorem free_step_none {r r2 : Rec} {og ob : Int} {x : Ent} (hl : r.l.ok = true) (h : r.l.at 2 = []) : StepOk r ⟨6, og, ob, x⟩ r2 (0, 0) false 4 := by
 have hs : stepR r [] ⟨6, og, ob, x⟩ = freeR r [] := rfl
 have ht : Li.takR r.l = .error 4 := by unfold Li.takR Li.doTake; rw [if_pos hl, h]
 unfold StepOk
 rw [hs]
 unfold freeR
 rw [ht]
theorem free_step {r : Rec} (og ob : Int) (x : Ent) {y : Ent} {rest : List Ent} (hl : r.l.ok = true) (h : r.l.at 2 = y :: rest) : StepOk r ⟨6, og, ob, x⟩ ⟨gvA r.sl [y], r.e, r.S, Li.valT (Li.doTake r.l)⟩ y true (gvE r.sl [y]) := by
 have hs : stepR r [] ⟨6, og, ob, x⟩ = freeR r [] := rfl
 have hd : Li.doTake r.l = .ok (⟨r.l.E, Li.upd r.l.r (Li.rowN r.l.E 2) rest⟩, y) := by unfold Li.doTake; rw [h]
 have ht : Li.takR r.l = .ok (⟨r.l.E, Li.upd r.l.r (Li.rowN r.l.E 2) rest⟩, y) := by unfold Li.takR; rw [if_pos hl]; exact hd
 unfold StepOk
 rw [hs]
 unfold freeR
 rw [ht]
 dsimp only
 by_cases h0 : gvE r.sl [y] = 0
 · rw [if_pos h0, hd]; exact ⟨h0, rfl, rfl, rfl⟩
 · rw [if_neg h0]
theorem take_step_no {r r2 : Rec} {og ob : Int} {x : Ent} (h0 : tkE r.sl 1 ≠ 0) : StepOk r ⟨3, og, ob, x⟩ r2 (0, 0) false (tkE r.sl 1) := by
 have hs : stepR r [] ⟨3, og, ob, x⟩ = takeR r [] := rfl
 unfold StepOk
 rw [hs]
 unfold takeR
 rw [if_neg h0]
theorem take_step {r : Rec} (og ob : Int) (x : Ent) (hw : WfR r) (h0 : tkE r.sl 1 = 0) : ∃ e, tkL r.sl 1 = [e] ∧ (2 ≤ (tkA r.sl 1).length) ∧ StepOk r ⟨3, og, ob, x⟩ ⟨tkA r.sl 1, r.e, r.S, r.l⟩ e true 0 := by
 have ht : takeR r [] = .ok (⟨tkA r.sl 1, r.e, r.S, r.l⟩, [] ++ tkL r.sl 1) := by unfold takeR; rw [if_pos h0]
 obtain ⟨hw2, e, _, h1, _⟩ := wf_take hw ht
 have h1 : tkL r.sl 1 = [e] := by simpa using h1
 have hs : stepR r [] ⟨3, og, ob, x⟩ = takeR r [] := rfl
 refine ⟨e, h1, (arOk_out hw2.ok.ar).1, ?_⟩
 unfold StepOk
 rw [hs, ht, h1]
 exact ⟨rfl, rfl, rfl, rfl⟩
set_option maxRecDepth 20000 in
theorem RSlabs3 (Q : Nat → Prop) (A1 S1 : Option Addr) (n1 c1 m1 d1 : Nat) (B1 : Nat → Option Addr) (p1 f1 : Nat → Nat) (r : Rec) (og ob : Int) (x : Ent) (W : World) (hr : RefQ Q W A1 S1 n1 c1 m1 d1 B1 p1 f1 r) (hl : ∀ j, W.heap.size ≤ j → Q j) (hw : WfR r) (hx : U64 x.2) : Calls Tryz.prog 85 #[.agg #[.slice A1 n1 c1, .int .u64 r.e, .slice S1 m1 d1, .int .u64 (r.l.E : Int), .slice (B1 0) (p1 0) (f1 0), .slice (B1 1) (p1 1) (f1 1), .slice (B1 2) (p1 2) (f1 2)], .agg #[.int .i64 3, .int .i64 og, .int .u64 ob, .int .i64 x.1, .int .u64 x.2]] W (StepRes Q r ⟨3, og, ob, x⟩ W) := by
 have al := al4 W #[.slice A1 n1 c1, .int .u64 r.e, .slice S1 m1 d1, .int .u64 (r.l.E : Int), .slice (B1 0) (p1 0) (f1 0), .slice (B1 1) (p1 1) (f1 1), .slice (B1 2) (p1 2) (f1 2)] 34 #[.int .i64 3, .int .i64 og, .int .u64 ob, .int .i64 x.1, .int .u64 x.2] 43 #[.slice none 0 0, .int .u64 0, .slice none 0 0, .int .u64 0, .slice none 0 0, .slice none 0 0, .slice none 0 0] 34 #[.int .i64 0, .int .u64 0] 41
 have b1 := al.2.1
 have b2 := al.2.2.1
 have b3 := al.2.2.2.1
 have b4 := al.2.2.2.2
 have K2 := Hi al.1.1
 have K3 := Hi al.1.2.1
 have K4 := Hi al.1.2.2.1
 have K5 := Hi al.1.2.2.2
 clear al
 have bb := ((b1.trans (b2.mono b1.size)).trans (b3.mono (Nat.le_trans b1.size b2.size))).trans (b4.mono (Nat.le_trans (Nat.le_trans b1.size b2.size) b3.size))
 have HFT := Hi (refq_fit hr hw)
 have R := Hi ((hr.up (G := fun j => Q j ∧ j ≠ W.heap.size ∧ j ≠ (W.heap.size + 1 + 1) ∧ j ≠ (W.heap.size + 1 + 1 + 1)) (fun j hj hl => ⟨hj, by omega, by omega, by omega⟩)).below bb)
 have HQF := Hi hl
 have HB := Hi bb
 have HW := Hi hw
 have HX := Hi hx
 clear b1 b2 b3 b4 bb hr hw hx hl
 go_enter Tryz.func85, Tryz.ntmps85
 go_upto_region 2 with (fail)
 generalize (((W.alloc _).alloc _).alloc _).alloc _ = w1 at *
 have HZ := Hi (show W.heap.size + 1 + 1 + 1 < w1.heap.size from K5.out.lt)
 obtain ⟨y0, y1, y2, y3, y4⟩ := row5 K3.out
 have yl := K3.out.lt
 obtain ⟨z0, z1, z2, z3, z4, z5, z6⟩ := row7 K2.out
 have zl := K2.out.lt
 go_wp2_with fail
 clear y0 y1 y2 y3 y4 yl z0 z1 z2 z3 z4 z5 z6 zl
 obtain ⟨ge, hge⟩ : ∃ z, tkE r.sl 1 = z := ⟨_, rfl⟩
 obtain ⟨gy, hgy⟩ : ∃ z, tkA r.sl 1 = z := ⟨_, rfl⟩
 obtain ⟨gl, hgl⟩ : ∃ z, tkL r.sl 1 = z := ⟨_, rfl⟩
 obtain ⟨gk, hgk⟩ : ∃ z, gy.length = z := ⟨_, rfl⟩
 obtain ⟨gm, hgm⟩ : ∃ z, gl.length = z := ⟨_, rfl⟩
 have HGE := Hi hge
 have HGY := Hi hgy
 have HGL := Hi hgl
 have HGK := Hi hgk
 have HGM := Hi hgm
 have HQW := Hi (show W.heap.size + 1 + 1 + 1 < w1.heap.size from K5.out.lt)
 with_reducible refine (rTake_any (fun j => Q j ∧ j ≠ W.heap.size ∧ j ≠ (W.heap.size + 1 + 1) ∧ j ≠ (W.heap.size + 1 + 1 + 1)) A1 c1 n1 1 r.sl w1 R.out.sl R.out.l0 HW.out.ok.ar (fun p hp => R.out.slq (by have := HFT.out.2.1.1; omega) p hp) (fun j hj => ⟨HQF.out j (by have := HQW.out; omega), by have := HQW.out; omega, by have := HQW.out; omega, by have := HQW.out; omega⟩) ge gy gl hge hgy hgl gk gm hgk hgm).mono ?_
 rintro e w2 ⟨A7, c7, A8, c8, rfl, hrd, hrl, haq, hb⟩
 replace R := Hi (R.out.below hb)
 replace K2 := Hi (K2.out.below hb)
 replace K3 := Hi (K3.out.below hb)
 replace K4 := Hi (K4.out.below hb)
 replace K5 := Hi (K5.out.below hb)
 replace HB := bt HB hb
 have HRD := Hi hrd
 have HRL := Hi hrl
 have HAQ := Hi haq
 clear haq
 clear hb hrd hrl hge hgy hgl hgk hgm
 go_upto_region 5 with (fail)
 have hb := ba w2 (.cells #[.slice A7 gk c7] 24)
 have K9 := Hi (RowAt.new w2 24 #[.slice A7 gk c7])
 replace R := Hi (R.out.below hb)
 replace K2 := Hi (K2.out.below hb)
 replace K3 := Hi (K3.out.below hb)
 replace K4 := Hi (K4.out.below hb)
 replace K5 := Hi (K5.out.below hb)
 replace HB := bt HB hb
 replace HRD := Hi ((HRD.out.below hb).more hb.size)
 replace HRL := Hi ((HRL.out.below hb).more hb.size)
 skip
 clear hb
 generalize (w2.alloc (.cells #[.slice A7 gk c7] 24)) = wn at *
 generalize w2.heap.size = g9 at *
 by_cases h0 : ge = 0
 case neg =>
  have e1 : (ge == 0) = false := by simpa using h0
  have HG0 := Hi h0
  clear h0
  obtain ⟨⟨z0, z1, z2, z3, z4, z5, z6⟩, ⟨q0, q1, q2, q3, q4, q5, q6⟩, zl⟩ := all7 K2.out
  obtain ⟨⟨v0, v1, v2, v3, v4, v5, v6⟩, ⟨s0, s1, s2, s3, s4, s5, s6⟩, vl⟩ := all7 K4.out
  have u0 := row20 K5.out
  have u1 := row21 K5.out
  have ul := K5.out.lt
  have uf0 := K5.out.frozen 0
  have uf1 := K5.out.frozen 1
  go_wp2_with fail
  generalize hw : World.setCell _ _ _ = wF
  obtain ⟨wm, l1, l2, k4, k5⟩ := laid72 K4.out K5.out (by omega) hw
  have HO := RefQ.fin R.out l1 l2 K4.out K5.out (by omega) (fun j h => h.2.2) (fun j h => h.1)
  have HBF := (HB.out.trans (l1.below.mono (by omega))).trans (l2.below.mono (by omega))
  clear z0 z1 z2 z3 z4 z5 z6 q0 q1 q2 q3 q4 q5 q6 zl v0 v1 v2 v3 v4 v5 v6 s0 s1 s2 s3 s4 s5 s6 vl u0 u1 ul uf0 uf1 hw l1 l2
  obtain ⟨z0, z1, z2, z3, z4, z5, z6⟩ := row7 k4
  have zl := k4.lt
  have u0 := row20 k5
  have u1 := row21 k5
  have ul := k5.lt
  refine bodyPost_ret (v := .tuple #[.agg #[.slice A1 n1 c1, .int .u64 r.e, .slice S1 m1 d1, .int .u64 (r.l.E : Int), .slice (B1 0) (p1 0) (f1 0), .slice (B1 1) (p1 1) (f1 1), .slice (B1 2) (p1 2) (f1 2)], .agg #[.int .i64 0, .int .u64 0], .bool false, .int .i64 ge]) (by simp [results, Tryz.results85, go_sem, z0, z1, z2, z3, z4, z5, z6, zl, u0, u1, ul]) rfl ⟨⟨_, _, (0, 0), false, ge, rfl, HO, by have h := take_step_no (r := r) (r2 := r) (og := og) (ob := ob) (x := x) (by rw [HGE.out]; exact HG0.out); rw [HGE.out] at h; exact h⟩, HBF⟩
 case pos =>
  subst h0
  obtain ⟨e, he, hy2, hst⟩ := take_step og ob x HW.out HGE.out
  rw [HGY.out] at hy2 hst
  rw [HGL.out] at he
  subst he
  have HST := Hi hst
  have HGN := Hi (show gk = 0 ∨ 2 ≤ gk from .inr (by rw [← HGK.out]; exact hy2))
  have hm1 : 1 = gm := HGM.out
  subst hm1
  clear hy2 hst
  obtain ⟨z0, z1, z2, z3, z4, z5, z6⟩ := row7 K2.out
  have zf := K2.out.frozen 0
  have zl := K2.out.lt
  have u9 := row1 K9.out
  have ul := K9.out.lt
  go_upto_region 8 with (fail)
  clear z0 z1 z2 z3 z4 z5 z6 zl zf u9 ul K9
  have HLA := Hi (rec_apart HRL.out (by rfl) K2.out)
  generalize hw : World.setCell _ _ _ = ws
  obtain ⟨hl, hk⟩ := laid10 K2.out hw
  have HR2 := Hi ((R.out.laid hl (fun j h => h.2.1) (rec_apart R.out.sl R.out.l0 K2.out)).slabs (c1 := c7) ((HRD.out.laid (rec_apart HRD.out HGK.out K2.out) hl).more hl.size) HGK.out HGN.out HAQ.out)
  replace K3 := Hi (show RowAt _ _ _ _ from (hl.block _ (by omega)).trans K3.out)
  replace K4 := Hi (show RowAt _ _ _ _ from (hl.block _ (by omega)).trans K4.out)
  replace K5 := Hi (show RowAt _ _ _ _ from (hl.block _ (by omega)).trans K5.out)
  replace HB := Hi (HB.out.trans (hl.below.mono (Nat.le_refl _)))
  replace K2 := Hi hk
  replace R := Hi HR2.out
  replace HRL := Hi ((HRL.out.laid HLA.out hl).more hl.size); clear hl hk hw HR2
  clear HLA
  obtain ⟨bb, oo, hAA, hbl, dd0, dd1⟩ := Rd.ent HRL.out rfl (show 0 < 1 by omega)
  have hbl2 : bb < ws.heap.size := hbl
  subst hAA
  have ee0 : ws.cell? ⟨bb, oo, none⟩ = some (.int .i64 e.1) := by simpa using dd0
  have ee1 : ws.cell? ⟨bb, oo + 1, none⟩ = some (.int .u64 e.2) := by simpa using dd1
  have hne : bb ≠ W.heap.size + 1 + 1 := apart_zero HRL.out rfl K4.out (by omega) _ rfl
  clear dd0 dd1
  obtain ⟨⟨z0, z1, z2, z3, z4, z5, z6⟩, ⟨q0, q1, q2, q3, q4, q5, q6⟩, zl⟩ := all7 K2.out
  obtain ⟨⟨v0, v1, v2, v3, v4, v5, v6⟩, ⟨s0, s1, s2, s3, s4, s5, s6⟩, vl⟩ := all7 K4.out
  have u0 := row20 K5.out
  have u1 := row21 K5.out
  have ul := K5.out.lt
  have uf0 := K5.out.frozen 0
  have uf1 := K5.out.frozen 1
  go_region
  generalize hw : World.setCell _ _ _ = wF
  obtain ⟨wm, l1, l2, k4, k5⟩ := laid72 K4.out K5.out (by omega) hw
  have HO := RefQ.fin R.out l1 l2 K4.out K5.out (by omega) (fun j h => h.2.2) (fun j h => h.1)
  have HBF := (HB.out.trans (l1.below.mono (by omega))).trans (l2.below.mono (by omega))
  have hbd : Below wF.heap.size wF wF.drew := (Below.refl _ _).drew
  replace HO := HO.below hbd
  replace k4 := k4.below hbd
  replace k5 := k5.below hbd
  replace HBF := HBF.trans (hbd.mono HBF.size)
  clear hbd
  clear z0 z1 z2 z3 z4 z5 z6 q0 q1 q2 q3 q4 q5 q6 zl v0 v1 v2 v3 v4 v5 v6 s0 s1 s2 s3 s4 s5 s6 vl u0 u1 ul uf0 uf1 hw l1 l2
  generalize wF.drew = wG at *
  have HOh := Hi HO
  have HBh := Hi HBF
  clear HO HBF
  go_wp2_with fail
  have HO := HOh.out
  have HBF := HBh.out
  obtain ⟨z0, z1, z2, z3, z4, z5, z6⟩ := row7 k4
  have zl := k4.lt
  have u0 := row20 k5
  have u1 := row21 k5
  have ul := k5.lt
  refine bodyPost_ret (v := .tuple #[.agg #[.slice A7 gk c7, .int .u64 r.e, .slice S1 m1 d1, .int .u64 (r.l.E : Int), .slice (B1 0) (p1 0) (f1 0), .slice (B1 1) (p1 1) (f1 1), .slice (B1 2) (p1 2) (f1 2)], .agg #[.int .i64 e.1, .int .u64 e.2], .bool true, .int .i64 0]) (by simp [results, Tryz.results85, go_sem, z0, z1, z2, z3, z4, z5, z6, zl, u0, u1, ul]) rfl ⟨⟨_, _, (e.1, e.2), true, 0, rfl, HO, HST.out⟩, HBF⟩
set_option maxRecDepth 20000 in
theorem RSlabs6 (Q : Nat → Prop) (A1 S1 : Option Addr) (n1 c1 m1 d1 : Nat) (B1 : Nat → Option Addr) (p1 f1 : Nat → Nat) (r : Rec) (og ob : Int) (x : Ent) (W : World) (hr : RefQ Q W A1 S1 n1 c1 m1 d1 B1 p1 f1 r) (hl : ∀ j, W.heap.size ≤ j → Q j) (hw : WfR r) (hx : U64 x.2) : Calls Tryz.prog 85 #[.agg #[.slice A1 n1 c1, .int .u64 r.e, .slice S1 m1 d1, .int .u64 (r.l.E : Int), .slice (B1 0) (p1 0) (f1 0), .slice (B1 1) (p1 1) (f1 1), .slice (B1 2) (p1 2) (f1 2)], .agg #[.int .i64 6, .int .i64 og, .int .u64 ob, .int .i64 x.1, .int .u64 x.2]] W (StepRes Q r ⟨6, og, ob, x⟩ W) := by
 have al := al4 W #[.slice A1 n1 c1, .int .u64 r.e, .slice S1 m1 d1, .int .u64 (r.l.E : Int), .slice (B1 0) (p1 0) (f1 0), .slice (B1 1) (p1 1) (f1 1), .slice (B1 2) (p1 2) (f1 2)] 34 #[.int .i64 6, .int .i64 og, .int .u64 ob, .int .i64 x.1, .int .u64 x.2] 43 #[.slice none 0 0, .int .u64 0, .slice none 0 0, .int .u64 0, .slice none 0 0, .slice none 0 0, .slice none 0 0] 34 #[.int .i64 0, .int .u64 0] 41
 have b1 := al.2.1
 have b2 := al.2.2.1
 have b3 := al.2.2.2.1
 have b4 := al.2.2.2.2
 have K2 := Hi al.1.1
 have K3 := Hi al.1.2.1
 have K4 := Hi al.1.2.2.1
 have K5 := Hi al.1.2.2.2
 clear al
 have bb := ((b1.trans (b2.mono b1.size)).trans (b3.mono (Nat.le_trans b1.size b2.size))).trans (b4.mono (Nat.le_trans (Nat.le_trans b1.size b2.size) b3.size))
 have HFT := Hi (refq_fit hr hw)
 have R := Hi ((hr.up (G := fun j => Q j ∧ j ≠ W.heap.size ∧ j ≠ (W.heap.size + 1 + 1) ∧ j ≠ (W.heap.size + 1 + 1 + 1)) (fun j hj hl => ⟨hj, by omega, by omega, by omega⟩)).below bb)
 have HQF := Hi hl
 have HB := Hi bb
 have HW := Hi hw
 have HX := Hi hx
 clear b1 b2 b3 b4 bb hr hw hx hl
 go_enter Tryz.func85, Tryz.ntmps85
 go_upto_region 2 with (fail)
 generalize (((W.alloc _).alloc _).alloc _).alloc _ = w1 at *
 have HZ := Hi (show W.heap.size + 1 + 1 + 1 < w1.heap.size from K5.out.lt)
 obtain ⟨y0, y1, y2, y3, y4⟩ := row5 K3.out
 have yl := K3.out.lt
 obtain ⟨z0, z1, z2, z3, z4, z5, z6⟩ := row7 K2.out
 have zl := K2.out.lt
 go_wp2_with fail
 clear y0 y1 y2 y3 y4 yl z0 z1 z2 z3 z4 z5 z6 zl
 obtain ⟨A8, k8, c8, hcall, hrd, hlen, hcc1, hcc2, hm8⟩ := Li.of_two2 R.out.lim R.out.cap HW.out.ok.lm HFT.out.1
 have HRL := Hi hrd
 have HLN := Hi hlen
 have HC8 := Hi hcc1
 have HC9 := Hi hcc2
 have HM8 := Hi hm8
 clear hrd hlen hcc1 hcc2 hm8
 with_reducible refine (hcall).mono ?_
 rintro e w2 ⟨rfl, hb⟩
 replace R := Hi (R.out.below hb)
 replace K2 := Hi (K2.out.below hb)
 replace K3 := Hi (K3.out.below hb)
 replace K4 := Hi (K4.out.below hb)
 replace K5 := Hi (K5.out.below hb)
 replace HB := bt HB hb
 replace HRL := Hi ((HRL.out.below hb).more hb.size)
 clear hb hcall
 cases h2 : r.l.at 2 with
 | nil =>
  rw [h2] at HLN
  have h0 : 0 = k8 := HLN.out
  subst h0
  have H2 := Hi h2
  clear h2 HRL HC8 HC9 HM8 HLN
  obtain ⟨⟨z0, z1, z2, z3, z4, z5, z6⟩, ⟨q0, q1, q2, q3, q4, q5, q6⟩, zl⟩ := all7 K2.out
  obtain ⟨⟨v0, v1, v2, v3, v4, v5, v6⟩, ⟨s0, s1, s2, s3, s4, s5, s6⟩, vl⟩ := all7 K4.out
  have u0 := row20 K5.out
  have u1 := row21 K5.out
  have ul := K5.out.lt
  have uf0 := K5.out.frozen 0
  have uf1 := K5.out.frozen 1
  go_wp2_with fail
  generalize hw : World.setCell _ _ _ = wF
  obtain ⟨wm, l1, l2, k4, k5⟩ := laid72 K4.out K5.out (by omega) hw
  have HO := RefQ.fin R.out l1 l2 K4.out K5.out (by omega) (fun j h => h.2.2) (fun j h => h.1)
  have HBF := (HB.out.trans (l1.below.mono (by omega))).trans (l2.below.mono (by omega))
  clear z0 z1 z2 z3 z4 z5 z6 q0 q1 q2 q3 q4 q5 q6 zl v0 v1 v2 v3 v4 v5 v6 s0 s1 s2 s3 s4 s5 s6 vl u0 u1 ul uf0 uf1 hw l1 l2
  obtain ⟨z0, z1, z2, z3, z4, z5, z6⟩ := row7 k4
  have zl := k4.lt
  have u0 := row20 k5
  have u1 := row21 k5
  have ul := k5.lt
  refine bodyPost_ret (v := .tuple #[.agg #[.slice A1 n1 c1, .int .u64 r.e, .slice S1 m1 d1, .int .u64 (r.l.E : Int), .slice (B1 0) (p1 0) (f1 0), .slice (B1 1) (p1 1) (f1 1), .slice (B1 2) (p1 2) (f1 2)], .agg #[.int .i64 0, .int .u64 0], .bool false, .int .i64 4]) (by simp [results, Tryz.results85, go_sem, z0, z1, z2, z3, z4, z5, z6, zl, u0, u1, ul]) rfl ⟨⟨_, _, (0, 0), false, 4, rfl, HO, free_step_none HW.out.ok.lm H2.out⟩, HBF⟩
 | cons y rest =>
  have hk8 : rest.length + 1 = k8 := by have h := HLN.out; rw [h2] at h; exact h
  have HY := Hi h2
  rw [h2] at HRL
  have hy2 : y ∈ ents r.sl 2 := HW.out.ok.sub y (by unfold Li.Lim.held; rw [h2]; simp)
  have HYU := Hi (show U64 y.2 from by
   obtain ⟨m1, m2⟩ := ents_iff.1 hy2
   have h4 := List.mem_of_getElem? m2
   have h5 := slabOk_out ((arOk_out HW.out.ok.ar).2.2 _ h4)
   have h6 := HW.out.gn _ h4
   have h7 := h5.2.2
   dsimp only at h6 h7
   unfold U64; omega)
  have hki : (0 : Int) < (k8 : Int) := by omega
  have hkz : ((k8 : Int) == 0) = false := by simp; omega
  have HK8 := Hi hk8
  have hc1 : (1 : Int) ≤ (c8 : Int) := by have := HC8.out; omega
  have hc2 : (c8 : Int) ≤ 9223372036854775807 := HC9.out
  clear h2 hk8 hy2
  go_upto_region 23 with (fail)
  obtain ⟨ge, hge⟩ : ∃ z, gvE r.sl [y] = z := ⟨_, rfl⟩
  obtain ⟨gy, hgy⟩ : ∃ z, gvA r.sl [y] = z := ⟨_, rfl⟩
  obtain ⟨gk, hgk⟩ : ∃ z, gy.length = z := ⟨_, rfl⟩
  have HGE := Hi hge
  have HGY := Hi hgy
  have HGK := Hi hgk
  have HGN := Hi (show gk = 0 ∨ 2 ≤ gk from by rw [← hgk, ← hgy]; exact give_len HW.out.ok.ar)
  clear hge hgy hgk
  obtain ⟨w0, hw0⟩ : ∃ w, w = w2 := ⟨_, rfl⟩
  subst hw0
  have HSX := Hi (fun (wX : World) (hgX : Below w0.heap.size w0 wX) => show wX.cell? ⟨W.heap.size, 0, none⟩ = some (.slice A1 n1 c1) ∧ wX.cell? ⟨W.heap.size, 1, none⟩ = some (.int .u64 r.e) ∧ wX.cell? ⟨W.heap.size, 2, none⟩ = some (.slice S1 m1 d1) ∧ wX.cell? ⟨W.heap.size, 3, none⟩ = some (.int .u64 (r.l.E : Int)) ∧ wX.cell? ⟨W.heap.size, 4, none⟩ = some (.slice (B1 0) (p1 0) (f1 0)) ∧ wX.cell? ⟨W.heap.size, 5, none⟩ = some (.slice (B1 1) (p1 1) (f1 1)) ∧ wX.cell? ⟨W.heap.size, 6, none⟩ = some (.slice (B1 2) (p1 2) (f1 2)) ∧ W.heap.size < wX.heap.size from by
   obtain ⟨z0, z1, z2, z3, z4, z5, z6⟩ := row7 K2.out
   exact ⟨kept hgX z0, kept hgX z1, kept hgX z2, kept hgX z3, kept hgX z4, kept hgX z5, kept hgX z6, Nat.lt_of_lt_of_le K2.out.lt hgX.size⟩)
  have HXX := Hi ((Below.refl w0.heap.size w0).drew)
  refine wp_region_Z (fun wX => wX.cell? ⟨W.heap.size, 0, none⟩ = some (.slice A1 n1 c1) ∧ wX.cell? ⟨W.heap.size, 1, none⟩ = some (.int .u64 r.e) ∧ wX.cell? ⟨W.heap.size, 2, none⟩ = some (.slice S1 m1 d1) ∧ wX.cell? ⟨W.heap.size, 3, none⟩ = some (.int .u64 (r.l.E : Int)) ∧ wX.cell? ⟨W.heap.size, 4, none⟩ = some (.slice (B1 0) (p1 0) (f1 0)) ∧ wX.cell? ⟨W.heap.size, 5, none⟩ = some (.slice (B1 1) (p1 1) (f1 1)) ∧ wX.cell? ⟨W.heap.size, 6, none⟩ = some (.slice (B1 2) (p1 2) (f1 2)) ∧ W.heap.size < wX.heap.size) 9 (by kernel_rfl) (HSX.out _ HXX.out) (fun hHeld => ?_)
  clear hHeld
  have hS0 := HSX.out _ HXX.out
  generalize w0.drew = wd at *
  refine tkZ (i := 0) rfl ?_
  refine tkZ (i := 1) rfl ?_
  refine tkZ (i := 2) rfl ?_
  refine tkZ (i := 3) rfl ?_
  refine wpAnyZ_one (i := 4) rfl (by kernel_rfl) (fun K0 hK0 => ?_)
  go_simp
  have RX := Hi (R.out.below HXX.out)
  have HQW := Hi (show W.heap.size + 1 + 1 + 1 < wd.heap.size from Nat.lt_of_lt_of_le K5.out.lt HXX.out.size)
  with_reducible refine (rGive_any (fun j => Q j ∧ j ≠ W.heap.size ∧ j ≠ (W.heap.size + 1 + 1) ∧ j ≠ (W.heap.size + 1 + 1 + 1)) A1 c1 n1 A8 c8 1 r.sl [y] wd RX.out.sl RX.out.l0 HW.out.ok.ar (by have h := ((HRL.out.below HXX.out).more HXX.out.size).firstE (k := 1) (by have := HK8.out; simpa using this) (by have := HK8.out; omega); simpa using h) rfl (by omega) (by intro e he; simp at he; rw [he]; exact HYU.out) (fun p hp => R.out.slq (by have := HFT.out.2.1.1; omega) p hp) (fun j hj => ⟨HQF.out j (by have := HQW.out; omega), by have := HQW.out; omega, by have := HQW.out; omega, by have := HQW.out; omega⟩) ge gy HGE.out HGY.out gk HGK.out).mono ?_
  rintro e wa ⟨A7, c7, rfl, hrd, haq, hb⟩
  have HRD := Hi hrd
  have HAQ := Hi haq
  clear haq
  have hX2 := HXX.out.trans (hb.mono HXX.out.size)
  replace HXX := Hi hX2
  clear hX2 hS0 hb hrd RX
  have hS0 := HSX.out _ HXX.out
  refine hK0.out _ _ (fun _ _ => hS0) ?_
  clear hK0 K0
  (try simp only [Act.put, Na, Nb, Nc, Nd, Nx, Nf])
  refine tkF (i := 5) rfl (fun _ => hS0) ?_
  refine tkF (i := 6) rfl (fun _ => hS0) ?_
  refine tkF (i := 7) rfl (fun _ => hS0) ?_
  refine tkF (i := 8) rfl (fun _ => hS0) ?_
  refine wpAnyZ_one (i := 9) rfl (by kernel_rfl) (fun K1 hK1 => ?_)
  clear hS0
  have hk2 := K2.out.below HXX.out
  have hz0 : wa.cell? ⟨W.heap.size, 0, none⟩ = some (.slice A1 n1 c1) := (row7 hk2).1
  have hzf := hk2.frozen 0
  have hzl := hk2.lt
  go_simp
  generalize hw : World.setCell _ _ _ = wp
  clear hz0 hzf hzl
  have HW2 := Hi hw
  clear hw hk2
  refine hK1.out _ _ (fun h _ => absurd rfl h) ?_
  clear hK1 K1
  (try simp only [Act.put, Na, Nb, Nc, Nd, Nx, Nf])
  refine wpAnyZ_one (i := 10) rfl (by kernel_rfl) (fun K2 hK2 => ?_)
  go_simp
  refine hK2.out _ _ (fun _ h => Bool.noConfusion (show true = false from h)) ?_
  clear hK2 K2
  (try simp only [Act.put, Na, Nb, Nc, Nd, Nx, Nf])
  refine wpAnyZ_done (by kernel_rfl) ?_ _
  replace K2 := Hi (K2.out.below HXX.out)
  replace K3 := Hi (K3.out.below HXX.out)
  replace K4 := Hi (K4.out.below HXX.out)
  replace K5 := Hi (K5.out.below HXX.out)
  replace R := Hi (R.out.below HXX.out)
  replace HRL := Hi ((HRL.out.below HXX.out).more HXX.out.size)
  replace HB := Hi (HB.out.trans (HXX.out.mono HB.out.size))
  clear HXX HSX
  obtain ⟨hl, hk⟩ := laid10 K2.out HW2.out
  have HR2 := Hi ((R.out.laid hl (fun j h => h.2.1) (rec_apart R.out.sl R.out.l0 K2.out)).slabs (c1 := c7) ((HRD.out.laid (rec_apart HRD.out HGK.out K2.out) hl).more hl.size) HGK.out HGN.out HAQ.out)
  replace HRL := Hi ((HRL.out.laid (rec_apart HRL.out HK8.out K2.out) hl).more hl.size)
  replace K3 := Hi (show RowAt _ _ _ _ from (hl.block _ (by omega)).trans K3.out)
  replace K4 := Hi (show RowAt _ _ _ _ from (hl.block _ (by omega)).trans K4.out)
  replace K5 := Hi (show RowAt _ _ _ _ from (hl.block _ (by omega)).trans K5.out)
  replace HB := Hi (HB.out.trans (hl.below.mono (Nat.le_refl _)))
  replace K2 := Hi hk
  replace R := Hi HR2.out
  clear hl hk HR2 HW2 HRD
  obtain ⟨z0, z1, z2, z3, z4, z5, z6⟩ := row7 K2.out
  have zl := K2.out.lt
  go_wp2_with fail
  clear z0 z1 z2 z3 z4 z5 z6 zl
  have HLQ := Hi (show W.heap.size + 1 + 1 + 1 < wp.heap.size from K5.out.lt)
  with_reducible refine (Li.rtak_any (fun j => Q j ∧ j ≠ W.heap.size ∧ j ≠ (W.heap.size + 1 + 1) ∧ j ≠ (W.heap.size + 1 + 1 + 1)) B1 p1 f1 r.l wp R.out.lim R.out.low (fun j hj => ⟨HQF.out j (by have := HLQ.out; omega), by have := HLQ.out; omega, by have := HLQ.out; omega, by have := HLQ.out; omega⟩) HW.out.ok.lm HFT.out.1 R.out.cap).mono ?_
  rintro e w3 ⟨B9, p9, f9, rfl, hli, hlow, hcap, hb⟩
  replace R := Hi (R.out.below hb)
  replace K2 := Hi (K2.out.below hb)
  replace K3 := Hi (K3.out.below hb)
  replace K4 := Hi (K4.out.below hb)
  replace K5 := Hi (K5.out.below hb)
  replace HB := bt HB hb
  have HLI := Hi hli
  have HLOW := Hi hlow
  have HCAP := Hi hcap
  obtain ⟨rl, hrl⟩ : ∃ z, Li.valT (Li.doTake r.l) = z := ⟨_, rfl⟩
  rw [hrl] at HLI
  rw [hrl]
  have HRLV := Hi hrl
  replace HRL := Hi ((HRL.out.below hb).more hb.size)
  clear hb hli hlow hcap hrl
  have HLA := Hi (rec_apart HRL.out HK8.out K2.out)
  obtain ⟨⟨z0, z1, z2, z3, z4, z5, z6⟩, ⟨q0, q1, q2, q3, q4, q5, q6⟩, zl⟩ := all7 K2.out
  go_upto_region 25 with (fail)
  clear z0 z1 z2 z3 z4 z5 z6 q0 q1 q2 q3 q4 q5 q6 zl
  generalize hw : World.setCell _ _ _ = wt
  obtain ⟨hl, hk⟩ := laid34 K2.out hw
  have HR2 := Hi ((R.out.limbo (c1 := f9) HLI.out HLOW.out HCAP.out).laid hl (fun j h => h.2.1) (rec_apart R.out.sl R.out.l0 K2.out))
  replace K3 := Hi (show RowAt _ _ _ _ from (hl.block _ (by omega)).trans K3.out)
  replace K4 := Hi (show RowAt _ _ _ _ from (hl.block _ (by omega)).trans K4.out)
  replace K5 := Hi (show RowAt _ _ _ _ from (hl.block _ (by omega)).trans K5.out)
  replace HB := Hi (HB.out.trans (hl.below.mono (Nat.le_refl _)))
  replace K2 := Hi hk
  replace R := Hi HR2.out
  replace HRL := Hi ((HRL.out.laid HLA.out hl).more hl.size); clear hl hk hw HR2 HLI HLOW HCAP
  clear HLA
  obtain ⟨bb, oo, hAA, hbl, dd0, dd1⟩ := Rd.ent HRL.out HK8.out (show 0 < k8 by have := HK8.out; omega)
  have hbl2 : bb < wt.heap.size := hbl
  have hne : bb ≠ W.heap.size + 1 + 1 := apart_zero HRL.out HK8.out K4.out (by have := HK8.out; omega) _ hAA
  subst hAA
  have ee0 : wt.cell? ⟨bb, oo, none⟩ = some (.int .i64 y.1) := by simpa using dd0
  have ee1 : wt.cell? ⟨bb, oo + 1, none⟩ = some (.int .u64 y.2) := by simpa using dd1
  clear dd0 dd1 hbl
  obtain ⟨⟨z0, z1, z2, z3, z4, z5, z6⟩, ⟨q0, q1, q2, q3, q4, q5, q6⟩, zl⟩ := all7 K2.out
  obtain ⟨⟨v0, v1, v2, v3, v4, v5, v6⟩, ⟨s0, s1, s2, s3, s4, s5, s6⟩, vl⟩ := all7 K4.out
  have u0 := row20 K5.out
  have u1 := row21 K5.out
  have ul := K5.out.lt
  have uf0 := K5.out.frozen 0
  have uf1 := K5.out.frozen 1
  go_region
  generalize hw : World.setCell _ _ _ = wF
  obtain ⟨wm, l1, l2, k4, k5⟩ := laid72 K4.out K5.out (by omega) hw
  have HO := RefQ.fin R.out l1 l2 K4.out K5.out (by omega) (fun j h => h.2.2) (fun j h => h.1)
  have HBF := (HB.out.trans (l1.below.mono (by omega))).trans (l2.below.mono (by omega))
  have hbd : Below wF.heap.size wF wF.drew := (Below.refl _ _).drew
  replace HO := HO.below hbd
  replace k4 := k4.below hbd
  replace k5 := k5.below hbd
  replace HBF := HBF.trans (hbd.mono HBF.size)
  clear hbd
  clear z0 z1 z2 z3 z4 z5 z6 q0 q1 q2 q3 q4 q5 q6 zl v0 v1 v2 v3 v4 v5 v6 s0 s1 s2 s3 s4 s5 s6 vl u0 u1 ul uf0 uf1 hw l1 l2
  generalize wF.drew = wG at *
  have HOh := Hi HO
  have HBh := Hi HBF
  clear HO HBF
  go_wp2_with fail
  have HO := HOh.out
  have HBF := HBh.out
  obtain ⟨z0, z1, z2, z3, z4, z5, z6⟩ := row7 k4
  have zl := k4.lt
  have u0 := row20 k5
  have u1 := row21 k5
  have ul := k5.lt
  refine bodyPost_ret (v := .tuple #[.agg #[.slice A7 gk c7, .int .u64 r.e, .slice S1 m1 d1, .int .u64 (rl.E : Int), .slice (B9 0) (p9 0) (f9 0), .slice (B9 1) (p9 1) (f9 1), .slice (B9 2) (p9 2) (f9 2)], .agg #[.int .i64 y.1, .int .u64 y.2], .bool true, .int .i64 ge]) (by simp [results, Tryz.results85, go_sem, z0, z1, z2, z3, z4, z5, z6, zl, u0, u1, ul]) rfl ⟨⟨_, _, (y.1, y.2), true, ge, rfl, HO, by have h := free_step og ob x HW.out.ok.lm HY.out; rw [HGE.out, HGY.out, HRLV.out] at h; exact h⟩, HBF⟩
theorem RSlabs_any (Q : Nat → Prop) (A1 S1 : Option Addr) (n1 c1 m1 d1 : Nat) (B1 : Nat → Option Addr) (p1 f1 : Nat → Nat) (r : Rec) (o : EOp) (W : World) (hr : RefQ Q W A1 S1 n1 c1 m1 d1 B1 p1 f1 r) (hl : ∀ j, W.heap.size ≤ j → Q j) (hw : WfR r) (hx : U64 o.x.2) (h3 : 3 ≤ o.k) (h6 : o.k ≤ 6) : Calls Tryz.prog 85 #[.agg #[.slice A1 n1 c1, .int .u64 r.e, .slice S1 m1 d1, .int .u64 (r.l.E : Int), .slice (B1 0) (p1 0) (f1 0), .slice (B1 1) (p1 1) (f1 1), .slice (B1 2) (p1 2) (f1 2)], .agg #[.int .i64 o.k, .int .i64 o.g, .int .u64 o.b, .int .i64 o.x.1, .int .u64 o.x.2]] W (StepRes Q r o W) := by
 obtain ⟨k, og, ob, x⟩ := o
 dsimp only at h3 h6 hx ⊢
 obtain rfl | rfl | rfl | rfl : k = 3 ∨ k = 4 ∨ k = 5 ∨ k = 6 := by omega
 · exact RSlabs3 Q A1 S1 n1 c1 m1 d1 B1 p1 f1 r og ob x W hr hl hw hx
 · exact RSlabs4 Q A1 S1 n1 c1 m1 d1 B1 p1 f1 r og ob x W hr hl hw hx
 · exact RSlabs5 Q A1 S1 n1 c1 m1 d1 B1 p1 f1 r og ob x W hr hl hw hx
 · exact RSlabs6 Q A1 S1 n1 c1 m1 d1 B1 p1 f1 r og ob x W hr hl hw hx
theorem step_none {r r2 : Rec} {o : EOp} {y : Ent} {b : Bool} (h : o.k < 1 ∨ 7 < o.k) : StepOk r o r2 y b 251 := by
 apply stepOk_err
 unfold stepR
 rw [if_neg (by omega), if_neg (by omega), if_neg (by omega), if_neg (by omega), if_neg (by omega), if_neg (by omega), if_neg (by omega)]
theorem pin_step {r : Rec} {o : EOp} (hk : o.k = 1 ∨ o.k = 2) : StepOk r o ⟨r.sl, Pn.doX r.e r.S o.k o.g o.b, Pn.doS r.e r.S o.k o.g o.b, r.l⟩ (0, 0) false (Pn.doE r.e r.S o.k o.g o.b) := by
 have hs : stepR r [] o = pinR r [] o o.k := by
  unfold stepR
  rcases hk with h | h
  · rw [if_pos h, h]
  · rw [if_neg (by omega), if_pos h, h]
 unfold StepOk
 rw [hs]
 unfold pinR
 by_cases h0 : Pn.doE r.e r.S o.k o.g o.b = 0
 · rw [if_pos h0]; exact ⟨h0, rfl, rfl, rfl⟩
 · rw [if_neg h0]
theorem go_is {r : Rec} {o : EOp} (hk : o.k = 7) : stepR r [] o = goR r [] o := by
 unfold stepR
 rw [if_neg (by omega), if_neg (by omega), if_neg (by omega), if_neg (by omega), if_neg (by omega), if_neg (by omega), if_pos hk]
theorem go_step_ready {r r2 : Rec} {o : EOp} {y : Ent} {b : Bool} (hk : o.k = 7) (hl : r.l.ok = true) (h : 0 < (r.l.at 2).length) : StepOk r o r2 y b 241 := by
 apply stepOk_err
 rw [go_is hk]
 unfold goR
 rw [if_neg (by rw [if_pos hl]; omega)]
theorem go_step_no {r r2 : Rec} {o : EOp} {y : Ent} {b : Bool} (hk : o.k = 7) (hl : r.l.ok = true) (h : (r.l.at 2).length = 0) (h0 : Pn.doE r.e r.S 3 o.g o.b ≠ 0) : StepOk r o r2 y b (Pn.doE r.e r.S 3 o.g o.b) := by
 apply stepOk_err
 rw [go_is hk]
 unfold goR
 rw [if_pos (by rw [if_pos hl]; exact h)]
 unfold pinR
 rw [if_neg h0]
theorem go_step_yes {r : Rec} {o : EOp} (hk : o.k = 7) (hl : r.l.ok = true) (h : (r.l.at 2).length = 0) (h0 : Pn.doE r.e r.S 3 o.g o.b = 0) : StepOk r o ⟨r.sl, Pn.doX r.e r.S 3 o.g o.b, Pn.doS r.e r.S 3 o.g o.b, Li.valL (Li.doAdv r.l)⟩ (0, 0) false (Li.errL (Li.doAdv r.l)) := by
 have ha : Li.advR r.l = Li.doAdv r.l := by unfold Li.advR; rw [if_pos hl]
 unfold StepOk
 rw [go_is hk]
 unfold goR
 rw [if_pos (by rw [if_pos hl]; exact h)]
 unfold pinR
 rw [if_pos h0]
 dsimp only
 rw [ha]
 cases h2 : Li.doAdv r.l with
 | ok l => exact ⟨rfl, rfl, rfl, rfl⟩
 | error k => rfl
set_option maxRecDepth 20000 in
theorem RStep_any (Q : Nat → Prop) (A1 S1 : Option Addr) (n1 c1 m1 d1 : Nat) (B1 : Nat → Option Addr) (p1 f1 : Nat → Nat) (r : Rec) (o : EOp) (W : World) (hr : RefQ Q W A1 S1 n1 c1 m1 d1 B1 p1 f1 r) (hl : ∀ j, W.heap.size ≤ j → Q j) (hw : WfR r) (hb : 0 ≤ o.b) (hx : U64 o.x.2) : Calls Tryz.prog 49 #[.agg #[.slice A1 n1 c1, .int .u64 r.e, .slice S1 m1 d1, .int .u64 (r.l.E : Int), .slice (B1 0) (p1 0) (f1 0), .slice (B1 1) (p1 1) (f1 1), .slice (B1 2) (p1 2) (f1 2)], .agg #[.int .i64 o.k, .int .i64 o.g, .int .u64 o.b, .int .i64 o.x.1, .int .u64 o.x.2]] W (StepRes Q r o W) := by
 have al := al5 W #[.slice A1 n1 c1, .int .u64 r.e, .slice S1 m1 d1, .int .u64 (r.l.E : Int), .slice (B1 0) (p1 0) (f1 0), .slice (B1 1) (p1 1) (f1 1), .slice (B1 2) (p1 2) (f1 2)] 34 #[.int .i64 o.k, .int .i64 o.g, .int .u64 o.b, .int .i64 o.x.1, .int .u64 o.x.2] 43 #[.slice none 0 0, .int .u64 0, .slice none 0 0, .int .u64 0, .slice none 0 0, .slice none 0 0, .slice none 0 0] 34 #[.int .i64 0, .int .u64 0] 41 #[.int .i64 0, .int .u64 0] 41
 have b1 := al.2.1
 have b2 := al.2.2.1
 have b3 := al.2.2.2.1
 have b4 := al.2.2.2.2.1
 have b5 := al.2.2.2.2.2
 have K2 := Hi al.1.1
 have K3 := Hi al.1.2.1
 have K4 := Hi al.1.2.2.1
 have K5 := Hi al.1.2.2.2.1
 have K8 := Hi al.1.2.2.2.2
 clear al
 have bb := (((b1.trans (b2.mono b1.size)).trans (b3.mono (Nat.le_trans b1.size b2.size))).trans (b4.mono (Nat.le_trans (Nat.le_trans b1.size b2.size) b3.size))).trans (b5.mono (Nat.le_trans (Nat.le_trans (Nat.le_trans b1.size b2.size) b3.size) b4.size))
 have HFT := Hi (refq_fit hr hw)
 have R := Hi ((hr.up (G := fun j => Q j ∧ j ≠ (W.heap.size + 1 + 1) ∧ j ≠ (W.heap.size + 1 + 1 + 1)) (fun j hj hl => ⟨hj, by omega, by omega⟩)).below bb)
 have HB := Hi bb
 have HW := Hi hw
 have HX := Hi hx
 have HO := Hi hb
 have HQF := Hi hl
 clear b1 b2 b3 b4 b5 bb hr hw hx hl hb
 go_enter Tryz.func49, Tryz.ntmps49
 go_upto_region 2 with (fail)
 generalize ((((W.alloc _).alloc _).alloc _).alloc _).alloc _ = w1 at *
 have HZ := Hi (show W.heap.size + 1 + 1 + 1 + 1 < w1.heap.size from K8.out.lt)
 have HFRE := Hi (fun j (hj : w1.heap.size ≤ j) => (show Q j ∧ j ≠ (W.heap.size + 1 + 1) ∧ j ≠ (W.heap.size + 1 + 1 + 1) from by have := HZ.out; exact ⟨HQF.out j (by omega), by omega, by omega⟩))
 by_cases h1 : o.k < 1
 case pos =>
  have e1 : decide (o.k < 1) = true := by simpa using h1
  have H1 := Hi h1
  clear h1
  obtain ⟨y0, y1, y2, y3, y4⟩ := row5 K3.out
  have yl := K3.out.lt
  go_upto_region 3 with (fail)
  clear y0 y1 y2 y3 y4 yl
  clear e1
  obtain ⟨⟨v0, v1, v2, v3, v4, v5, v6⟩, ⟨s0, s1, s2, s3, s4, s5, s6⟩, vl⟩ := all7 K4.out
  have u0 := row20 K5.out
  have u1 := row21 K5.out
  have ul := K5.out.lt
  have uf0 := K5.out.frozen 0
  have uf1 := K5.out.frozen 1
  have x0 := row20 K8.out
  have x1 := row21 K8.out
  have xl := K8.out.lt
  go_upto_region 3 with (fail)
  go_region
  generalize hw : World.setCell _ _ _ = wF
  obtain ⟨wm, l1, l2, k4, k5⟩ := laid72 K4.out K5.out (by omega) hw
  clear v0 v1 v2 v3 v4 v5 v6 s0 s1 s2 s3 s4 s5 s6 vl u0 u1 ul uf0 uf1 x0 x1 xl
  have HBF := (HB.out.trans (l1.below.mono (by omega))).trans (l2.below.mono (by omega))
  have HO := RefOut.zero Q wF
  have hbd : Below wF.heap.size wF wF.drew := (Below.refl _ _).drew
  replace HO := HO.below hbd
  replace k4 := k4.below hbd
  replace k5 := k5.below hbd
  replace HBF := HBF.trans (hbd.mono HBF.size)
  clear hbd
  clear hw l1 l2
  generalize wF.drew = wG at *
  have HOh := Hi HO
  have HBh := Hi HBF
  have k4h := Hi k4
  have k5h := Hi k5
  clear HO HBF k4 k5
  go_wp2_with fail
  obtain ⟨cc0, cc1, cc2, cc3, cc4, cc5, cc6⟩ := row7 k4h.out
  have cl := k4h.out.lt
  have e0 := row20 k5h.out
  have e1 := row21 k5h.out
  have el := k5h.out.lt
  refine bodyPost_ret (v := .tuple #[.agg #[.slice none 0 0, .int .u64 0, .slice none 0 0, .int .u64 0, .slice none 0 0, .slice none 0 0, .slice none 0 0], .agg #[.int .i64 0, .int .u64 0], .bool false, .int .i64 251]) (by simp [results, Tryz.results49, go_sem, cc0, cc1, cc2, cc3, cc4, cc5, cc6, cl, e0, e1, el]) rfl ⟨⟨_, rec0, (0, 0), false, 251, rfl, HOh.out, step_none (.inl H1.out)⟩, HBh.out⟩
 case neg =>
  have e1 : decide (o.k < 1) = false := by simpa using h1
  by_cases h7 : 7 < o.k
  case pos =>
   have e7 : decide (7 < o.k) = true := by simpa using h7
   have H1 := Hi h7
   clear h1 h7
   obtain ⟨y0, y1, y2, y3, y4⟩ := row5 K3.out
   have yl := K3.out.lt
   go_upto_region 3 with (fail)
   clear y0 y1 y2 y3 y4 yl
   clear e1 e7
   obtain ⟨⟨v0, v1, v2, v3, v4, v5, v6⟩, ⟨s0, s1, s2, s3, s4, s5, s6⟩, vl⟩ := all7 K4.out
   have u0 := row20 K5.out
   have u1 := row21 K5.out
   have ul := K5.out.lt
   have uf0 := K5.out.frozen 0
   have uf1 := K5.out.frozen 1
   have x0 := row20 K8.out
   have x1 := row21 K8.out
   have xl := K8.out.lt
   go_upto_region 3 with (fail)
   go_region
   generalize hw : World.setCell _ _ _ = wF
   obtain ⟨wm, l1, l2, k4, k5⟩ := laid72 K4.out K5.out (by omega) hw
   clear v0 v1 v2 v3 v4 v5 v6 s0 s1 s2 s3 s4 s5 s6 vl u0 u1 ul uf0 uf1 x0 x1 xl
   have HBF := (HB.out.trans (l1.below.mono (by omega))).trans (l2.below.mono (by omega))
   have HO := RefOut.zero Q wF
   have hbd : Below wF.heap.size wF wF.drew := (Below.refl _ _).drew
   replace HO := HO.below hbd
   replace k4 := k4.below hbd
   replace k5 := k5.below hbd
   replace HBF := HBF.trans (hbd.mono HBF.size)
   clear hbd
   clear hw l1 l2
   generalize wF.drew = wG at *
   have HOh := Hi HO
   have HBh := Hi HBF
   have k4h := Hi k4
   have k5h := Hi k5
   clear HO HBF k4 k5
   go_wp2_with fail
   obtain ⟨cc0, cc1, cc2, cc3, cc4, cc5, cc6⟩ := row7 k4h.out
   have cl := k4h.out.lt
   have e0 := row20 k5h.out
   have e1 := row21 k5h.out
   have el := k5h.out.lt
   refine bodyPost_ret (v := .tuple #[.agg #[.slice none 0 0, .int .u64 0, .slice none 0 0, .int .u64 0, .slice none 0 0, .slice none 0 0, .slice none 0 0], .agg #[.int .i64 0, .int .u64 0], .bool false, .int .i64 251]) (by simp [results, Tryz.results49, go_sem, cc0, cc1, cc2, cc3, cc4, cc5, cc6, cl, e0, e1, el]) rfl ⟨⟨_, rec0, (0, 0), false, 251, rfl, HOh.out, step_none (.inr H1.out)⟩, HBh.out⟩
  case neg =>
   have e7 : decide (7 < o.k) = false := by simpa using h7
   obtain ⟨y0, y1, y2, y3, y4⟩ := row5 K3.out
   have yl := K3.out.lt
   go_upto_region 4 with (fail)
   clear e1 e7
   by_cases h2 : o.k ≤ 2
   case pos =>
    have e2 : decide (o.k ≤ 2) = true := by simpa using h2
    have hk12 : o.k = 1 ∨ o.k = 2 := by omega
    have HK := Hi hk12
    clear h1 h7 h2 hk12
    obtain ⟨z0, z1, z2, z3, z4, z5, z6⟩ := row7 K2.out
    have zl := K2.out.lt
    go_wp2_with fail
    clear z0 z1 z2 z3 z4 z5 z6 zl
    clear y0 y1 y2 y3 y4 yl
    have HWS := Hi (Nat.le_refl w1.heap.size)
    obtain ⟨ke, hke⟩ : ∃ z, Pn.doE r.e r.S o.k o.g o.b = z := ⟨_, rfl⟩
    obtain ⟨kx, hkx⟩ : ∃ z, Pn.doX r.e r.S o.k o.g o.b = z := ⟨_, rfl⟩
    obtain ⟨kS, hkS⟩ : ∃ z, Pn.doS r.e r.S o.k o.g o.b = z := ⟨_, rfl⟩
    have HKE := Hi hke
    have HKX := Hi hkx
    have HKS := Hi hkS
    skip
    with_reducible refine (RPin_any (fun j => Q j ∧ j ≠ (W.heap.size + 1 + 1) ∧ j ≠ (W.heap.size + 1 + 1 + 1)) A1 S1 n1 c1 m1 d1 B1 p1 f1 r o o.k w1 R.out (fun j hj => HFRE.out j (Nat.le_trans HWS.out hj)) HW.out.fit HW.out.ok.pn HO.out).mono ?_
    rintro e w2 ⟨⟨v, rfl, hv⟩, hb⟩
    replace R := Hi (R.out.below hb)
    replace K2 := Hi (K2.out.below hb)
    replace K3 := Hi (K3.out.below hb)
    replace K4 := Hi (K4.out.below hb)
    replace K5 := Hi (K5.out.below hb)
    replace K8 := Hi (K8.out.below hb)
    replace HB := bt HB hb
    rw [hke]
    rw [hkx, hkS] at hv
    obtain ⟨A5, S5, n5, c5, m5, d5, B5, p5, f5, rfl, hr⟩ := hv
    have R2 := Hi hr
    have HW8 := Hi hb.size
    clear hb hr hke hkx hkS
    go_upto_region 6 with (fail)
    have hb := ba w2 (.cells #[.slice A5 n5 c5, .int .u64 kx, .slice S5 m5 d5, .int .u64 (r.l.E : Int), .slice (B5 0) (p5 0) (f5 0), .slice (B5 1) (p5 1) (f5 1), .slice (B5 2) (p5 2) (f5 2)] 34)
    have K9 := Hi (RowAt.new w2 34 #[.slice A5 n5 c5, .int .u64 kx, .slice S5 m5 d5, .int .u64 (r.l.E : Int), .slice (B5 0) (p5 0) (f5 0), .slice (B5 1) (p5 1) (f5 1), .slice (B5 2) (p5 2) (f5 2)])
    replace R2 := Hi (R2.out.below hb)
    replace K2 := Hi (K2.out.below hb)
    replace K3 := Hi (K3.out.below hb)
    replace K4 := Hi (K4.out.below hb)
    replace K5 := Hi (K5.out.below hb)
    replace K8 := Hi (K8.out.below hb)
    replace HB := bt HB hb
    clear hb
    generalize w2.alloc _ = wn at *
    generalize w2.heap.size = g9 at *
    obtain ⟨⟨v0, v1, v2, v3, v4, v5, v6⟩, ⟨s0, s1, s2, s3, s4, s5, s6⟩, vl⟩ := all7 K4.out
    have u0 := row20 K5.out
    have u1 := row21 K5.out
    have ul := K5.out.lt
    have uf0 := K5.out.frozen 0
    have uf1 := K5.out.frozen 1
    have x0 := row20 K8.out
    have x1 := row21 K8.out
    have xl := K8.out.lt
    obtain ⟨z0, z1, z2, z3, z4, z5, z6⟩ := row7 K9.out
    have zl := K9.out.lt
    go_region
    generalize hw : World.setCell _ _ _ = wF
    obtain ⟨wm, l1, l2, k4, k5⟩ := laid72 K4.out K5.out (by omega) hw
    clear v0 v1 v2 v3 v4 v5 v6 s0 s1 s2 s3 s4 s5 s6 vl u0 u1 ul uf0 uf1 x0 x1 xl z0 z1 z2 z3 z4 z5 z6 zl
    have HBF := (HB.out.trans (l1.below.mono (by omega))).trans (l2.below.mono (by omega))
    have HO := RefQ.fin (P := Q) R2.out l1 l2 K4.out K5.out (by omega) (fun j h => h.2) (fun j h => h.1)
    have hbd : Below wF.heap.size wF wF.drew := (Below.refl _ _).drew
    replace HO := HO.below hbd
    replace k4 := k4.below hbd
    replace k5 := k5.below hbd
    replace HBF := HBF.trans (hbd.mono HBF.size)
    clear hbd
    clear hw l1 l2
    generalize wF.drew = wG at *
    have HOh := Hi HO
    have HBh := Hi HBF
    have k4h := Hi k4
    have k5h := Hi k5
    clear HO HBF k4 k5
    go_wp2_with fail
    obtain ⟨cc0, cc1, cc2, cc3, cc4, cc5, cc6⟩ := row7 k4h.out
    have cl := k4h.out.lt
    have e0 := row20 k5h.out
    have e1 := row21 k5h.out
    have el := k5h.out.lt
    refine bodyPost_ret (v := .tuple #[.agg #[.slice A5 n5 c5, .int .u64 kx, .slice S5 m5 d5, .int .u64 (r.l.E : Int), .slice (B5 0) (p5 0) (f5 0), .slice (B5 1) (p5 1) (f5 1), .slice (B5 2) (p5 2) (f5 2)], .agg #[.int .i64 0, .int .u64 0], .bool false, .int .i64 ke]) (by simp [results, Tryz.results49, go_sem, cc0, cc1, cc2, cc3, cc4, cc5, cc6, cl, e0, e1, el]) rfl ⟨⟨_, _, (0, 0), false, ke, rfl, HOh.out, by have h := pin_step (r := r) HK.out; rw [HKE.out, HKX.out, HKS.out] at h; exact h⟩, HBh.out⟩
   case neg =>
    have e2 : decide (o.k ≤ 2) = false := by simpa using h2
    go_upto_region 7 with (fail)
    clear e2
    by_cases h6 : o.k < 7
    case pos =>
     have e6 : decide (o.k < 7) = true := by simpa using h6
     have HK := Hi (show 3 ≤ o.k ∧ o.k ≤ 6 from by omega)
     clear h1 h7 h2 h6
     obtain ⟨z0, z1, z2, z3, z4, z5, z6⟩ := row7 K2.out
     have zl := K2.out.lt
     go_wp2_with fail
     clear z0 z1 z2 z3 z4 z5 z6 zl
     clear y0 y1 y2 y3 y4 yl
     with_reducible refine (RSlabs_any (fun j => Q j ∧ j ≠ (W.heap.size + 1 + 1) ∧ j ≠ (W.heap.size + 1 + 1 + 1)) A1 S1 n1 c1 m1 d1 B1 p1 f1 r o w1 R.out (fun j hj => HFRE.out j hj) HW.out HX.out HK.out.1 HK.out.2).mono ?_
     rintro e w2 ⟨⟨v, r2, y, bb, k, rfl, hv, hst⟩, hb⟩
     replace R := Hi (R.out.below hb)
     replace K2 := Hi (K2.out.below hb)
     replace K3 := Hi (K3.out.below hb)
     replace K4 := Hi (K4.out.below hb)
     replace K5 := Hi (K5.out.below hb)
     replace K8 := Hi (K8.out.below hb)
     replace HB := bt HB hb
     obtain ⟨A5, S5, n5, c5, m5, d5, B5, p5, f5, rfl, hr⟩ := hv
     have R2 := Hi hr
     have HST := Hi hst
     clear hb hr hst
     obtain ⟨⟨v0, v1, v2, v3, v4, v5, v6⟩, ⟨s0, s1, s2, s3, s4, s5, s6⟩, vl⟩ := all7 K4.out
     have u0 := row20 K5.out
     have u1 := row21 K5.out
     have ul := K5.out.lt
     have uf0 := K5.out.frozen 0
     have uf1 := K5.out.frozen 1
     have x0 := row20 K8.out
     have x1 := row21 K8.out
     have xl := K8.out.lt
     go_wp2_with fail
     generalize hw : World.setCell _ _ _ = wF
     obtain ⟨wm, l1, l2, k4, k5⟩ := laid72 K4.out K5.out (by omega) hw
     clear v0 v1 v2 v3 v4 v5 v6 s0 s1 s2 s3 s4 s5 s6 vl u0 u1 ul uf0 uf1 x0 x1 xl
     have HBF := (HB.out.trans (l1.below.mono (by omega))).trans (l2.below.mono (by omega))
     have HO := RefQ.fin (P := Q) R2.out l1 l2 K4.out K5.out (by omega) (fun j h => h.2) (fun j h => h.1)
     clear hw l1 l2
     have HOh := Hi HO
     have HBh := Hi HBF
     have k4h := Hi k4
     have k5h := Hi k5
     clear HO HBF k4 k5
     go_wp2_with fail
     obtain ⟨cc0, cc1, cc2, cc3, cc4, cc5, cc6⟩ := row7 k4h.out
     have cl := k4h.out.lt
     have e0 := row20 k5h.out
     have e1 := row21 k5h.out
     have el := k5h.out.lt
     refine bodyPost_ret (v := .tuple #[.agg #[.slice A5 n5 c5, .int .u64 r2.e, .slice S5 m5 d5, .int .u64 (r2.l.E : Int), .slice (B5 0) (p5 0) (f5 0), .slice (B5 1) (p5 1) (f5 1), .slice (B5 2) (p5 2) (f5 2)], .agg #[.int .i64 y.1, .int .u64 y.2], .bool bb, .int .i64 k]) (by simp [results, Tryz.results49, go_sem, cc0, cc1, cc2, cc3, cc4, cc5, cc6, cl, e0, e1, el]) rfl ⟨⟨_, _, (y.1, y.2), bb, k, rfl, HOh.out, HST.out⟩, HBh.out⟩
    case neg =>
     have e6 : decide (o.k < 7) = false := by simpa using h6
     have HK := Hi (show o.k = 7 from by omega)
     clear h1 h7 h2 h6
     obtain ⟨z0, z1, z2, z3, z4, z5, z6⟩ := row7 K2.out
     have zl := K2.out.lt
     go_wp2_with fail
     clear z0 z1 z2 z3 z4 z5 z6 zl
     clear y0 y1 y2 y3 y4 yl
     clear e6
     obtain ⟨A8, k8, c8, hcall, _, hlen, _, _, hm8⟩ := Li.of_two2 R.out.lim R.out.cap HW.out.ok.lm HFT.out.1
     have HLN := Hi hlen
     have HM8 := Hi hm8
     clear hlen hm8
     with_reducible refine (hcall).mono ?_
     rintro e w2 ⟨rfl, hb⟩
     replace R := Hi (R.out.below hb)
     replace K2 := Hi (K2.out.below hb)
     replace K3 := Hi (K3.out.below hb)
     replace K4 := Hi (K4.out.below hb)
     replace K5 := Hi (K5.out.below hb)
     replace K8 := Hi (K8.out.below hb)
     replace HB := bt HB hb
     have HWS := Hi hb.size
     clear hb hcall
     by_cases h8 : 0 < k8
     case pos =>
      have e8 : decide ((0 : Int) < (k8 : Int)) = true := by simp; omega
      have H8 := Hi h8
      clear h8
      go_upto_region 10 with (fail)
      clear e8
      obtain ⟨⟨v0, v1, v2, v3, v4, v5, v6⟩, ⟨s0, s1, s2, s3, s4, s5, s6⟩, vl⟩ := all7 K4.out
      have u0 := row20 K5.out
      have u1 := row21 K5.out
      have ul := K5.out.lt
      have uf0 := K5.out.frozen 0
      have uf1 := K5.out.frozen 1
      have x0 := row20 K8.out
      have x1 := row21 K8.out
      have xl := K8.out.lt
      go_upto_region 10 with (fail)
      go_region
      generalize hw : World.setCell _ _ _ = wF
      obtain ⟨wm, l1, l2, k4, k5⟩ := laid72 K4.out K5.out (by omega) hw
      clear v0 v1 v2 v3 v4 v5 v6 s0 s1 s2 s3 s4 s5 s6 vl u0 u1 ul uf0 uf1 x0 x1 xl
      have HBF := (HB.out.trans (l1.below.mono (by omega))).trans (l2.below.mono (by omega))
      have HO := RefOut.zero Q wF
      have hbd : Below wF.heap.size wF wF.drew := (Below.refl _ _).drew
      replace HO := HO.below hbd
      replace k4 := k4.below hbd
      replace k5 := k5.below hbd
      replace HBF := HBF.trans (hbd.mono HBF.size)
      clear hbd
      clear hw l1 l2
      generalize wF.drew = wG at *
      have HOh := Hi HO
      have HBh := Hi HBF
      have k4h := Hi k4
      have k5h := Hi k5
      clear HO HBF k4 k5
      go_wp2_with fail
      obtain ⟨cc0, cc1, cc2, cc3, cc4, cc5, cc6⟩ := row7 k4h.out
      have cl := k4h.out.lt
      have e0 := row20 k5h.out
      have e1 := row21 k5h.out
      have el := k5h.out.lt
      refine bodyPost_ret (v := .tuple #[.agg #[.slice none 0 0, .int .u64 0, .slice none 0 0, .int .u64 0, .slice none 0 0, .slice none 0 0, .slice none 0 0], .agg #[.int .i64 0, .int .u64 0], .bool false, .int .i64 241]) (by simp [results, Tryz.results49, go_sem, cc0, cc1, cc2, cc3, cc4, cc5, cc6, cl, e0, e1, el]) rfl ⟨⟨_, rec0, (0, 0), false, 241, rfl, HOh.out, go_step_ready HK.out HW.out.ok.lm (by rw [HLN.out]; exact H8.out)⟩, HBh.out⟩
     case neg =>
      have hk0 : 0 = k8 := by omega
      subst hk0
      clear h8
      obtain ⟨z0, z1, z2, z3, z4, z5, z6⟩ := row7 K2.out
      have zl := K2.out.lt
      obtain ⟨y0, y1, y2, y3, y4⟩ := row5 K3.out
      have yl := K3.out.lt
      go_wp2_with fail
      clear z0 z1 z2 z3 z4 z5 z6 zl
      clear y0 y1 y2 y3 y4 yl
      obtain ⟨ke, hke⟩ : ∃ z, Pn.doE r.e r.S 3 o.g o.b = z := ⟨_, rfl⟩
      obtain ⟨kx, hkx⟩ : ∃ z, Pn.doX r.e r.S 3 o.g o.b = z := ⟨_, rfl⟩
      obtain ⟨kS, hkS⟩ : ∃ z, Pn.doS r.e r.S 3 o.g o.b = z := ⟨_, rfl⟩
      have HKE := Hi hke
      have HKX := Hi hkx
      have HKS := Hi hkS
      skip
      with_reducible refine (RPin_any (fun j => Q j ∧ j ≠ (W.heap.size + 1 + 1) ∧ j ≠ (W.heap.size + 1 + 1 + 1)) A1 S1 n1 c1 m1 d1 B1 p1 f1 r o 3 w2 R.out (fun j hj => HFRE.out j (Nat.le_trans HWS.out hj)) HW.out.fit HW.out.ok.pn HO.out).mono ?_
      rintro e w3 ⟨⟨v, rfl, hv⟩, hb⟩
      replace R := Hi (R.out.below hb)
      replace K2 := Hi (K2.out.below hb)
      replace K3 := Hi (K3.out.below hb)
      replace K4 := Hi (K4.out.below hb)
      replace K5 := Hi (K5.out.below hb)
      replace K8 := Hi (K8.out.below hb)
      replace HB := bt HB hb
      rw [hke]
      rw [hkx, hkS] at hv
      obtain ⟨A5, S5, n5, c5, m5, d5, B5, p5, f5, rfl, hr⟩ := hv
      have R2 := Hi hr
      have HW8 := Hi hb.size
      clear hb hr hke hkx hkS
      go_upto_region 12 with (fail)
      have hb := ba w3 (.cells #[.slice A5 n5 c5, .int .u64 kx, .slice S5 m5 d5, .int .u64 (r.l.E : Int), .slice (B5 0) (p5 0) (f5 0), .slice (B5 1) (p5 1) (f5 1), .slice (B5 2) (p5 2) (f5 2)] 34)
      have K9 := Hi (RowAt.new w3 34 #[.slice A5 n5 c5, .int .u64 kx, .slice S5 m5 d5, .int .u64 (r.l.E : Int), .slice (B5 0) (p5 0) (f5 0), .slice (B5 1) (p5 1) (f5 1), .slice (B5 2) (p5 2) (f5 2)])
      skip
      replace R2 := Hi (R2.out.up (G := fun j => ((fun j => Q j ∧ j ≠ (W.heap.size + 1 + 1) ∧ j ≠ (W.heap.size + 1 + 1 + 1)) j) ∧ j ≠ w3.heap.size) (fun j hj hl => ⟨hj, by omega⟩))
      replace R := Hi (R.out.up (G := fun j => ((fun j => Q j ∧ j ≠ (W.heap.size + 1 + 1) ∧ j ≠ (W.heap.size + 1 + 1 + 1)) j) ∧ j ≠ w3.heap.size) (fun j hj hl => ⟨hj, by omega⟩))
      have HW9 := Hi (show w1.heap.size ≤ w3.heap.size from Nat.le_trans HWS.out HW8.out)
      replace R := Hi (R.out.below hb)
      replace R2 := Hi (R2.out.below hb)
      replace K2 := Hi (K2.out.below hb)
      replace K3 := Hi (K3.out.below hb)
      replace K4 := Hi (K4.out.below hb)
      replace K5 := Hi (K5.out.below hb)
      replace K8 := Hi (K8.out.below hb)
      replace HB := bt HB hb
      clear hb
      generalize w3.alloc _ = wn at *
      generalize w3.heap.size = g9 at *
      by_cases h0 : ke = 0
      case neg =>
       have e0 : (ke == 0) = false := by simpa using h0
       have H0 := Hi h0
       clear h0
       go_upto_region 13 with (fail)
       clear e0
       obtain ⟨⟨v0, v1, v2, v3, v4, v5, v6⟩, ⟨s0, s1, s2, s3, s4, s5, s6⟩, vl⟩ := all7 K4.out
       have u0 := row20 K5.out
       have u1 := row21 K5.out
       have ul := K5.out.lt
       have uf0 := K5.out.frozen 0
       have uf1 := K5.out.frozen 1
       have x0 := row20 K8.out
       have x1 := row21 K8.out
       have xl := K8.out.lt
       go_upto_region 13 with (fail)
       go_region
       generalize hw : World.setCell _ _ _ = wF
       obtain ⟨wm, l1, l2, k4, k5⟩ := laid72 K4.out K5.out (by omega) hw
       clear v0 v1 v2 v3 v4 v5 v6 s0 s1 s2 s3 s4 s5 s6 vl u0 u1 ul uf0 uf1 x0 x1 xl
       have HBF := (HB.out.trans (l1.below.mono (by omega))).trans (l2.below.mono (by omega))
       have HO := RefOut.zero Q wF
       have hbd : Below wF.heap.size wF wF.drew := (Below.refl _ _).drew
       replace HO := HO.below hbd
       replace k4 := k4.below hbd
       replace k5 := k5.below hbd
       replace HBF := HBF.trans (hbd.mono HBF.size)
       clear hbd
       clear hw l1 l2
       generalize wF.drew = wG at *
       have HOh := Hi HO
       have HBh := Hi HBF
       have k4h := Hi k4
       have k5h := Hi k5
       clear HO HBF k4 k5
       go_wp2_with fail
       obtain ⟨cc0, cc1, cc2, cc3, cc4, cc5, cc6⟩ := row7 k4h.out
       have cl := k4h.out.lt
       have e0 := row20 k5h.out
       have e1 := row21 k5h.out
       have el := k5h.out.lt
       refine bodyPost_ret (v := .tuple #[.agg #[.slice none 0 0, .int .u64 0, .slice none 0 0, .int .u64 0, .slice none 0 0, .slice none 0 0, .slice none 0 0], .agg #[.int .i64 0, .int .u64 0], .bool false, .int .i64 ke]) (by simp [results, Tryz.results49, go_sem, cc0, cc1, cc2, cc3, cc4, cc5, cc6, cl, e0, e1, el]) rfl ⟨⟨_, rec0, (0, 0), false, ke, rfl, HOh.out, by have h := go_step_no (r := r) (r2 := rec0) (y := (0, 0)) (b := false) HK.out HW.out.ok.lm HLN.out (by rw [HKE.out]; exact H0.out); rw [HKE.out] at h; exact h⟩, HBh.out⟩
      case pos =>
       subst h0
       obtain ⟨z0, z1, z2, z3, z4, z5, z6⟩ := row7 K2.out
       have zl := K2.out.lt
       go_wp2_with fail
       clear z0 z1 z2 z3 z4 z5 z6 zl
       have HWN := Hi (show g9 < wn.heap.size from K9.out.lt)
       have HWT := Hi (show W.heap.size + 1 + 1 + 1 + 1 < wn.heap.size from K8.out.lt)
       with_reducible refine (Li.radv_any (fun j => ((fun j => Q j ∧ j ≠ (W.heap.size + 1 + 1) ∧ j ≠ (W.heap.size + 1 + 1 + 1)) j) ∧ j ≠ g9) B1 p1 f1 r.l wn R.out.lim R.out.low (fun j hj => by have := HWN.out; have := HWT.out; exact ⟨⟨HQF.out j (by omega), by omega, by omega⟩, by omega⟩) HW.out.ok.lm HFT.out.1 R.out.cap).mono ?_
       rintro e w4 ⟨B9, p9, f9, rfl, hli, hlow, hcap, hb⟩
       replace R := Hi (R.out.below hb)
       replace R2 := Hi (R2.out.below hb)
       replace K2 := Hi (K2.out.below hb)
       replace K3 := Hi (K3.out.below hb)
       replace K4 := Hi (K4.out.below hb)
       replace K5 := Hi (K5.out.below hb)
       replace K8 := Hi (K8.out.below hb)
       replace K9 := Hi (K9.out.below hb)
       replace HB := bt HB hb
       have HLI := Hi hli
       have HLOW := Hi hlow
       have HCAP := Hi hcap
       obtain ⟨re, hre⟩ : ∃ z, Li.errL (Li.doAdv r.l) = z := ⟨_, rfl⟩
       obtain ⟨rl, hrl⟩ : ∃ z, Li.valL (Li.doAdv r.l) = z := ⟨_, rfl⟩
       rw [hrl] at HLI
       rw [hre, hrl]
       have HRE := Hi hre
       have HRL := Hi hrl
       clear hb hli hlow hcap hre hrl
       obtain ⟨⟨z0, z1, z2, z3, z4, z5, z6⟩, ⟨q0, q1, q2, q3, q4, q5, q6⟩, zl⟩ := all7 K9.out
       go_upto_region 15 with (fail)
       clear z0 z1 z2 z3 z4 z5 z6 q0 q1 q2 q3 q4 q5 q6 zl
       generalize hw : World.setCell _ _ _ = wt
       obtain ⟨hl, hk⟩ := laid34 K9.out hw
       have HG9 := Hi (show W.heap.size + 1 + 1 + 1 + 1 < g9 from by have := HW9.out; have := HZ.out; omega)
       have HR2 := Hi ((R2.out.limbo (c1 := f9) HLI.out HLOW.out HCAP.out).laid hl (fun j h => h.2) (rec_apart R2.out.sl R2.out.l0 K9.out))
       replace K4 := Hi (show RowAt _ _ _ _ from (hl.block _ (by have := HG9.out; omega)).trans K4.out)
       replace K5 := Hi (show RowAt _ _ _ _ from (hl.block _ (by have := HG9.out; omega)).trans K5.out)
       replace K8 := Hi (show RowAt _ _ _ _ from (hl.block _ (by have := HG9.out; omega)).trans K8.out)
       replace HB := Hi (HB.out.trans (hl.below.mono (by have := HG9.out; omega)))
       replace K9 := Hi hk
       replace R2 := Hi (HR2.out.up (G := (fun j => Q j ∧ j ≠ (W.heap.size + 1 + 1) ∧ j ≠ (W.heap.size + 1 + 1 + 1))) (fun j h _ => h.1))
       clear hl hk hw HR2 HLI HLOW HCAP R K2 K3
       obtain ⟨⟨v0, v1, v2, v3, v4, v5, v6⟩, ⟨s0, s1, s2, s3, s4, s5, s6⟩, vl⟩ := all7 K4.out
       have u0 := row20 K5.out
       have u1 := row21 K5.out
       have ul := K5.out.lt
       have uf0 := K5.out.frozen 0
       have uf1 := K5.out.frozen 1
       have x0 := row20 K8.out
       have x1 := row21 K8.out
       have xl := K8.out.lt
       obtain ⟨z0, z1, z2, z3, z4, z5, z6⟩ := row7 K9.out
       have zl := K9.out.lt
       go_region
       generalize hw : World.setCell _ _ _ = wF
       obtain ⟨wm, l1, l2, k4, k5⟩ := laid72 K4.out K5.out (by omega) hw
       clear v0 v1 v2 v3 v4 v5 v6 s0 s1 s2 s3 s4 s5 s6 vl u0 u1 ul uf0 uf1 x0 x1 xl z0 z1 z2 z3 z4 z5 z6 zl
       have HBF := (HB.out.trans (l1.below.mono (by omega))).trans (l2.below.mono (by omega))
       have HO := RefQ.fin (P := Q) R2.out l1 l2 K4.out K5.out (by omega) (fun j h => h.2) (fun j h => h.1)
       have hbd : Below wF.heap.size wF wF.drew := (Below.refl _ _).drew
       replace HO := HO.below hbd
       replace k4 := k4.below hbd
       replace k5 := k5.below hbd
       replace HBF := HBF.trans (hbd.mono HBF.size)
       clear hbd
       clear hw l1 l2
       generalize wF.drew = wG at *
       have HOh := Hi HO
       have HBh := Hi HBF
       have k4h := Hi k4
       have k5h := Hi k5
       clear HO HBF k4 k5
       go_wp2_with fail
       obtain ⟨cc0, cc1, cc2, cc3, cc4, cc5, cc6⟩ := row7 k4h.out
       have cl := k4h.out.lt
       have e0 := row20 k5h.out
       have e1 := row21 k5h.out
       have el := k5h.out.lt
       refine bodyPost_ret (v := .tuple #[.agg #[.slice A5 n5 c5, .int .u64 kx, .slice S5 m5 d5, .int .u64 (rl.E : Int), .slice (B9 0) (p9 0) (f9 0), .slice (B9 1) (p9 1) (f9 1), .slice (B9 2) (p9 2) (f9 2)], .agg #[.int .i64 0, .int .u64 0], .bool false, .int .i64 re]) (by simp [results, Tryz.results49, go_sem, cc0, cc1, cc2, cc3, cc4, cc5, cc6, cl, e0, e1, el]) rfl ⟨⟨_, _, (0, 0), false, re, rfl, HOh.out, by have h := go_step_yes (r := r) HK.out HW.out.ok.lm HLN.out HKE.out; rw [HKX.out, HKS.out, HRE.out, HRL.out] at h; exact h⟩, HBh.out⟩
theorem do_of_step {r r2 : Rec} {o : EOp} {y : Ent} {b : Bool} {k : Int} (hw : WfR r) (h : StepOk r o r2 y b k) : doR r o = if k = 0 then (r2, y, 0) else (rec0, (0, 0), k) := by
 unfold doR
 rw [if_pos (ok_iff.2 hw.ok)]
 unfold StepOk at h
 cases hs : stepR r [] o with
 | ok x =>
  rw [hs] at h
  obtain ⟨rfl, rfl, rfl, _⟩ := h
  rw [if_pos rfl]
 | error c =>
  rw [hs] at h
  have h : k = c := h
  subst h
  rw [if_neg (step_ne hs)]
def RDoRes (Q : Nat → Prop) (r : Rec) (o : EOp) (W : World) (e : Ending) (W' : World) : Prop := (∃ v, e = .returned (.tuple #[v, .agg #[.int .i64 (doR r o).2.1.1, .int .u64 (doR r o).2.1.2], .int .i64 (doR r o).2.2]) ∧ RefOut Q W' v (doR r o).1) ∧ Below W.heap.size W W'
set_option maxRecDepth 20000 in
theorem RDo_any (Q : Nat → Prop) (A1 S1 : Option Addr) (n1 c1 m1 d1 : Nat) (B1 : Nat → Option Addr) (p1 f1 : Nat → Nat) (r : Rec) (o : EOp) (W : World) (hr : RefQ Q W A1 S1 n1 c1 m1 d1 B1 p1 f1 r) (hl : ∀ j, W.heap.size ≤ j → Q j) (hw : WfR r) (hb : 0 ≤ o.b) (hx : U64 o.x.2) : Calls Tryz.prog 14 #[.agg #[.slice A1 n1 c1, .int .u64 r.e, .slice S1 m1 d1, .int .u64 (r.l.E : Int), .slice (B1 0) (p1 0) (f1 0), .slice (B1 1) (p1 1) (f1 1), .slice (B1 2) (p1 2) (f1 2)], .agg #[.int .i64 o.k, .int .i64 o.g, .int .u64 o.b, .int .i64 o.x.1, .int .u64 o.x.2]] W (RDoRes Q r o W) := by
 have al := al4 W #[.slice A1 n1 c1, .int .u64 r.e, .slice S1 m1 d1, .int .u64 (r.l.E : Int), .slice (B1 0) (p1 0) (f1 0), .slice (B1 1) (p1 1) (f1 1), .slice (B1 2) (p1 2) (f1 2)] 34 #[.int .i64 o.k, .int .i64 o.g, .int .u64 o.b, .int .i64 o.x.1, .int .u64 o.x.2] 43 #[.slice none 0 0, .int .u64 0, .slice none 0 0, .int .u64 0, .slice none 0 0, .slice none 0 0, .slice none 0 0] 34 #[.int .i64 0, .int .u64 0] 41
 have b1 := al.2.1
 have b2 := al.2.2.1
 have b3 := al.2.2.2.1
 have b4 := al.2.2.2.2
 have K2 := Hi al.1.1
 have K3 := Hi al.1.2.1
 have K4 := Hi al.1.2.2.1
 have K5 := Hi al.1.2.2.2
 clear al
 have bb := ((b1.trans (b2.mono b1.size)).trans (b3.mono (Nat.le_trans b1.size b2.size))).trans (b4.mono (Nat.le_trans (Nat.le_trans b1.size b2.size) b3.size))
 have R := Hi ((hr.up (G := fun j => Q j ∧ j ≠ (W.heap.size + 1 + 1) ∧ j ≠ (W.heap.size + 1 + 1 + 1)) (fun j hj hl => ⟨hj, by omega, by omega⟩)).below bb)
 have HB := Hi bb
 have HW := Hi hw
 have HX := Hi hx
 have HO := Hi hb
 have HQF := Hi hl
 clear b1 b2 b3 b4 bb hr hw hx hl hb
 go_enter Tryz.func14, Tryz.ntmps14
 go_upto_region 1 with (fail)
 generalize (((W.alloc _).alloc _).alloc _).alloc _ = w1 at *
 have HZ := Hi (show W.heap.size + 1 + 1 + 1 < w1.heap.size from K5.out.lt)
 obtain ⟨y0, y1, y2, y3, y4⟩ := row5 K3.out
 have yl := K3.out.lt
 obtain ⟨z0, z1, z2, z3, z4, z5, z6⟩ := row7 K2.out
 have zl := K2.out.lt
 go_wp2_with fail
 clear y0 y1 y2 y3 y4 yl z0 z1 z2 z3 z4 z5 z6 zl
 with_reducible refine (RStep_any (fun j => Q j ∧ j ≠ (W.heap.size + 1 + 1) ∧ j ≠ (W.heap.size + 1 + 1 + 1)) A1 S1 n1 c1 m1 d1 B1 p1 f1 r o w1 R.out (fun j hj => by have := HZ.out; exact ⟨HQF.out j (by omega), by omega, by omega⟩) HW.out HO.out HX.out).mono ?_
 rintro e w2 ⟨⟨v, r2, y, bb, k, rfl, hv, hst⟩, hb⟩
 replace R := Hi (R.out.below hb)
 replace K2 := Hi (K2.out.below hb)
 replace K4 := Hi (K4.out.below hb)
 replace K5 := Hi (K5.out.below hb)
 replace HB := bt HB hb
 obtain ⟨A5, S5, n5, c5, m5, d5, B5, p5, f5, rfl, hr⟩ := hv
 have R2 := Hi hr
 have HST := Hi (do_of_step HW.out hst)
 clear hb hr hst K3
 go_upto_region 2 with (fail)
 have hb : Below w2.heap.size w2 ((w2.alloc (.cells #[.slice A5 n5 c5, .int .u64 r2.e, .slice S5 m5 d5, .int .u64 (r2.l.E : Int), .slice (B5 0) (p5 0) (f5 0), .slice (B5 1) (p5 1) (f5 1), .slice (B5 2) (p5 2) (f5 2)] 34)).alloc (.cells #[.int .i64 y.1, .int .u64 y.2] 41)) := ((Below.refl _ _).alloc (Nat.le_refl _) _).alloc (by simp) _
 have al := al2 w2 #[.slice A5 n5 c5, .int .u64 r2.e, .slice S5 m5 d5, .int .u64 (r2.l.E : Int), .slice (B5 0) (p5 0) (f5 0), .slice (B5 1) (p5 1) (f5 1), .slice (B5 2) (p5 2) (f5 2)] 34 #[.int .i64 y.1, .int .u64 y.2] 41
 have K7 := Hi al.1.1
 have K8 := Hi al.1.2
 clear al
 have HG7 := Hi (show W.heap.size + 1 + 1 + 1 < w2.heap.size from K5.out.lt)
 replace R2 := Hi (R2.out.below hb)
 replace K2 := Hi (K2.out.below hb)
 replace K4 := Hi (K4.out.below hb)
 replace K5 := Hi (K5.out.below hb)
 replace HB := bt HB hb
 clear hb
 generalize (w2.alloc _).alloc _ = wn at *
 generalize w2.heap.size = g7 at *
 by_cases h0 : k = 0
 case neg =>
  have e1 : (k == 0) = false := by simpa using h0
  have HD := Hi (show doR r o = (rec0, (0, 0), k) from by rw [HST.out, if_neg h0])
  clear h0
  obtain ⟨⟨v0, v1, v2, v3, v4, v5, v6⟩, ⟨s0, s1, s2, s3, s4, s5, s6⟩, vl⟩ := all7 K4.out
  have u0 := row20 K5.out
  have u1 := row21 K5.out
  have ul := K5.out.lt
  have uf0 := K5.out.frozen 0
  have uf1 := K5.out.frozen 1
  go_wp2_with fail
  generalize hw : World.setCell _ _ _ = wF
  obtain ⟨wm, l1, l2, k4, k5⟩ := laid72 K4.out K5.out (by omega) hw
  clear v0 v1 v2 v3 v4 v5 v6 s0 s1 s2 s3 s4 s5 s6 vl u0 u1 ul uf0 uf1
  have HBF := (HB.out.trans (l1.below.mono (by omega))).trans (l2.below.mono (by omega))
  have HO := RefOut.zero Q wF
  clear hw l1 l2
  have HOh := Hi HO
  have HBh := Hi HBF
  have k4h := Hi k4
  have k5h := Hi k5
  clear HO HBF k4 k5
  obtain ⟨cc0, cc1, cc2, cc3, cc4, cc5, cc6⟩ := row7 k4h.out
  have cl := k4h.out.lt
  have e0 := row20 k5h.out
  have e1 := row21 k5h.out
  have el := k5h.out.lt
  refine bodyPost_ret (v := .tuple #[.agg #[.slice none 0 0, .int .u64 0, .slice none 0 0, .int .u64 0, .slice none 0 0, .slice none 0 0, .slice none 0 0], .agg #[.int .i64 0, .int .u64 0], .int .i64 k]) (by simp [results, Tryz.results14, go_sem, cc0, cc1, cc2, cc3, cc4, cc5, cc6, cl, e0, e1, el]) rfl ⟨⟨_, by rw [HD.out], by rw [HD.out]; exact HOh.out⟩, HBh.out⟩
 case pos =>
  subst h0
  have HD := Hi (show doR r o = (r2, y, 0) from by rw [HST.out, if_pos rfl])
  go_upto_region 4 with (fail)
  obtain ⟨⟨v0, v1, v2, v3, v4, v5, v6⟩, ⟨s0, s1, s2, s3, s4, s5, s6⟩, vl⟩ := all7 K4.out
  have u0 := row20 K5.out
  have u1 := row21 K5.out
  have ul := K5.out.lt
  have uf0 := K5.out.frozen 0
  have uf1 := K5.out.frozen 1
  obtain ⟨z0, z1, z2, z3, z4, z5, z6⟩ := row7 K7.out
  have zl := K7.out.lt
  have x0 := row20 K8.out
  have x1 := row21 K8.out
  have xl := K8.out.lt
  have hg1 : ¬ g7 = W.heap.size + 1 := by have := HG7.out; omega
  have hg2 : ¬ g7 = W.heap.size + 1 + 1 := by have := HG7.out; omega
  have hg3 : ¬ g7 = W.heap.size + 1 + 1 + 1 := by have := HG7.out; omega
  go_region
  generalize hw : World.setCell _ _ _ = wF
  obtain ⟨wm, l1, l2, k4, k5⟩ := laid72 K4.out K5.out (by omega) hw
  clear z0 z1 z2 z3 z4 z5 z6 zl x0 x1 xl hg1 hg2 hg3
  clear v0 v1 v2 v3 v4 v5 v6 s0 s1 s2 s3 s4 s5 s6 vl u0 u1 ul uf0 uf1
  have HBF := (HB.out.trans (l1.below.mono (by omega))).trans (l2.below.mono (by omega))
  have HO := RefQ.fin (P := Q) R2.out l1 l2 K4.out K5.out (by omega) (fun j h => h.2) (fun j h => h.1)
  have hbd : Below wF.heap.size wF wF.drew := (Below.refl _ _).drew
  replace HO := HO.below hbd
  replace k4 := k4.below hbd
  replace k5 := k5.below hbd
  replace HBF := HBF.trans (hbd.mono HBF.size)
  clear hbd
  clear hw l1 l2
  generalize wF.drew = wG at *
  have HOh := Hi HO
  have HBh := Hi HBF
  have k4h := Hi k4
  have k5h := Hi k5
  clear HO HBF k4 k5
  go_wp2_with fail
  obtain ⟨cc0, cc1, cc2, cc3, cc4, cc5, cc6⟩ := row7 k4h.out
  have cl := k4h.out.lt
  have e0 := row20 k5h.out
  have e1 := row21 k5h.out
  have el := k5h.out.lt
  refine bodyPost_ret (v := .tuple #[.agg #[.slice A5 n5 c5, .int .u64 r2.e, .slice S5 m5 d5, .int .u64 (r2.l.E : Int), .slice (B5 0) (p5 0) (f5 0), .slice (B5 1) (p5 1) (f5 1), .slice (B5 2) (p5 2) (f5 2)], .agg #[.int .i64 y.1, .int .u64 y.2], .int .i64 0]) (by simp [results, Tryz.results14, go_sem, cc0, cc1, cc2, cc3, cc4, cc5, cc6, cl, e0, e1, el]) rfl ⟨⟨_, by rw [HD.out], by rw [HD.out]; exact HOh.out⟩, HBh.out⟩
theorem rDoAs {Q : Nat → Prop} {w : World} {v : Value} {r : Rec} (h : RefOut Q w v r) (hl : ∀ j, w.heap.size ≤ j → Q j) (hw : WfR r) (ok og ob x1 x2 : Int) (hb : 0 ≤ ob) (hx : U64 x2) {r2 : Rec} {y : Ent} {k : Int} (hT : doR r ⟨ok, og, ob, (x1, x2)⟩ = (r2, y, k)) : Calls Tryz.prog 14 #[v, .agg #[.int .i64 ok, .int .i64 og, .int .u64 ob, .int .i64 x1, .int .u64 x2]] w fun e w' =>
  (∃ v, e = .returned (.tuple #[v, .agg #[.int .i64 y.1, .int .u64 y.2], .int .i64 k]) ∧ RefOut Q w' v r2) ∧ Below w.heap.size w w' := by
 obtain ⟨A0, As, n0, c0, ns, cs, A, n, c, rfl, h⟩ := h
 have h2 := RDo_any Q A0 As n0 c0 ns cs A n c r ⟨ok, og, ob, (x1, x2)⟩ w h hl hw hb hx
 unfold RDoRes at h2
 rw [hT] at h2
 exact h2
theorem RefQ.stay {Q : Nat → Prop} {w w' : World} {A0 As : Option Addr} {n0 c0 ns cs : Nat} {A : Nat → Option Addr} {n c : Nat → Nat} {r : Rec} (h : RefQ Q w A0 As n0 c0 ns cs A n c r) (hs : StayF Q w w') : RefQ Q w' A0 As n0 c0 ns cs A n c r :=
 ⟨h.sl.stayF h.slq hs, h.l0, h.S.stayF h.sq hs, h.sq, h.ls, ⟨fun k hk => (h.lim.1 k hk).stayF (fun hn p hp => (h.low k p hk hn hp).1) hs, h.lim.2⟩, h.low.more hs.1, h.cap, h.two, h.slq⟩
theorem RefQ.val {Q : Nat → Prop} {w : World} {A0 As : Option Addr} {n0 c0 ns cs : Nat} {A : Nat → Option Addr} {n c : Nat → Nat} {r : Rec} (h : RefQ Q w A0 As n0 c0 ns cs A n c r) : RefOut Q w (.agg (recC r.e r.l.E A0 As n0 c0 ns cs A n c)) r := by
 refine ⟨A0, As, n0, c0, ns, cs, A, n, c, rfl, h⟩
theorem free_told (r : Rec) (t : List Ent) : freeR r t = match freeR r [] with | .ok (r', u) => .ok (r', t ++ u) | .error k => .error k := by
 unfold freeR
 cases h : Li.takR r.l with
 | error k => rfl
 | ok x =>
  obtain ⟨l, y⟩ := x
  dsimp only
  by_cases h0 : gvE r.sl [y] = 0
  · rw [if_pos h0, if_pos h0]; simp
  · rw [if_neg h0, if_neg h0]
theorem own_less {w : World} {B base : Nat} {e : TypeId} {sz n : Nat} {v : Value} {xs : List Value} (h : w.ownsRow base e sz v n xs) (hb : B ≤ base) : w.ownsRow B e sz v n xs := by
 refine ⟨h.1, ?_⟩
 rcases h.2 with h1 | ⟨b, cap, rest, hv, h2, h3, h4⟩
 · exact .inl h1
 · exact .inr ⟨b, cap, rest, hv, Nat.le_trans hb h2, h3, h4⟩
theorem go_told (r : Rec) (t : List Ent) (o : EOp) : goR r t o = match goR r [] o with | .ok (r', _) => .ok (r', t) | .error k => .error k := by
 unfold goR
 by_cases hc : (if r.l.ok then r.l.at 2 else []).length = 0
 ·
  rw [if_pos hc, if_pos hc]
  unfold pinR
  by_cases h0 : Pn.doE r.e r.S 3 o.g o.b = 0
  ·
   rw [if_pos h0, if_pos h0]
   dsimp only
   cases h : Li.advR r.l with
   | ok l => rfl
   | error k => rfl
  · rw [if_neg h0, if_neg h0]
 · rw [if_neg hc, if_neg hc]
theorem fresh_off {w : World} {base n c j : Nat} {At : Option Addr} {xs : List Value} (h : w.ownsRow base 41 2 (.slice At n c) n xs) (hj : w.heap.size ≤ j) : (Value.slice At n c).ownBlock ≠ some j := by
 intro he
 rw [own_block] at he
 cases At with
 | none => cases he
 | some q => (injection he with he; have he : q.block = j := he; have := (told_lt h q rfl).2; omega)
theorem refq_lim {Q : Nat → Prop} {w : World} {A0 As : Option Addr} {n0 c0 ns cs : Nat} {A : Nat → Option Addr} {n c : Nat → Nat} {r : Rec} (h : RefQ Q w A0 As n0 c0 ns cs A n c r) (hf : FitR r) : (∀ k, k < 3 → n k ≤ 4096) ∧ n0 ≤ 4096 ∧ ns ≤ 4096 :=
 ⟨fun k hk => by rw [← h.lim.2 k hk]; exact hf.rw k hk, by rw [← h.l0]; exact hf.sl, by rw [← h.ls]; exact hf.S⟩
set_option maxRecDepth 20000 in
theorem RSameQ_any (F1 : Nat → Prop) (A1 S1 : Option Addr) (n1 c1 m1 d1 : Nat) (B1 : Nat → Option Addr) (p1 f1 : Nat → Nat) (a : Rec) (Q2 : Nat → Prop) (A2 S2 : Option Addr) (n2 c2 m2 d2 : Nat) (B2 : Nat → Option Addr) (p2 f2 : Nat → Nat) (b : Rec) (W : World) (h1 : RecF F1 W A1 S1 n1 c1 m1 d1 B1 p1 f1 a) (h2 : RefQ Q2 W A2 S2 n2 c2 m2 d2 B2 p2 f2 b) (hf : FitR a) (hg : FitR b) (q : Bool) (hq : sameR a b = q) : Calls Tryz.prog 15 #[.agg #[.slice A1 n1 c1, .int .u64 a.e, .slice S1 m1 d1, .int .u64 (a.l.E : Int), .slice (B1 0) (p1 0) (f1 0), .slice (B1 1) (p1 1) (f1 1), .slice (B1 2) (p1 2) (f1 2)], .agg #[.slice A2 n2 c2, .int .u64 b.e, .slice S2 m2 d2, .int .u64 (b.l.E : Int), .slice (B2 0) (p2 0) (f2 0), .slice (B2 1) (p2 1) (f2 1), .slice (B2 2) (p2 2) (f2 2)]] W fun e W' => e = .returned (.bool q) ∧ Below W.heap.size W W' := by
 have HF := Hi hf
 have HG := Hi hg
 have HL := Hi (rec_lim h1 hf)
 have HM := Hi (refq_lim h2 hg)
 have HQ : Hid ((decide (a.sl = b.sl) && (decide (a.e = b.e ∧ a.S = b.S) && Li.sameB a.l b.l)) = q) := Hi (by rw [← hq, sameB_eq])
 have R1 := Hi h1
 have R2 := Hi h2
 clear h1 h2 hf hg hq
 have hb : Below W.heap.size W ((W.alloc (.cells #[.slice A1 n1 c1, .int .u64 a.e, .slice S1 m1 d1, .int .u64 (a.l.E : Int), .slice (B1 0) (p1 0) (f1 0), .slice (B1 1) (p1 1) (f1 1), .slice (B1 2) (p1 2) (f1 2)] 34)).alloc (.cells #[.slice A2 n2 c2, .int .u64 b.e, .slice S2 m2 d2, .int .u64 (b.l.E : Int), .slice (B2 0) (p2 0) (f2 0), .slice (B2 1) (p2 1) (f2 1), .slice (B2 2) (p2 2) (f2 2)] 34)) := ((Below.refl _ _).alloc (Nat.le_refl _) _).alloc (by simp) _
 have al := al2 W #[.slice A1 n1 c1, .int .u64 a.e, .slice S1 m1 d1, .int .u64 (a.l.E : Int), .slice (B1 0) (p1 0) (f1 0), .slice (B1 1) (p1 1) (f1 1), .slice (B1 2) (p1 2) (f1 2)] 34 #[.slice A2 n2 c2, .int .u64 b.e, .slice S2 m2 d2, .int .u64 (b.l.E : Int), .slice (B2 0) (p2 0) (f2 0), .slice (B2 1) (p2 1) (f2 1), .slice (B2 2) (p2 2) (f2 2)] 34
 have K1 := Hi al.1.1
 have K2 := Hi al.1.2
 clear al
 replace R1 := Hi (R1.out.below hb)
 replace R2 := Hi (R2.out.below hb)
 have HB := Hi hb
 clear hb
 go_enter Tryz.func15, Tryz.ntmps15
 go_upto_region 1 with (fail)
 generalize (W.alloc _).alloc _ = w1 at *
 obtain ⟨K1y0, K1y1, K1y2, K1y3, K1y4, K1y5, K1y6⟩ := row7 K1.out
 have K1l := K1.out.lt
 obtain ⟨K2y0, K2y1, K2y2, K2y3, K2y4, K2y5, K2y6⟩ := row7 K2.out
 have K2l := K2.out.lt
 go_wp2_with fail
 clear K1y0 K1y1 K1y2 K1y3 K1y4 K1y5 K1y6 K1l K2y0 K2y1 K2y2 K2y3 K2y4 K2y5 K2y6 K2l
 obtain ⟨o1, h1⟩ : ∃ o, decide (a.sl = b.sl) = o := ⟨_, rfl⟩
 rw [h1] at HQ
 with_reducible refine (rsame_any A1 A2 c1 c2 n1 n2 a.sl b.sl w1 R1.out.sl.rd R2.out.sl R1.out.l0 R2.out.l0 HL.out.2.1 HM.out.2.1 o1 h1).mono ?_
 rintro e w1 ⟨rfl, hb⟩
 replace R1 := Hi (R1.out.below hb)
 replace R2 := Hi (R2.out.below hb)
 replace K1 := Hi (K1.out.below hb)
 replace K2 := Hi (K2.out.below hb)
 replace HB := bt HB hb
 clear hb
 clear h1
 cases o1 with
 | false =>
  obtain ⟨K1y0, K1y1, K1y2, K1y3, K1y4, K1y5, K1y6⟩ := row7 K1.out
  have K1l := K1.out.lt
  obtain ⟨K2y0, K2y1, K2y2, K2y3, K2y4, K2y5, K2y6⟩ := row7 K2.out
  have K2l := K2.out.lt
  go_wp2_with fail
  clear K1y0 K1y1 K1y2 K1y3 K1y4 K1y5 K1y6 K1l K2y0 K2y1 K2y2 K2y3 K2y4 K2y5 K2y6 K2l
  go_ret
  exact ⟨by rw [← HQ.out]; simp [], HB.out⟩
 | true =>
  obtain ⟨K1y0, K1y1, K1y2, K1y3, K1y4, K1y5, K1y6⟩ := row7 K1.out
  have K1l := K1.out.lt
  obtain ⟨K2y0, K2y1, K2y2, K2y3, K2y4, K2y5, K2y6⟩ := row7 K2.out
  have K2l := K2.out.lt
  go_wp2_with fail
  clear K1y0 K1y1 K1y2 K1y3 K1y4 K1y5 K1y6 K1l K2y0 K2y1 K2y2 K2y3 K2y4 K2y5 K2y6 K2l
  obtain ⟨o2, h2⟩ : ∃ o, decide (a.e = b.e ∧ a.S = b.S) = o := ⟨_, rfl⟩
  rw [h2] at HQ
  with_reducible refine (Pn.rsame_any S1 S2 d1 d2 m1 m2 a.e b.e a.S b.S w1 R1.out.S.rd R2.out.S R1.out.ls R2.out.ls HL.out.2.2 HM.out.2.2 o2 h2).mono ?_
  rintro e w2 ⟨rfl, hb⟩
  replace R1 := Hi (R1.out.below hb)
  replace R2 := Hi (R2.out.below hb)
  replace K1 := Hi (K1.out.below hb)
  replace K2 := Hi (K2.out.below hb)
  replace HB := bt HB hb
  clear hb
  clear h2
  cases o2 with
  | false =>
   obtain ⟨K1y0, K1y1, K1y2, K1y3, K1y4, K1y5, K1y6⟩ := row7 K1.out
   have K1l := K1.out.lt
   obtain ⟨K2y0, K2y1, K2y2, K2y3, K2y4, K2y5, K2y6⟩ := row7 K2.out
   have K2l := K2.out.lt
   go_wp2_with fail
   clear K1y0 K1y1 K1y2 K1y3 K1y4 K1y5 K1y6 K1l K2y0 K2y1 K2y2 K2y3 K2y4 K2y5 K2y6 K2l
   go_ret
   exact ⟨by rw [← HQ.out]; simp [], HB.out⟩
  | true =>
   obtain ⟨K1y0, K1y1, K1y2, K1y3, K1y4, K1y5, K1y6⟩ := row7 K1.out
   have K1l := K1.out.lt
   obtain ⟨K2y0, K2y1, K2y2, K2y3, K2y4, K2y5, K2y6⟩ := row7 K2.out
   have K2l := K2.out.lt
   go_wp2_with fail
   clear K1y0 K1y1 K1y2 K1y3 K1y4 K1y5 K1y6 K1l K2y0 K2y1 K2y2 K2y3 K2y4 K2y5 K2y6 K2l
   with_reducible refine (Li.rsame_any B1 p1 f1 a.l B2 p2 f2 b.l w2 R1.out.lim R2.out.lim HL.out.1 HM.out.1 (Li.sameB a.l b.l) rfl).mono ?_
   rintro e w3 ⟨rfl, hb⟩
   replace R1 := Hi (R1.out.below hb)
   replace R2 := Hi (R2.out.below hb)
   replace K1 := Hi (K1.out.below hb)
   replace K2 := Hi (K2.out.below hb)
   replace HB := bt HB hb
   clear hb
   obtain ⟨K1y0, K1y1, K1y2, K1y3, K1y4, K1y5, K1y6⟩ := row7 K1.out
   have K1l := K1.out.lt
   obtain ⟨K2y0, K2y1, K2y2, K2y3, K2y4, K2y5, K2y6⟩ := row7 K2.out
   have K2l := K2.out.lt
   go_wp2_with fail
   clear K1y0 K1y1 K1y2 K1y3 K1y4 K1y5 K1y6 K1l K2y0 K2y1 K2y2 K2y3 K2y4 K2y5 K2y6 K2l
   go_ret
   exact ⟨by rw [← HQ.out]; rfl, HB.out⟩
theorem vRSameQ {F G : Nat → Prop} {w : World} {u v : Value} {a b : Rec} (hx : RecOut F w u a) (hy : RefOut G w v b) (hf : FitR a) (hg : FitR b) (q : Bool) (hq : sameR a b = q) : Calls Tryz.prog 15 #[u, v] w fun e w' => e = .returned (.bool q) ∧ Below w.heap.size w w' := by
 obtain ⟨A0, As, n0, c0, ns, cs, A, n, c, rfl, h⟩ := hx
 obtain ⟨A0', As', n0', c0', ns', cs', A', n', c', rfl, h'⟩ := hy
 exact RSameQ_any F A0 As n0 c0 ns cs A n c a G A0' As' n0' c0' ns' cs' A' n' c' b w h h' hf hg q hq
theorem step_shift (r : Rec) (t : List Ent) (o : EOp) : stepR r t o = match stepR r [] o with | .ok (r', u) => .ok (r', t ++ u) | .error k => .error k := by
 unfold stepR
 by_cases h1 : o.k = 1
 · rw [if_pos h1, if_pos h1]; unfold pinR; split <;> simp
 rw [if_neg h1, if_neg h1]
 by_cases h2 : o.k = 2
 · rw [if_pos h2, if_pos h2]; unfold pinR; split <;> simp
 rw [if_neg h2, if_neg h2]
 by_cases h3 : o.k = 3
 · rw [if_pos h3, if_pos h3]; unfold takeR; split <;> simp
 rw [if_neg h3, if_neg h3]
 by_cases h4 : o.k = 4
 ·
  rw [if_pos h4, if_pos h4]; unfold backR; split
  · split <;> simp
  · simp
 rw [if_neg h4, if_neg h4]
 by_cases h5 : o.k = 5
 ·
  rw [if_pos h5, if_pos h5]; unfold retiR; split
  · cases h : Li.retR r.l o.x <;> simp
  · simp
 rw [if_neg h5, if_neg h5]
 by_cases h6 : o.k = 6
 ·
  rw [if_pos h6, if_pos h6, free_told r t]
  all_goals (cases h : freeR r [] <;> simp)
 rw [if_neg h6, if_neg h6]
 by_cases h7 : o.k = 7
 ·
  rw [if_pos h7, if_pos h7]
  rw [go_told r t, go_told r []]
  cases h : goR r [] o <;> simp
 rw [if_neg h7, if_neg h7]
theorem runL_ok {r r' : Rec} {t u : List Ent} {n : Nat} {o : EOp} {l : List EOp} (h : stepR r [] o = .ok (r', u)) : runL r t n (o :: l) = runL r' (t ++ u) n l := by
 show (match stepR r t o with | .ok (r', t') => runL r' t' n l | .error k => if k = 251 then none else runL r t (n + 1) l) = _
 rw [step_shift, h]
theorem runL_no {r : Rec} {t : List Ent} {n : Nat} {o : EOp} {l : List EOp} {c : Int} (h : stepR r [] o = .error c) : runL r t n (o :: l) = if c = 251 then none else runL r t (n + 1) l := by
 show (match stepR r t o with | .ok (r', t') => runL r' t' n l | .error k => if k = 251 then none else runL r t (n + 1) l) = _
 rw [step_shift, h]
structure RunQ (Q : Nat → Prop) (W wv w : World) (res : Option (Rec × List Ent × Nat)) (l : List EOp) (k : Nat) (r : Rec) (t : List Ent) (n : Nat) (At : Option Addr) (nt ct : Nat) : Prop where
 wf : WfR r
 cont : runL r t n (l.drop k) = res
 box : ∃ A0 As n0 c0 ns cs A n c, RowAt w W.heap.size 34 (recC r.e r.l.E A0 As n0 c0 ns cs A n c) ∧ RefQ (fun j => (Q j ∧ j ≠ W.heap.size ∧ j ≠ W.heap.size + 1) ∧ (Value.slice At nt ct).ownBlock ≠ some j) w A0 As n0 c0 ns cs A n c r
 zero : RowAt w (W.heap.size + 1) 34 #[.slice none 0 0, .int .u64 0, .slice none 0 0, .int .u64 0, .slice none 0 0, .slice none 0 0, .slice none 0 0]
 own : w.ownsRow wv.heap.size 41 2 (.slice At nt ct) nt (Cs encE t)
 len : t.length = nt
 le : nt ≤ k
 num : n ≤ k
 below : Below W.heap.size W w
def RRunRes (Q : Nat → Prop) (x : Rec × List Ent × Nat × Int) (W : World) (e : Ending) (W' : World) : Prop := (∃ v At nt ct, e = .returned (.tuple #[v, .slice At nt ct, .int .i64 (x.2.2.1 : Int), .int .i64 x.2.2.2]) ∧ RefOut Q W' v x.1 ∧ W'.ownsRow W.heap.size 41 2 (.slice At nt ct) nt (Cs encE x.2.1) ∧ x.2.1.length = nt ∧ nt ≤ 4096) ∧ Below W.heap.size W W'
set_option maxRecDepth 20000 in
theorem RRun_any (Q : Nat → Prop) (A1 S1 : Option Addr) (n1 c1 m1 d1 : Nat) (B1 : Nat → Option Addr) (p1 f1 : Nat → Nat) (r : Rec) (Al : Option Addr) (ml cl : Nat) (l : List EOp) (W : World) (hr : RefQ Q W A1 S1 n1 c1 m1 d1 B1 p1 f1 r) (hl : ∀ j, W.heap.size ≤ j → Q j) (hw : WfR r) (hrd : Rd W W.heap.size 5 Al ml (Cs encP l)) (hm : l.length = ml) (hml : ml ≤ 4096) (hu : ∀ o ∈ l, 0 ≤ o.b ∧ U64 o.x.2) : Calls Tryz.prog 18 #[.agg #[.slice A1 n1 c1, .int .u64 r.e, .slice S1 m1 d1, .int .u64 (r.l.E : Int), .slice (B1 0) (p1 0) (f1 0), .slice (B1 1) (p1 1) (f1 1), .slice (B1 2) (p1 2) (f1 2)], .slice Al ml cl] W (RRunRes Q (runOut (runL r [] 0 l)) W) := by
 have al := al2 W #[.slice A1 n1 c1, .int .u64 r.e, .slice S1 m1 d1, .int .u64 (r.l.E : Int), .slice (B1 0) (p1 0) (f1 0), .slice (B1 1) (p1 1) (f1 1), .slice (B1 2) (p1 2) (f1 2)] 34 #[.slice none 0 0, .int .u64 0, .slice none 0 0, .int .u64 0, .slice none 0 0, .slice none 0 0, .slice none 0 0] 34
 have b1 := al.2.1
 have b2 := al.2.2
 have KA := Hi al.1.1
 have KB := Hi al.1.2
 clear al
 have bb := b1.trans (b2.mono b1.size)
 have R := Hi ((hr.up (G := fun j => (Q j ∧ j ≠ W.heap.size ∧ j ≠ W.heap.size + 1) ∧ (Value.slice none 0 0).ownBlock ≠ some j) (fun j hj hl => ⟨⟨hj, by omega, by omega⟩, by simp [Value.ownBlock]⟩)).below bb)
 have HB := Hi bb
 have HW := Hi hw
 have HQF := Hi hl
 have HL := Hi hrd
 have HM := Hi hm
 have HML := Hi hml
 have HU := Hi hu
 have HSZ := Hi (show ((W.alloc (.cells #[.slice A1 n1 c1, .int .u64 r.e, .slice S1 m1 d1, .int .u64 (r.l.E : Int), .slice (B1 0) (p1 0) (f1 0), .slice (B1 1) (p1 1) (f1 1), .slice (B1 2) (p1 2) (f1 2)] 34)).alloc (.cells #[.slice none 0 0, .int .u64 0, .slice none 0 0, .int .u64 0, .slice none 0 0, .slice none 0 0, .slice none 0 0] 34)).heap.size = W.heap.size + 2 from by simp)
 clear b1 b2 bb hr hw hl hrd hm hml hu
 go_enter Tryz.func18, Tryz.ntmps18
 go_upto_region 3 with (fail)
 generalize (W.alloc _).alloc _ = w1 at *
 obtain ⟨res, hres⟩ : ∃ res, runL r [] 0 l = res := ⟨_, rfl⟩
 have HRS := Hi hres
 have HJ := Hi (show RunQ Q W w1 w1 res l 0 r [] 0 none 0 0 from ⟨HW.out, hres, ⟨_, _, _, _, _, _, _, _, _, KA.out, R.out⟩, KB.out, World.ownsRow_nil _ _ _ _, rfl, Nat.le_refl _, Nat.le_refl _, HB.out⟩)
 clear R KA KB HB hres
 go_upto_region 4 with (fail)
 go_loopw [8, 9, 18] (fun q z i wr => ∃ (k n : Nat) (rk : Rec) (t : List Ent) (At : Option Addr) (nt ct : Nat), k ≤ ml ∧ q = .slice At nt ct ∧ z = .int .i64 (n : Int) ∧ i = .int .i64 (k : Int) ∧ RunQ Q W w1 wr res l k rk t n At nt ct) (fun _ _ i _ => ml - (intOf i).toNat)
 case atStart => exact ⟨0, 0, r, [], none, 0, 0, Nat.zero_le _, rfl, rfl, rfl, HJ.out⟩
 case round =>
  obtain ⟨k, n, rk, t, At, nt, ct, hk, rfl, rfl, rfl, hfl⟩ := hrel
  have HF := Hi hfl
  clear hfl HJ
  obtain ⟨A2, S2, n2, c2, m2, d2, B2, p2, f2, hrow, hrec⟩ := HF.out.box
  have KA := Hi hrow
  have KB := Hi HF.out.zero
  have R := Hi hrec
  have HO := Hi HF.out.own
  have HB := Hi HF.out.below
  clear hrow hrec
  obtain ⟨w0, hw0⟩ : ∃ w, w = wr := ⟨_, rfl⟩
  subst hw0
  by_cases hlt : k < ml
  case neg =>
   have hkn : ml = k := by omega
   subst hkn
   have hc := HF.out.cont
   have hdr : l.drop ml = [] := by rw [← HM.out]; exact List.drop_length
   rw [hdr] at hc
   have HE := Hi (show res = some (rk, t, n) from hc.symm)
   clear hc hdr hlt hk
   obtain ⟨⟨v0, v1, v2, v3, v4, v5, v6⟩, ⟨s0, s1, s2, s3, s4, s5, s6⟩, vl⟩ := all7 KB.out
   obtain ⟨z0, z1, z2, z3, z4, z5, z6⟩ := row7 KA.out
   have zl := KA.out.lt
   go_wp2_with fail
   generalize hw : World.setCell _ _ _ = wF
   obtain ⟨l1, k4⟩ := laid7 KB.out hw
   clear v0 v1 v2 v3 v4 v5 v6 s0 s1 s2 s3 s4 s5 s6 vl z0 z1 z2 z3 z4 z5 z6 zl
   have HOr := (R.out.laid l1 (fun j h => h.1.2.2) (apart_zero R.out.sl R.out.l0 KB.out)).up (G := Q) (fun j h _ => h.1.1)
   have HOX := own_less (own_laid HO.out KB.out l1) (B := W.heap.size) (by have := HSZ.out; omega)
   have HBF := HB.out.trans (l1.below.mono (by omega))
   clear hw l1
   obtain ⟨cc0, cc1, cc2, cc3, cc4, cc5, cc6⟩ := row7 k4
   have cl2 := k4.lt
   refine bodyPost_ret (v := .tuple #[.agg #[.slice A2 n2 c2, .int .u64 rk.e, .slice S2 m2 d2, .int .u64 (rk.l.E : Int), .slice (B2 0) (p2 0) (f2 0), .slice (B2 1) (p2 1) (f2 1), .slice (B2 2) (p2 2) (f2 2)], .slice At nt ct, .int .i64 (n : Int), .int .i64 0]) (by simp [results, Tryz.results18, go_sem, cc0, cc1, cc2, cc3, cc4, cc5, cc6, cl2]) rfl ⟨⟨_, At, nt, ct, by rw [HRS.out, HE.out]; rfl, by rw [HRS.out, HE.out]; exact HOr.val, by rw [HRS.out, HE.out]; exact HOX, by rw [HRS.out, HE.out]; exact HF.out.len, by have := HF.out.le; have := HML.out; omega⟩, HBF⟩
  case pos =>
   have hki : (k : Int) < (ml : Int) := by omega
   have hkl : k < l.length := by rw [HM.out]; exact hlt
   obtain ⟨b, q, hAl, hbl, d0, d1, d2, d3, d4⟩ := Rd.op (HL.out.below HB.out) HM.out hkl
   have hbl2 : b < w0.heap.size := Nat.lt_of_lt_of_le hbl HB.out.size
   have HXX := Hi (show l.drop k = l[k] :: l.drop (k + 1) from List.drop_eq_getElem_cons hkl)
   have HUX := Hi (HU.out _ (List.getElem_mem hkl))
   generalize l[k] = x at *
   have HK := Hi hlt
   clear hkl hk
   have hb := ba w0 (.cells #[.int .i64 x.k, .int .i64 x.g, .int .u64 x.b, .int .i64 x.x.1, .int .u64 x.x.2] 43)
   have KO := Hi (RowAt.new w0 43 #[.int .i64 x.k, .int .i64 x.g, .int .u64 x.b, .int .i64 x.x.1, .int .u64 x.x.2])
   replace KA := Hi (KA.out.below hb)
   replace KB := Hi (KB.out.below hb)
   replace R := Hi (R.out.below hb)
   replace HO := Hi (own_keepB HO.out hb)
   replace HB := bt HB hb
   have HS0 := Hi hb.size
   clear hb
   subst hAl
   go_upto_region 6 with (fail)
   clear d0 d1 d2 d3 d4 hbl hbl2 hki
   generalize w0.alloc _ = wa at *
   generalize w0.heap.size = g0 at *
   obtain ⟨z0, z1, z2, z3, z4, z5, z6⟩ := row7 KA.out
   have zl := KA.out.lt
   obtain ⟨y0, y1, y2, y3, y4⟩ := row5 KO.out
   have yl := KO.out.lt
   go_wp2_with fail
   clear z0 z1 z2 z3 z4 z5 z6 zl y0 y1 y2 y3 y4 yl
   have HFW := Hi (show W.heap.size + 1 < wa.heap.size from KB.out.lt)
   with_reducible refine (RStep_any _ A2 S2 n2 c2 m2 d2 B2 p2 f2 rk x wa R.out (fun j hj => ⟨by have := HFW.out; exact ⟨HQF.out j (by omega), by omega, by omega⟩, fresh_off HO.out hj⟩) HF.out.wf HUX.out.1 HUX.out.2).mono ?_
   rintro e w51 ⟨⟨v, r2, y, bb, ke, rfl, hv, hst⟩, hb⟩
   replace R := Hi (R.out.below hb)
   replace KA := Hi (KA.out.below hb)
   replace KB := Hi (KB.out.below hb)
   replace HO := Hi (own_keepB HO.out hb)
   replace HB := bt HB hb
   obtain ⟨A5, S5, n5, c5, m5, d5, B5, p5, f5, rfl, hr⟩ := hv
   have R2 := Hi hr
   have HST := Hi hst
   clear hb hr hst KO HFW
   go_upto_region 7 with (fail)
   have hb : Below w51.heap.size w51 ((w51.alloc (.cells #[.slice A5 n5 c5, .int .u64 r2.e, .slice S5 m5 d5, .int .u64 (r2.l.E : Int), .slice (B5 0) (p5 0) (f5 0), .slice (B5 1) (p5 1) (f5 1), .slice (B5 2) (p5 2) (f5 2)] 34)).alloc (.cells #[.int .i64 y.1, .int .u64 y.2] 41)) := ((Below.refl _ _).alloc (Nat.le_refl _) _).alloc (by simp) _
   have al := al2 w51 #[.slice A5 n5 c5, .int .u64 r2.e, .slice S5 m5 d5, .int .u64 (r2.l.E : Int), .slice (B5 0) (p5 0) (f5 0), .slice (B5 1) (p5 1) (f5 1), .slice (B5 2) (p5 2) (f5 2)] 34 #[.int .i64 y.1, .int .u64 y.2] 41
   have KE := Hi al.1.1
   have KF := Hi al.1.2
   clear al
   have HG5 := Hi (show W.heap.size + 1 < w51.heap.size from KB.out.lt)
   replace R := Hi (R.out.below hb)
   replace R2 := Hi (R2.out.below hb)
   replace KA := Hi (KA.out.below hb)
   replace KB := Hi (KB.out.below hb)
   replace HO := Hi (own_keepB HO.out hb)
   replace HB := bt HB hb
   clear hb
   generalize (w51.alloc _).alloc _ = wn at *
   generalize w51.heap.size = g5 at *
   have HC := Hi HF.out.cont
   rw [HXX.out] at HC
   have hst := HST.out
   unfold StepOk at hst
   cases hs : stepR rk [] x with
   | error c =>
    rw [hs] at hst
    have hst : ke = c := hst
    subst hst
    have hc := HC.out
    rw [runL_no hs] at hc
    have HNE := Hi (step_ne hs)
    clear hs HC HST
    by_cases h251 : ke = 251
    ·
     subst h251
     have HE := Hi (show res = none from hc.symm)
     clear hc KA KE KF
     obtain ⟨⟨v0, v1, v2, v3, v4, v5, v6⟩, ⟨s0, s1, s2, s3, s4, s5, s6⟩, vl⟩ := all7 KB.out
     go_wp2_with fail
     generalize hw : World.setCell _ _ _ = wF
     obtain ⟨l1, k4⟩ := laid7 KB.out hw
     clear v0 v1 v2 v3 v4 v5 v6 s0 s1 s2 s3 s4 s5 s6 vl
     have HBF := HB.out.trans (l1.below.mono (by omega))
     clear hw l1
     obtain ⟨cc0, cc1, cc2, cc3, cc4, cc5, cc6⟩ := row7 k4
     have cl2 := k4.lt
     refine bodyPost_ret (v := .tuple #[.agg #[.slice none 0 0, .int .u64 0, .slice none 0 0, .int .u64 0, .slice none 0 0, .slice none 0 0, .slice none 0 0], .slice none 0 0, .int .i64 0, .int .i64 251]) (by simp [results, Tryz.results18, go_sem, cc0, cc1, cc2, cc3, cc4, cc5, cc6, cl2]) rfl ⟨⟨_, none, 0, 0, by rw [HRS.out, HE.out]; rfl, by rw [HRS.out, HE.out]; exact RefOut.zero _ _, by rw [HRS.out, HE.out]; exact World.ownsRow_nil _ _ _ _, by rw [HRS.out, HE.out]; rfl, Nat.zero_le _⟩, HBF⟩
    ·
     have e1 : (ke == 251) = false := by simpa using h251
     have e2 : (ke == 0) = false := by simpa using HNE.out
     have HC2 := Hi (show runL rk t (n + 1) (l.drop (k + 1)) = res from by rw [if_neg h251] at hc; exact hc)
     have hn1 : (n : Int) ≤ 4096 := by have := HF.out.num; have := HK.out; have := HML.out; omega
     clear hc
     have hk1 : (k : Int) ≤ 4096 := by have := HK.out; have := HML.out; omega
     go_wp2_with fail
     go_roundw
     case rel => exact ⟨k + 1, n + 1, rk, t, At, nt, ct, HK.out, rfl, by go_num, by have h1 := HK.out; have h3 := HML.out; go_num, ⟨HF.out.wf, HC2.out, ⟨_, _, _, _, _, _, _, _, _, KA.out, R.out⟩, KB.out, HO.out, HF.out.len, by have := HF.out.le; omega, by have := HF.out.num; omega, HB.out⟩⟩
     case measure => have := HK.out; have h3 := HML.out; simp [intOf]; omega
   | ok z =>
    obtain ⟨r3, u⟩ := z
    rw [hs] at hst
    obtain ⟨rfl, rfl, rfl, rfl⟩ := hst
    have HC2 := Hi (show runL r2 (t ++ u) n (l.drop (k + 1)) = res from by rw [← HC.out]; exact (runL_ok hs).symm)
    have HW2 := Hi (wf_step HF.out.wf HUX.out.1 hs)
    have hu := step_told HF.out.wf HUX.out.1 hs
    clear hs HC HST
    obtain ⟨⟨v0, v1, v2, v3, v4, v5, v6⟩, ⟨s0, s1, s2, s3, s4, s5, s6⟩, vl⟩ := all7 KA.out
    obtain ⟨z0, z1, z2, z3, z4, z5, z6⟩ := row7 KE.out
    have zl := KE.out.lt
    go_upto_region 12 with (fail)
    generalize hw : World.setCell _ _ _ = w8
    obtain ⟨hl, hk⟩ := laid7 KA.out hw
    clear v0 v1 v2 v3 v4 v5 v6 s0 s1 s2 s3 s4 s5 s6 vl z0 z1 z2 z3 z4 z5 z6 zl hw
    replace KB := Hi (show RowAt w8 _ _ _ from (hl.block _ (by omega)).trans KB.out)
    have KF2 := Hi (show RowAt w8 (g5 + 1) 41 _ from (hl.block _ (by have := HG5.out; omega)).trans KF.out)
    replace R2 := Hi (R2.out.laid hl (fun j h => h.1.2.1) (rec_apart R2.out.sl R2.out.l0 KA.out))
    replace HO := Hi (own_laid HO.out KA.out hl)
    replace HB := Hi (HB.out.trans (hl.below.mono (Nat.le_refl _)))
    replace KA := Hi hk
    clear hl hk R KE KF
    rcases hu with rfl | ⟨y, rfl⟩
    ·
     have HC3 := Hi (show runL r2 t n (l.drop (k + 1)) = res from by have h := HC2.out; rw [List.append_nil] at h; exact h)
     have eb : (!List.isEmpty ([] : List Ent)) = false := rfl
     rw [eb]
     clear eb
     have hk1 : (k : Int) ≤ 4096 := by have := HK.out; have := HML.out; omega
     go_wp2_with fail
     go_roundw
     case rel => exact ⟨k + 1, n, r2, t, At, nt, ct, HK.out, rfl, rfl, by have h1 := HK.out; have h3 := HML.out; go_num, ⟨HW2.out, HC3.out, ⟨_, _, _, _, _, _, _, _, _, KA.out, R2.out⟩, KB.out, HO.out, HF.out.len, by have := HF.out.le; omega, by have := HF.out.num; omega, HB.out⟩⟩
     case measure => have := HK.out; have h3 := HML.out; simp [intOf]; omega
    ·
     have eb : (!List.isEmpty ([] ++ [y] : List Ent)) = true := rfl
     have ey : lastT ([] ++ [y]) = y := rfl
     rw [eb]
     rw [ey] at KF2
     clear eb ey
     have y0 := row20 KF2.out
     have y1 := row21 KF2.out
     have yl := KF2.out.lt
     have hb := ba w8 (.cells #[.int .i64 y.1, .int .u64 y.2] 41)
     have HSRC := Hi (show Rd (w8.alloc (.cells #[.int .i64 y.1, .int .u64 y.2] 41)) (w8.alloc (.cells #[.int .i64 y.1, .int .u64 y.2] 41)).heap.size 2 (some ⟨w8.heap.size, 0, none⟩) 1 (Cs encE [y]) from (Rd.new w8 #[.int .i64 y.1, .int .u64 y.2] 41 2 1 rfl).more (by simp))
     replace R2 := Hi (R2.out.below hb)
     replace KA := Hi (KA.out.below hb)
     replace KB := Hi (KB.out.below hb)
     replace HO := Hi (own_keepB HO.out hb)
     replace HB := bt HB hb
     clear hb
     have hnt := HF.out.le
     have hkk := HK.out
     have hmm := HML.out
     have HBY := Hi (show (nt + 1) * 16 ≤ 140737488355328 from by omega)
     have HSB := Hi (show w1.heap.size ≤ (w8.alloc (.cells #[.int .i64 y.1, .int .u64 y.2] 41)).heap.size from by have h1 := KB.out.lt; have h2 := HSZ.out; omega)
     clear hnt hkk hmm
     have hk1 : (k : Int) ≤ 4096 := by have := HK.out; have := HML.out; omega
     go_wp2_with (at_builtin; refine wpList_app elE rfl _ _ rfl rfl HO.out rfl HSRC.out (Cs_one_cell encE_one _) HBY.out HSB.out ?_; intro v6 w6 hown6 hb6 hg6 hv6; obtain ⟨A7, c7, rfl, hc7, hcm7⟩ := own_form2 hown6)
     have KA6 := Hi (KA.out.belowB (by have := HSZ.out; omega) hb6)
     have KB6 := Hi (KB.out.belowB (by have := HSZ.out; omega) hb6)
     have R6S := R2.out
     have R66 := Hi ((R6S.up (G := fun j => ((Q j ∧ j ≠ W.heap.size ∧ j ≠ W.heap.size + 1) ∧ (Value.slice At nt ct).ownBlock ≠ some j) ∧ j < (w8.alloc (.cells #[.int .i64 y.1, .int .u64 y.2] 41)).heap.size) (fun j hj hlt => ⟨hj, hlt⟩)).stay (show StayF _ (w8.alloc (.cells #[.int .i64 y.1, .int .u64 y.2] 41)) w6 from ⟨hg6.size, fun j hj hlt => hg6.block j hlt (fun e => hj.1.2 e.symm)⟩))
     have R67 := Hi (R66.out.up (G := fun j => (Q j ∧ j ≠ W.heap.size ∧ j ≠ W.heap.size + 1) ∧ (Value.slice A7 (nt + 1) c7).ownBlock ≠ some j) (fun j hj hlt => ⟨hj.1.1, fun he => by
      rcases hv6 with h | h
      · exact hj.1.2 (h.symm.trans he)
      · rw [h] at he; injection he with he; have := hj.2; omega⟩))
     have HOW6 := Hi hown6
     have HB6 := Hi (HB.out.trans (hb6.mono (by have := HSZ.out; omega)))
     clear R6S R66 hown6 hb6 hg6 hv6 y0 y1 yl
     go_wp2_with fail
     go_roundw
     case rel => exact ⟨k + 1, n, r2, t ++ [y], A7, nt + 1, c7, HK.out, rfl, rfl, by have h1 := HK.out; have h3 := HML.out; go_num, ⟨HW2.out, HC2.out, ⟨_, _, _, _, _, _, _, _, _, KA6.out, R67.out⟩, KB6.out, by rw [Cs_append]; exact HOW6.out, by rw [List.length_append, HF.out.len]; rfl, by have := HF.out.le; omega, by have := HF.out.num; omega, HB6.out⟩⟩
     case measure => have := HK.out; have h3 := HML.out; simp [intOf]; omega
theorem runRAs {Q : Nat → Prop} {w : World} {v : Value} {r : Rec} (h : RefOut Q w v r) (hl : ∀ j, w.heap.size ≤ j → Q j) (hw : WfR r) (Al : Option Addr) (ml cl : Nat) (l : List EOp) (hrd : Rd w w.heap.size 5 Al ml (Cs encP l)) (hm : l.length = ml) (hml : ml ≤ 4096) (hu : ∀ o ∈ l, 0 ≤ o.b ∧ U64 o.x.2) : Calls Tryz.prog 18 #[v, .slice Al ml cl] w (RRunRes Q (runOut (runL r [] 0 l)) w) := by
 obtain ⟨A0, As, n0, c0, ns, cs, A, n, c, rfl, h⟩ := h
 exact RRun_any Q A0 As n0 c0 ns cs A n c r Al ml cl l w h hl hw hrd hm hml hu
end Go.Proofs.YtkicidopjihjmaaGreat
namespace Go.Proofs.YtkicidopjihjmaaGreat
open Go Go.RowKit
attribute [local go_sem] via_cell via_frozen
theorem elP : ElemOk Tryz.prog 35 43 5 40 (.agg #[.int .i64 0, .int .i64 0, .int .u64 0, .int .i64 0, .int .u64 0]) := ⟨Tryz.underlying35, by kernel_rfl, rfl, by omega, by omega, by intro u hu; simp [Value.cells] at hu; rcases hu with rfl | rfl | rfl | rfl | rfl <;> rfl⟩
theorem CloneP (B : Nat) (A : Option Addr) (n c : Nat) (xs : List Value) (W : World) (hr : Rd W B 5 A n xs) (hB : B ≤ W.heap.size) (h1 : ∀ u ∈ xs, u.oneCell' = true) (hb : n ≤ 4096) :
  Calls Tryz.prog 12 #[.slice A n c] W fun e W' => ∃ v, e = .returned v ∧ W'.ownsRow W.heap.size 43 5 v n xs ∧ Below W.heap.size W W' := by
 cases A with
 | none =>
  obtain rfl := rd_none hr
  obtain rfl := hr.nil
  have hn := fun w => Lib.run_eql_slice_nil (P := Tryz.prog) w 35 43 none 0 c 0 0 Tryz.underlying35
  go_enter Tryz.func12, Tryz.ntmps12
  go_wp2
  go_ret
  exact ⟨_, rfl, World.ownsRow_nil _ _ _ _, Below.refl _ _⟩
 | some a =>
  have hn := fun w => Lib.run_eql_slice_nil (P := Tryz.prog) w 35 43 (some a) n c 0 0 Tryz.underlying35
  have hown := World.ownsRow_lit (base := W.heap.size) (e := 43) (size := 5) W #[] 0 (Nat.le_refl _) (by simp [maxLen]) rfl
  go_enter Tryz.func12, Tryz.ntmps12
  go_wp2_with (at_builtin; refine wpList_app elP rfl _ _ rfl rfl hown rfl (hr.alloc hB _) h1 (by omega) (by simp) ?_; intro v1 w1 hown1 hb1 _ _)
  go_ret
  exact ⟨v1, rfl, by simpa using hown1, ((Below.refl _ _).alloc (Nat.le_refl _) _).trans hb1⟩
theorem Rd.firstP {w : World} {B n k : Nat} {A : Option Addr} {X : List EOp} (h : Rd w B 5 A n (Cs encP X)) (hx : X.length = n) (hk : k ≤ n) : Rd w B 5 A k (Cs encP (X.take k)) := by
 refine ⟨by rw [Cs_length encP_len, List.length_take, hx, Nat.min_eq_left hk], fun hp => ?_⟩
 obtain ⟨b, off, e, hb, hc⟩ := h.2 (by omega)
 refine ⟨b, off, e, hb, fun j u hu => hc j u ?_⟩
 have h1 : Cs encP X = Cs encP (X.take k) ++ Cs encP (X.drop k) := by rw [← Cs_append, List.take_append_drop]
 rw [h1, List.getElem?_append_left (List.getElem?_eq_some_iff.1 hu).1]
 exact hu
end Go.Proofs.YtkicidopjihjmaaGreat
set_option maxRecDepth 20000
namespace Go.Proofs.YtkicidopjihjmaaGreat.Li
open Go Go.RowKit
attribute [local go_sem] via_cell via_frozen
structure Betw (lo hi : Nat) (w w' : World) : Prop where
 os : w'.os = w.os
 tape : w'.tape = w.tape
 output : w'.output = w.output
 size : w.heap.size ≤ w'.heap.size
 block : ∀ j, (j < lo ∨ hi ≤ j) → j < w.heap.size → w'.heap[j]? = w.heap[j]?
theorem Betw.refl (lo hi : Nat) (w : World) : Betw lo hi w w := ⟨rfl, rfl, rfl, Nat.le_refl _, fun _ _ _ => rfl⟩
theorem Betw.set {lo hi : Nat} {a w : World} (h : Betw lo hi a w) {b i : Nat} {v : Value} (h1 : lo ≤ b) (h2 : b < hi) : Betw lo hi a (w.setCell ⟨b, i, none⟩ v) :=
 ⟨h.os, h.tape, h.output, by simpa using h.size, fun j hj hs => (heap_setCell_ne _ _ _ _ (by show j ≠ b; omega)).trans (h.block j hj hs)⟩
theorem Betw.then {lo hi : Nat} {a w w' : World} (h : Betw lo hi a w) (hb : Below w.heap.size w w') : Betw lo hi a w' :=
 ⟨hb.os.trans h.os, hb.tape.trans h.tape, hb.output.trans h.output, Nat.le_trans h.size hb.size, fun j hj hs => (hb.block j (Nat.lt_of_lt_of_le hs h.size)).trans (h.block j hj hs)⟩
theorem Betw.of_below {lo hi : Nat} {a w : World} (hb : Below a.heap.size a w) : Betw lo hi a w := (Betw.refl lo hi a).then hb
theorem Betw.below {lo hi : Nat} {w w' : World} (h : Betw lo hi w w') (hl : lo ≤ w.heap.size) : Below lo w w' := ⟨h.os, h.tape, h.output, h.size, fun j hj => h.block j (.inl hj) (Nat.lt_of_lt_of_le hj hl)⟩
structure Gen3 (w : World) (lo hi : Nat) (A : Nat → Option Addr) (n : Nat → Nat) : Prop where
 row : ∀ k, k < 3 → 0 < n k → ∃ (g o : Nat) (cur : Array Value), A k = some ⟨g, o, none⟩ ∧ lo ≤ g ∧ g < hi ∧ RowAt w g 41 cur ∧ ∀ j, j < n k → ∃ z : Int, cur[o + (j * 2 + 1)]? = some (.int .u64 z)
theorem gen_set {cs : Array Value} {i j : Nat} {y : Int} (h : ∃ x : Int, cs[j]? = some (.int .u64 x)) : ∃ x : Int, (cs.setIfInBounds i (.int .u64 y))[j]? = some (.int .u64 x) := by
 obtain ⟨x, hx⟩ := h
 rw [Array.getElem?_setIfInBounds]
 by_cases e : i = j
 ·
  subst e
  have hlt := (Array.getElem?_eq_some_iff.1 hx).1
  rw [if_pos rfl, if_pos hlt]
  exact ⟨y, rfl⟩
 · rw [if_neg e]; exact ⟨x, hx⟩
theorem Gen3.keep {w w' : World} {lo hi : Nat} {A : Nat → Option Addr} {n : Nat → Nat} (h : Gen3 w lo hi A n) (hk : ∀ g, lo ≤ g → g < hi → g < w.heap.size → w'.heap[g]? = w.heap[g]?) : Gen3 w' lo hi A n :=
 ⟨fun k hk3 h0 => by obtain ⟨g, o, cur, h1, h2, h3, h4, h5⟩ := h.row k hk3 h0; exact ⟨g, o, cur, h1, h2, h3, h4.heap (hk g h2 h3 h4.lt), h5⟩⟩
theorem Gen3.below {w w' : World} {lo hi : Nat} {A : Nat → Option Addr} {n : Nat → Nat} (h : Gen3 w lo hi A n) (hb : Below w.heap.size w w') : Gen3 w' lo hi A n := h.keep (fun g _ _ hs => hb.block g hs)
theorem Gen3.set {w : World} {lo hi g i : Nat} {A : Nat → Option Addr} {n : Nat → Nat} (h : Gen3 w lo hi A n) (y : Int) : Gen3 (w.setCell ⟨g, i, none⟩ (.int .u64 y)) lo hi A n :=
 ⟨fun k hk3 h0 => by
  obtain ⟨g', o, cur, h1, h2, h3, h4, h5⟩ := h.row k hk3 h0
  by_cases e : g' = g
  ·
   subst e
   exact ⟨g', o, _, h1, h2, h3, h4.set i (.int .u64 y), fun j hj => gen_set (h5 j hj)⟩
  · exact ⟨g', o, cur, h1, h2, h3, h4.setNe e, h5⟩⟩
theorem Gen3.mono {w : World} {lo lo2 hi hi2 : Nat} {A : Nat → Option Addr} {n : Nat → Nat} (h : Gen3 w lo hi A n) (h1 : lo2 ≤ lo) (h2 : hi ≤ hi2) : Gen3 w lo2 hi2 A n :=
 ⟨fun k hk3 h0 => by obtain ⟨g, o, cur, a1, a2, a3, a4, a5⟩ := h.row k hk3 h0; exact ⟨g, o, cur, a1, Nat.le_trans h1 a2, Nat.lt_of_lt_of_le a3 h2, a4, a5⟩⟩
theorem Gen3.zero (w : World) (lo hi : Nat) : Gen3 w lo hi (fun _ => none) (fun _ => 0) := ⟨fun k _ h => absurd h (Nat.lt_irrefl 0)⟩
theorem Gen3.of_own {w : World} {base : Nat} {A : Nat → Option Addr} {n c : Nat → Nat} {r : Nat → List Ent} (h : LimOwn w base A n c r) : Gen3 w base w.heap.size A n := by
 refine ⟨fun k hk h0 => ?_⟩
 have hl := h.len k hk
 rcases (h.own k hk).2 with ⟨_, h1⟩ | ⟨g, o, cap, cur, hv, hb, hh, _, _, _, ht⟩
 · omega
 ·
  injection hv with h1 h2 h3
  have hr : RowAt w g 41 cur := hh
  refine ⟨g, o, cur, h1, hb, hr.lt, hr, fun j hj => ?_⟩
  have hj2 : j < (r k).length := by omega
  have e1 := Cs_at encE_len (r k) j 1 hj2 (by omega)
  refine ⟨((r k)[j]).2, ?_⟩
  rw [← ht] at e1
  rw [List.getElem?_take] at e1
  split at e1
  · rw [List.getElem?_drop, Array.getElem?_toList] at e1; rw [e1]; rfl
  · simp [encE] at e1
end Go.Proofs.YtkicidopjihjmaaGreat.Li
namespace Go.Proofs.YtkicidopjihjmaaGreat
open Go Go.RowKit
attribute [local go_sem] via_cell via_frozen
def GenA (w : World) (lo hi : Nat) (A : Option Addr) (n sz q : Nat) : Prop := 0 < n → ∃ (g o : Nat) (t : TypeId) (cur : Array Value), A = some ⟨g, o, none⟩ ∧ lo ≤ g ∧ g < hi ∧ RowAt w g t cur ∧ ∀ j, j < n → ∃ z : Int, cur[o + (j * sz + q)]? = some (.int .u64 z)
theorem GenA.set {w : World} {lo hi g i n sz q : Nat} {A : Option Addr} (h : GenA w lo hi A n sz q) (y : Int) : GenA (w.setCell ⟨g, i, none⟩ (.int .u64 y)) lo hi A n sz q := fun h0 => by
 obtain ⟨g', o, t, cur, h1, h2, h3, h4, h5⟩ := h h0
 by_cases e : g' = g
 ·
  subst e
  exact ⟨g', o, t, _, h1, h2, h3, h4.set i (.int .u64 y), fun j hj => Li.gen_set (h5 j hj)⟩
 · exact ⟨g', o, t, cur, h1, h2, h3, h4.setNe e, h5⟩
theorem GenA.below {w w' : World} {lo hi n sz q : Nat} {A : Option Addr} (h : GenA w lo hi A n sz q) (hb : Below w.heap.size w w') : GenA w' lo hi A n sz q := fun h0 => by
 obtain ⟨g', o, t, cur, h1, h2, h3, h4, h5⟩ := h h0
 exact ⟨g', o, t, cur, h1, h2, h3, h4.below hb, h5⟩
theorem GenA.of_rd {w : World} {base hi n sz q : Nat} {A : Option Addr} {xs : List Value} (h : RdF (fun j => base ≤ j ∧ j < hi) w sz A n xs) (h0 : 0 < base) (hx : ∀ j, j < n → ∃ z : Int, xs[j * sz + q]? = some (.int .u64 z)) : GenA w base hi A n sz q := fun hn => by
 obtain ⟨b, o, hA, hb, hc⟩ := h.1.2 hn
 obtain ⟨h1, h2⟩ := h.2 hn _ hA
 obtain ⟨t, cur, hr⟩ := h2 (by show ¬ (base ≤ 0 ∧ 0 < hi); omega)
 refine ⟨b, o, t, cur, hA, h1.1, h1.2, hr, fun j hj => ?_⟩
 obtain ⟨z, hz⟩ := hx j hj
 exact ⟨z, by rw [← hr.cell]; exact hc _ _ hz⟩
structure GenX (w : World) (lo hi : Nat) (A0 As : Option Addr) (n0 ns : Nat) (A : Nat → Option Addr) (n : Nat → Nat) : Prop where
 sl : GenA w lo hi A0 n0 2 1
 S : GenA w lo hi As ns 1 0
 rw : ∀ k, k < 3 → GenA w lo hi (A k) (n k) 2 1
theorem GenX.set {w : World} {lo hi g i : Nat} {A0 As : Option Addr} {n0 ns : Nat} {A : Nat → Option Addr} {n : Nat → Nat} (h : GenX w lo hi A0 As n0 ns A n) (y : Int) : GenX (w.setCell ⟨g, i, none⟩ (.int .u64 y)) lo hi A0 As n0 ns A n :=
 ⟨h.sl.set y, h.S.set y, fun k hk => (h.rw k hk).set y⟩
theorem GenX.below {w w' : World} {lo hi : Nat} {A0 As : Option Addr} {n0 ns : Nat} {A : Nat → Option Addr} {n : Nat → Nat} (h : GenX w lo hi A0 As n0 ns A n) (hb : Below w.heap.size w w') : GenX w' lo hi A0 As n0 ns A n := ⟨h.sl.below hb, h.S.below hb, fun k hk => (h.rw k hk).below hb⟩
theorem gen_ent {xs : List Ent} {n : Nat} (hx : xs.length = n) : ∀ j, j < n → ∃ z : Int, (Cs encE xs)[j * 2 + 1]? = some (.int .u64 z) := fun j hj => by
 have hj2 : j < xs.length := by omega
 exact ⟨(xs[j]).2, by have := Cs_at encE_len xs j 1 hj2 (by omega); simpa [encE] using this⟩
theorem gen_word {xs : List Int} {n : Nat} (hx : xs.length = n) : ∀ j, j < n → ∃ z : Int, (Cs encW xs)[j * 1 + 0]? = some (.int .u64 z) := fun j hj => by
 have hj2 : j < xs.length := by omega
 exact ⟨xs[j], by have := Cs_at encW_len xs j 0 hj2 (by omega); simpa [encW] using this⟩
theorem GenX.of_rec {w : World} {base hi : Nat} {A0 As : Option Addr} {n0 c0 ns cs : Nat} {A : Nat → Option Addr} {n c : Nat → Nat} {r : Rec} (h : RecF (fun j => base ≤ j ∧ j < hi) w A0 As n0 c0 ns cs A n c r) (h0 : 0 < base) : GenX w base hi A0 As n0 ns A n :=
 ⟨GenA.of_rd h.sl h0 (gen_ent h.l0), GenA.of_rd h.S h0 (gen_word h.ls), fun k hk => GenA.of_rd (h.rw k hk) h0 (gen_ent (h.ll k hk))⟩
set_option maxRecDepth 20000 in
theorem Spoil_any (base hi : Nat) (A1 S1 : Option Addr) (n1 c1 m1 d1 : Nat) (B1 : Nat → Option Addr) (p1 f1 : Nat → Nat) (r : Rec) (W : World) (hr : RecF (fun j => base ≤ j ∧ j < hi) W A1 S1 n1 c1 m1 d1 B1 p1 f1 r) (h0 : 0 < base) (hB : hi ≤ W.heap.size) (hf : FitR r) : Calls Tryz.prog 16 #[.agg #[.slice A1 n1 c1, .int .u64 r.e, .slice S1 m1 d1, .int .u64 (r.l.E : Int), .slice (B1 0) (p1 0) (f1 0), .slice (B1 1) (p1 1) (f1 1), .slice (B1 2) (p1 2) (f1 2)]] W fun e W' => e = .returned (.tuple #[]) ∧ Li.Betw base hi W W' := by
 have hb := ba W (.cells #[.slice A1 n1 c1, .int .u64 r.e, .slice S1 m1 d1, .int .u64 (r.l.E : Int), .slice (B1 0) (p1 0) (f1 0), .slice (B1 1) (p1 1) (f1 1), .slice (B1 2) (p1 2) (f1 2)] 34)
 have K1 := Hi (RowAt.new W 34 #[.slice A1 n1 c1, .int .u64 r.e, .slice S1 m1 d1, .int .u64 (r.l.E : Int), .slice (B1 0) (p1 0) (f1 0), .slice (B1 1) (p1 1) (f1 1), .slice (B1 2) (p1 2) (f1 2)])
 have HG := Hi ((GenX.of_rec hr h0).below hb)
 have HB0 := Hi (Li.Betw.of_below (lo := base) (hi := hi) hb)
 have HLM := Hi (show (∀ k, k < 3 → p1 k ≤ 4096) ∧ n1 ≤ 4096 ∧ m1 ≤ 4096 from rec_lim hr hf)
 have HHI := Hi hB
 clear hb hr hf h0 hB
 go_enter Tryz.func16, Tryz.ntmps16
 go_upto_region 1 with (fail)
 have HBW := Hi (fun (w : World) (h : Li.Betw base hi (W.alloc (.cells #[.slice A1 n1 c1, .int .u64 r.e, .slice S1 m1 d1, .int .u64 (r.l.E : Int), .slice (B1 0) (p1 0) (f1 0), .slice (B1 1) (p1 1) (f1 1), .slice (B1 2) (p1 2) (f1 2)] 34)) w) => show Li.Betw base hi W w from ⟨h.os.trans HB0.out.os, h.tape.trans HB0.out.tape, h.output.trans HB0.out.output, Nat.le_trans HB0.out.size h.size, fun j hj hs => (h.block j hj (Nat.lt_of_lt_of_le hs HB0.out.size)).trans (HB0.out.block j hj hs)⟩)
 generalize W.alloc _ = w1 at *
 have HKB := Hi (fun (w : World) (h : Li.Betw base hi w1 w) => (show RowAt w W.heap.size 34 #[.slice A1 n1 c1, .int .u64 r.e, .slice S1 m1 d1, .int .u64 (r.l.E : Int), .slice (B1 0) (p1 0) (f1 0), .slice (B1 1) (p1 1) (f1 1), .slice (B1 2) (p1 2) (f1 2)] from (h.block W.heap.size (.inr HHI.out) K1.out.lt).trans K1.out))
 obtain ⟨z0, z1, z2, z3, z4, z5, z6⟩ := row7 K1.out
 have zl := K1.out.lt
 go_upto_region 2 with (fail)
 clear z0 z1 z2 z3 z4 z5 z6 zl
 go_loopw [11] (fun i wr => ∃ j : Nat, j ≤ n1 ∧ i = .int .i64 j ∧ GenX wr base hi A1 S1 n1 m1 B1 p1 ∧ Li.Betw base hi w1 wr) (fun i _ => n1 - (intOf i).toNat)
 case atStart => exact ⟨0, Nat.zero_le _, rfl, HG.out, Li.Betw.refl _ _ _⟩
 case round =>
  obtain ⟨j, hj, rfl, hg, hbt⟩ := hrel
  by_cases hlt : j < n1
  ·
   have hji : (j : Int) < (n1 : Int) := by omega
   obtain ⟨g, o, ty, cur, hA, h1, h2, hrow, hcur⟩ := hg.sl (by omega)
   obtain ⟨z, hz⟩ := hcur j hlt
   have hlm := HLM.out
   have HG1 := Hi (hg.set (g := g) (i := o + j * 2 + 1) (IntKind.u64.wrap (z + 1)))
   have HB1 := Hi (hbt.set (b := g) (i := o + j * 2 + 1) (v := .int .u64 (IntKind.u64.wrap (z + 1))) h1 h2)
   have d0 : wr.cell? ⟨g, o + j * 2 + 1, none⟩ = some (.int .u64 z) := by have h := (hrow.cell (o + (j * 2 + 1))).trans hz; simpa [Nat.add_assoc] using h
   have df := hrow.frozen (o + j * 2 + 1)
   have dl := hrow.lt
   obtain ⟨z0, z1, z2, z3, z4, z5, z6⟩ := row7 (HKB.out wr hbt)
   have zl := (HKB.out wr hbt).lt
   rw [hA] at z0
   have hj4 : (j : Int) < 4097 := by have := hlm.2; omega
   clear hrow hcur hz hg hbt h1 h2 hlm
   go_wp2_with fail
   go_roundw
   case rel => exact ⟨j + 1, by omega, by have := HLM.out.2; go_num, HG1.out, HB1.out⟩
   case measure => simp [intOf]; omega
  ·
   obtain rfl : j = n1 := by omega
   have HG2 := Hi hg
   have HBT2 := Hi hbt
   clear hg hbt HG
   have HG := HG2
   have HBT := HBT2
   clear HG2 HBT2
   obtain ⟨w8, hw8⟩ : ∃ w, w = wr := ⟨_, rfl⟩
   subst hw8
   obtain ⟨z0, z1, z2, z3, z4, z5, z6⟩ := row7 (HKB.out w8 HBT.out)
   have zl := (HKB.out w8 HBT.out).lt
   go_upto_region 7 with (fail)
   clear z0 z1 z2 z3 z4 z5 z6 zl
   go_loopw [29] (fun i wr => ∃ q : Nat, q ≤ m1 ∧ i = .int .i64 q ∧ GenX wr base hi A1 S1 j m1 B1 p1 ∧ Li.Betw base hi w1 wr) (fun i _ => m1 - (intOf i).toNat)
   case atStart => exact ⟨0, Nat.zero_le _, rfl, HG.out, HBT.out⟩
   case round =>
    obtain ⟨q, hq, rfl, hg, hbt⟩ := hrel
    by_cases hlt : q < m1
    ·
     have hqi : (q : Int) < (m1 : Int) := by omega
     obtain ⟨g, o, ty, cur, hA, h1, h2, hrow, hcur⟩ := hg.S (by omega)
     obtain ⟨z, hz⟩ := hcur q hlt
     have hlm := HLM.out
     have HG1 := Hi (hg.set (g := g) (i := o + q) (IntKind.u64.wrap (z + 1)))
     have HB1 := Hi (hbt.set (b := g) (i := o + q) (v := .int .u64 (IntKind.u64.wrap (z + 1))) h1 h2)
     have d0 : wr.cell? ⟨g, o + q, none⟩ = some (.int .u64 z) := by have h := (hrow.cell (o + (q * 1 + 0))).trans hz; simpa [Nat.add_assoc] using h
     have df := hrow.frozen (o + q)
     have dl := hrow.lt
     obtain ⟨z0, z1, z2, z3, z4, z5, z6⟩ := row7 (HKB.out wr hbt)
     have zl := (HKB.out wr hbt).lt
     rw [hA] at z2
     have hj4 : (q : Int) < 4097 := by have := hlm.2; omega
     clear hrow hcur hz hg hbt h1 h2 hlm
     go_wp2_with fail
     go_roundw
     case rel => exact ⟨q + 1, by omega, by have := HLM.out.2; go_num, HG1.out, HB1.out⟩
     case measure => simp [intOf]; omega
    ·
     obtain rfl : q = m1 := by omega
     obtain ⟨mq, hmq⟩ : ∃ mq, mq = q := ⟨_, rfl⟩
     subst hmq
     have HG2 := Hi hg
     have HBT2 := Hi hbt
     clear hg hbt HG HBT
     have HG := HG2
     have HBT := HBT2
     clear HG2 HBT2
     obtain ⟨w9, hw9⟩ : ∃ w, w = wr := ⟨_, rfl⟩
     subst hw9
     obtain ⟨z0, z1, z2, z3, z4, z5, z6⟩ := row7 (HKB.out w9 HBT.out)
     have zl := (HKB.out w9 HBT.out).lt
     go_upto_region 12 with (fail)
     clear z0 z1 z2 z3 z4 z5 z6 zl
     go_loopw [44] (fun i wr => ∃ (k : Nat), k ≤ 3 ∧ i = .int .i64 (k : Int) ∧ GenX wr base hi A1 S1 j mq B1 p1 ∧ Li.Betw base hi w1 wr) (fun i _ => 3 - (intOf i).toNat)
     case atStart => exact ⟨0, by omega, rfl, HG.out, HBT.out⟩
     case round =>
      obtain ⟨k, hk, rfl, hg1, hb1⟩ := hrel
      clear HG HBT
      have HG := Hi hg1
      have HBT := Hi hb1
      clear hg1 hb1
      by_cases hlt : k < 3
      ·
       have hki : (k : Int) < 3 := by omega
       have hix := Li.index_rows B1 p1 f1 k hlt
       have hnm := HLM.out.1 k hlt
       obtain ⟨m, hmm⟩ : ∃ m, p1 k = m := ⟨_, rfl⟩
       have HMM := Hi hmm
       rw [hmm] at hix hnm
       clear hmm
       go_wp2_with fail
       clear hix
       go_loopw [49] (fun i wr2 => ∃ (q : Nat), q ≤ m ∧ i = .int .i64 (q : Int) ∧ GenX wr2 base hi A1 S1 j mq B1 p1 ∧ Li.Betw base hi w1 wr2) (fun i _ => m - (intOf i).toNat)
       case atStart => exact ⟨0, by omega, rfl, HG.out, HBT.out⟩
       case round =>
        obtain ⟨q, hj, rfl, hg1, hb1⟩ := hrel
        by_cases hlt2 : q < m
        ·
         have hji : (q : Int) < (m : Int) := by omega
         obtain ⟨g, o, ty, cur, hA, h1, h2, hrow, hcur⟩ := hg1.rw k hlt (by rw [HMM.out]; omega)
         obtain ⟨z, hz⟩ := hcur q (by rw [HMM.out]; omega)
         have HG1 := Hi (hg1.set (g := g) (i := o + (q * 2 + 1)) (IntKind.u64.wrap (z + 1)))
         have HB1 := Hi (hb1.set (b := g) (i := o + (q * 2 + 1)) (v := .int .u64 (IntKind.u64.wrap (z + 1))) h1 h2)
         have d0 := (hrow.cell (o + (q * 2 + 1))).trans hz
         rw [← Nat.add_assoc] at d0 HG1 HB1
         have df := hrow.frozen (o + q * 2 + 1)
         have dl := hrow.lt
         clear hrow hcur hz hg1 hb1 HG HBT h1 h2
         go_wp2_with fail
         go_roundw
         case rel => exact ⟨q + 1, by omega, by go_num, HG1.out, HB1.out⟩
         case measure => simp [intOf]; omega
        ·
         obtain rfl : q = m := by omega
         have HG1 := Hi hg1
         have HB1 := Hi hb1
         clear hg1 hb1
         go_wp2_with fail
         go_roundw
         case rel => exact ⟨k + 1, by omega, by go_num, HG1.out, HB1.out⟩
         case measure => simp [intOf]; omega
      ·
       obtain rfl : k = 3 := by omega
       go_wp2_with fail
       go_end0
       exact ⟨rfl, HBW.out _ HBT.out⟩
theorem vSpoil {base hi : Nat} {w : World} {v : Value} {r : Rec} (h : RecOut (fun j => base ≤ j ∧ j < hi) w v r) (h0 : 0 < base) (hB : hi ≤ w.heap.size) (hf : FitR r) : Calls Tryz.prog 16 #[v] w fun e w' => e = .returned (.tuple #[]) ∧ Li.Betw base hi w w' := by
 obtain ⟨A0, As, n0, c0, ns, cs, A, n, c, rfl, h⟩ := h
 exact Spoil_any base hi A0 As n0 c0 ns cs A n c r w h h0 hB hf
theorem RefOut.ofF {F : Nat → Prop} {w : World} {v : Value} {r : Rec} (h : RecOut F w v r) (h2 : r.sl.length = 0 ∨ 2 ≤ r.sl.length) : RefOut F w v r := by
 obtain ⟨A0, As, n0, c0, ns, cs, A, n, c, hv, h⟩ := h
 exact ⟨A0, As, n0, c0, ns, cs, A, n, c, hv, h.sl.rd, h.l0, h.S.rd, fun h0 p hp => (h.S.2 h0 p hp).1, h.ls, h.lim, fun k p hk hn hp => ⟨((h.rw k hk).2 hn p hp).1, rd_lt (h.rw k hk).rd hn hp⟩, fun k hk => ⟨by have := (h.hl k hk).1; omega, by have h2 : c k ≤ 9223372036854775807 := (h.hl k hk).2; omega⟩, by rw [← h.l0]; exact h2, fun h0 p hp => (h.sl.2 h0 p hp).1⟩
theorem Betw.stay {lo hi : Nat} {F : Nat → Prop} {w w' : World} (h : Li.Betw lo hi w w') (hF : ∀ j, F j → j < lo ∨ hi ≤ j) : StayF F w w' := ⟨h.size, fun j hj hl => h.block j (hF j hj) hl⟩
theorem Betw.row {lo hi g : Nat} {t : TypeId} {cs : Array Value} {w w' : World} (h : Li.Betw lo hi w w') (hg : g < lo ∨ hi ≤ g) (hr : RowAt w g t cs) : RowAt w' g t cs := (h.block g hg hr.lt).trans hr
theorem Betw.up {lo hi B : Nat} {W w w' : World} (h : Li.Betw lo hi w w') (hb : Below B W w) (hl : B ≤ lo) (hs : B ≤ w.heap.size) : Below B W w' :=
 hb.trans ⟨h.os, h.tape, h.output, h.size, fun j hj => h.block j (.inl (Nat.lt_of_lt_of_le hj hl)) (Nat.lt_of_lt_of_le hj hs)⟩
theorem runAs {F : Nat → Prop} {w : World} {v : Value} {r : Rec} (h : RecOut F w v r) (hf : FitV r) (Al : Option Addr) (ml cl : Nat) (l : List EOp) (hl : Rd w w.heap.size 5 Al ml (Cs encP l)) (hm : l.length = ml) (hml : ml ≤ 4096) (hu : ∀ o ∈ l, 0 ≤ o.b ∧ U64 o.x.2) {r2 : Rec} {t : List Ent} {n : Nat} {k : Int} (hT : runR r l = (r2, t, n, k)) : Calls Tryz.prog 17 #[v, .slice Al ml cl] w fun e w' =>
  (∃ v At nt ct, e = .returned (.tuple #[v, .slice At nt ct, .int .i64 (n : Int), .int .i64 k]) ∧ RecOut (From w.heap.size) w' v r2 ∧ w'.ownsRow w.heap.size 41 2 (.slice At nt ct) nt (Cs encE t) ∧ t.length = nt) ∧ Below w.heap.size w w' := by
 have h2 := vRun h hf Al ml cl l hl hm hml hu
 unfold RunRes at h2
 rw [hT] at h2
 exact h2
set_option maxRecDepth 20000 in
theorem Ops_walk (v : Value) (x : Rec) (Al : Option Addr) (ml cl : Nat) (l : List EOp) (W : World) (hv : RecOut (fun _ => True) W v x) (hu : NumR x) (hl : Rd W W.heap.size 5 Al ml (Cs encP l)) (hm : l.length = ml) (hmc : ml ≤ cl) (hcm : cl ≤ 9223372036854775807) (hul : ∀ o ∈ l, 0 ≤ o.b ∧ U64 o.x.2) : Calls Tryz.prog 3 #[v, .slice Al ml cl] W fun e W' => e = .returned (.bool true) ∧ Below W.heap.size W W' := by
 have HFA := Hi (FitV.mk hu.cut.1 hu.cut.2)
 obtain ⟨A0, S0, n0, c0, m0, d0, B0, p0, f0, rfl, hr⟩ := hv
 have R0 := Hi hr
 have HL := Hi hl
 have HM := Hi hm
 have HMC := Hi (And.intro hmc hcm)
 have HU := Hi hul
 have HB := Hi (Below.refl W.heap.size W)
 clear hr hu hl hm hmc hcm hul
 obtain ⟨a, ha⟩ : ∃ a, cutR x = a := ⟨_, rfl⟩
 rw [ha] at HFA
 have HCA := Hi ha
 go_enter Tryz.func3, Tryz.ntmps3
 go_wp2_with fail
 have hb := ba W (.cells #[.slice A0 n0 c0, .int .u64 x.e, .slice S0 m0 d0, .int .u64 (x.l.E : Int), .slice (B0 0) (p0 0) (f0 0), .slice (B0 1) (p0 1) (f0 1), .slice (B0 2) (p0 2) (f0 2)] 34)
 have hk := RowAt.new W 34 #[.slice A0 n0 c0, .int .u64 x.e, .slice S0 m0 d0, .int .u64 (x.l.E : Int), .slice (B0 0) (p0 0) (f0 0), .slice (B0 1) (p0 1) (f0 1), .slice (B0 2) (p0 2) (f0 2)]
 have hGB : W.heap.size ≤ W.heap.size := Nat.le_refl _
 replace R0 := Hi (R0.out.below hb)
 replace HL := Hi ((HL.out.below hb).more hb.size)
 replace HB := bt HB hb
 have K0 := Hi hk
 have L0 := Hi hGB
 clear hb hk hGB
 generalize W.alloc _ = w1 at *
 with_reducible refine (wakes_any w1).mono ?_
 rintro e w2 ⟨rfl, hb⟩
 replace R0 := Hi (R0.out.below hb)
 replace K0 := Hi (K0.out.below hb)
 replace HL := Hi ((HL.out.below hb).more hb.size)
 replace HB := bt HB hb
 clear hb
 obtain ⟨K0y0, K0y1, K0y2, K0y3, K0y4, K0y5, K0y6⟩ := row7 K0.out
 have K0l := K0.out.lt
 go_wp2_with fail
 clear K0y0 K0y1 K0y2 K0y3 K0y4 K0y5 K0y6 K0l
 with_reducible refine (vOwn R0.out.val).mono ?_
 rintro e w3 ⟨⟨v, rfl, hv⟩, hb⟩
 replace R0 := Hi (R0.out.below hb)
 replace K0 := Hi (K0.out.below hb)
 replace HL := Hi ((HL.out.below hb).more hb.size)
 replace HB := bt HB hb
 obtain ⟨A1, S1, n1, c1, m1, d1, B1, p1, f1, rfl, hr⟩ := hv
 rw [ha] at hr ⊢
 have R1 := Hi hr
 clear hb hr ha L0
 go_upto_region 4 with (fail)
 have hb := ba w3 (.cells #[.slice A1 n1 c1, .int .u64 a.e, .slice S1 m1 d1, .int .u64 (a.l.E : Int), .slice (B1 0) (p1 0) (f1 0), .slice (B1 1) (p1 1) (f1 1), .slice (B1 2) (p1 2) (f1 2)] 34)
 have hk := RowAt.new w3 34 #[.slice A1 n1 c1, .int .u64 a.e, .slice S1 m1 d1, .int .u64 (a.l.E : Int), .slice (B1 0) (p1 0) (f1 0), .slice (B1 1) (p1 1) (f1 1), .slice (B1 2) (p1 2) (f1 2)]
 have hGB : W.heap.size ≤ w3.heap.size := HB.out.size
 replace R0 := Hi (R0.out.below hb)
 replace R1 := Hi (R1.out.below hb)
 replace K0 := Hi (K0.out.below hb)
 replace HL := Hi ((HL.out.below hb).more hb.size)
 replace HB := bt HB hb
 have K1 := Hi hk
 have L1 := Hi hGB
 clear hb hk hGB
 generalize w3.alloc _ = w4 at *
 generalize w3.heap.size = g1 at *
 obtain ⟨q, hq⟩ : ∃ q, a.ok = q := ⟨_, rfl⟩
 have HQ := Hi hq
 obtain ⟨K1y0, K1y1, K1y2, K1y3, K1y4, K1y5, K1y6⟩ := row7 K1.out
 have K1l := K1.out.lt
 go_wp2_with fail
 clear K1y0 K1y1 K1y2 K1y3 K1y4 K1y5 K1y6 K1l
 with_reducible refine (vRRight R1.out.val HFA.out.fit q hq).mono ?_
 rintro e w5 ⟨rfl, hb⟩
 replace R0 := Hi (R0.out.below hb)
 replace R1 := Hi (R1.out.below hb)
 replace K0 := Hi (K0.out.below hb)
 replace K1 := Hi (K1.out.below hb)
 replace HL := Hi ((HL.out.below hb).more hb.size)
 replace HB := bt HB hb
 clear hb hq L1
 obtain ⟨nk, hnk⟩ : ∃ m, min ml 14 = m := ⟨_, rfl⟩
 have hm1 : min (ml : Int) 14 = (nk : Int) := by omega
 have hm3 : nk ≤ ml := by omega
 have hm5 : (nk : Int) ≤ (cl : Int) := by have := HMC.out.1; omega
 have hm7 : nk ≤ 14 := by omega
 have HN := Hi (And.intro hm3 hm7)
 clear hnk
 go_wp2_with fail
 clear hm1 hm3 hm5 hm7
 with_reducible refine (CloneP w5.heap.size Al nk cl (Cs encP (l.take nk)) w5 (HL.out.firstP HM.out HN.out.1) (Nat.le_refl _) (Cs_one_cell encP_one _) (by have := HN.out.2; omega)).mono ?_
 rintro e w6 ⟨v, rfl, ho, hb⟩
 replace R0 := Hi (R0.out.below hb)
 replace R1 := Hi (R1.out.below hb)
 replace K0 := Hi (K0.out.below hb)
 replace K1 := Hi (K1.out.below hb)
 replace HL := Hi ((HL.out.below hb).more hb.size)
 replace HB := bt HB hb
 obtain ⟨Ak, ck, rfl, hck, hckm⟩ := own_form2 ho
 have HLK := Hi (Rd.of_own ho)
 clear hb ho hck hckm
 clear HL
 obtain ⟨lk, hlk⟩ : ∃ y, l.take nk = y := ⟨_, rfl⟩
 rw [hlk] at HLK
 have HMK := Hi (show lk.length = nk from by rw [← hlk, List.length_take, HM.out]; exact Nat.min_eq_left HN.out.1)
 have HUK := Hi (show ∀ o ∈ lk, 0 ≤ o.b ∧ U64 o.x.2 from fun o ho => HU.out o (List.mem_of_mem_take (hlk ▸ ho)))
 clear hlk HM HU HMC
 go_upto_region 7 with (fail)
 obtain ⟨wL, hw0⟩ : ∃ w, w = w6 := ⟨_, rfl⟩
 subst hw0
 replace R0 := Hi (R0.out.up (G := fun j => j < wL.heap.size) (fun j _ h => h))
 replace R1 := Hi (R1.out.up (G := fun j => j < wL.heap.size) (fun j _ h => h))
 have HGL := Hi (show W.heap.size < wL.heap.size ∧ g1 < wL.heap.size ∧ 0 < wL.heap.size from ⟨K0.out.lt, K1.out.lt, by have := K1.out.lt; omega⟩)
 go_loopw [37] (fun i wr => ∃ k : Nat, k ≤ nk ∧ i = .int .i64 (k : Int) ∧ Below wL.heap.size wL wr) (fun i _ => nk - (intOf i).toNat)
 case atStart => exact ⟨0, Nat.zero_le _, rfl, Below.refl _ _⟩
 case round =>
  obtain ⟨k, hk, rfl, hd⟩ := hrel
  have HD := Hi hd
  clear hd
  obtain ⟨w0, hw0⟩ : ∃ w, w = wr := ⟨_, rfl⟩
  subst hw0
  by_cases hlt : k < nk
  case neg =>
   have hkn : nk = k := by omega
   subst hkn
   clear hlt hk
   have hb := HD.out
   replace R0 := Hi (R0.out.below hb)
   replace R1 := Hi (R1.out.below hb)
   replace K0 := Hi (K0.out.below hb)
   replace K1 := Hi (K1.out.below hb)
   replace HLK := Hi ((HLK.out.below hb).more hb.size)
   replace HB := bt HB hb
   clear hb HD
   obtain ⟨rb, lb, nb, kb, hT⟩ : ∃ r l n k, runR a lk = (r, l, n, k) := ⟨_, _, _, _, rfl⟩
   have HT := Hi hT
   have HFX := Hi (show FitV rb from by have h := fit_run HFA.out lk (fun o ho => (HUK.out o ho).1); rw [hT] at h; exact h)
   clear hT
   have HN4 := Hi (show nk ≤ 4096 from by have := HN.out.2; omega)
   skip
   replace R0 := Hi (R0.out.up (G := fun j => j < w0.heap.size) (fun j (_ : j < wL.heap.size) h => h))
   replace R1 := Hi (R1.out.up (G := fun j => j < w0.heap.size) (fun j (_ : j < wL.heap.size) h => h))
   have HGA := Hi (show W.heap.size < w0.heap.size ∧ g1 < w0.heap.size ∧ 0 < w0.heap.size from ⟨K0.out.lt, K1.out.lt, by have := K1.out.lt; omega⟩)
   obtain ⟨K1y0, K1y1, K1y2, K1y3, K1y4, K1y5, K1y6⟩ := row7 K1.out
   have K1l := K1.out.lt
   go_wp2_with fail
   clear K1y0 K1y1 K1y2 K1y3 K1y4 K1y5 K1y6 K1l
   with_reducible refine (runAs R1.out.val HFA.out Ak nk ck lk HLK.out HMK.out HN4.out HUK.out HT.out).mono ?_
   rintro e w201 ⟨⟨v, At, nt, ct, rfl, hv, ho, hn⟩, hb⟩
   replace R0 := Hi (R0.out.below hb)
   replace R1 := Hi (R1.out.below hb)
   replace K0 := Hi (K0.out.below hb)
   replace K1 := Hi (K1.out.below hb)
   replace HLK := Hi ((HLK.out.below hb).more hb.size)
   replace HB := bt HB hb
   obtain ⟨A4, S4, n4, c4, m4, d4, B4, p4, f4, rfl, hr⟩ := hv
   have R4 := Hi (hr.up (G := fun j => w0.heap.size ≤ j ∧ j < w201.heap.size) (fun j h1 h2 => ⟨h1, h2⟩))
   have HLT := Hi (Rd.of_own ho)
   have HNT := Hi hn
   clear hb hr ho hn
   go_upto_region 20 with (fail)
   have hb := ba w201 (.cells #[.slice A4 n4 c4, .int .u64 rb.e, .slice S4 m4 d4, .int .u64 (rb.l.E : Int), .slice (B4 0) (p4 0) (f4 0), .slice (B4 1) (p4 1) (f4 1), .slice (B4 2) (p4 2) (f4 2)] 34)
   have hk := RowAt.new w201 34 #[.slice A4 n4 c4, .int .u64 rb.e, .slice S4 m4 d4, .int .u64 (rb.l.E : Int), .slice (B4 0) (p4 0) (f4 0), .slice (B4 1) (p4 1) (f4 1), .slice (B4 2) (p4 2) (f4 2)]
   have hGB : W.heap.size ≤ w201.heap.size := HB.out.size
   replace R0 := Hi (R0.out.below hb)
   replace R1 := Hi (R1.out.below hb)
   replace R4 := Hi (R4.out.below hb)
   replace K0 := Hi (K0.out.below hb)
   replace K1 := Hi (K1.out.below hb)
   replace HLK := Hi ((HLK.out.below hb).more hb.size)
   replace HLT := Hi ((HLT.out.below hb).more hb.size)
   replace HB := bt HB hb
   have K4 := Hi hk
   have L4 := Hi hGB
   clear hb hk hGB
   generalize w201.alloc _ = w202 at *
   generalize w201.heap.size = g4 at *
   obtain ⟨wD, hw0⟩ : ∃ w, w = w202 := ⟨_, rfl⟩
   subst hw0
   have HE := Hi (show Below wD.heap.size wD (wD.alloc (.cells #[.slice none 0 0, .int .u64 0, .slice none 0 0, .int .u64 0, .slice none 0 0, .slice none 0 0, .slice none 0 0] 34)) from (Below.refl _ _).alloc (Nat.le_refl _) _)
   have K19 := Hi (RowAt.new wD 34 #[.slice none 0 0, .int .u64 0, .slice none 0 0, .int .u64 0, .slice none 0 0, .slice none 0 0, .slice none 0 0])
   go_upto_if 81 with (fail)
   generalize wD.alloc _ = w5 at *
   go_cut [20, 21, 22] from 82 to 90 (fun s20 s21 s22 wc => ∃ Au nu cu A19 S19 n19 c19 m19 d19 B19 p19 f19, s20 = .slice Au nu cu ∧ s21 = .int .i64 (nb : Int) ∧ s22 = .int .i64 kb ∧ Rd wc wc.heap.size 2 Au nu (Cs encE lb) ∧ lb.length = nu ∧ nu ≤ 4096 ∧ RowAt wc wD.heap.size 34 #[.slice A19 n19 c19, .int .u64 rb.e, .slice S19 m19 d19, .int .u64 (rb.l.E : Int), .slice (B19 0) (p19 0) (f19 0), .slice (B19 1) (p19 1) (f19 1), .slice (B19 2) (p19 2) (f19 2)] ∧ RefQ (fun _ => True) wc A19 S19 n19 c19 m19 d19 B19 p19 f19 rb ∧ Below wD.heap.size wD wc)
   case first =>
    cases q with
    | false =>
     have hT := HT.out
     unfold runR at hT
     rw [if_neg (by rw [HQ.out]; decide)] at hT
     simp only [Prod.mk.injEq] at hT
     obtain ⟨rfl, rfl, rfl, rfl⟩ := hT
     go_wp2_with fail
     go_meet
     case rel => exact ⟨none, 0, 0, none, none, 0, 0, 0, 0, fun _ => none, fun _ => 0, fun _ => 0, rfl, rfl, rfl, Rd.none_, rfl, Nat.zero_le _, K19.out, zero_refq _ _, HE.out⟩
    | true =>
     have HW := Hi (show WfR a from ⟨ok_iff.1 HQ.out, fun s hs => (HFA.out.fit.s s hs).1, HFA.out.gn⟩)
     have H2S := Hi (show a.sl.length = 0 ∨ 2 ≤ a.sl.length from .inr (by have := (arOk_out HW.out.ok.ar).1; omega))
     have HRR := Hi (show runOut (runL a [] 0 lk) = (rb, lb, nb, kb) from by have h := HT.out; unfold runR at h; rw [if_pos HQ.out] at h; exact h)
     have KX := Hi (K0.out.below HE.out)
     obtain ⟨KXy0, KXy1, KXy2, KXy3, KXy4, KXy5, KXy6⟩ := row7 KX.out
     have KXl := KX.out.lt
     go_wp2_with fail
     clear KXy0 KXy1 KXy2 KXy3 KXy4 KXy5 KXy6 KXl KX
     have HSX := Hi (show wD.heap.size < w5.heap.size from K19.out.lt)
     with_reducible refine (vOwn (R0.out.below HE.out).val).mono ?_
     rintro e w231 ⟨⟨v, rfl, hv⟩, hb⟩
     replace K19 := Hi (K19.out.below hb)
     replace HE := bt HE hb
     rw [HCA.out] at hv
     have HV := Hi ((RefOut.ofF hv H2S.out).up (G := fun j => j ≠ wD.heap.size) (fun j (hj : w5.heap.size ≤ j) _ => by have := HSX.out; show j ≠ _; omega))
     clear hb hv HSX
     go_wp2_with fail
     have HSX := Hi (show wD.heap.size < w231.heap.size from K19.out.lt)
     with_reducible refine (runRAs HV.out (fun j hj => by have := HSX.out; show j ≠ _; omega) HW.out Ak nk ck lk ((HLK.out.below HE.out).more HE.out.size) HMK.out HN4.out HUK.out).mono ?_
     rintro e w232 ⟨⟨v, Au, nu, cu, rfl, hv, ho, hn, hn4⟩, hb⟩
     replace K19 := Hi (K19.out.below hb)
     replace HE := bt HE hb
     rw [HRR.out] at hv ho hn ⊢
     obtain ⟨A19, S19, n19, c19, m19, d19, B19, p19, f19, rfl, hr⟩ := hv
     have R19 := Hi hr
     have HOU := Hi ho
     have HNU := Hi (And.intro (show lb.length = nu from hn) hn4)
     clear hb hr ho hn hn4 HV HSX
     obtain ⟨⟨z0, z1, z2, z3, z4, z5, z6⟩, ⟨q0, q1, q2, q3, q4, q5, q6⟩, zl⟩ := all7 K19.out
     go_wp2_with fail
     generalize hw : World.setCell _ _ _ = w6
     obtain ⟨hl, hk⟩ := laid7 K19.out hw
     clear z0 z1 z2 z3 z4 z5 z6 q0 q1 q2 q3 q4 q5 q6 zl hw
     have R20 := Hi (R19.out.laid hl (fun j h => h) (fun hn p hp => R19.out.slq hn p hp))
     have HOV := Hi (own_laid HOU.out K19.out hl)
     have HEE := Hi (HE.out.trans (hl.below.mono (by omega)))
     clear hl
     go_meet
     case rel => exact ⟨Au, nu, cu, _, _, _, _, _, _, _, _, _, rfl, rfl, rfl, Rd.of_own HOV.out, HNU.out.1, HNU.out.2, hk, R20.out.up (fun _ _ _ => trivial), HEE.out⟩
   case rest =>
    rename_i K hK
    refine hK _ _ ?_
    clear hK K K19 HE
    obtain ⟨wx, hwx⟩ : ∃ w, w = wc := ⟨_, rfl⟩
    subst hwx
    obtain ⟨Au, nu, cu, A19, S19, n19, c19, m19, d19, B19, p19, f19, rfl, rfl, rfl, hu, hnu, hu4, hk1, hr1, hb⟩ := hcut
    have HOU := Hi hu
    have K19 := Hi hk1
    have R19 := Hi hr1
    have HNU := Hi (And.intro hnu hu4)
    clear hu hk1 hr1 hnu hu4
    replace R0 := Hi (R0.out.below hb)
    replace R1 := Hi (R1.out.below hb)
    replace R4 := Hi (R4.out.below hb)
    replace K0 := Hi (K0.out.below hb)
    replace K1 := Hi (K1.out.below hb)
    replace K4 := Hi (K4.out.below hb)
    replace HLK := Hi ((HLK.out.below hb).more hb.size)
    replace HLT := Hi ((HLT.out.below hb).more hb.size)
    replace HB := bt HB hb
    clear hb
    have e1 : (kb != kb) = false := by simp
    have e2 : ((nb : Int) != (nb : Int)) = false := by simp
    obtain ⟨K4y0, K4y1, K4y2, K4y3, K4y4, K4y5, K4y6⟩ := row7 K4.out
    have K4l := K4.out.lt
    obtain ⟨K19y0, K19y1, K19y2, K19y3, K19y4, K19y5, K19y6⟩ := row7 K19.out
    have K19l := K19.out.lt
    go_wp2_with fail
    clear K4y0 K4y1 K4y2 K4y3 K4y4 K4y5 K4y6 K4l K19y0 K19y1 K19y2 K19y3 K19y4 K19y5 K19y6 K19l e1 e2
    with_reducible refine (eqEz At Au ct cu nt nu lb lb wx HLT.out HOU.out HNT.out HNU.out.1 (by have h1 := HNT.out; have h2 := HNU.out.1; have h3 := HNU.out.2; omega) HNU.out.2 true (by simp)).mono ?_
    rintro e w251 ⟨rfl, hb⟩
    replace R0 := Hi (R0.out.below hb)
    replace R1 := Hi (R1.out.below hb)
    replace R4 := Hi (R4.out.below hb)
    replace R19 := Hi (R19.out.below hb)
    replace K0 := Hi (K0.out.below hb)
    replace K1 := Hi (K1.out.below hb)
    replace K4 := Hi (K4.out.below hb)
    replace K19 := Hi (K19.out.below hb)
    replace HLK := Hi ((HLK.out.below hb).more hb.size)
    replace HLT := Hi ((HLT.out.below hb).more hb.size)
    replace HOU := Hi ((HOU.out.below hb).more hb.size)
    replace HB := bt HB hb
    clear hb
    obtain ⟨K4y0, K4y1, K4y2, K4y3, K4y4, K4y5, K4y6⟩ := row7 K4.out
    have K4l := K4.out.lt
    obtain ⟨K19y0, K19y1, K19y2, K19y3, K19y4, K19y5, K19y6⟩ := row7 K19.out
    have K19l := K19.out.lt
    go_wp2_with fail
    clear K4y0 K4y1 K4y2 K4y3 K4y4 K4y5 K4y6 K4l K19y0 K19y1 K19y2 K19y3 K19y4 K19y5 K19y6 K19l
    with_reducible refine (vRSameQ R4.out.val R19.out.val HFX.out.fit HFX.out.fit true (same_refl rb)).mono ?_
    rintro e w252 ⟨rfl, hb⟩
    replace R0 := Hi (R0.out.below hb)
    replace R1 := Hi (R1.out.below hb)
    replace R4 := Hi (R4.out.below hb)
    replace R19 := Hi (R19.out.below hb)
    replace K0 := Hi (K0.out.below hb)
    replace K1 := Hi (K1.out.below hb)
    replace K4 := Hi (K4.out.below hb)
    replace K19 := Hi (K19.out.below hb)
    replace HLK := Hi ((HLK.out.below hb).more hb.size)
    replace HLT := Hi ((HLT.out.below hb).more hb.size)
    replace HOU := Hi ((HOU.out.below hb).more hb.size)
    replace HB := bt HB hb
    clear hb
    clear R19 HOU HLT HLK K19 HNU HNT HT HUK HMK
    obtain ⟨K4y0, K4y1, K4y2, K4y3, K4y4, K4y5, K4y6⟩ := row7 K4.out
    have K4l := K4.out.lt
    go_wp2_with fail
    clear K4y0 K4y1 K4y2 K4y3 K4y4 K4y5 K4y6 K4l
    have HSX := Hi (show g4 ≤ w252.heap.size from Nat.le_of_lt K4.out.lt)
    with_reducible refine (vSpoil R4.out.val HGA.out.2.2 HSX.out HFX.out.fit).mono ?_
    rintro e wS ⟨rfl, hb⟩
    replace R0 := Hi (R0.out.stay (Betw.stay hb (fun j hj => .inl hj)))
    replace R1 := Hi (R1.out.stay (Betw.stay hb (fun j hj => .inl hj)))
    replace K0 := Hi (Betw.row hb (.inl HGA.out.1) K0.out)
    replace K1 := Hi (Betw.row hb (.inl HGA.out.2.1) K1.out)
    replace HB := Hi (Betw.up hb HB.out (Nat.le_of_lt HGA.out.1) HB.out.size)
    clear hb HSX R4 K4
    go_upto_region 28 with (fail)
    have HSX := Hi (fun (wX : World) (hgX : Below wS.heap.size wS wX) => show wX.cell? ⟨g1, 0, none⟩ = some (.slice A1 n1 c1) ∧ wX.cell? ⟨g1, 1, none⟩ = some (.int .u64 a.e) ∧ wX.cell? ⟨g1, 2, none⟩ = some (.slice S1 m1 d1) ∧ wX.cell? ⟨g1, 3, none⟩ = some (.int .u64 (a.l.E : Int)) ∧ wX.cell? ⟨g1, 4, none⟩ = some (.slice (B1 0) (p1 0) (f1 0)) ∧ wX.cell? ⟨g1, 5, none⟩ = some (.slice (B1 1) (p1 1) (f1 1)) ∧ wX.cell? ⟨g1, 6, none⟩ = some (.slice (B1 2) (p1 2) (f1 2)) ∧ wX.cell? ⟨W.heap.size, 0, none⟩ = some (.slice A0 n0 c0) ∧ wX.cell? ⟨W.heap.size, 1, none⟩ = some (.int .u64 x.e) ∧ wX.cell? ⟨W.heap.size, 2, none⟩ = some (.slice S0 m0 d0) ∧ wX.cell? ⟨W.heap.size, 3, none⟩ = some (.int .u64 (x.l.E : Int)) ∧ wX.cell? ⟨W.heap.size, 4, none⟩ = some (.slice (B0 0) (p0 0) (f0 0)) ∧ wX.cell? ⟨W.heap.size, 5, none⟩ = some (.slice (B0 1) (p0 1) (f0 1)) ∧ wX.cell? ⟨W.heap.size, 6, none⟩ = some (.slice (B0 2) (p0 2) (f0 2)) ∧ g1 < wX.heap.size ∧ W.heap.size < wX.heap.size from by
     obtain ⟨z0x0, z0x1, z0x2, z0x3, z0x4, z0x5, z0x6⟩ := row7 K1.out
     obtain ⟨z1x0, z1x1, z1x2, z1x3, z1x4, z1x5, z1x6⟩ := row7 K0.out
     exact ⟨kept hgX z0x0, kept hgX z0x1, kept hgX z0x2, kept hgX z0x3, kept hgX z0x4, kept hgX z0x5, kept hgX z0x6, kept hgX z1x0, kept hgX z1x1, kept hgX z1x2, kept hgX z1x3, kept hgX z1x4, kept hgX z1x5, kept hgX z1x6, Nat.lt_of_lt_of_le K1.out.lt hgX.size, Nat.lt_of_lt_of_le K0.out.lt hgX.size⟩)
    have HX := Hi ((Below.refl wS.heap.size wS).drew)
    refine wp_region_held_drew (S := fun wX => wX.cell? ⟨g1, 0, none⟩ = some (.slice A1 n1 c1) ∧ wX.cell? ⟨g1, 1, none⟩ = some (.int .u64 a.e) ∧ wX.cell? ⟨g1, 2, none⟩ = some (.slice S1 m1 d1) ∧ wX.cell? ⟨g1, 3, none⟩ = some (.int .u64 (a.l.E : Int)) ∧ wX.cell? ⟨g1, 4, none⟩ = some (.slice (B1 0) (p1 0) (f1 0)) ∧ wX.cell? ⟨g1, 5, none⟩ = some (.slice (B1 1) (p1 1) (f1 1)) ∧ wX.cell? ⟨g1, 6, none⟩ = some (.slice (B1 2) (p1 2) (f1 2)) ∧ wX.cell? ⟨W.heap.size, 0, none⟩ = some (.slice A0 n0 c0) ∧ wX.cell? ⟨W.heap.size, 1, none⟩ = some (.int .u64 x.e) ∧ wX.cell? ⟨W.heap.size, 2, none⟩ = some (.slice S0 m0 d0) ∧ wX.cell? ⟨W.heap.size, 3, none⟩ = some (.int .u64 (x.l.E : Int)) ∧ wX.cell? ⟨W.heap.size, 4, none⟩ = some (.slice (B0 0) (p0 0) (f0 0)) ∧ wX.cell? ⟨W.heap.size, 5, none⟩ = some (.slice (B0 1) (p0 1) (f0 1)) ∧ wX.cell? ⟨W.heap.size, 6, none⟩ = some (.slice (B0 2) (p0 2) (f0 2)) ∧ g1 < wX.heap.size ∧ W.heap.size < wX.heap.size) (by kernel_rfl) (HSX.out _ HX.out) (fun hHeld => ?_)
    clear hHeld
    have hS0 := HSX.out _ HX.out
    generalize wS.drew = wd at *
    refine tkI (i := 0) rfl ?_
    refine tkI (i := 1) rfl ?_
    refine ryH (i := 2) rfl (fun K0 hK0 => ?_)
    go_simp
    with_reducible refine (vOwn (R0.out.below HX.out).val).mono ?_
    rintro e wb ⟨⟨v5, rfl, hv⟩, hb⟩
    rw [HCA.out] at hv
    have HV := Hi hv
    clear hv
    replace HX := bt HX hb
    clear hS0 hb
    have hS0 := HSX.out _ HX.out
    refine hK0.out _ _ hS0 (fun _ => wnH ?_)
    clear hK0 K0
    refine ryH (i := 3) rfl (fun K1 hK1 => ?_)
    go_simp
    with_reducible refine (vRSame (R1.out.below HX.out).val HV.out HFA.out.fit HFA.out.fit true (same_refl a)).mono ?_
    rintro e wc ⟨rfl, hb⟩
    replace HX := bt HX hb
    clear hS0 hb
    have hS0 := HSX.out _ HX.out
    refine hK1.out _ _ hS0 (fun _ => wnH ?_)
    clear hK1 K1
    refine tkI (i := 4) rfl ?_
    refine wpAnyH_done (by kernel_rfl) ?_ _
    go_wp2_with fail
    go_ret
    exact ⟨rfl, HB.out.trans (HX.out.mono HB.out.size)⟩
  case pos =>
   have hki : (k : Int) < (nk : Int) := by omega
   have hkl : k < lk.length := by rw [HMK.out]; exact hlt
   obtain ⟨b, o, hAl, hbl, d0, d1, d2, d3, d4⟩ := Rd.op (HLK.out.below HD.out) HMK.out hkl
   have hbl2 : b < w0.heap.size := Nat.lt_of_lt_of_le hbl HD.out.size
   have HUX := Hi (HUK.out _ (List.getElem_mem hkl))
   skip
   generalize lk[k] = x at *
   have HK := Hi hlt
   clear hkl hk
   have hb := ba w0 (.cells #[.int .i64 x.k, .int .i64 x.g, .int .u64 x.b, .int .i64 x.x.1, .int .u64 x.x.2] 43)
   have KO := Hi (RowAt.new w0 43 #[.int .i64 x.k, .int .i64 x.g, .int .u64 x.b, .int .i64 x.x.1, .int .u64 x.x.2])
   replace HD := bt HD hb
   have HS0 := Hi hb.size
   clear hb
   subst hAl
   go_upto_region 9 with (fail)
   clear d0 d1 d2 d3 d4 hbl hbl2 hki
   generalize w0.alloc _ = wa at *
   have HG0 := Hi (show wL.heap.size ≤ wa.heap.size from HD.out.size)
   generalize w0.heap.size = g0 at *
   clear HS0
   obtain ⟨ra, y, ka, hT⟩ : ∃ r y k, doR a ⟨x.k, x.g, x.b, (x.x.1, x.x.2)⟩ = (r, y, k) := ⟨_, _, _, rfl⟩
   have HT := Hi hT
   have HFX := Hi (show FitV ra from by have h := fit_do HFA.out ⟨x.k, x.g, x.b, (x.x.1, x.x.2)⟩ HUX.out.1; rw [hT] at h; exact h)
   clear hT
   have KX := Hi (K1.out.below HD.out)
   obtain ⟨KXy0, KXy1, KXy2, KXy3, KXy4, KXy5, KXy6⟩ := row7 KX.out
   have KXl := KX.out.lt
   obtain ⟨KOy0, KOy1, KOy2, KOy3, KOy4⟩ := row5 KO.out
   have KOl := KO.out.lt
   go_wp2_with fail
   clear KXy0 KXy1 KXy2 KXy3 KXy4 KXy5 KXy6 KXl KOy0 KOy1 KOy2 KOy3 KOy4 KOl KX
   with_reducible refine (doAs (R1.out.below HD.out).val HFA.out x.k x.g x.b x.x.1 x.x.2 HUX.out.1 HUX.out.2 HT.out).mono ?_
   rintro e w101 ⟨⟨v, rfl, hv⟩, hb⟩
   replace KO := Hi (KO.out.below hb)
   replace HD := bt HD hb
   obtain ⟨A4, S4, n4, c4, m4, d4, B4, p4, f4, rfl, hr⟩ := hv
   have R4 := Hi (hr.up (G := fun j => wa.heap.size ≤ j ∧ j < w101.heap.size) (fun j h1 h2 => ⟨h1, h2⟩))
   clear hb hr
   go_upto_region 10 with (fail)
   have hb : Below w101.heap.size w101 ((w101.alloc (.cells #[.slice A4 n4 c4, .int .u64 ra.e, .slice S4 m4 d4, .int .u64 (ra.l.E : Int), .slice (B4 0) (p4 0) (f4 0), .slice (B4 1) (p4 1) (f4 1), .slice (B4 2) (p4 2) (f4 2)] 34)).alloc (.cells #[.int .i64 y.1, .int .u64 y.2] 41)) := ((Below.refl _ _).alloc (Nat.le_refl _) _).alloc (by simp) _
   have al := al2 w101 #[.slice A4 n4 c4, .int .u64 ra.e, .slice S4 m4 d4, .int .u64 (ra.l.E : Int), .slice (B4 0) (p4 0) (f4 0), .slice (B4 1) (p4 1) (f4 1), .slice (B4 2) (p4 2) (f4 2)] 34 #[.int .i64 y.1, .int .u64 y.2] 41
   have K9 := Hi al.1.1
   have K10 := Hi al.1.2
   clear al
   replace R4 := Hi (R4.out.below hb)
   replace KO := Hi (KO.out.below hb)
   replace HD := bt HD hb
   clear hb
   generalize (w101.alloc _).alloc _ = wD at *
   generalize w101.heap.size = g9 at *
   go_upto_if 48 with (fail)
   have HE := Hi (show Below wD.heap.size wD ((wD.alloc (.cells #[.slice none 0 0, .int .u64 0, .slice none 0 0, .int .u64 0, .slice none 0 0, .slice none 0 0, .slice none 0 0] 34)).alloc (.cells #[.int .i64 0, .int .u64 0] 41)) from ((Below.refl _ _).alloc (Nat.le_refl _) _).alloc (by simp) _)
   have al := al2 wD #[.slice none 0 0, .int .u64 0, .slice none 0 0, .int .u64 0, .slice none 0 0, .slice none 0 0, .slice none 0 0] 34 #[.int .i64 0, .int .u64 0] 41
   have K12 := Hi al.1.1
   have K13 := Hi al.1.2
   clear al
   generalize (wD.alloc _).alloc _ = w5 at *
   go_cut [14] from 49 to 55 (fun s14 wc => ∃ A12 S12 n12 c12 m12 d12 B12 p12 f12, s14 = .int .i64 ka ∧ RowAt wc wD.heap.size 34 #[.slice A12 n12 c12, .int .u64 ra.e, .slice S12 m12 d12, .int .u64 (ra.l.E : Int), .slice (B12 0) (p12 0) (f12 0), .slice (B12 1) (p12 1) (f12 1), .slice (B12 2) (p12 2) (f12 2)] ∧ RefQ (fun _ => True) wc A12 S12 n12 c12 m12 d12 B12 p12 f12 ra ∧ RowAt wc (wD.heap.size + 1) 41 #[.int .i64 y.1, .int .u64 y.2] ∧ Below wD.heap.size wD wc)
   case first =>
    cases q with
    | false =>
     have hT := HT.out
     unfold doR at hT
     rw [if_neg (by rw [HQ.out]; decide)] at hT
     simp only [Prod.mk.injEq] at hT
     obtain ⟨rfl, rfl, rfl⟩ := hT
     go_wp2_with fail
     go_meet
     case rel => exact ⟨none, none, 0, 0, 0, 0, fun _ => none, fun _ => 0, fun _ => 0, rfl, K12.out, zero_refq _ _, K13.out, HE.out⟩
    | true =>
     have HW := Hi (show WfR a from ⟨ok_iff.1 HQ.out, fun s hs => (HFA.out.fit.s s hs).1, HFA.out.gn⟩)
     have H2S := Hi (show a.sl.length = 0 ∨ 2 ≤ a.sl.length from .inr (by have := (arOk_out HW.out.ok.ar).1; omega))
     have HLW := Hi (HD.out.trans (HE.out.mono HD.out.size))
     have KX := Hi (K1.out.below HLW.out)
     have KOX := Hi (KO.out.below HE.out)
     have HSX := Hi (show wL.heap.size ≤ wD.heap.size ∧ (wD.heap.size + 1) < w5.heap.size from ⟨HD.out.size, K13.out.lt⟩)
     obtain ⟨KXy0, KXy1, KXy2, KXy3, KXy4, KXy5, KXy6⟩ := row7 KX.out
     have KXl := KX.out.lt
     obtain ⟨KOXy0, KOXy1, KOXy2, KOXy3, KOXy4⟩ := row5 KOX.out
     have KOXl := KOX.out.lt
     go_wp2_with fail
     clear KXy0 KXy1 KXy2 KXy3 KXy4 KXy5 KXy6 KXl KOXy0 KOXy1 KOXy2 KOXy3 KOXy4 KOXl KX KOX
     with_reducible refine (rDoAs ((RefOut.ofF (R1.out.below HLW.out).val H2S.out).up (G := fun j => j ≠ wD.heap.size ∧ j ≠ (wD.heap.size + 1)) (fun j (hj : j < wL.heap.size) _ => by have := HSX.out.1; exact ⟨by omega, by omega⟩)) (fun j hj => by have := HSX.out.2; exact ⟨by omega, by omega⟩) HW.out x.k x.g x.b x.x.1 x.x.2 HUX.out.1 HUX.out.2 HT.out).mono ?_
     rintro e w102 ⟨⟨v, rfl, hv⟩, hb⟩
     replace K12 := Hi (K12.out.below hb)
     replace K13 := Hi (K13.out.below hb)
     replace HE := bt HE hb
     obtain ⟨A12, S12, n12, c12, m12, d12, B12, p12, f12, rfl, hr⟩ := hv
     have R12 := Hi hr
     clear hb hr HLW HSX
     obtain ⟨⟨v0, v1, v2, v3, v4, v5, v6⟩, ⟨s0, s1, s2, s3, s4, s5, s6⟩, vl⟩ := all7 K12.out
     have u0 := row20 K13.out
     have u1 := row21 K13.out
     have ul := K13.out.lt
     have uf0 := K13.out.frozen 0
     have uf1 := K13.out.frozen 1
     go_wp2_with fail
     generalize hw : World.setCell _ _ _ = w6
     obtain ⟨wm, l1, l2, k4, k5⟩ := laid72 K12.out K13.out (by omega) hw
     clear v0 v1 v2 v3 v4 v5 v6 s0 s1 s2 s3 s4 s5 s6 vl u0 u1 ul uf0 uf1 hw
     have R13 := Hi ((R12.out.laid l1 (fun j h => h.1) (fun hn p hp => (R12.out.slq hn p hp).1)))
     have R14 := Hi (R13.out.laid l2 (fun j h => h.2) (fun hn p hp => (R13.out.slq hn p hp).2))
     have HEE := Hi (HE.out.trans ((l1.below.mono (by omega)).trans (l2.below.mono (by omega))))
     clear l1 l2
     go_meet
     case rel => exact ⟨_, _, _, _, _, _, _, _, _, rfl, k4, R14.out.up (fun _ _ _ => trivial), k5, HEE.out⟩
   case rest =>
    rename_i K hK
    refine hK _ _ ?_
    clear hK K K12 K13 HE KO
    obtain ⟨wx, hwx⟩ : ∃ w, w = wc := ⟨_, rfl⟩
    subst hwx
    obtain ⟨A12, S12, n12, c12, m12, d12, B12, p12, f12, rfl, hk1, hr1, hk2, hb⟩ := hcut
    have K12 := Hi hk1
    have R12 := Hi hr1
    have K13 := Hi hk2
    clear hk1 hr1 hk2
    replace R4 := Hi (R4.out.below hb)
    replace K9 := Hi (K9.out.below hb)
    replace K10 := Hi (K10.out.below hb)
    replace HD := bt HD hb
    clear hb
    have e1 : (ka != ka) = false := by simp
    have e2 : (y.1 != y.1) = false := by simp
    have e3 : (y.2 != y.2) = false := by simp
    obtain ⟨K9y0, K9y1, K9y2, K9y3, K9y4, K9y5, K9y6⟩ := row7 K9.out
    have K9l := K9.out.lt
    have K10y0 := row20 K10.out
    have K10y1 := row21 K10.out
    have K10l := K10.out.lt
    obtain ⟨K12y0, K12y1, K12y2, K12y3, K12y4, K12y5, K12y6⟩ := row7 K12.out
    have K12l := K12.out.lt
    have K13y0 := row20 K13.out
    have K13y1 := row21 K13.out
    have K13l := K13.out.lt
    go_wp2_with fail
    clear K9y0 K9y1 K9y2 K9y3 K9y4 K9y5 K9y6 K9l K10y0 K10y1 K10l K12y0 K12y1 K12y2 K12y3 K12y4 K12y5 K12y6 K12l K13y0 K13y1 K13l e1 e2 e3
    with_reducible refine (vRSameQ R4.out.val R12.out.val HFX.out.fit HFX.out.fit true (same_refl ra)).mono ?_
    rintro e w151 ⟨rfl, hb⟩
    replace R4 := Hi (R4.out.below hb)
    replace R12 := Hi (R12.out.below hb)
    replace K9 := Hi (K9.out.below hb)
    replace K10 := Hi (K10.out.below hb)
    replace K12 := Hi (K12.out.below hb)
    replace K13 := Hi (K13.out.below hb)
    replace HD := bt HD hb
    clear hb
    clear R12 K12 K13 K10 HT
    obtain ⟨K9y0, K9y1, K9y2, K9y3, K9y4, K9y5, K9y6⟩ := row7 K9.out
    have K9l := K9.out.lt
    go_wp2_with fail
    clear K9y0 K9y1 K9y2 K9y3 K9y4 K9y5 K9y6 K9l
    have HSX := Hi (show g9 ≤ w151.heap.size from Nat.le_of_lt K9.out.lt)
    with_reducible refine (vSpoil R4.out.val (Nat.lt_of_lt_of_le HGL.out.2.2 HG0.out) HSX.out HFX.out.fit).mono ?_
    rintro e wS ⟨rfl, hb⟩
    replace HD := Hi (Betw.up hb HD.out HG0.out HD.out.size)
    clear hb HSX R4 K9 HG0
    have hk1 : (k : Int) ≤ 14 := by have := HK.out; have := HN.out.2; omega
    go_wp2_with fail
    go_roundw
    case rel => exact ⟨k + 1, HK.out, by have h1 := HK.out; have h3 := HN.out.2; go_num, HD.out⟩
    case measure => have := HK.out; have h3 := HN.out.2; simp [intOf]; omega
end Go.Proofs.YtkicidopjihjmaaGreat
namespace Go.Proofs.YtkicidopjihjmaaGreat
open Go Go.RowKit Go.WideShapes Go.ChangeShapes Go.ChangeAt Go.Joins
set_option maxRecDepth 100000 in
theorem epochOps_lifted (os : Os) (started : os.Started) (H : Type) (enc : TypeId × Value → H) :
  ReturnsInHanded {} Tryz.checked os 3 .any (Rows.epochOpsSpec.pre6 enc Tryz.prog Tryz.f3 Rows.epochOpsRow.domain false) (Rows.epochOpsSpec.post enc Tryz.prog Tryz.f3 false true false false) := by
 refine returnsInHanded_of_change (C := Tryz.checked) own_knob started (by kernel_rfl) Tryz.func3
  (ChangeSpec.witness6 (enc := enc) (C := Tryz.checked) false ⟨#[], #[.agg #[.slice none 0 0, .int .u64 0, .slice none 0 0, .int .u64 0, .slice none 0 0, .slice none 0 0, .slice none 0 0], .slice none 0 0], []⟩ 8 (by kernel_rfl) (by kernel_rfl) (by kernel_rfl) (by kernel_rfl)) ?_
 intro W base args ds gs before hval0 hW hcnd _
 have hval : ∀ (j : Nat) t v, Tryz.f3.params[j]? = some t → args[j]? = some v → Value.okWide Tryz.prog W .any base t v := hval0
 have hW' := hW
 obtain ⟨p, q, hA0, hV, rfl, hfz, hnd⟩ := hW
 have hA : DataW.TrodAll enc Tryz.prog W 0 (fun _ => true) true Tryz.f3.params.toList args.toList ds p := hA0
 rw [Tryz.params3] at hA hval
 obtain ⟨v0, v1, d0, d1, p0, p1, rfl, rfl, rfl, h0, h1⟩ := trodAll_two hA
 obtain ⟨x0, hx0, hn0⟩ := open_rec (hval 0 34 v0 rfl rfl) h0
 obtain ⟨A1, n1, c1, xs1, rfl, hn1, hm1, hl1, hr1, hu1⟩ := open_eops (hval 1 35 v1 rfl rfl) h1
 clear hA0 hval0
 refine (Ops_walk v0 x0 A1 n1 c1 xs1 W hx0 hn0 hr1 hl1 hn1 hm1 hu1).mono fun e W' ⟨he, hb⟩ => ?_
 subst he
 exact ⟨_, rfl, law_done laid_out hW' rfl (fun ds' h => by match ds', h with | [x, y], _ => rfl) rfl (by rw [Tryz.params3]; decide +kernel) hb (fun _ _ _ => trodAll_mk1 (shut_bool Tryz.underlying4 true)) (ok_one (by kernel_rfl) rfl (okWide_bool_mk Tryz.underlying4 true))⟩
theorem epochOps_holds : Rows.EpochOpsSaid :=
 OpenClaim.holds_of_wide 3 Tryz.f3 rfl rfl rfl rfl rfl rfl rfl ⟨rfl, rfl, rfl, rfl, rfl⟩ rfl rfl rfl rfl rfl (by kernel_rfl) Tryz.func3 (by kernel_rfl)
  (of_decide_eq_true (by kernel_rfl)) (by unfold Func.isWrapper; first | (rw [if_pos (by decide +kernel)]; kernel_rfl) | (rw [if_neg (by decide +kernel)]; exact ⟨rfl, rfl⟩))
  (fun os started H enc _ => epochOps_lifted os started H enc)
end Go.Proofs.YtkicidopjihjmaaGreat
