/-
  EpochTries answers true for every reclaim, and leaves its arguments as they were. No condition.
-/
import Derived.Test.YtkicidopjihjmaaGreatZTriesF
set_option maxHeartbeats 16000000
set_option linter.unusedSimpArgs false
set_option linter.unusedVariables false
namespace Go.Proofs.YtkicidopjihjmaaGreat
open Go Go.RowKit
attribute [local go_sem] via_cell via_frozen
theorem setlF_wf : ∀ (n : Nat) (r : Rec) (t : List Ent), WfR r → WfR (setlF n r t).1
 | 0, r, t, h => h
 | n + 1, r, t, h => by
  show WfR (if 0 < r.l.held.length then (if (triesR r t).2.2 = true then setlF n (triesR r t).1 (triesR r t).2.1 else ((triesR r t).1, (triesR r t).2.1)) else (r, t)).1
  split
  ·
   split
   · exact setlF_wf n _ _ (tries_wf h)
   · exact tries_wf h
  · exact h
theorem fit_set {r : Rec} (hf : FitV r) : FitV (setR r).1 := by
 unfold setR
 split
 ·
  rename_i ho
  split
  · exact wf_rec0
  · exact (setlF_wf _ _ _ ⟨ok_iff.1 ho, fun s hs => (hf.fit.s s hs).1, hf.gn⟩).fitV
 · exact wf_rec0
theorem settleAs {F : Nat → Prop} {w : World} {v : Value} {r : Rec} (h : RecOut F w v r) (hf : FitV r) {r2 : Rec} {l : List Ent} {k : Int} (hT : setR r = (r2, l, k)) : Calls Tryz.prog 34 #[v] w fun e w' =>
  (∃ v At nt ct, e = .returned (.tuple #[v, .slice At nt ct, .int .i64 k]) ∧ RecOut (From w.heap.size) w' v r2 ∧ w'.ownsRow w.heap.size 41 2 (.slice At nt ct) nt (Cs encE l) ∧ l.length = nt) ∧ Below w.heap.size w w' := by
 have h2 := vSettle h hf
 unfold SetRes at h2
 rw [hT] at h2
 exact h2
theorem RefOut.ofF {F : Nat → Prop} {w : World} {v : Value} {r : Rec} (h : RecOut F w v r) (h2 : r.sl.length = 0 ∨ 2 ≤ r.sl.length) : RefOut F w v r := by
 obtain ⟨A0, As, n0, c0, ns, cs, A, n, c, hv, h⟩ := h
 exact ⟨A0, As, n0, c0, ns, cs, A, n, c, hv, h.sl.rd, h.l0, h.S.rd, fun h0 p hp => (h.S.2 h0 p hp).1, h.ls, h.lim, fun k p hk hn hp => ⟨((h.rw k hk).2 hn p hp).1, rd_lt (h.rw k hk).rd hn hp⟩, fun k hk => ⟨by have := (h.hl k hk).1; omega, by have h2 : c k ≤ 9223372036854775807 := (h.hl k hk).2; omega⟩, by rw [← h.l0]; exact h2, fun h0 p hp => (h.sl.2 h0 p hp).1⟩
theorem Betw.stay {lo hi : Nat} {F : Nat → Prop} {w w' : World} (h : Li.Betw lo hi w w') (hF : ∀ j, F j → j < lo ∨ hi ≤ j) : StayF F w w' := ⟨h.size, fun j hj hl => h.block j (hF j hj) hl⟩
theorem Betw.row {lo hi g : Nat} {t : TypeId} {cs : Array Value} {w w' : World} (h : Li.Betw lo hi w w') (hg : g < lo ∨ hi ≤ g) (hr : RowAt w g t cs) : RowAt w' g t cs := (h.block g hg hr.lt).trans hr
theorem Betw.up {lo hi B : Nat} {W w w' : World} (h : Li.Betw lo hi w w') (hb : Below B W w) (hl : B ≤ lo) (hs : B ≤ w.heap.size) : Below B W w' :=
 hb.trans ⟨h.os, h.tape, h.output, h.size, fun j hj => h.block j (.inl (Nat.lt_of_lt_of_le hj hl)) (Nat.lt_of_lt_of_le hj hs)⟩
set_option maxRecDepth 20000 in
theorem Tries_walk (v : Value) (x : Rec) (W : World) (hv : RecOut (fun _ => True) W v x) (hu : NumR x) : Calls Tryz.prog 8 #[v] W fun e W' => e = .returned (.bool true) ∧ Below W.heap.size W W' := by
 have HFA := Hi (FitV.mk hu.cut.1 hu.cut.2)
 obtain ⟨A0, S0, n0, c0, m0, d0, B0, p0, f0, rfl, hr⟩ := hv
 have R0 := Hi hr
 have HB := Hi (Below.refl W.heap.size W)
 clear hr hu
 obtain ⟨a, ha⟩ : ∃ a, cutR x = a := ⟨_, rfl⟩
 rw [ha] at HFA
 have HCA := Hi ha
 go_enter Tryz.func8, Tryz.ntmps8
 go_wp2_with fail
 have hb := ba W (.cells #[.slice A0 n0 c0, .int .u64 x.e, .slice S0 m0 d0, .int .u64 (x.l.E : Int), .slice (B0 0) (p0 0) (f0 0), .slice (B0 1) (p0 1) (f0 1), .slice (B0 2) (p0 2) (f0 2)] 34)
 have hk := RowAt.new W 34 #[.slice A0 n0 c0, .int .u64 x.e, .slice S0 m0 d0, .int .u64 (x.l.E : Int), .slice (B0 0) (p0 0) (f0 0), .slice (B0 1) (p0 1) (f0 1), .slice (B0 2) (p0 2) (f0 2)]
 have hGB : W.heap.size ≤ W.heap.size := Nat.le_refl _
 replace R0 := Hi (R0.out.below hb)
 replace HB := bt HB hb
 have K0 := Hi hk
 have L0 := Hi hGB
 clear hb hk hGB
 generalize W.alloc _ = w1 at *
 with_reducible refine (wakes_any w1).mono ?_
 rintro e w2 ⟨rfl, hb⟩
 replace R0 := Hi (R0.out.below hb)
 replace K0 := Hi (K0.out.below hb)
 replace HB := bt HB hb
 clear hb
 obtain ⟨K0y0, K0y1, K0y2, K0y3, K0y4, K0y5, K0y6⟩ := row7 K0.out
 have K0l := K0.out.lt
 go_wp2_with fail
 clear K0y0 K0y1 K0y2 K0y3 K0y4 K0y5 K0y6 K0l
 with_reducible refine (vOwn R0.out.val).mono ?_
 rintro e w3 ⟨⟨v, rfl, hv⟩, hb⟩
 replace R0 := Hi (R0.out.below hb)
 replace K0 := Hi (K0.out.below hb)
 replace HB := bt HB hb
 obtain ⟨A1, S1, n1, c1, m1, d1, B1, p1, f1, rfl, hr⟩ := hv
 rw [ha] at hr ⊢
 have R1 := Hi hr
 clear hb hr ha L0
 go_upto_region 4 with (fail)
 have hb := ba w3 (.cells #[.slice A1 n1 c1, .int .u64 a.e, .slice S1 m1 d1, .int .u64 (a.l.E : Int), .slice (B1 0) (p1 0) (f1 0), .slice (B1 1) (p1 1) (f1 1), .slice (B1 2) (p1 2) (f1 2)] 34)
 have hk := RowAt.new w3 34 #[.slice A1 n1 c1, .int .u64 a.e, .slice S1 m1 d1, .int .u64 (a.l.E : Int), .slice (B1 0) (p1 0) (f1 0), .slice (B1 1) (p1 1) (f1 1), .slice (B1 2) (p1 2) (f1 2)]
 have hGB : W.heap.size ≤ w3.heap.size := HB.out.size
 replace R0 := Hi (R0.out.below hb)
 replace R1 := Hi (R1.out.below hb)
 replace K0 := Hi (K0.out.below hb)
 replace HB := bt HB hb
 have K1 := Hi hk
 have L1 := Hi hGB
 clear hb hk hGB
 generalize w3.alloc _ = w4 at *
 generalize w3.heap.size = g1 at *
 obtain ⟨ra, la, bq, ka, hT⟩ : ∃ r l b k, tryR a = (r, l, b, k) := ⟨_, _, _, _, rfl⟩
 obtain ⟨rb, lb, kb, hT2⟩ : ∃ r l k, setR a = (r, l, k) := ⟨_, _, _, rfl⟩
 have HT := Hi hT
 have HT2 := Hi hT2
 have HFX := Hi (show FitV ra from by have h := fit_try HFA.out; rw [hT] at h; exact h)
 have HFY := Hi (show FitV rb from by have h := fit_set HFA.out; rw [hT2] at h; exact h)
 clear hT hT2
 obtain ⟨wA, hw0⟩ : ∃ w, w = w4 := ⟨_, rfl⟩
 subst hw0
 replace R0 := Hi (R0.out.up (G := fun j => j < wA.heap.size) (fun j _ h => h))
 replace R1 := Hi (R1.out.up (G := fun j => j < wA.heap.size) (fun j _ h => h))
 have HGA := Hi (show W.heap.size < wA.heap.size ∧ g1 < wA.heap.size ∧ 0 < wA.heap.size from ⟨K0.out.lt, K1.out.lt, by have := K1.out.lt; omega⟩)
 obtain ⟨K1y0, K1y1, K1y2, K1y3, K1y4, K1y5, K1y6⟩ := row7 K1.out
 have K1l := K1.out.lt
 go_wp2_with fail
 clear K1y0 K1y1 K1y2 K1y3 K1y4 K1y5 K1y6 K1l
 with_reducible refine (tryAs R1.out.val HFA.out HT.out).mono ?_
 rintro e w5 ⟨⟨v, Al, nl, cl, rfl, hv, ho, hn⟩, hb⟩
 replace R0 := Hi (R0.out.below hb)
 replace R1 := Hi (R1.out.below hb)
 replace K0 := Hi (K0.out.below hb)
 replace K1 := Hi (K1.out.below hb)
 replace HB := bt HB hb
 obtain ⟨A4, S4, n4, c4, m4, d4, B4, p4, f4, rfl, hr⟩ := hv
 have R4 := Hi (hr.up (G := fun j => wA.heap.size ≤ j ∧ j < w5.heap.size) (fun j h1 h2 => ⟨h1, h2⟩))
 have HL := Hi (Rd.of_own ho)
 have HG4 := Hi hb.size
 have HNL := Hi hn
 clear hb hr ho hn L1
 go_upto_region 5 with (fail)
 have hb := ba w5 (.cells #[.slice A4 n4 c4, .int .u64 ra.e, .slice S4 m4 d4, .int .u64 (ra.l.E : Int), .slice (B4 0) (p4 0) (f4 0), .slice (B4 1) (p4 1) (f4 1), .slice (B4 2) (p4 2) (f4 2)] 34)
 have hk := RowAt.new w5 34 #[.slice A4 n4 c4, .int .u64 ra.e, .slice S4 m4 d4, .int .u64 (ra.l.E : Int), .slice (B4 0) (p4 0) (f4 0), .slice (B4 1) (p4 1) (f4 1), .slice (B4 2) (p4 2) (f4 2)]
 have hGB : W.heap.size ≤ w5.heap.size := HB.out.size
 replace R0 := Hi (R0.out.below hb)
 replace R1 := Hi (R1.out.below hb)
 replace R4 := Hi (R4.out.below hb)
 replace K0 := Hi (K0.out.below hb)
 replace K1 := Hi (K1.out.below hb)
 replace HL := Hi ((HL.out.below hb).more hb.size)
 replace HB := bt HB hb
 have K4 := Hi hk
 have L4 := Hi hGB
 clear hb hk hGB
 generalize w5.alloc _ = w6 at *
 generalize w5.heap.size = g4 at *
 obtain ⟨wB, hw0⟩ : ∃ w, w = w6 := ⟨_, rfl⟩
 subst hw0
 have HGB := Hi (show g4 < wB.heap.size from K4.out.lt)
 have HGC := Hi (show wA.heap.size ≤ wB.heap.size from by have := HGB.out; have := HG4.out; omega)
 obtain ⟨K1y0, K1y1, K1y2, K1y3, K1y4, K1y5, K1y6⟩ := row7 K1.out
 have K1l := K1.out.lt
 go_wp2_with fail
 clear K1y0 K1y1 K1y2 K1y3 K1y4 K1y5 K1y6 K1l
 with_reducible refine (settleAs R1.out.val HFA.out HT2.out).mono ?_
 rintro e w7 ⟨⟨v, Am, nm, cm, rfl, hv, ho, hn⟩, hb⟩
 replace R0 := Hi (R0.out.below hb)
 replace R1 := Hi (R1.out.below hb)
 replace R4 := Hi (R4.out.below hb)
 replace K0 := Hi (K0.out.below hb)
 replace K1 := Hi (K1.out.below hb)
 replace K4 := Hi (K4.out.below hb)
 replace HL := Hi ((HL.out.below hb).more hb.size)
 replace HB := bt HB hb
 obtain ⟨A8, S8, n8, c8, m8, d8, B8, p8, f8, rfl, hr⟩ := hv
 have R8 := Hi (hr.up (G := fun j => wB.heap.size ≤ j ∧ j < w7.heap.size) (fun j h1 h2 => ⟨h1, h2⟩))
 have HM := Hi (Rd.of_own ho)
 have HG8 := Hi hb.size
 have HNM := Hi hn
 clear hb hr ho hn L4
 go_upto_region 6 with (fail)
 have hb := ba w7 (.cells #[.slice A8 n8 c8, .int .u64 rb.e, .slice S8 m8 d8, .int .u64 (rb.l.E : Int), .slice (B8 0) (p8 0) (f8 0), .slice (B8 1) (p8 1) (f8 1), .slice (B8 2) (p8 2) (f8 2)] 34)
 have hk := RowAt.new w7 34 #[.slice A8 n8 c8, .int .u64 rb.e, .slice S8 m8 d8, .int .u64 (rb.l.E : Int), .slice (B8 0) (p8 0) (f8 0), .slice (B8 1) (p8 1) (f8 1), .slice (B8 2) (p8 2) (f8 2)]
 have hGB : W.heap.size ≤ w7.heap.size := HB.out.size
 replace R0 := Hi (R0.out.below hb)
 replace R1 := Hi (R1.out.below hb)
 replace R4 := Hi (R4.out.below hb)
 replace R8 := Hi (R8.out.below hb)
 replace K0 := Hi (K0.out.below hb)
 replace K1 := Hi (K1.out.below hb)
 replace K4 := Hi (K4.out.below hb)
 replace HL := Hi ((HL.out.below hb).more hb.size)
 replace HM := Hi ((HM.out.below hb).more hb.size)
 replace HB := bt HB hb
 have K8 := Hi hk
 have L8 := Hi hGB
 clear hb hk hGB
 generalize w7.alloc _ = w8 at *
 generalize w7.heap.size = g8 at *
 clear L8
 obtain ⟨wD, hw0⟩ : ∃ w, w = w8 := ⟨_, rfl⟩
 subst hw0
 have al := al2 wD #[.slice none 0 0, .int .u64 0, .slice none 0 0, .int .u64 0, .slice none 0 0, .slice none 0 0, .slice none 0 0] 34 #[.slice none 0 0, .int .u64 0, .slice none 0 0, .int .u64 0, .slice none 0 0, .slice none 0 0, .slice none 0 0] 34
 have b1 := al.2.1
 have b2 := al.2.2
 have K11 := Hi al.1.1
 have K12 := Hi al.1.2
 clear al
 have HD := Hi (b1.trans (b2.mono b1.size))
 clear b1 b2
 go_upto_region 9 with (fail)
 generalize (wD.alloc _).alloc _ = w5 at *
 have HDS := Hi (show wD.heap.size + 1 < w5.heap.size from K12.out.lt)
 obtain ⟨q, hq⟩ : ∃ q, a.ok = q := ⟨_, rfl⟩
 have HQ := Hi hq
 have KX := Hi (K1.out.below HD.out)
 obtain ⟨KXy0, KXy1, KXy2, KXy3, KXy4, KXy5, KXy6⟩ := row7 KX.out
 have KXl := KX.out.lt
 go_wp2_with fail
 clear KXy0 KXy1 KXy2 KXy3 KXy4 KXy5 KXy6 KXl KX
 with_reducible refine (vRRight (R1.out.below HD.out).val HFA.out.fit q hq).mono ?_
 rintro e w31 ⟨rfl, hb⟩
 replace K11 := Hi (K11.out.below hb)
 replace K12 := Hi (K12.out.below hb)
 replace HD := bt HD hb
 clear hb hq
 go_upto_if 38 with (fail)
 go_cut [13, 14, 15, 16, 17] from 39 to 59 (fun s13 s14 s15 s16 s17 wc => ∃ Au nu cu Av nv cv A11 S11 n11 c11 m11 d11 B11 p11 f11 A12 S12 n12 c12 m12 d12 B12 p12 f12, s13 = .slice Au nu cu ∧ s14 = .slice Av nv cv ∧ s15 = .bool bq ∧ s16 = .int .i64 ka ∧ s17 = .int .i64 kb ∧ Rd wc wc.heap.size 2 Au nu (Cs encE la) ∧ la.length = nu ∧ nu ≤ 4096 ∧ Rd wc wc.heap.size 2 Av nv (Cs encE lb) ∧ lb.length = nv ∧ nv ≤ 4096 ∧ RowAt wc wD.heap.size 34 #[.slice A11 n11 c11, .int .u64 ra.e, .slice S11 m11 d11, .int .u64 (ra.l.E : Int), .slice (B11 0) (p11 0) (f11 0), .slice (B11 1) (p11 1) (f11 1), .slice (B11 2) (p11 2) (f11 2)] ∧ RefQ (fun _ => True) wc A11 S11 n11 c11 m11 d11 B11 p11 f11 ra ∧ RowAt wc (wD.heap.size + 1) 34 #[.slice A12 n12 c12, .int .u64 rb.e, .slice S12 m12 d12, .int .u64 (rb.l.E : Int), .slice (B12 0) (p12 0) (f12 0), .slice (B12 1) (p12 1) (f12 1), .slice (B12 2) (p12 2) (f12 2)] ∧ RefQ (fun _ => True) wc A12 S12 n12 c12 m12 d12 B12 p12 f12 rb ∧ Below wD.heap.size wD wc)
 case first =>
  cases q with
  | false =>
   have hT := HT.out
   have hT2 := HT2.out
   unfold tryR at hT
   unfold setR at hT2
   rw [if_neg (by rw [HQ.out]; decide)] at hT hT2
   simp only [Prod.mk.injEq] at hT hT2
   obtain ⟨rfl, rfl, rfl, rfl⟩ := hT
   obtain ⟨rfl, rfl, rfl⟩ := hT2
   go_wp2_with fail
   go_meet
   case rel => exact ⟨none, 0, 0, none, 0, 0, none, none, 0, 0, 0, 0, fun _ => none, fun _ => 0, fun _ => 0, none, none, 0, 0, 0, 0, fun _ => none, fun _ => 0, fun _ => 0, rfl, rfl, rfl, rfl, rfl, Rd.none_, rfl, Nat.zero_le _, Rd.none_, rfl, Nat.zero_le _, K11.out, zero_refq _ _, K12.out, zero_refq _ _, HD.out⟩
  | true =>
   have HW := Hi (show WfR a from ⟨ok_iff.1 HQ.out, fun s hs => (HFA.out.fit.s s hs).1, HFA.out.gn⟩)
   have hT := HT.out
   unfold tryR at hT
   rw [if_pos HQ.out] at hT
   simp only [Prod.mk.injEq] at hT
   obtain ⟨h1, h2, h3, hk⟩ := hT
   have HTT := Hi (show triesR a [] = (ra, la, bq) from by rw [← h1, ← h2, ← h3])
   have HKA := Hi hk.symm
   clear h1 h2 h3 hk
   have HLA := Hi (show la.length ≤ 4096 from by have h := (tries_E (t := []) HW.out).1; rw [HTT.out] at h; have h2 : a.l.held.length ≤ 4096 := (by rw [HW.out.ok.len]; exact Nat.le_trans (ents_length _ _) HW.out.fit.sl); simp only [List.length_nil] at h; omega)
   have H2S := Hi (show a.sl.length = 0 ∨ 2 ≤ a.sl.length from .inr (by have := (arOk_out HW.out.ok.ar).1; omega))
   have KX := Hi (K0.out.below HD.out)
   obtain ⟨KXy0, KXy1, KXy2, KXy3, KXy4, KXy5, KXy6⟩ := row7 KX.out
   have KXl := KX.out.lt
   go_wp2_with fail
   clear KXy0 KXy1 KXy2 KXy3 KXy4 KXy5 KXy6 KXl KX
   have HSX := Hi (show (wD.heap.size + 1) < w31.heap.size from K12.out.lt)
   with_reducible refine (vOwn (R0.out.below HD.out).val).mono ?_
   rintro e w32 ⟨⟨v, rfl, hv⟩, hb⟩
   replace K11 := Hi (K11.out.below hb)
   replace K12 := Hi (K12.out.below hb)
   replace HD := bt HD hb
   rw [HCA.out] at hv
   have HV := Hi ((RefOut.ofF hv H2S.out).up (G := fun j => j ≠ wD.heap.size ∧ j ≠ (wD.heap.size + 1)) (fun j (hj : w31.heap.size ≤ j) _ => by have := HSX.out; exact ⟨by omega, by omega⟩))
   clear hb hv HSX
   go_wp2_with fail
   have HSX := Hi (show (wD.heap.size + 1) < w32.heap.size from K12.out.lt)
   with_reducible refine (tryRAs HV.out (fun j hj => by have := HSX.out; exact ⟨by omega, by omega⟩) HW.out).mono ?_
   rintro e w33 ⟨⟨v, Au, nu, cu, rfl, hv, ho, hn⟩, hb⟩
   replace K11 := Hi (K11.out.below hb)
   replace K12 := Hi (K12.out.below hb)
   replace HD := bt HD hb
   rw [HTT.out] at hv ho hn
   have hTb : (triesR a []).2.2 = bq := by rw [HTT.out]
   rw [hTb]
   obtain ⟨A11, S11, n11, c11, m11, d11, B11, p11, f11, rfl, hr⟩ := hv
   have R11 := Hi (hr.up (G := fun j => j ≠ wD.heap.size ∧ j ≠ (wD.heap.size + 1)) (fun j hj _ => hj.1))
   have HU := Hi ho
   have HNU := Hi (show la.length = nu from hn)
   clear hb hr ho hn hTb HV HSX
   obtain ⟨⟨z0, z1, z2, z3, z4, z5, z6⟩, ⟨q0, q1, q2, q3, q4, q5, q6⟩, zl⟩ := all7 K11.out
   go_upto_region 11 with (fail)
   generalize hw : World.setCell _ _ _ = w6
   obtain ⟨hl, hk⟩ := laid7 K11.out hw
   clear z0 z1 z2 z3 z4 z5 z6 q0 q1 q2 q3 q4 q5 q6 zl hw
   replace R11 := Hi (R11.out.laid hl (fun j h => h.1) (fun hn p hp => (R11.out.slq hn p hp).1))
   replace HU := Hi (own_laid HU.out K11.out hl)
   replace K12 := Hi (show RowAt w6 _ _ _ from (hl.block _ (by omega)).trans K12.out)
   replace HD := Hi (HD.out.trans (hl.below.mono (by omega)))
   replace K11 := Hi hk
   clear hl hk
   have KX := Hi (K1.out.below HD.out)
   have RX := Hi (R1.out.below HD.out)
   obtain ⟨KXy0, KXy1, KXy2, KXy3, KXy4, KXy5, KXy6⟩ := row7 KX.out
   have KXl := KX.out.lt
   go_upto_region 12 with (fail)
   go_wp2_with fail
   clear KXy0 KXy1 KXy2 KXy3 KXy4 KXy5 KXy6 KXl KX
   obtain ⟨ob, hob⟩ : ∃ b, Pn.oldB a.S = b := ⟨_, rfl⟩
   obtain ⟨ox, hox⟩ : ∃ b, Pn.oldE a.S = b := ⟨_, rfl⟩
   have HOB := Hi hob
   with_reducible refine (Pn.rOldest_any S1 d1 m1 a.e a.S w6 RX.out.S.rd RX.out.ls HFA.out.fit.s (by rw [← RX.out.ls]; exact HFA.out.fit.S) ox ob hox hob).mono ?_
   rintro e w51 ⟨rfl, hb⟩
   replace R11 := Hi (R11.out.below hb)
   replace K11 := Hi (K11.out.below hb)
   replace K12 := Hi (K12.out.below hb)
   replace HU := Hi (own_keepB HU.out hb)
   replace HD := bt HD hb
   clear hb hob hox RX
   have hT2 := HT2.out
   unfold setR at hT2
   rw [if_pos HQ.out] at hT2
   cases ob with
   | true =>
    rw [if_pos HOB.out] at hT2
    simp only [Prod.mk.injEq] at hT2
    obtain ⟨rfl, rfl, rfl⟩ := hT2
    go_wp2_with fail
    go_meet
    case rel => exact ⟨Au, nu, cu, none, 0, 0, _, _, _, _, _, _, _, _, _, none, none, 0, 0, 0, 0, fun _ => none, fun _ => 0, fun _ => 0, rfl, rfl, rfl, by rw [HKA.out], rfl, Rd.of_own HU.out, HNU.out, by rw [← HNU.out]; exact HLA.out, Rd.none_, rfl, Nat.zero_le _, K11.out, R11.out.up (fun _ _ _ => trivial), K12.out, zero_refq _ _, HD.out⟩
   | false =>
    rw [if_neg (by rw [HOB.out]; decide)] at hT2
    simp only [Prod.mk.injEq] at hT2
    obtain ⟨h1, h2, hk⟩ := hT2
    have HSS := Hi (show setlR a [] = (rb, lb) from by rw [← h1, ← h2])
    have HKB := Hi hk.symm
    clear h1 h2 hk
    have KX := Hi (K0.out.below HD.out)
    obtain ⟨KXy0, KXy1, KXy2, KXy3, KXy4, KXy5, KXy6⟩ := row7 KX.out
    have KXl := KX.out.lt
    go_wp2_with fail
    clear KXy0 KXy1 KXy2 KXy3 KXy4 KXy5 KXy6 KXl KX
    have HSX := Hi (show (wD.heap.size + 1) < w51.heap.size from K12.out.lt)
    with_reducible refine (vOwn (R0.out.below HD.out).val).mono ?_
    rintro e w52 ⟨⟨v, rfl, hv⟩, hb⟩
    replace R11 := Hi (R11.out.below hb)
    replace K11 := Hi (K11.out.below hb)
    replace K12 := Hi (K12.out.below hb)
    replace HU := Hi (own_keepB HU.out hb)
    replace HD := bt HD hb
    rw [HCA.out] at hv
    have HV := Hi ((RefOut.ofF hv H2S.out).up (G := fun j => j ≠ wD.heap.size ∧ j ≠ (wD.heap.size + 1)) (fun j (hj : w51.heap.size ≤ j) _ => by have := HSX.out; exact ⟨by omega, by omega⟩))
    clear hb hv HSX
    go_wp2_with fail
    have HSX := Hi (show (wD.heap.size + 1) < w52.heap.size from K12.out.lt)
    with_reducible refine (settleRAs HV.out (fun j hj => by have := HSX.out; exact ⟨by omega, by omega⟩) HW.out).mono ?_
    rintro e w53 ⟨⟨v, Av, nv, cv, rfl, hv, ho, hn, hn4⟩, hb⟩
    replace R11 := Hi (R11.out.below hb)
    replace K11 := Hi (K11.out.below hb)
    replace K12 := Hi (K12.out.below hb)
    replace HU := Hi (own_keepB HU.out hb)
    replace HD := bt HD hb
    rw [HSS.out] at hv ho hn
    obtain ⟨A12, S12, n12, c12, m12, d12, B12, p12, f12, rfl, hr⟩ := hv
    have R12 := Hi hr
    have HV2 := Hi ho
    have HNV := Hi (show lb.length = nv from hn)
    have HN4 := Hi hn4
    clear hb hr ho hn hn4 HV HSX
    obtain ⟨⟨z0, z1, z2, z3, z4, z5, z6⟩, ⟨q0, q1, q2, q3, q4, q5, q6⟩, zl⟩ := all7 K12.out
    go_wp2_with fail
    generalize hw : World.setCell _ _ _ = w7
    obtain ⟨hl, hk⟩ := laid7 K12.out hw
    clear z0 z1 z2 z3 z4 z5 z6 q0 q1 q2 q3 q4 q5 q6 zl hw
    replace R11 := Hi (R11.out.laid hl (fun j h => h.2) (fun hn p hp => (R11.out.slq hn p hp).2))
    replace R12 := Hi (R12.out.laid hl (fun j h => h.2) (fun hn p hp => (R12.out.slq hn p hp).2))
    replace HU := Hi (own_laid HU.out K12.out hl)
    replace HV2 := Hi (own_laid HV2.out K12.out hl)
    replace K11 := Hi (show RowAt w7 _ _ _ from (hl.block _ (by omega)).trans K11.out)
    replace HD := Hi (HD.out.trans (hl.below.mono (by omega)))
    replace K12 := Hi hk
    clear hl hk
    go_meet
    case rel => exact ⟨Au, nu, cu, Av, nv, cv, _, _, _, _, _, _, _, _, _, _, _, _, _, _, _, _, _, _, rfl, rfl, rfl, by rw [HKA.out], by rw [HKB.out], Rd.of_own HU.out, HNU.out, by rw [← HNU.out]; exact HLA.out, Rd.of_own HV2.out, HNV.out, HN4.out, K11.out, R11.out.up (fun _ _ _ => trivial), K12.out, R12.out.up (fun _ _ _ => trivial), HD.out⟩
 case rest =>
  rename_i K hK
  refine hK _ _ ?_
  clear hK K K11 K12 HD
  obtain ⟨wx, hwx⟩ : ∃ w, w = wc := ⟨_, rfl⟩
  subst hwx
  obtain ⟨Au, nu, cu, Av, nv, cv, A11, S11, n11, c11, m11, d11, B11, p11, f11, A12, S12, n12, c12, m12, d12, B12, p12, f12, rfl, rfl, rfl, rfl, rfl, hu, hnu, hu4, hv, hnv, hv4, hk1, hr1, hk2, hr2, hb⟩ := hcut
  have HU := Hi hu
  have HV := Hi hv
  have K11 := Hi hk1
  have K12 := Hi hk2
  have R11 := Hi hr1
  have R12 := Hi hr2
  have HNU := Hi (And.intro hnu hu4)
  have HNV := Hi (And.intro hnv hv4)
  clear hu hv hk1 hk2 hr1 hr2 hnu hu4 hnv hv4
  replace R0 := Hi (R0.out.below hb)
  replace R1 := Hi (R1.out.below hb)
  replace R4 := Hi (R4.out.below hb)
  replace R8 := Hi (R8.out.below hb)
  replace K0 := Hi (K0.out.below hb)
  replace K1 := Hi (K1.out.below hb)
  replace K4 := Hi (K4.out.below hb)
  replace K8 := Hi (K8.out.below hb)
  replace HL := Hi ((HL.out.below hb).more hb.size)
  replace HM := Hi ((HM.out.below hb).more hb.size)
  replace HB := bt HB hb
  clear hb
  have e1 : (ka != ka) = false := by simp
  have e2 : (kb != kb) = false := by simp
  have e3 : (bq != bq) = false := by simp
  obtain ⟨K4y0, K4y1, K4y2, K4y3, K4y4, K4y5, K4y6⟩ := row7 K4.out
  have K4l := K4.out.lt
  obtain ⟨K8y0, K8y1, K8y2, K8y3, K8y4, K8y5, K8y6⟩ := row7 K8.out
  have K8l := K8.out.lt
  obtain ⟨K11y0, K11y1, K11y2, K11y3, K11y4, K11y5, K11y6⟩ := row7 K11.out
  have K11l := K11.out.lt
  obtain ⟨K12y0, K12y1, K12y2, K12y3, K12y4, K12y5, K12y6⟩ := row7 K12.out
  have K12l := K12.out.lt
  go_wp2_with fail
  clear K4y0 K4y1 K4y2 K4y3 K4y4 K4y5 K4y6 K4l K8y0 K8y1 K8y2 K8y3 K8y4 K8y5 K8y6 K8l K11y0 K11y1 K11y2 K11y3 K11y4 K11y5 K11y6 K11l K12y0 K12y1 K12y2 K12y3 K12y4 K12y5 K12y6 K12l e1 e2 e3
  with_reducible refine (eqEz Al Au cl cu nl nu la la wx HL.out HU.out HNL.out HNU.out.1 (by have h1 := HNL.out; have h2 := HNU.out.1; have h3 := HNU.out.2; omega) HNU.out.2 true (by simp)).mono ?_
  rintro e w71 ⟨rfl, hb⟩
  replace R0 := Hi (R0.out.below hb)
  replace R1 := Hi (R1.out.below hb)
  replace R4 := Hi (R4.out.below hb)
  replace R8 := Hi (R8.out.below hb)
  replace R11 := Hi (R11.out.below hb)
  replace R12 := Hi (R12.out.below hb)
  replace K0 := Hi (K0.out.below hb)
  replace K1 := Hi (K1.out.below hb)
  replace K4 := Hi (K4.out.below hb)
  replace K8 := Hi (K8.out.below hb)
  replace K11 := Hi (K11.out.below hb)
  replace K12 := Hi (K12.out.below hb)
  replace HL := Hi ((HL.out.below hb).more hb.size)
  replace HM := Hi ((HM.out.below hb).more hb.size)
  replace HU := Hi ((HU.out.below hb).more hb.size)
  replace HV := Hi ((HV.out.below hb).more hb.size)
  replace HB := bt HB hb
  clear hb
  go_wp2_with fail
  with_reducible refine (eqEz Am Av cm cv nm nv lb lb w71 HM.out HV.out HNM.out HNV.out.1 (by have h1 := HNM.out; have h2 := HNV.out.1; have h3 := HNV.out.2; omega) HNV.out.2 true (by simp)).mono ?_
  rintro e w72 ⟨rfl, hb⟩
  replace R0 := Hi (R0.out.below hb)
  replace R1 := Hi (R1.out.below hb)
  replace R4 := Hi (R4.out.below hb)
  replace R8 := Hi (R8.out.below hb)
  replace R11 := Hi (R11.out.below hb)
  replace R12 := Hi (R12.out.below hb)
  replace K0 := Hi (K0.out.below hb)
  replace K1 := Hi (K1.out.below hb)
  replace K4 := Hi (K4.out.below hb)
  replace K8 := Hi (K8.out.below hb)
  replace K11 := Hi (K11.out.below hb)
  replace K12 := Hi (K12.out.below hb)
  replace HL := Hi ((HL.out.below hb).more hb.size)
  replace HM := Hi ((HM.out.below hb).more hb.size)
  replace HU := Hi ((HU.out.below hb).more hb.size)
  replace HV := Hi ((HV.out.below hb).more hb.size)
  replace HB := bt HB hb
  clear hb
  obtain ⟨K4y0, K4y1, K4y2, K4y3, K4y4, K4y5, K4y6⟩ := row7 K4.out
  have K4l := K4.out.lt
  obtain ⟨K8y0, K8y1, K8y2, K8y3, K8y4, K8y5, K8y6⟩ := row7 K8.out
  have K8l := K8.out.lt
  obtain ⟨K11y0, K11y1, K11y2, K11y3, K11y4, K11y5, K11y6⟩ := row7 K11.out
  have K11l := K11.out.lt
  obtain ⟨K12y0, K12y1, K12y2, K12y3, K12y4, K12y5, K12y6⟩ := row7 K12.out
  have K12l := K12.out.lt
  go_wp2_with fail
  clear K4y0 K4y1 K4y2 K4y3 K4y4 K4y5 K4y6 K4l K8y0 K8y1 K8y2 K8y3 K8y4 K8y5 K8y6 K8l K11y0 K11y1 K11y2 K11y3 K11y4 K11y5 K11y6 K11l K12y0 K12y1 K12y2 K12y3 K12y4 K12y5 K12y6 K12l
  with_reducible refine (vRSameQ R4.out.val R11.out.val HFX.out.fit HFX.out.fit true (same_refl ra)).mono ?_
  rintro e w73 ⟨rfl, hb⟩
  replace R0 := Hi (R0.out.below hb)
  replace R1 := Hi (R1.out.below hb)
  replace R4 := Hi (R4.out.below hb)
  replace R8 := Hi (R8.out.below hb)
  replace R11 := Hi (R11.out.below hb)
  replace R12 := Hi (R12.out.below hb)
  replace K0 := Hi (K0.out.below hb)
  replace K1 := Hi (K1.out.below hb)
  replace K4 := Hi (K4.out.below hb)
  replace K8 := Hi (K8.out.below hb)
  replace K11 := Hi (K11.out.below hb)
  replace K12 := Hi (K12.out.below hb)
  replace HL := Hi ((HL.out.below hb).more hb.size)
  replace HM := Hi ((HM.out.below hb).more hb.size)
  replace HU := Hi ((HU.out.below hb).more hb.size)
  replace HV := Hi ((HV.out.below hb).more hb.size)
  replace HB := bt HB hb
  clear hb
  obtain ⟨K4y0, K4y1, K4y2, K4y3, K4y4, K4y5, K4y6⟩ := row7 K4.out
  have K4l := K4.out.lt
  obtain ⟨K8y0, K8y1, K8y2, K8y3, K8y4, K8y5, K8y6⟩ := row7 K8.out
  have K8l := K8.out.lt
  obtain ⟨K11y0, K11y1, K11y2, K11y3, K11y4, K11y5, K11y6⟩ := row7 K11.out
  have K11l := K11.out.lt
  obtain ⟨K12y0, K12y1, K12y2, K12y3, K12y4, K12y5, K12y6⟩ := row7 K12.out
  have K12l := K12.out.lt
  go_wp2_with fail
  clear K4y0 K4y1 K4y2 K4y3 K4y4 K4y5 K4y6 K4l K8y0 K8y1 K8y2 K8y3 K8y4 K8y5 K8y6 K8l K11y0 K11y1 K11y2 K11y3 K11y4 K11y5 K11y6 K11l K12y0 K12y1 K12y2 K12y3 K12y4 K12y5 K12y6 K12l
  with_reducible refine (vRSameQ R8.out.val R12.out.val HFY.out.fit HFY.out.fit true (same_refl rb)).mono ?_
  rintro e w74 ⟨rfl, hb⟩
  replace R0 := Hi (R0.out.below hb)
  replace R1 := Hi (R1.out.below hb)
  replace R4 := Hi (R4.out.below hb)
  replace R8 := Hi (R8.out.below hb)
  replace R11 := Hi (R11.out.below hb)
  replace R12 := Hi (R12.out.below hb)
  replace K0 := Hi (K0.out.below hb)
  replace K1 := Hi (K1.out.below hb)
  replace K4 := Hi (K4.out.below hb)
  replace K8 := Hi (K8.out.below hb)
  replace K11 := Hi (K11.out.below hb)
  replace K12 := Hi (K12.out.below hb)
  replace HL := Hi ((HL.out.below hb).more hb.size)
  replace HM := Hi ((HM.out.below hb).more hb.size)
  replace HU := Hi ((HU.out.below hb).more hb.size)
  replace HV := Hi ((HV.out.below hb).more hb.size)
  replace HB := bt HB hb
  clear hb
  clear R11 R12 HU HV HL HM K11 K12 HNU HNV HNL HNM HT HT2
  obtain ⟨K4y0, K4y1, K4y2, K4y3, K4y4, K4y5, K4y6⟩ := row7 K4.out
  have K4l := K4.out.lt
  go_wp2_with fail
  clear K4y0 K4y1 K4y2 K4y3 K4y4 K4y5 K4y6 K4l
  have HSX := Hi (show g4 ≤ w74.heap.size from Nat.le_of_lt K4.out.lt)
  with_reducible refine (vSpoil R4.out.val HGA.out.2.2 HSX.out HFX.out.fit).mono ?_
  rintro e wS ⟨rfl, hb⟩
  replace R0 := Hi (R0.out.stay (Betw.stay hb (fun j hj => .inl hj)))
  replace R1 := Hi (R1.out.stay (Betw.stay hb (fun j hj => .inl hj)))
  replace R8 := Hi (R8.out.stay (Betw.stay hb (fun j hj => .inr (by have := HGB.out; have := hj.1; omega))))
  replace K0 := Hi (Betw.row hb (.inl HGA.out.1) K0.out)
  replace K1 := Hi (Betw.row hb (.inl HGA.out.2.1) K1.out)
  replace K8 := Hi (Betw.row hb (.inr (Nat.le_of_lt (Nat.lt_of_lt_of_le HGB.out HG8.out))) K8.out)
  replace HB := Hi (Betw.up hb HB.out (Nat.le_of_lt HGA.out.1) HB.out.size)
  clear hb
  clear HSX R4 K4
  obtain ⟨K8y0, K8y1, K8y2, K8y3, K8y4, K8y5, K8y6⟩ := row7 K8.out
  have K8l := K8.out.lt
  go_wp2_with fail
  clear K8y0 K8y1 K8y2 K8y3 K8y4 K8y5 K8y6 K8l
  have HSX := Hi (show g8 ≤ wS.heap.size from Nat.le_of_lt K8.out.lt)
  with_reducible refine (vSpoil R8.out.val (by have := HGB.out; omega) HSX.out HFY.out.fit).mono ?_
  rintro e wT ⟨rfl, hb⟩
  replace R0 := Hi (R0.out.stay (Betw.stay hb (fun j hj => .inl (Nat.lt_of_lt_of_le hj HGC.out))))
  replace R1 := Hi (R1.out.stay (Betw.stay hb (fun j hj => .inl (Nat.lt_of_lt_of_le hj HGC.out))))
  replace K0 := Hi (Betw.row hb (.inl (Nat.lt_of_lt_of_le HGA.out.1 HGC.out)) K0.out)
  replace K1 := Hi (Betw.row hb (.inl (Nat.lt_of_lt_of_le HGA.out.2.1 HGC.out)) K1.out)
  replace HB := Hi (Betw.up hb HB.out (Nat.le_trans (Nat.le_of_lt HGA.out.1) HGC.out) HB.out.size)
  clear hb
  clear HSX R8 K8
  go_upto_region 20 with (fail)
  have HSX := Hi (fun (wX : World) (hgX : Below wT.heap.size wT wX) => show wX.cell? ⟨g1, 0, none⟩ = some (.slice A1 n1 c1) ∧ wX.cell? ⟨g1, 1, none⟩ = some (.int .u64 a.e) ∧ wX.cell? ⟨g1, 2, none⟩ = some (.slice S1 m1 d1) ∧ wX.cell? ⟨g1, 3, none⟩ = some (.int .u64 (a.l.E : Int)) ∧ wX.cell? ⟨g1, 4, none⟩ = some (.slice (B1 0) (p1 0) (f1 0)) ∧ wX.cell? ⟨g1, 5, none⟩ = some (.slice (B1 1) (p1 1) (f1 1)) ∧ wX.cell? ⟨g1, 6, none⟩ = some (.slice (B1 2) (p1 2) (f1 2)) ∧ wX.cell? ⟨W.heap.size, 0, none⟩ = some (.slice A0 n0 c0) ∧ wX.cell? ⟨W.heap.size, 1, none⟩ = some (.int .u64 x.e) ∧ wX.cell? ⟨W.heap.size, 2, none⟩ = some (.slice S0 m0 d0) ∧ wX.cell? ⟨W.heap.size, 3, none⟩ = some (.int .u64 (x.l.E : Int)) ∧ wX.cell? ⟨W.heap.size, 4, none⟩ = some (.slice (B0 0) (p0 0) (f0 0)) ∧ wX.cell? ⟨W.heap.size, 5, none⟩ = some (.slice (B0 1) (p0 1) (f0 1)) ∧ wX.cell? ⟨W.heap.size, 6, none⟩ = some (.slice (B0 2) (p0 2) (f0 2)) ∧ g1 < wX.heap.size ∧ W.heap.size < wX.heap.size from by
   obtain ⟨z0x0, z0x1, z0x2, z0x3, z0x4, z0x5, z0x6⟩ := row7 K1.out
   obtain ⟨z1x0, z1x1, z1x2, z1x3, z1x4, z1x5, z1x6⟩ := row7 K0.out
   exact ⟨kept hgX z0x0, kept hgX z0x1, kept hgX z0x2, kept hgX z0x3, kept hgX z0x4, kept hgX z0x5, kept hgX z0x6, kept hgX z1x0, kept hgX z1x1, kept hgX z1x2, kept hgX z1x3, kept hgX z1x4, kept hgX z1x5, kept hgX z1x6, Nat.lt_of_lt_of_le K1.out.lt hgX.size, Nat.lt_of_lt_of_le K0.out.lt hgX.size⟩)
  have HX := Hi ((Below.refl wT.heap.size wT).drew)
  refine wp_region_held_drew (S := fun wX => wX.cell? ⟨g1, 0, none⟩ = some (.slice A1 n1 c1) ∧ wX.cell? ⟨g1, 1, none⟩ = some (.int .u64 a.e) ∧ wX.cell? ⟨g1, 2, none⟩ = some (.slice S1 m1 d1) ∧ wX.cell? ⟨g1, 3, none⟩ = some (.int .u64 (a.l.E : Int)) ∧ wX.cell? ⟨g1, 4, none⟩ = some (.slice (B1 0) (p1 0) (f1 0)) ∧ wX.cell? ⟨g1, 5, none⟩ = some (.slice (B1 1) (p1 1) (f1 1)) ∧ wX.cell? ⟨g1, 6, none⟩ = some (.slice (B1 2) (p1 2) (f1 2)) ∧ wX.cell? ⟨W.heap.size, 0, none⟩ = some (.slice A0 n0 c0) ∧ wX.cell? ⟨W.heap.size, 1, none⟩ = some (.int .u64 x.e) ∧ wX.cell? ⟨W.heap.size, 2, none⟩ = some (.slice S0 m0 d0) ∧ wX.cell? ⟨W.heap.size, 3, none⟩ = some (.int .u64 (x.l.E : Int)) ∧ wX.cell? ⟨W.heap.size, 4, none⟩ = some (.slice (B0 0) (p0 0) (f0 0)) ∧ wX.cell? ⟨W.heap.size, 5, none⟩ = some (.slice (B0 1) (p0 1) (f0 1)) ∧ wX.cell? ⟨W.heap.size, 6, none⟩ = some (.slice (B0 2) (p0 2) (f0 2)) ∧ g1 < wX.heap.size ∧ W.heap.size < wX.heap.size) (by kernel_rfl) (HSX.out _ HX.out) (fun hHeld => ?_)
  clear hHeld
  have hS0 := HSX.out _ HX.out
  generalize wT.drew = wd at *
  refine tkI (i := 0) rfl ?_
  refine tkI (i := 1) rfl ?_
  refine ryH (i := 2) rfl (fun K0 hK0 => ?_)
  go_simp
  with_reducible refine (vOwn (R0.out.below HX.out).val).mono ?_
  rintro e wa ⟨⟨v5, rfl, hv⟩, hb⟩
  rw [HCA.out] at hv
  have HV := Hi hv
  clear hv
  replace HX := bt HX hb
  clear hS0 hb
  have hS0 := HSX.out _ HX.out
  refine hK0.out _ _ hS0 (fun _ => wnH ?_)
  clear hK0 K0
  refine ryH (i := 3) rfl (fun K1 hK1 => ?_)
  go_simp
  with_reducible refine (vRSame (R1.out.below HX.out).val HV.out HFA.out.fit HFA.out.fit true (same_refl a)).mono ?_
  rintro e wb ⟨rfl, hb⟩
  replace HX := bt HX hb
  clear hS0 hb
  have hS0 := HSX.out _ HX.out
  refine hK1.out _ _ hS0 (fun _ => wnH ?_)
  clear hK1 K1
  refine tkI (i := 4) rfl ?_
  refine wpAnyH_done (by kernel_rfl) ?_ _
  go_wp2_with fail
  go_ret
  exact ⟨rfl, HB.out.trans (HX.out.mono HB.out.size)⟩
end Go.Proofs.YtkicidopjihjmaaGreat
namespace Go.Proofs.YtkicidopjihjmaaGreat
open Go Go.RowKit Go.WideShapes Go.ChangeShapes Go.ChangeAt Go.Joins
set_option maxRecDepth 100000 in
theorem epochTries_lifted (os : Os) (started : os.Started) (H : Type) (enc : TypeId × Value → H) :
  ReturnsInHanded {} Tryz.checked os 8 .any (Rows.epochTriesSpec.pre6 enc Tryz.prog Tryz.f8 Rows.epochTriesRow.domain false) (Rows.epochTriesSpec.post enc Tryz.prog Tryz.f8 false true false false) := by
 refine returnsInHanded_of_change (C := Tryz.checked) own_knob started (by kernel_rfl) Tryz.func8
  (ChangeSpec.witness6 (enc := enc) (C := Tryz.checked) false ⟨#[], #[.agg #[.slice none 0 0, .int .u64 0, .slice none 0 0, .int .u64 0, .slice none 0 0, .slice none 0 0, .slice none 0 0]], []⟩ 8 (by kernel_rfl) (by kernel_rfl) (by kernel_rfl) (by kernel_rfl)) ?_
 intro W base args ds gs before hval0 hW hcnd _
 have hval : ∀ (j : Nat) t v, Tryz.f8.params[j]? = some t → args[j]? = some v → Value.okWide Tryz.prog W .any base t v := hval0
 have hW' := hW
 obtain ⟨p, q, hA0, hV, rfl, hfz, hnd⟩ := hW
 have hA : DataW.TrodAll enc Tryz.prog W 0 (fun _ => true) true Tryz.f8.params.toList args.toList ds p := hA0
 rw [Tryz.params8] at hA hval
 obtain ⟨v0, d0, rfl, rfl, h0⟩ := trodAll_one hA
 obtain ⟨x0, hx0, hn0⟩ := open_rec (hval 0 34 v0 rfl rfl) h0
 clear hA0 hval0
 refine (Tries_walk v0 x0 W hx0 hn0).mono fun e W' ⟨he, hb⟩ => ?_
 subst he
 exact ⟨_, rfl, law_done laid_out hW' rfl (fun ds' h => by match ds', h with | [x], _ => rfl) rfl (by rw [Tryz.params8]; decide +kernel) hb (fun _ _ _ => trodAll_mk1 (shut_bool Tryz.underlying4 true)) (ok_one (by kernel_rfl) rfl (okWide_bool_mk Tryz.underlying4 true))⟩
theorem epochTries_holds : Rows.EpochTriesSaid :=
 OpenClaim.holds_of_wide 8 Tryz.f8 rfl rfl rfl rfl rfl rfl rfl ⟨rfl, rfl, rfl, rfl, rfl⟩ rfl rfl rfl rfl rfl (by kernel_rfl) Tryz.func8 (by kernel_rfl)
  (of_decide_eq_true (by kernel_rfl)) (by unfold Func.isWrapper; first | (rw [if_pos (by decide +kernel)]; kernel_rfl) | (rw [if_neg (by decide +kernel)]; exact ⟨rfl, rfl⟩))
  (fun os started H enc _ => epochTries_lifted os started H enc)
end Go.Proofs.YtkicidopjihjmaaGreat
