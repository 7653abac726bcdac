/-
  Part of a proof: ZOps says of what.
-/
import Derived.Test.YtkicidopjihjmaaGreatZOpsD
set_option maxHeartbeats 16000000
set_option linter.unusedSimpArgs false
set_option linter.unusedVariables false
namespace Go.Proofs.YtkicidopjihjmaaGreat
open Go Go.RowKit
attribute [local go_sem] via_cell via_frozen
structure WkB (W w : World) (g1 g3 : Nat) (r : Rec) : Prop where
 box : BoxR w g1 r
 ent : RowAt w g3 41 #[.int .i64 0, .int .u64 0]
 lo : W.heap.size ≤ g1 ∧ g1 < g3
 below : Below W.heap.size W w
theorem WkB.keep {W w w' : World} {g1 g3 : Nat} {r : Rec} (h : WkB W w g1 g3 r) (hb : Below w.heap.size w w') : WkB W w' g1 g3 r := ⟨h.box.below hb, h.ent.below hb, h.lo, h.below.trans (hb.mono h.below.size)⟩
theorem WkB.put {W w ww : World} {g1 g3 base : Nat} {r0 r : Rec} {A0 As : Option Addr} {n0 c0 ns cs : Nat} {A : Nat → Option Addr} {n c : Nat → Nat} (h : WkB W w g1 g3 r0) (hl : LaidF g1 w ww) (hrow : RowAt ww g1 34 (recC r.e r.l.E A0 As n0 c0 ns cs A n c)) (hr : RecF (From base) w A0 As n0 c0 ns cs A n c r) (hg : g1 < base) : WkB W ww g1 g3 r :=
 ⟨⟨A0, As, n0, c0, ns, cs, A, n, c, hrow, (hr.stay (hl.stay (fun (h : base ≤ g1) => by omega))).up (fun j (hj : base ≤ j) _ => by show j ≠ g1; omega)⟩, (hl.block _ (by have := h.lo; omega)).trans h.ent, h.lo, h.below.trans (hl.below.mono h.lo.1)⟩
theorem WkB.put2 {W w w' w2 : World} {g1 g3 ge base : Nat} {r0 r : Rec} {A0 As : Option Addr} {n0 c0 ns cs : Nat} {A : Nat → Option Addr} {n c : Nat → Nat} (h : WkB W w g1 g3 r0) (hl : LaidF g1 w w') (hl2 : LaidF ge w' w2) (hrow : RowAt w' g1 34 (recC r.e r.l.E A0 As n0 c0 ns cs A n c)) (hr : RecF (fun j => base ≤ j ∧ j ≠ ge) w A0 As n0 c0 ns cs A n c r) (hg : g1 < base) (h1 : ge ≠ g1) (h3 : ge ≠ g3) (hW : W.heap.size ≤ ge) : WkB W w2 g1 g3 r :=
 ⟨⟨A0, As, n0, c0, ns, cs, A, n, c, (hl2.block _ (Ne.symm h1)).trans hrow, (((hr.stay (hl.stay (fun h => by have h5 : base ≤ g1 := h.1; omega))).stay (hl2.stay (fun h => h.2 rfl))).up (fun j hj _ => by have h5 : base ≤ j := hj.1; show j ≠ g1; omega))⟩, (hl2.block _ (Ne.symm h3)).trans ((hl.block _ (by have := h.lo; omega)).trans h.ent), h.lo, (h.below.trans (hl.below.mono h.lo.1)).trans (hl2.below.mono hW)⟩
theorem own_up {w ww : World} {ge base n c : Nat} {At : Option Addr} {xs : List Value} (h : w.ownsRow base 41 2 (.slice At n c) n xs) (hl : LaidF ge w ww) (hlt : ∀ q, At = some q → q.block < ge) : ww.ownsRow base 41 2 (.slice At n c) n xs :=
 own_kept h (fun j hj _ => hl.block j (fun e => by
  rw [own_block] at hj
  cases At with
  | none => cases hj
  | some q => (injection hj with hj; have hj : q.block = j := hj; have := hlt q rfl; omega)))
theorem u64z : U64 0 := by unfold U64; omega
theorem RecF.val {F : Nat → Prop} {w : World} {A0 As : Option Addr} {n0 c0 ns cs : Nat} {A : Nat → Option Addr} {n c : Nat → Nat} {r : Rec} (h : RecF F w A0 As n0 c0 ns cs A n c r) : RecOut F w (.agg (recC r.e r.l.E A0 As n0 c0 ns cs A n c)) r := by
 refine ⟨A0, As, n0, c0, ns, cs, A, n, c, rfl, h⟩
theorem own_laid {w ww : World} {g base n : Nat} {v : Value} {xs : List Value} {C : Array Value} (h : w.ownsRow base 41 2 v n xs) (hrow : RowAt w g 34 C) (hl : LaidF g w ww) : ww.ownsRow base 41 2 v n xs :=
 own_kept h (fun j hj _ => hl.block j (fun e => by
  obtain ⟨_, cs, h2⟩ := own_typ h hj
  rw [e] at h2
  exact absurd (row_typ h2 hrow) (by decide)))
theorem eqEz (A1 A2 : Option Addr) (c1 c2 n1 n2 : Nat) (xs ys : List (Int × Int)) (W : World) (h1 : Rd W W.heap.size 2 A1 n1 (Cs encE xs)) (h2 : Rd W W.heap.size 2 A2 n2 (Cs encE ys)) (hx : xs.length = n1) (hy : ys.length = n2) (hl1 : n1 ≤ 4096) (hl2 : n2 ≤ 4096) (r : Bool) (hr : decide (xs = ys) = r) :
  Calls Tryz.prog 19 #[.slice A1 n1 c1, .slice A2 n2 c2] W fun e W' => e = .returned (.bool r) ∧ Below W.heap.size W W' := by
 subst hx; subst hy
 exact EqualE _ _ A1 A2 c1 c2 xs ys W h1 h2 (Nat.le_refl _) (Nat.le_refl _) hl1 hl2 r hr
set_option maxRecDepth 100000 in
theorem wakes_any (W : World) : Calls Tryz.prog 9 #[] W fun e W' => e = .returned (.bool true) ∧ Below W.heap.size W W' := by
 have HC := Hi (New_any 2 3 W)
 go_enter Tryz.func9, Tryz.ntmps9
 go_wp2_with fail
 with_reducible refine HC.out.mono ?_
 rintro e w1 ⟨⟨v, rfl, hv⟩, hb⟩
 have hv : RecOut (fun _ => True) w1 v wk0 := hv
 obtain ⟨B0, Bs, m0, d0, ms, ds, B, m, d, rfl, hr⟩ := hv
 have HV := Hi hr
 have HB1 := Hi hb
 have ke : NewK 2 3 = 0 := rfl
 rw [ke]
 clear hr hb HC ke
 go_upto_region 2 with (fail)
 have hbA := ba w1 (.cells (recC wk0.e wk0.l.E B0 Bs m0 d0 ms ds B m d) 34)
 have hbE := ba (w1.alloc (.cells (recC wk0.e wk0.l.E B0 Bs m0 d0 ms ds B m d) 34)) (.cells #[.int .i64 0, .int .u64 0] 41)
 have hsA : (w1.alloc (.cells (recC wk0.e wk0.l.E B0 Bs m0 d0 ms ds B m d) 34)).heap.size = w1.heap.size + 1 := by rw [World.size_alloc]
 have HK := Hi (show WkB W ((w1.alloc (.cells (recC wk0.e wk0.l.E B0 Bs m0 d0 ms ds B m d) 34)).alloc (.cells #[.int .i64 0, .int .u64 0] 41)) w1.heap.size (w1.heap.size + 1) wk0 from ⟨⟨B0, Bs, m0, d0, ms, ds, B, m, d, (RowAt.new w1 34 (recC wk0.e wk0.l.E B0 Bs m0 d0 ms ds B m d)).below hbE, ((HV.out.up (G := fun j => j ≠ w1.heap.size) (fun j _ hl => by show j ≠ _; omega)).below hbA).below hbE⟩, by have h := RowAt.new (w1.alloc (.cells (recC wk0.e wk0.l.E B0 Bs m0 d0 ms ds B m d) 34)) 41 #[.int .i64 0, .int .u64 0]; rw [hsA] at h; exact h, ⟨HB1.out.size, by omega⟩, (HB1.out.trans (hbA.mono HB1.out.size)).trans (hbE.mono (by have := HB1.out.size; omega))⟩)
 clear hbA hbE hsA
 go_upto_region 3 with (fail)
 skip
 obtain ⟨w3, hw3⟩ : ∃ w3, ((w1.alloc (.cells (recC wk0.e wk0.l.E B0 Bs m0 d0 ms ds B m d) 34)).alloc (.cells #[.int .i64 0, .int .u64 0] 41)) = w3 := ⟨_, rfl⟩
 rw [hw3] at HK
 rw [hw3]
 clear hw3 HV HB1
 generalize w1.heap.size + 1 = g3 at *
 generalize w1.heap.size = g1 at *
 obtain ⟨C0, Cs0, p0, f0, ps, fs, C, q, f, hrow, hrec⟩ := HK.out.box
 have HRW := Hi hrow
 have HRC := Hi hrec
 clear hrow hrec
 have HSX := Hi (fun (wX : World) (hgX : Below w3.heap.size w3 wX) => show wX.cell? ⟨g1, 0, none⟩ = some (.slice C0 p0 f0) ∧ wX.cell? ⟨g1, 1, none⟩ = some (.int .u64 wk0.e) ∧ wX.cell? ⟨g1, 2, none⟩ = some (.slice Cs0 ps fs) ∧ wX.cell? ⟨g1, 3, none⟩ = some (.int .u64 (wk0.l.E : Int)) ∧ wX.cell? ⟨g1, 4, none⟩ = some (.slice (C 0) (q 0) (f 0)) ∧ wX.cell? ⟨g1, 5, none⟩ = some (.slice (C 1) (q 1) (f 1)) ∧ wX.cell? ⟨g1, 6, none⟩ = some (.slice (C 2) (q 2) (f 2)) ∧ wX.cell? ⟨g3, 0, none⟩ = some (.int .i64 0) ∧ wX.cell? ⟨g3, 1, none⟩ = some (.int .u64 0) ∧ g1 < wX.heap.size ∧ g3 < wX.heap.size from by
  obtain ⟨z0, z1, z2, z3, z4, z5, z6⟩ := row7 HRW.out
  exact ⟨kept hgX z0, kept hgX z1, kept hgX z2, kept hgX z3, kept hgX z4, kept hgX z5, kept hgX z6, kept hgX (row20 HK.out.ent), kept hgX (row21 HK.out.ent), Nat.lt_of_lt_of_le HRW.out.lt hgX.size, Nat.lt_of_lt_of_le HK.out.ent.lt hgX.size⟩)
 have HX := Hi ((Below.refl w3.heap.size w3).drew)
 refine wp_region_Z (fun wX => wX.cell? ⟨g1, 0, none⟩ = some (.slice C0 p0 f0) ∧ wX.cell? ⟨g1, 1, none⟩ = some (.int .u64 wk0.e) ∧ wX.cell? ⟨g1, 2, none⟩ = some (.slice Cs0 ps fs) ∧ wX.cell? ⟨g1, 3, none⟩ = some (.int .u64 (wk0.l.E : Int)) ∧ wX.cell? ⟨g1, 4, none⟩ = some (.slice (C 0) (q 0) (f 0)) ∧ wX.cell? ⟨g1, 5, none⟩ = some (.slice (C 1) (q 1) (f 1)) ∧ wX.cell? ⟨g1, 6, none⟩ = some (.slice (C 2) (q 2) (f 2)) ∧ wX.cell? ⟨g3, 0, none⟩ = some (.int .i64 0) ∧ wX.cell? ⟨g3, 1, none⟩ = some (.int .u64 0) ∧ g1 < wX.heap.size ∧ g3 < wX.heap.size) 16 (by kernel_rfl) (HSX.out _ HX.out) (fun hHeld => ?_)
 clear hHeld
 have hS0 := HSX.out _ HX.out
 generalize w3.drew = wd at *
 refine tkZ (i := 0) rfl ?_
 refine tkZ (i := 1) rfl ?_
 refine tkZ (i := 3) rfl ?_
 refine tkZ (i := 5) rfl ?_
 refine tkZ (i := 7) rfl ?_
 refine wpAnyZ_one (i := 2) rfl (by kernel_rfl) (fun K0 hK0 => ?_)
 go_simp
 with_reducible refine (op_any 3 0 0 0 wd).mono ?_
 rintro e wo0 ⟨rfl, hb⟩
 replace HX := bt HX hb
 clear hS0 hb
 have hS0 := HSX.out _ HX.out
 refine hK0.out _ _ (fun _ _ => hS0) ?_
 clear hK0 K0
 (try simp only [Act.put, Na, Nb, Nc, Nd, Nx, Nf])
 refine wpAnyZ_one (i := 4) rfl (by kernel_rfl) (fun K1 hK1 => ?_)
 go_simp
 with_reducible refine (op_any 3 0 0 0 wo0).mono ?_
 rintro e wo1 ⟨rfl, hb⟩
 replace HX := bt HX hb
 clear hS0 hb
 have hS0 := HSX.out _ HX.out
 refine hK1.out _ _ (fun _ _ => hS0) ?_
 clear hK1 K1
 (try simp only [Act.put, Na, Nb, Nc, Nd, Nx, Nf])
 refine wpAnyZ_one (i := 6) rfl (by kernel_rfl) (fun K2 hK2 => ?_)
 go_simp
 with_reducible refine (op_any 1 0 0 0 wo1).mono ?_
 rintro e wo2 ⟨rfl, hb⟩
 replace HX := bt HX hb
 clear hS0 hb
 have hS0 := HSX.out _ HX.out
 refine hK2.out _ _ (fun _ _ => hS0) ?_
 clear hK2 K2
 (try simp only [Act.put, Na, Nb, Nc, Nd, Nx, Nf])
 refine wpAnyZ_one (i := 8) rfl (by kernel_rfl) (fun K3 hK3 => ?_)
 go_simp
 with_reducible refine (op_any 5 0 0 0 wo2).mono ?_
 rintro e wo3 ⟨rfl, hb⟩
 replace HX := bt HX hb
 clear hS0 hb
 have hS0 := HSX.out _ HX.out
 refine hK3.out _ _ (fun _ _ => hS0) ?_
 clear hK3 K3
 (try simp only [Act.put, Na, Nb, Nc, Nd, Nx, Nf])
 refine wpAnyZ_one (i := 9) rfl (by kernel_rfl) (fun K4 hK4 => ?_)
 go_simp
 have hb := ba wo3 (.cells #[.int .i64 3, .int .i64 0, .int .u64 0, .int .i64 0, .int .u64 0, .int .i64 3, .int .i64 0, .int .u64 0, .int .i64 0, .int .u64 0, .int .i64 1, .int .i64 0, .int .u64 0, .int .i64 0, .int .u64 0, .int .i64 5, .int .i64 0, .int .u64 0, .int .i64 0, .int .u64 0] 43)
 have HSL := Hi (show Rd (wo3.alloc (.cells #[.int .i64 3, .int .i64 0, .int .u64 0, .int .i64 0, .int .u64 0, .int .i64 3, .int .i64 0, .int .u64 0, .int .i64 0, .int .u64 0, .int .i64 1, .int .i64 0, .int .u64 0, .int .i64 0, .int .u64 0, .int .i64 5, .int .i64 0, .int .u64 0, .int .i64 0, .int .u64 0] 43)) (wo3.alloc (.cells #[.int .i64 3, .int .i64 0, .int .u64 0, .int .i64 0, .int .u64 0, .int .i64 3, .int .i64 0, .int .u64 0, .int .i64 0, .int .u64 0, .int .i64 1, .int .i64 0, .int .u64 0, .int .i64 0, .int .u64 0, .int .i64 5, .int .i64 0, .int .u64 0, .int .i64 0, .int .u64 0] 43)).heap.size 5 (some ⟨wo3.heap.size, 0, none⟩) 4 (Cs encP wkO) from (Rd.new wo3 #[.int .i64 3, .int .i64 0, .int .u64 0, .int .i64 0, .int .u64 0, .int .i64 3, .int .i64 0, .int .u64 0, .int .i64 0, .int .u64 0, .int .i64 1, .int .i64 0, .int .u64 0, .int .i64 0, .int .u64 0, .int .i64 5, .int .i64 0, .int .u64 0, .int .i64 0, .int .u64 0] 43 5 4 rfl).more (by simp))
 replace HX := bt HX hb
 clear hS0 hb
 have hS0 := HSX.out _ HX.out
 refine hK4.out _ _ (fun _ _ => hS0) ?_
 clear hK4 K4
 (try simp only [Act.put, Na, Nb, Nc, Nd, Nx, Nf])
 generalize wo3.alloc _ = wb at *
 refine wpAnyZ_one (i := 10) rfl (by kernel_rfl) (fun K5 hK5 => ?_)
 go_simp
 with_reducible refine (vRun (F := fun j => j ≠ g1) (r := wk0) (HRC.out.below HX.out).val wkF0 _ 4 4 wkO HSL.out rfl (by omega) wkOu).mono ?_
 rintro e w5 ⟨⟨v5, At, nt, ct, rfl, hv, ho, hn⟩, hb⟩
 rw [wkR1] at hv ho hn ⊢
 obtain ⟨B0, Bs, m0, d0, ms, ds, B, m, d, rfl, hr⟩ := hv
 have HV := Hi (show RecF (From wb.heap.size) w5 B0 Bs m0 d0 ms ds B m d wk1 from hr)
 have hn : 2 = nt := hn
 subst hn
 have HO := Hi (show w5.ownsRow wb.heap.size 41 2 (.slice At 2 ct) 2 (Cs encE [(0, 0), (1, 0)]) from ho)
 have HW5 := Hi (show g1 < wb.heap.size from Nat.lt_of_lt_of_le HRW.out.lt HX.out.size)
 have HHB := Hi hb
 clear hr ho
 replace HX := bt HX hb
 clear hS0 hb
 have hS0 := HSX.out _ HX.out
 refine hK5.out _ _ (fun _ _ => hS0) ?_
 clear hK5 K5
 (try simp only [Act.put, Na, Nb, Nc, Nd, Nx, Nf])
 refine tkF (i := 11) rfl (fun _ => hS0) ?_
 refine tkF (i := 12) rfl (fun _ => hS0) ?_
 refine tkF (i := 13) rfl (fun _ => hS0) ?_
 refine tkF (i := 14) rfl (fun _ => hS0) ?_
 refine tkF (i := 15) rfl (fun _ => hS0) ?_
 refine wpAnyZ_one (i := 16) rfl (by kernel_rfl) (fun K6 hK6 => ?_)
 clear hS0
 have hrw := HRW.out.below HX.out
 obtain ⟨y0, y1, y2, y3, y4, y5, y6⟩ := row7 hrw
 have yl := hrw.lt
 obtain ⟨yf0, yf1, yf2, yf3, yf4, yf5, yf6⟩ := fz hrw
 go_simp
 have HLD := Hi (lp7 w5 g1 (.slice B0 m0 d0) (.int .u64 wk1.e) (.slice Bs ms ds) (.int .u64 (wk1.l.E : Int)) (.slice (B 0) (m 0) (d 0)) (.slice (B 1) (m 1) (d 1)) (.slice (B 2) (m 2) (d 2)))
 have HRN := Hi (rp7 hrw (.slice B0 m0 d0) (.int .u64 wk1.e) (.slice Bs ms ds) (.int .u64 (wk1.l.E : Int)) (.slice (B 0) (m 0) (d 0)) (.slice (B 1) (m 1) (d 1)) (.slice (B 2) (m 2) (d 2)))
 have HK6 := Hi ((HK.out.keep HX.out).put HLD.out HRN.out HV.out HW5.out)
 have HO6 := Hi (own_laid HO.out hrw HLD.out)
 clear hrw yl y0 yf0 y1 yf1 y2 yf2 y3 yf3 y4 yf4 y5 yf5 y6 yf6
 generalize World.setCell _ _ _ = w6 at *
 refine hK6.out _ _ (fun h _ => absurd rfl h) ?_
 clear hK6 K6
 (try simp only [Act.put, Na, Nb, Nc, Nd, Nx, Nf])
 refine wpAnyZ_one (i := 17) rfl (by kernel_rfl) (fun K7 hK7 => ?_)
 go_simp
 refine hK7.out _ _ (fun _ h => Bool.noConfusion (show true = false from h)) ?_
 clear hK7 K7
 (try simp only [Act.put, Na, Nb, Nc, Nd, Nx, Nf])
 refine wpAnyZ_one (i := 18) rfl (by kernel_rfl) (fun K8 hK8 => ?_)
 go_simp
 refine hK8.out _ _ (fun _ h => Bool.noConfusion (show true = false from h)) ?_
 clear hK8 K8
 (try simp only [Act.put, Na, Nb, Nc, Nd, Nx, Nf])
 refine wpAnyZ_one (i := 19) rfl (by kernel_rfl) (fun K9 hK9 => ?_)
 go_simp
 refine hK9.out _ _ (fun _ h => Bool.noConfusion (show true = false from h)) ?_
 clear hK9 K9
 (try simp only [Act.put, Na, Nb, Nc, Nd, Nx, Nf])
 refine wpAnyZ_done (by kernel_rfl) ?_ _
 clear HLD HRN HV HO HK HX HSX HRW HRC HSL HHB HW5
 replace HO := HO6
 clear HO6
 have HK := HK6
 clear HK6
 obtain ⟨C0, Cs0, p0, f0, ps, fs, C, q, f, hrow, hrec⟩ := HK.out.box
 have HRW := Hi hrow
 have HRC := Hi hrec
 obtain ⟨z0, z1, z2, z3, z4, z5, z6⟩ := row7 hrow
 have zl := hrow.lt
 clear hrow hrec
 go_upto_region 4 with (fail)
 go_wp2_with fail
 with_reducible refine (vTry HRC.out.val wkF1).mono ?_
 rintro e wt ⟨⟨v5, A4, nt, k4, rfl, hv, ho, hn⟩, hb⟩
 rw [wkR2] at hv ho hn ⊢
 obtain ⟨B0, Bs, m0, d0, ms, ds, B, m, d, rfl, hr⟩ := hv
 have HV := Hi (show RecF (From w6.heap.size) wt B0 Bs m0 d0 ms ds B m d wk2 from hr)
 have hn : 0 = nt := hn
 subst hn
 have HON := Hi (show wt.ownsRow w6.heap.size 41 2 (.slice A4 0 k4) 0 (Cs encE []) from ho)
 have HW5 := Hi (show g1 < w6.heap.size from HRW.out.lt)
 have HKt := Hi (HK.out.keep hb)
 have HOt := Hi (own_keepB HO.out hb)
 clear HK HO hr ho z0 z1 z2 z3 z4 z5 z6 zl
 have hrw := HRW.out.below hb
 clear hb
 obtain ⟨y0, y1, y2, y3, y4, y5, y6⟩ := row7 hrw
 have yl := hrw.lt
 obtain ⟨yf0, yf1, yf2, yf3, yf4, yf5, yf6⟩ := fz hrw
 go_upto_region 5 with (fail)
 have HLD := Hi (lp7 wt g1 (.slice B0 m0 d0) (.int .u64 wk2.e) (.slice Bs ms ds) (.int .u64 (wk2.l.E : Int)) (.slice (B 0) (m 0) (d 0)) (.slice (B 1) (m 1) (d 1)) (.slice (B 2) (m 2) (d 2)))
 have HRN := Hi (rp7 hrw (.slice B0 m0 d0) (.int .u64 wk2.e) (.slice Bs ms ds) (.int .u64 (wk2.l.E : Int)) (.slice (B 0) (m 0) (d 0)) (.slice (B 1) (m 1) (d 1)) (.slice (B 2) (m 2) (d 2)))
 have HK := Hi (HKt.out.put HLD.out HRN.out HV.out HW5.out)
 have HO := Hi (own_laid HOt.out hrw HLD.out)
 have HO4 := Hi (own_laid HON.out hrw HLD.out)
 clear hrw yl y0 yf0 y1 yf1 y2 yf2 y3 yf3 y4 yf4 y5 yf5 y6 yf6
 generalize World.setCell _ _ _ = w7 at *
 clear HLD HRN HV HKt HON HRW HRC HW5 HOt
 obtain ⟨C0, Cs0, p0, f0, ps, fs, C, q, f, hrow, hrec⟩ := HK.out.box
 have HRW := Hi hrow
 have HRC := Hi hrec
 obtain ⟨z0, z1, z2, z3, z4, z5, z6⟩ := row7 hrow
 have zl := hrow.lt
 clear hrow hrec
 go_upto_region 5 with (fail)
 go_wp2_with fail
 with_reducible refine (vTry HRC.out.val wkF2).mono ?_
 rintro e wt ⟨⟨v5, A5, nt, k5, rfl, hv, ho, hn⟩, hb⟩
 rw [wkR3] at hv ho hn ⊢
 obtain ⟨B0, Bs, m0, d0, ms, ds, B, m, d, rfl, hr⟩ := hv
 have HV := Hi (show RecF (From w7.heap.size) wt B0 Bs m0 d0 ms ds B m d wk3 from hr)
 have hn : 0 = nt := hn
 subst hn
 have HON := Hi (show wt.ownsRow w7.heap.size 41 2 (.slice A5 0 k5) 0 (Cs encE []) from ho)
 have HW5 := Hi (show g1 < w7.heap.size from HRW.out.lt)
 have HKt := Hi (HK.out.keep hb)
 have HOt := Hi (own_keepB HO.out hb)
 clear HK HO hr ho z0 z1 z2 z3 z4 z5 z6 zl
 have hrw := HRW.out.below hb
 clear hb
 obtain ⟨y0, y1, y2, y3, y4, y5, y6⟩ := row7 hrw
 have yl := hrw.lt
 obtain ⟨yf0, yf1, yf2, yf3, yf4, yf5, yf6⟩ := fz hrw
 go_upto_region 6 with (fail)
 have HLD := Hi (lp7 wt g1 (.slice B0 m0 d0) (.int .u64 wk3.e) (.slice Bs ms ds) (.int .u64 (wk3.l.E : Int)) (.slice (B 0) (m 0) (d 0)) (.slice (B 1) (m 1) (d 1)) (.slice (B 2) (m 2) (d 2)))
 have HRN := Hi (rp7 hrw (.slice B0 m0 d0) (.int .u64 wk3.e) (.slice Bs ms ds) (.int .u64 (wk3.l.E : Int)) (.slice (B 0) (m 0) (d 0)) (.slice (B 1) (m 1) (d 1)) (.slice (B 2) (m 2) (d 2)))
 have HK := Hi (HKt.out.put HLD.out HRN.out HV.out HW5.out)
 have HO := Hi (own_laid HOt.out hrw HLD.out)
 have HO5 := Hi (own_laid HON.out hrw HLD.out)
 clear hrw yl y0 yf0 y1 yf1 y2 yf2 y3 yf3 y4 yf4 y5 yf5 y6 yf6
 generalize World.setCell _ _ _ = w8 at *
 clear HLD HRN HV HKt HON HRW HRC HW5 HOt
 obtain ⟨C0, Cs0, p0, f0, ps, fs, C, q, f, hrow, hrec⟩ := HK.out.box
 have HRC := Hi hrec
 obtain ⟨z0, z1, z2, z3, z4, z5, z6⟩ := row7 hrow
 have zl := hrow.lt
 clear hrow hrec
 go_upto_region 6 with (fail)
 go_wp2_with fail
 with_reducible refine (vWaits HRC.out.val wkF3.fit 1 wkR3n).mono ?_
 rintro e w9 ⟨rfl, hb⟩
 replace HK := Hi (HK.out.keep hb)
 replace HO := Hi (own_keepB HO.out hb)
 clear hb HRC z0 z1 z2 z3 z4 z5 z6 zl HO4 HO5
 go_upto_region 7 with (fail)
 go_cut [15] from 59 to 66 (fun s15 wx => s15 = .int .i64 0 ∧ WkB W wx g1 g3 wk4 ∧ wx.ownsRow wb.heap.size 41 2 (.slice At 2 ct) 2 (Cs encE [(0, 0), (1, 0)]))
 case first =>
  obtain ⟨C0, Cs0, p0, f0, ps, fs, C, q, f, hrow, hrec⟩ := HK.out.box
  have HRW := Hi hrow
  have HRC := Hi hrec
  clear hrow hrec
  have HSX := Hi (fun (wX : World) (hgX : Below w9.heap.size w9 wX) => show wX.cell? ⟨g1, 0, none⟩ = some (.slice C0 p0 f0) ∧ wX.cell? ⟨g1, 1, none⟩ = some (.int .u64 wk3.e) ∧ wX.cell? ⟨g1, 2, none⟩ = some (.slice Cs0 ps fs) ∧ wX.cell? ⟨g1, 3, none⟩ = some (.int .u64 (wk3.l.E : Int)) ∧ wX.cell? ⟨g1, 4, none⟩ = some (.slice (C 0) (q 0) (f 0)) ∧ wX.cell? ⟨g1, 5, none⟩ = some (.slice (C 1) (q 1) (f 1)) ∧ wX.cell? ⟨g1, 6, none⟩ = some (.slice (C 2) (q 2) (f 2)) ∧ wX.cell? ⟨g3, 0, none⟩ = some (.int .i64 0) ∧ wX.cell? ⟨g3, 1, none⟩ = some (.int .u64 0) ∧ g1 < wX.heap.size ∧ g3 < wX.heap.size from by
   obtain ⟨z0, z1, z2, z3, z4, z5, z6⟩ := row7 HRW.out
   exact ⟨kept hgX z0, kept hgX z1, kept hgX z2, kept hgX z3, kept hgX z4, kept hgX z5, kept hgX z6, kept hgX (row20 HK.out.ent), kept hgX (row21 HK.out.ent), Nat.lt_of_lt_of_le HRW.out.lt hgX.size, Nat.lt_of_lt_of_le HK.out.ent.lt hgX.size⟩)
  have HX := Hi ((Below.refl w9.heap.size w9).drew)
  have HOL := Hi (told_lt HO.out)
  refine wp_region_Z (fun wX => wX.cell? ⟨g1, 0, none⟩ = some (.slice C0 p0 f0) ∧ wX.cell? ⟨g1, 1, none⟩ = some (.int .u64 wk3.e) ∧ wX.cell? ⟨g1, 2, none⟩ = some (.slice Cs0 ps fs) ∧ wX.cell? ⟨g1, 3, none⟩ = some (.int .u64 (wk3.l.E : Int)) ∧ wX.cell? ⟨g1, 4, none⟩ = some (.slice (C 0) (q 0) (f 0)) ∧ wX.cell? ⟨g1, 5, none⟩ = some (.slice (C 1) (q 1) (f 1)) ∧ wX.cell? ⟨g1, 6, none⟩ = some (.slice (C 2) (q 2) (f 2)) ∧ wX.cell? ⟨g3, 0, none⟩ = some (.int .i64 0) ∧ wX.cell? ⟨g3, 1, none⟩ = some (.int .u64 0) ∧ g1 < wX.heap.size ∧ g3 < wX.heap.size) 9 (by kernel_rfl) (HSX.out _ HX.out) (fun hHeld => ?_)
  clear hHeld
  have hS0 := HSX.out _ HX.out
  generalize w9.drew = wd at *
  refine tkZ (i := 0) rfl ?_
  refine tkZ (i := 1) rfl ?_
  refine wpAnyZ_two (i := 2) (j := 8) rfl rfl (by kernel_rfl) (fun K0 hK0 => ?_) (fun K1 hK1 => ?_)
  focus
   go_simp
   with_reducible refine (op_any 2 0 0 0 wd).mono ?_
   rintro e wo0 ⟨rfl, hb⟩
   replace HX := bt HX hb
   clear hS0 hb
   have hS0 := HSX.out _ HX.out
   refine hK0.out _ _ (fun _ _ => hS0) ?_
   clear hK0 K0
   (try simp only [Act.put, Na, Nb, Nc, Nd, Nx, Nf])
   refine wpAnyZ_two (i := 3) (j := 8) rfl rfl (by kernel_rfl) (fun K2 hK2 => ?_) (fun K3 hK3 => ?_)
   focus
    go_simp
    with_reducible refine (vDo (HRC.out.below HX.out).val wkF3 ⟨2, 0, 0, (0, 0)⟩ (Int.le_refl _) u64z).mono ?_
    rintro e wc1 ⟨⟨v5, rfl, hv⟩, hb⟩
    rw [wkR4] at hv ⊢
    obtain ⟨B0, Bs, m0, d0, ms, ds, B, m, d, rfl, hr⟩ := hv
    obtain ⟨wcall, hwc⟩ : ∃ n, wo0.heap.size = n := ⟨_, rfl⟩
    have HV := Hi (show RecF (fun j => wcall ≤ j) wc1 B0 Bs m0 d0 ms ds B m d wk4 from by rw [← hwc]; exact hr)
    have HGB := Hi (show g1 < wcall from by rw [← hwc]; exact Nat.lt_of_lt_of_le HRW.out.lt HX.out.size)
    clear hr hwc
    replace HX := bt HX hb
    clear hS0 hb
    have hS0 := HSX.out _ HX.out
    refine hK2.out _ _ (fun _ _ => hS0) ?_
    clear hK2 K2
    (try simp only [Act.put, Na, Nb, Nc, Nd, Nx, Nf])
    refine tkF (i := 4) rfl (fun _ => hS0) ?_
    refine tkF (i := 5) rfl (fun _ => hS0) ?_
    refine tkF (i := 6) rfl (fun _ => hS0) ?_
    refine tkF (i := 7) rfl (fun _ => hS0) ?_
    refine wpAnyZ_one (i := 8) rfl (by kernel_rfl) (fun K4 hK4 => ?_)
    go_simp
    have hb := ba wc1 (.cells #[.int .i64 0, .int .u64 0] 41)
    have hre := RowAt.new wc1 41 #[.int .i64 0, .int .u64 0]
    have HVG := Hi ((HV.out.up (G := fun j => wcall ≤ j ∧ j ≠ wc1.heap.size) (fun j (hj : wcall ≤ j) hl => ⟨hj, by omega⟩)).below hb)
    obtain ⟨ge, hge⟩ : ∃ ge, wc1.heap.size = ge := ⟨_, rfl⟩
    have HGE := Hi (show w9.heap.size ≤ ge from by rw [← hge]; exact HX.out.size)
    have HGW := Hi (show ge < (wc1.alloc (.cells #[.int .i64 0, .int .u64 0] 41)).heap.size from by rw [World.size_alloc]; omega)
    have hX2 := HX.out.trans (hb.mono HX.out.size)
    replace HX := Hi hX2
    rw [hge] at hre HVG ⊢
    have HRE := Hi hre
    clear hX2 hS0 hre hb hge
    have hS0 := HSX.out _ HX.out
    generalize wc1.alloc _ = wa2 at *
    refine hK4.out _ _ (fun _ _ => hS0) ?_
    clear hK4 K4
    (try simp only [Act.put, Na, Nb, Nc, Nd, Nx, Nf])
    obtain ⟨zq1, hzq⟩ : ∃ w, w = wa2 := ⟨_, rfl⟩
    subst hzq
   rotate_left
   focus
    go_simp
    have hb := ba wo0 (.cells #[.int .i64 0, .int .u64 0] 41)
    have hre := RowAt.new wo0 41 #[.int .i64 0, .int .u64 0]
    obtain ⟨ge, hge⟩ : ∃ ge, wo0.heap.size = ge := ⟨_, rfl⟩
    have HGE := Hi (show w9.heap.size ≤ ge from by rw [← hge]; exact HX.out.size)
    have HGW := Hi (show ge < (wo0.alloc (.cells #[.int .i64 0, .int .u64 0] 41)).heap.size from by rw [World.size_alloc]; omega)
    have hX2 := HX.out.trans (hb.mono HX.out.size)
    replace HX := Hi hX2
    rw [hge] at hre  ⊢
    have HRE := Hi hre
    clear hX2 hS0 hre hb hge
    have hS0 := HSX.out _ HX.out
    generalize wo0.alloc _ = wa1 at *
    refine hK3.out _ _ (fun _ _ => hS0) ?_
    clear hK3 K3
    (try simp only [Act.put, Na, Nb, Nc, Nd, Nx, Nf])
    refine wpAnyZ_one (i := 3) rfl (by kernel_rfl) (fun K8 hK8 => ?_)
    go_simp
    with_reducible refine (vDo (HRC.out.below HX.out).val wkF3 ⟨2, 0, 0, (0, 0)⟩ (Int.le_refl _) u64z).mono ?_
    rintro e wc2 ⟨⟨v5, rfl, hv⟩, hb⟩
    rw [wkR4] at hv ⊢
    obtain ⟨B0, Bs, m0, d0, ms, ds, B, m, d, rfl, hr⟩ := hv
    obtain ⟨wcall, hwc⟩ : ∃ n, wa1.heap.size = n := ⟨_, rfl⟩
    have HV := Hi (show RecF (fun j => wcall ≤ j) wc2 B0 Bs m0 d0 ms ds B m d wk4 from by rw [← hwc]; exact hr)
    have HGB := Hi (show g1 < wcall from by rw [← hwc]; exact Nat.lt_of_lt_of_le HRW.out.lt HX.out.size)
    have HVG := Hi (HV.out.up (G := fun j => wcall ≤ j ∧ j ≠ ge) (fun j (hj : wcall ≤ j) _ => ⟨hj, by have := HGW.out; omega⟩))
    replace HRE := Hi (HRE.out.below hb)
    clear hr hwc
    replace HX := bt HX hb
    clear hS0 hb
    have hS0 := HSX.out _ HX.out
    refine hK8.out _ _ (fun _ _ => hS0) ?_
    clear hK8 K8
    (try simp only [Act.put, Na, Nb, Nc, Nd, Nx, Nf])
    refine tkF (i := 4) rfl (fun _ => hS0) ?_
    refine tkF (i := 5) rfl (fun _ => hS0) ?_
    refine tkF (i := 6) rfl (fun _ => hS0) ?_
    refine tkF (i := 7) rfl (fun _ => hS0) ?_
    obtain ⟨zq1, hzq⟩ : ∃ w, w = wc2 := ⟨_, rfl⟩
    subst hzq
   rotate_left
  rotate_left 2
  focus
   go_simp
   have hb := ba wd (.cells #[.int .i64 0, .int .u64 0] 41)
   have hre := RowAt.new wd 41 #[.int .i64 0, .int .u64 0]
   obtain ⟨ge, hge⟩ : ∃ ge, wd.heap.size = ge := ⟨_, rfl⟩
   have HGE := Hi (show w9.heap.size ≤ ge from by rw [← hge]; exact HX.out.size)
   have HGW := Hi (show ge < (wd.alloc (.cells #[.int .i64 0, .int .u64 0] 41)).heap.size from by rw [World.size_alloc]; omega)
   have hX2 := HX.out.trans (hb.mono HX.out.size)
   replace HX := Hi hX2
   rw [hge] at hre  ⊢
   have HRE := Hi hre
   clear hX2 hS0 hre hb hge
   have hS0 := HSX.out _ HX.out
   generalize wd.alloc _ = wa0 at *
   refine hK1.out _ _ (fun _ _ => hS0) ?_
   clear hK1 K1
   (try simp only [Act.put, Na, Nb, Nc, Nd, Nx, Nf])
   refine wpAnyZ_one (i := 2) rfl (by kernel_rfl) (fun K12 hK12 => ?_)
   go_simp
   with_reducible refine (op_any 2 0 0 0 wa0).mono ?_
   rintro e wo1 ⟨rfl, hb⟩
   have HGW2 := Hi (Nat.lt_of_lt_of_le HGW.out hb.size)
   replace HRE := Hi (HRE.out.below hb)
   replace HGW := HGW2
   clear HGW2
   replace HX := bt HX hb
   clear hS0 hb
   have hS0 := HSX.out _ HX.out
   refine hK12.out _ _ (fun _ _ => hS0) ?_
   clear hK12 K12
   (try simp only [Act.put, Na, Nb, Nc, Nd, Nx, Nf])
   refine wpAnyZ_one (i := 3) rfl (by kernel_rfl) (fun K13 hK13 => ?_)
   go_simp
   with_reducible refine (vDo (HRC.out.below HX.out).val wkF3 ⟨2, 0, 0, (0, 0)⟩ (Int.le_refl _) u64z).mono ?_
   rintro e wc2 ⟨⟨v5, rfl, hv⟩, hb⟩
   rw [wkR4] at hv ⊢
   obtain ⟨B0, Bs, m0, d0, ms, ds, B, m, d, rfl, hr⟩ := hv
   obtain ⟨wcall, hwc⟩ : ∃ n, wo1.heap.size = n := ⟨_, rfl⟩
   have HV := Hi (show RecF (fun j => wcall ≤ j) wc2 B0 Bs m0 d0 ms ds B m d wk4 from by rw [← hwc]; exact hr)
   have HGB := Hi (show g1 < wcall from by rw [← hwc]; exact Nat.lt_of_lt_of_le HRW.out.lt HX.out.size)
   have HVG := Hi (HV.out.up (G := fun j => wcall ≤ j ∧ j ≠ ge) (fun j (hj : wcall ≤ j) _ => ⟨hj, by have := HGW.out; omega⟩))
   replace HRE := Hi (HRE.out.below hb)
   clear hr hwc
   replace HX := bt HX hb
   clear hS0 hb
   have hS0 := HSX.out _ HX.out
   refine hK13.out _ _ (fun _ _ => hS0) ?_
   clear hK13 K13
   (try simp only [Act.put, Na, Nb, Nc, Nd, Nx, Nf])
   refine tkF (i := 4) rfl (fun _ => hS0) ?_
   refine tkF (i := 5) rfl (fun _ => hS0) ?_
   refine tkF (i := 6) rfl (fun _ => hS0) ?_
   refine tkF (i := 7) rfl (fun _ => hS0) ?_
   obtain ⟨zq1, hzq⟩ : ∃ w, w = wc2 := ⟨_, rfl⟩
   subst hzq
  rotate_left
  all_goals
   refine wpAnyZ_one (i := 9) rfl (by kernel_rfl) (fun K5 hK5 => ?_)
   clear hS0
   have hrw := HRW.out.below HX.out
   obtain ⟨y0, y1, y2, y3, y4, y5, y6⟩ := row7 hrw
   have yl := hrw.lt
   obtain ⟨yf0, yf1, yf2, yf3, yf4, yf5, yf6⟩ := fz hrw
   go_simp
   have HLD := Hi (lp7 zq1 g1 (.slice B0 m0 d0) (.int .u64 wk4.e) (.slice Bs ms ds) (.int .u64 (wk4.l.E : Int)) (.slice (B 0) (m 0) (d 0)) (.slice (B 1) (m 1) (d 1)) (.slice (B 2) (m 2) (d 2)))
   have HRN := Hi (rp7 hrw (.slice B0 m0 d0) (.int .u64 wk4.e) (.slice Bs ms ds) (.int .u64 (wk4.l.E : Int)) (.slice (B 0) (m 0) (d 0)) (.slice (B 1) (m 1) (d 1)) (.slice (B 2) (m 2) (d 2)))
   have HOw := Hi (own_laid (own_keepB HO.out HX.out) hrw HLD.out)
   clear hrw yl y0 yf0 y1 yf1 y2 yf2 y3 yf3 y4 yf4 y5 yf5 y6 yf6
   generalize World.setCell _ _ _ = wp at *
   refine hK5.out _ _ (fun h _ => absurd rfl h) ?_
   clear hK5 K5
   (try simp only [Act.put, Na, Nb, Nc, Nd, Nx, Nf])
   refine wpAnyZ_one (i := 10) rfl (by kernel_rfl) (fun K6 hK6 => ?_)
   have hre : RowAt wp ge 41 #[.int .i64 0, .int .u64 0] := (HLD.out.block _ (by have := HGE.out; have := HRW.out.lt; omega)).trans HRE.out
   have u0 := row20 hre
   have u1 := row21 hre
   have ul := hre.lt
   have uf0 := hre.frozen 0
   have uf1 := hre.frozen 1
   go_simp
   have HL2 := Hi (show LaidF ge wp ((wp.setCell ⟨ge, 0, none⟩ (.int .i64 0)).setCell ⟨ge, 1, none⟩ (.int .u64 0)) from (((laid0 ge _).set 0 (.int .i64 0)).set 1 (.int .u64 0)))
   clear hre u0 u1 ul uf0 uf1
   generalize (wp.setCell _ _).setCell _ _ = wq at *
   refine hK6.out _ _ (fun _ h => Bool.noConfusion (show true = false from h)) ?_
   clear hK6 K6
   (try simp only [Act.put, Na, Nb, Nc, Nd, Nx, Nf])
   refine wpAnyZ_one (i := 11) rfl (by kernel_rfl) (fun K7 hK7 => ?_)
   go_simp
   refine hK7.out _ _ (fun _ h => Bool.noConfusion (show true = false from h)) ?_
   clear hK7 K7
   (try simp only [Act.put, Na, Nb, Nc, Nd, Nx, Nf])
   refine wpAnyZ_done (by kernel_rfl) ?_ _
   go_wp2_with fail
   go_meet
   case rel => exact ⟨rfl, (HK.out.keep HX.out).put2 HLD.out HL2.out HRN.out HVG.out HGB.out (by have := HGE.out; have := HRW.out.lt; omega) (by have := HGE.out; have := HK.out.ent.lt; omega) (by have := HGE.out; have := HK.out.below.size; omega), own_up HOw.out HL2.out (fun q hq => by have := (HOL.out q hq).2; have := HGE.out; omega)⟩
 case rest =>
  rename_i K hK
  refine hK _ _ ?_
  clear hK K
  obtain ⟨wx, hwx⟩ : ∃ w, w = wc := ⟨_, rfl⟩
  subst hwx
  obtain ⟨rfl, hk, ho⟩ := hcut
  clear HK HO
  have HK := Hi hk
  have HO := Hi ho
  clear hk ho
  skip
  obtain ⟨C0, Cs0, p0, f0, ps, fs, C, q, f, hrow, hrec⟩ := HK.out.box
  have HRW := Hi hrow
  have HRC := Hi hrec
  obtain ⟨z0, z1, z2, z3, z4, z5, z6⟩ := row7 hrow
  have zl := hrow.lt
  clear hrow hrec
  go_upto_region 8 with (fail)
  go_wp2_with fail
  with_reducible refine (vTry HRC.out.val wkF4).mono ?_
  rintro e wt ⟨⟨v5, A8, nt, k8, rfl, hv, ho, hn⟩, hb⟩
  rw [wkR5] at hv ho hn ⊢
  obtain ⟨B0, Bs, m0, d0, ms, ds, B, m, d, rfl, hr⟩ := hv
  have HV := Hi (show RecF (From wx.heap.size) wt B0 Bs m0 d0 ms ds B m d wk5 from hr)
  have hn : 1 = nt := hn
  subst hn
  have HON := Hi (show wt.ownsRow wx.heap.size 41 2 (.slice A8 1 k8) 1 (Cs encE [(0, 0)]) from ho)
  have HW5 := Hi (show g1 < wx.heap.size from HRW.out.lt)
  have HKt := Hi (HK.out.keep hb)
  have HOt := Hi (own_keepB HO.out hb)
  clear HK HO hr ho z0 z1 z2 z3 z4 z5 z6 zl
  have hrw := HRW.out.below hb
  clear hb
  obtain ⟨y0, y1, y2, y3, y4, y5, y6⟩ := row7 hrw
  have yl := hrw.lt
  obtain ⟨yf0, yf1, yf2, yf3, yf4, yf5, yf6⟩ := fz hrw
  go_upto_region 9 with (fail)
  have HLD := Hi (lp7 wt g1 (.slice B0 m0 d0) (.int .u64 wk5.e) (.slice Bs ms ds) (.int .u64 (wk5.l.E : Int)) (.slice (B 0) (m 0) (d 0)) (.slice (B 1) (m 1) (d 1)) (.slice (B 2) (m 2) (d 2)))
  have HRN := Hi (rp7 hrw (.slice B0 m0 d0) (.int .u64 wk5.e) (.slice Bs ms ds) (.int .u64 (wk5.l.E : Int)) (.slice (B 0) (m 0) (d 0)) (.slice (B 1) (m 1) (d 1)) (.slice (B 2) (m 2) (d 2)))
  have HK := Hi (HKt.out.put HLD.out HRN.out HV.out HW5.out)
  have HO := Hi (own_laid HOt.out hrw HLD.out)
  have HO8 := Hi (own_laid HON.out hrw HLD.out)
  clear hrw yl y0 yf0 y1 yf1 y2 yf2 y3 yf3 y4 yf4 y5 yf5 y6 yf6
  generalize World.setCell _ _ _ = wy at *
  clear HLD HRN HV HKt HON HRW HRC HW5 HOt
  go_cut [21] from 74 to 81 (fun s21 wx => s21 = .int .i64 4 ∧ Below wy.heap.size wy wx)
  case first =>
   obtain ⟨C0, Cs0, p0, f0, ps, fs, C, q, f, hrow, hrec⟩ := HK.out.box
   have HRW := Hi hrow
   have HRC := Hi hrec
   clear hrow hrec
   have HSX := Hi (fun (wX : World) (hgX : Below wy.heap.size wy wX) => show wX.cell? ⟨g1, 0, none⟩ = some (.slice C0 p0 f0) ∧ wX.cell? ⟨g1, 1, none⟩ = some (.int .u64 wk5.e) ∧ wX.cell? ⟨g1, 2, none⟩ = some (.slice Cs0 ps fs) ∧ wX.cell? ⟨g1, 3, none⟩ = some (.int .u64 (wk5.l.E : Int)) ∧ wX.cell? ⟨g1, 4, none⟩ = some (.slice (C 0) (q 0) (f 0)) ∧ wX.cell? ⟨g1, 5, none⟩ = some (.slice (C 1) (q 1) (f 1)) ∧ wX.cell? ⟨g1, 6, none⟩ = some (.slice (C 2) (q 2) (f 2)) ∧ wX.cell? ⟨g3, 0, none⟩ = some (.int .i64 0) ∧ wX.cell? ⟨g3, 1, none⟩ = some (.int .u64 0) ∧ g1 < wX.heap.size ∧ g3 < wX.heap.size from by
    obtain ⟨z0, z1, z2, z3, z4, z5, z6⟩ := row7 HRW.out
    exact ⟨kept hgX z0, kept hgX z1, kept hgX z2, kept hgX z3, kept hgX z4, kept hgX z5, kept hgX z6, kept hgX (row20 HK.out.ent), kept hgX (row21 HK.out.ent), Nat.lt_of_lt_of_le HRW.out.lt hgX.size, Nat.lt_of_lt_of_le HK.out.ent.lt hgX.size⟩)
   have HX := Hi ((Below.refl wy.heap.size wy).drew)
   refine wp_region_held_drew (S := fun wX => wX.cell? ⟨g1, 0, none⟩ = some (.slice C0 p0 f0) ∧ wX.cell? ⟨g1, 1, none⟩ = some (.int .u64 wk5.e) ∧ wX.cell? ⟨g1, 2, none⟩ = some (.slice Cs0 ps fs) ∧ wX.cell? ⟨g1, 3, none⟩ = some (.int .u64 (wk5.l.E : Int)) ∧ wX.cell? ⟨g1, 4, none⟩ = some (.slice (C 0) (q 0) (f 0)) ∧ wX.cell? ⟨g1, 5, none⟩ = some (.slice (C 1) (q 1) (f 1)) ∧ wX.cell? ⟨g1, 6, none⟩ = some (.slice (C 2) (q 2) (f 2)) ∧ wX.cell? ⟨g3, 0, none⟩ = some (.int .i64 0) ∧ wX.cell? ⟨g3, 1, none⟩ = some (.int .u64 0) ∧ g1 < wX.heap.size ∧ g3 < wX.heap.size) (by kernel_rfl) (HSX.out _ HX.out) (fun hHeld => ?_)
   clear hHeld
   have hS0 := HSX.out _ HX.out
   generalize wy.drew = wd at *
   refine tkI (i := 0) rfl ?_
   refine tkI (i := 1) rfl ?_
   refine wpAnyH_ready (rs := [2, 8, 9]) (by kernel_rfl) (by simp) ?_
   refine (AllReadyH.cons rfl (fun K0 hK0 => ?_) (AllReadyH.cons rfl (fun K1 hK1 => ?_) (AllReadyH.cons rfl (fun K2 hK2 => ?_) AllReadyH.nil)))
   focus
    go_simp
    with_reducible refine (op_any 6 0 0 0 wd).mono ?_
    rintro e wo0 ⟨rfl, hb⟩
    replace HX := bt HX hb
    clear hS0 hb
    have hS0 := HSX.out _ HX.out
    refine hK0.out _ _ hS0 (fun _ => wnH ?_)
    clear hK0 K0
    refine wpAnyH_ready (rs := [3, 8, 9]) (by kernel_rfl) (by simp) ?_
    refine (AllReadyH.cons rfl (fun K3 hK3 => ?_) (AllReadyH.cons rfl (fun K4 hK4 => ?_) (AllReadyH.cons rfl (fun K5 hK5 => ?_) AllReadyH.nil)))
    focus
     go_simp
     with_reducible refine (vDo (HRC.out.below HX.out).val wkF5 ⟨6, 0, 0, (0, 0)⟩ (Int.le_refl _) u64z).mono ?_
     rintro e wo1 ⟨⟨v5, rfl, hv⟩, hb⟩
     rw [wkR6] at hv ⊢
     obtain ⟨B0, Bs, m0, d0, ms, ds, B, m, d, rfl, hr⟩ := hv
     clear hr
     replace HX := bt HX hb
     clear hS0 hb
     have hS0 := HSX.out _ HX.out
     refine hK3.out _ _ hS0 (fun _ => wnH ?_)
     clear hK3 K3
     refine tkI (i := 4) rfl ?_
     refine tkI (i := 5) rfl ?_
     refine tkI (i := 6) rfl ?_
     refine tkI (i := 7) rfl ?_
     refine wpAnyH_ready (rs := [8, 9]) (by kernel_rfl) (by simp) ?_
     refine (AllReadyH.cons rfl (fun K6 hK6 => ?_) (AllReadyH.cons rfl (fun K7 hK7 => ?_) AllReadyH.nil))
     focus
      go_simp
      have hb := ba wo1 (.cells #[.slice none 0 0, .int .u64 0, .slice none 0 0, .int .u64 0, .slice none 0 0, .slice none 0 0, .slice none 0 0] 34)
      have hre := RowAt.new wo1 34 #[.slice none 0 0, .int .u64 0, .slice none 0 0, .int .u64 0, .slice none 0 0, .slice none 0 0, .slice none 0 0]
      obtain ⟨ga, hge⟩ : ∃ g, wo1.heap.size = g := ⟨_, rfl⟩
      have HGA := Hi (show wy.heap.size ≤ ga from by rw [← hge]; exact HX.out.size)
      have hX2 := HX.out.trans (hb.mono HX.out.size)
      replace HX := Hi hX2
      rw [hge] at hre ⊢
      have HRA := Hi hre
      clear hX2 hS0 hre hb hge
      have hS0 := HSX.out _ HX.out
      generalize wo1.alloc _ = wa2 at *
      refine hK6.out _ _ hS0 (fun _ => wnH ?_)
      clear hK6 K6
      refine ryH (i := 9) rfl (fun K8 hK8 => ?_)
      go_simp
      have hb := ba wa2 (.cells #[.int .i64 0, .int .u64 0] 41)
      have hre := RowAt.new wa2 41 #[.int .i64 0, .int .u64 0]
      replace HRA := Hi (HRA.out.below hb)
      obtain ⟨gb, hge⟩ : ∃ g, wa2.heap.size = g := ⟨_, rfl⟩
      have HGB := Hi (show wy.heap.size ≤ gb from by rw [← hge]; exact HX.out.size)
      have hX2 := HX.out.trans (hb.mono HX.out.size)
      replace HX := Hi hX2
      rw [hge] at hre ⊢
      have HRB := Hi hre
      clear hX2 hS0 hre hb hge
      have hS0 := HSX.out _ HX.out
      generalize wa2.alloc _ = wa3 at *
      refine hK8.out _ _ hS0 (fun _ => wnH ?_)
      clear hK8 K8
      obtain ⟨zq2, hzq⟩ : ∃ w, w = wa3 := ⟨_, rfl⟩
      subst hzq
     rotate_left
     focus
      go_simp
      have hb := ba wo1 (.cells #[.int .i64 0, .int .u64 0] 41)
      have hre := RowAt.new wo1 41 #[.int .i64 0, .int .u64 0]
      obtain ⟨gb, hge⟩ : ∃ g, wo1.heap.size = g := ⟨_, rfl⟩
      have HGB := Hi (show wy.heap.size ≤ gb from by rw [← hge]; exact HX.out.size)
      have hX2 := HX.out.trans (hb.mono HX.out.size)
      replace HX := Hi hX2
      rw [hge] at hre ⊢
      have HRB := Hi hre
      clear hX2 hS0 hre hb hge
      have hS0 := HSX.out _ HX.out
      generalize wo1.alloc _ = wa2 at *
      refine hK7.out _ _ hS0 (fun _ => wnH ?_)
      clear hK7 K7
      refine ryH (i := 8) rfl (fun K12 hK12 => ?_)
      go_simp
      have hb := ba wa2 (.cells #[.slice none 0 0, .int .u64 0, .slice none 0 0, .int .u64 0, .slice none 0 0, .slice none 0 0, .slice none 0 0] 34)
      have hre := RowAt.new wa2 34 #[.slice none 0 0, .int .u64 0, .slice none 0 0, .int .u64 0, .slice none 0 0, .slice none 0 0, .slice none 0 0]
      replace HRB := Hi (HRB.out.below hb)
      obtain ⟨ga, hge⟩ : ∃ g, wa2.heap.size = g := ⟨_, rfl⟩
      have HGA := Hi (show wy.heap.size ≤ ga from by rw [← hge]; exact HX.out.size)
      have hX2 := HX.out.trans (hb.mono HX.out.size)
      replace HX := Hi hX2
      rw [hge] at hre ⊢
      have HRA := Hi hre
      clear hX2 hS0 hre hb hge
      have hS0 := HSX.out _ HX.out
      generalize wa2.alloc _ = wa3 at *
      refine hK12.out _ _ hS0 (fun _ => wnH ?_)
      clear hK12 K12
      obtain ⟨zq2, hzq⟩ : ∃ w, w = wa3 := ⟨_, rfl⟩
      subst hzq
     rotate_left
    rotate_left 2
    focus
     go_simp
     have hb := ba wo0 (.cells #[.slice none 0 0, .int .u64 0, .slice none 0 0, .int .u64 0, .slice none 0 0, .slice none 0 0, .slice none 0 0] 34)
     have hre := RowAt.new wo0 34 #[.slice none 0 0, .int .u64 0, .slice none 0 0, .int .u64 0, .slice none 0 0, .slice none 0 0, .slice none 0 0]
     obtain ⟨ga, hge⟩ : ∃ g, wo0.heap.size = g := ⟨_, rfl⟩
     have HGA := Hi (show wy.heap.size ≤ ga from by rw [← hge]; exact HX.out.size)
     have hX2 := HX.out.trans (hb.mono HX.out.size)
     replace HX := Hi hX2
     rw [hge] at hre ⊢
     have HRA := Hi hre
     clear hX2 hS0 hre hb hge
     have hS0 := HSX.out _ HX.out
     generalize wo0.alloc _ = wa1 at *
     refine hK4.out _ _ hS0 (fun _ => wnH ?_)
     clear hK4 K4
     refine wpAnyH_ready (rs := [3, 9]) (by kernel_rfl) (by simp) ?_
     refine (AllReadyH.cons rfl (fun K16 hK16 => ?_) (AllReadyH.cons rfl (fun K17 hK17 => ?_) AllReadyH.nil))
     focus
      go_simp
      with_reducible refine (vDo (HRC.out.below HX.out).val wkF5 ⟨6, 0, 0, (0, 0)⟩ (Int.le_refl _) u64z).mono ?_
      rintro e wo2 ⟨⟨v5, rfl, hv⟩, hb⟩
      rw [wkR6] at hv ⊢
      obtain ⟨B0, Bs, m0, d0, ms, ds, B, m, d, rfl, hr⟩ := hv
      clear hr
      replace HRA := Hi (HRA.out.below hb)
      replace HX := bt HX hb
      clear hS0 hb
      have hS0 := HSX.out _ HX.out
      refine hK16.out _ _ hS0 (fun _ => wnH ?_)
      clear hK16 K16
      refine tkI (i := 4) rfl ?_
      refine tkI (i := 5) rfl ?_
      refine tkI (i := 6) rfl ?_
      refine tkI (i := 7) rfl ?_
      refine ryH (i := 9) rfl (fun K18 hK18 => ?_)
      go_simp
      have hb := ba wo2 (.cells #[.int .i64 0, .int .u64 0] 41)
      have hre := RowAt.new wo2 41 #[.int .i64 0, .int .u64 0]
      replace HRA := Hi (HRA.out.below hb)
      obtain ⟨gb, hge⟩ : ∃ g, wo2.heap.size = g := ⟨_, rfl⟩
      have HGB := Hi (show wy.heap.size ≤ gb from by rw [← hge]; exact HX.out.size)
      have hX2 := HX.out.trans (hb.mono HX.out.size)
      replace HX := Hi hX2
      rw [hge] at hre ⊢
      have HRB := Hi hre
      clear hX2 hS0 hre hb hge
      have hS0 := HSX.out _ HX.out
      generalize wo2.alloc _ = wa3 at *
      refine hK18.out _ _ hS0 (fun _ => wnH ?_)
      clear hK18 K18
      obtain ⟨zq2, hzq⟩ : ∃ w, w = wa3 := ⟨_, rfl⟩
      subst hzq
     rotate_left
     focus
      go_simp
      have hb := ba wa1 (.cells #[.int .i64 0, .int .u64 0] 41)
      have hre := RowAt.new wa1 41 #[.int .i64 0, .int .u64 0]
      replace HRA := Hi (HRA.out.below hb)
      obtain ⟨gb, hge⟩ : ∃ g, wa1.heap.size = g := ⟨_, rfl⟩
      have HGB := Hi (show wy.heap.size ≤ gb from by rw [← hge]; exact HX.out.size)
      have hX2 := HX.out.trans (hb.mono HX.out.size)
      replace HX := Hi hX2
      rw [hge] at hre ⊢
      have HRB := Hi hre
      clear hX2 hS0 hre hb hge
      have hS0 := HSX.out _ HX.out
      generalize wa1.alloc _ = wa2 at *
      refine hK17.out _ _ hS0 (fun _ => wnH ?_)
      clear hK17 K17
      refine ryH (i := 3) rfl (fun K22 hK22 => ?_)
      go_simp
      with_reducible refine (vDo (HRC.out.below HX.out).val wkF5 ⟨6, 0, 0, (0, 0)⟩ (Int.le_refl _) u64z).mono ?_
      rintro e wo3 ⟨⟨v5, rfl, hv⟩, hb⟩
      rw [wkR6] at hv ⊢
      obtain ⟨B0, Bs, m0, d0, ms, ds, B, m, d, rfl, hr⟩ := hv
      clear hr
      replace HRA := Hi (HRA.out.below hb)
      replace HRB := Hi (HRB.out.below hb)
      replace HX := bt HX hb
      clear hS0 hb
      have hS0 := HSX.out _ HX.out
      refine hK22.out _ _ hS0 (fun _ => wnH ?_)
      clear hK22 K22
      refine tkI (i := 4) rfl ?_
      refine tkI (i := 5) rfl ?_
      refine tkI (i := 6) rfl ?_
      refine tkI (i := 7) rfl ?_
      obtain ⟨zq2, hzq⟩ : ∃ w, w = wo3 := ⟨_, rfl⟩
      subst hzq
     rotate_left
    rotate_left 2
    focus
     go_simp
     have hb := ba wo0 (.cells #[.int .i64 0, .int .u64 0] 41)
     have hre := RowAt.new wo0 41 #[.int .i64 0, .int .u64 0]
     obtain ⟨gb, hge⟩ : ∃ g, wo0.heap.size = g := ⟨_, rfl⟩
     have HGB := Hi (show wy.heap.size ≤ gb from by rw [← hge]; exact HX.out.size)
     have hX2 := HX.out.trans (hb.mono HX.out.size)
     replace HX := Hi hX2
     rw [hge] at hre ⊢
     have HRB := Hi hre
     clear hX2 hS0 hre hb hge
     have hS0 := HSX.out _ HX.out
     generalize wo0.alloc _ = wa1 at *
     refine hK5.out _ _ hS0 (fun _ => wnH ?_)
     clear hK5 K5
     refine wpAnyH_ready (rs := [3, 8]) (by kernel_rfl) (by simp) ?_
     refine (AllReadyH.cons rfl (fun K26 hK26 => ?_) (AllReadyH.cons rfl (fun K27 hK27 => ?_) AllReadyH.nil))
     focus
      go_simp
      with_reducible refine (vDo (HRC.out.below HX.out).val wkF5 ⟨6, 0, 0, (0, 0)⟩ (Int.le_refl _) u64z).mono ?_
      rintro e wo2 ⟨⟨v5, rfl, hv⟩, hb⟩
      rw [wkR6] at hv ⊢
      obtain ⟨B0, Bs, m0, d0, ms, ds, B, m, d, rfl, hr⟩ := hv
      clear hr
      replace HRB := Hi (HRB.out.below hb)
      replace HX := bt HX hb
      clear hS0 hb
      have hS0 := HSX.out _ HX.out
      refine hK26.out _ _ hS0 (fun _ => wnH ?_)
      clear hK26 K26
      refine tkI (i := 4) rfl ?_
      refine tkI (i := 5) rfl ?_
      refine tkI (i := 6) rfl ?_
      refine tkI (i := 7) rfl ?_
      refine ryH (i := 8) rfl (fun K28 hK28 => ?_)
      go_simp
      have hb := ba wo2 (.cells #[.slice none 0 0, .int .u64 0, .slice none 0 0, .int .u64 0, .slice none 0 0, .slice none 0 0, .slice none 0 0] 34)
      have hre := RowAt.new wo2 34 #[.slice none 0 0, .int .u64 0, .slice none 0 0, .int .u64 0, .slice none 0 0, .slice none 0 0, .slice none 0 0]
      replace HRB := Hi (HRB.out.below hb)
      obtain ⟨ga, hge⟩ : ∃ g, wo2.heap.size = g := ⟨_, rfl⟩
      have HGA := Hi (show wy.heap.size ≤ ga from by rw [← hge]; exact HX.out.size)
      have hX2 := HX.out.trans (hb.mono HX.out.size)
      replace HX := Hi hX2
      rw [hge] at hre ⊢
      have HRA := Hi hre
      clear hX2 hS0 hre hb hge
      have hS0 := HSX.out _ HX.out
      generalize wo2.alloc _ = wa3 at *
      refine hK28.out _ _ hS0 (fun _ => wnH ?_)
      clear hK28 K28
      obtain ⟨zq2, hzq⟩ : ∃ w, w = wa3 := ⟨_, rfl⟩
      subst hzq
     rotate_left
     focus
      go_simp
      have hb := ba wa1 (.cells #[.slice none 0 0, .int .u64 0, .slice none 0 0, .int .u64 0, .slice none 0 0, .slice none 0 0, .slice none 0 0] 34)
      have hre := RowAt.new wa1 34 #[.slice none 0 0, .int .u64 0, .slice none 0 0, .int .u64 0, .slice none 0 0, .slice none 0 0, .slice none 0 0]
      replace HRB := Hi (HRB.out.below hb)
      obtain ⟨ga, hge⟩ : ∃ g, wa1.heap.size = g := ⟨_, rfl⟩
      have HGA := Hi (show wy.heap.size ≤ ga from by rw [← hge]; exact HX.out.size)
      have hX2 := HX.out.trans (hb.mono HX.out.size)
      replace HX := Hi hX2
      rw [hge] at hre ⊢
      have HRA := Hi hre
      clear hX2 hS0 hre hb hge
      have hS0 := HSX.out _ HX.out
      generalize wa1.alloc _ = wa2 at *
      refine hK27.out _ _ hS0 (fun _ => wnH ?_)
      clear hK27 K27
      refine ryH (i := 3) rfl (fun K32 hK32 => ?_)
      go_simp
      with_reducible refine (vDo (HRC.out.below HX.out).val wkF5 ⟨6, 0, 0, (0, 0)⟩ (Int.le_refl _) u64z).mono ?_
      rintro e wo3 ⟨⟨v5, rfl, hv⟩, hb⟩
      rw [wkR6] at hv ⊢
      obtain ⟨B0, Bs, m0, d0, ms, ds, B, m, d, rfl, hr⟩ := hv
      clear hr
      replace HRA := Hi (HRA.out.below hb)
      replace HRB := Hi (HRB.out.below hb)
      replace HX := bt HX hb
      clear hS0 hb
      have hS0 := HSX.out _ HX.out
      refine hK32.out _ _ hS0 (fun _ => wnH ?_)
      clear hK32 K32
      refine tkI (i := 4) rfl ?_
      refine tkI (i := 5) rfl ?_
      refine tkI (i := 6) rfl ?_
      refine tkI (i := 7) rfl ?_
      obtain ⟨zq2, hzq⟩ : ∃ w, w = wo3 := ⟨_, rfl⟩
      subst hzq
     rotate_left
    rotate_left 2
   rotate_left 6
   focus
    go_simp
    have hb := ba wd (.cells #[.slice none 0 0, .int .u64 0, .slice none 0 0, .int .u64 0, .slice none 0 0, .slice none 0 0, .slice none 0 0] 34)
    have hre := RowAt.new wd 34 #[.slice none 0 0, .int .u64 0, .slice none 0 0, .int .u64 0, .slice none 0 0, .slice none 0 0, .slice none 0 0]
    obtain ⟨ga, hge⟩ : ∃ g, wd.heap.size = g := ⟨_, rfl⟩
    have HGA := Hi (show wy.heap.size ≤ ga from by rw [← hge]; exact HX.out.size)
    have hX2 := HX.out.trans (hb.mono HX.out.size)
    replace HX := Hi hX2
    rw [hge] at hre ⊢
    have HRA := Hi hre
    clear hX2 hS0 hre hb hge
    have hS0 := HSX.out _ HX.out
    generalize wd.alloc _ = wa0 at *
    refine hK1.out _ _ hS0 (fun _ => wnH ?_)
    clear hK1 K1
    refine wpAnyH_ready (rs := [2, 9]) (by kernel_rfl) (by simp) ?_
    refine (AllReadyH.cons rfl (fun K36 hK36 => ?_) (AllReadyH.cons rfl (fun K37 hK37 => ?_) AllReadyH.nil))
    focus
     go_simp
     with_reducible refine (op_any 6 0 0 0 wa0).mono ?_
     rintro e wo1 ⟨rfl, hb⟩
     replace HRA := Hi (HRA.out.below hb)
     replace HX := bt HX hb
     clear hS0 hb
     have hS0 := HSX.out _ HX.out
     refine hK36.out _ _ hS0 (fun _ => wnH ?_)
     clear hK36 K36
     refine wpAnyH_ready (rs := [3, 9]) (by kernel_rfl) (by simp) ?_
     refine (AllReadyH.cons rfl (fun K38 hK38 => ?_) (AllReadyH.cons rfl (fun K39 hK39 => ?_) AllReadyH.nil))
     focus
      go_simp
      with_reducible refine (vDo (HRC.out.below HX.out).val wkF5 ⟨6, 0, 0, (0, 0)⟩ (Int.le_refl _) u64z).mono ?_
      rintro e wo2 ⟨⟨v5, rfl, hv⟩, hb⟩
      rw [wkR6] at hv ⊢
      obtain ⟨B0, Bs, m0, d0, ms, ds, B, m, d, rfl, hr⟩ := hv
      clear hr
      replace HRA := Hi (HRA.out.below hb)
      replace HX := bt HX hb
      clear hS0 hb
      have hS0 := HSX.out _ HX.out
      refine hK38.out _ _ hS0 (fun _ => wnH ?_)
      clear hK38 K38
      refine tkI (i := 4) rfl ?_
      refine tkI (i := 5) rfl ?_
      refine tkI (i := 6) rfl ?_
      refine tkI (i := 7) rfl ?_
      refine ryH (i := 9) rfl (fun K40 hK40 => ?_)
      go_simp
      have hb := ba wo2 (.cells #[.int .i64 0, .int .u64 0] 41)
      have hre := RowAt.new wo2 41 #[.int .i64 0, .int .u64 0]
      replace HRA := Hi (HRA.out.below hb)
      obtain ⟨gb, hge⟩ : ∃ g, wo2.heap.size = g := ⟨_, rfl⟩
      have HGB := Hi (show wy.heap.size ≤ gb from by rw [← hge]; exact HX.out.size)
      have hX2 := HX.out.trans (hb.mono HX.out.size)
      replace HX := Hi hX2
      rw [hge] at hre ⊢
      have HRB := Hi hre
      clear hX2 hS0 hre hb hge
      have hS0 := HSX.out _ HX.out
      generalize wo2.alloc _ = wa3 at *
      refine hK40.out _ _ hS0 (fun _ => wnH ?_)
      clear hK40 K40
      obtain ⟨zq2, hzq⟩ : ∃ w, w = wa3 := ⟨_, rfl⟩
      subst hzq
     rotate_left
     focus
      go_simp
      have hb := ba wo1 (.cells #[.int .i64 0, .int .u64 0] 41)
      have hre := RowAt.new wo1 41 #[.int .i64 0, .int .u64 0]
      replace HRA := Hi (HRA.out.below hb)
      obtain ⟨gb, hge⟩ : ∃ g, wo1.heap.size = g := ⟨_, rfl⟩
      have HGB := Hi (show wy.heap.size ≤ gb from by rw [← hge]; exact HX.out.size)
      have hX2 := HX.out.trans (hb.mono HX.out.size)
      replace HX := Hi hX2
      rw [hge] at hre ⊢
      have HRB := Hi hre
      clear hX2 hS0 hre hb hge
      have hS0 := HSX.out _ HX.out
      generalize wo1.alloc _ = wa2 at *
      refine hK39.out _ _ hS0 (fun _ => wnH ?_)
      clear hK39 K39
      refine ryH (i := 3) rfl (fun K44 hK44 => ?_)
      go_simp
      with_reducible refine (vDo (HRC.out.below HX.out).val wkF5 ⟨6, 0, 0, (0, 0)⟩ (Int.le_refl _) u64z).mono ?_
      rintro e wo3 ⟨⟨v5, rfl, hv⟩, hb⟩
      rw [wkR6] at hv ⊢
      obtain ⟨B0, Bs, m0, d0, ms, ds, B, m, d, rfl, hr⟩ := hv
      clear hr
      replace HRA := Hi (HRA.out.below hb)
      replace HRB := Hi (HRB.out.below hb)
      replace HX := bt HX hb
      clear hS0 hb
      have hS0 := HSX.out _ HX.out
      refine hK44.out _ _ hS0 (fun _ => wnH ?_)
      clear hK44 K44
      refine tkI (i := 4) rfl ?_
      refine tkI (i := 5) rfl ?_
      refine tkI (i := 6) rfl ?_
      refine tkI (i := 7) rfl ?_
      obtain ⟨zq2, hzq⟩ : ∃ w, w = wo3 := ⟨_, rfl⟩
      subst hzq
     rotate_left
    rotate_left 2
    focus
     go_simp
     have hb := ba wa0 (.cells #[.int .i64 0, .int .u64 0] 41)
     have hre := RowAt.new wa0 41 #[.int .i64 0, .int .u64 0]
     replace HRA := Hi (HRA.out.below hb)
     obtain ⟨gb, hge⟩ : ∃ g, wa0.heap.size = g := ⟨_, rfl⟩
     have HGB := Hi (show wy.heap.size ≤ gb from by rw [← hge]; exact HX.out.size)
     have hX2 := HX.out.trans (hb.mono HX.out.size)
     replace HX := Hi hX2
     rw [hge] at hre ⊢
     have HRB := Hi hre
     clear hX2 hS0 hre hb hge
     have hS0 := HSX.out _ HX.out
     generalize wa0.alloc _ = wa1 at *
     refine hK37.out _ _ hS0 (fun _ => wnH ?_)
     clear hK37 K37
     refine ryH (i := 2) rfl (fun K48 hK48 => ?_)
     go_simp
     with_reducible refine (op_any 6 0 0 0 wa1).mono ?_
     rintro e wo2 ⟨rfl, hb⟩
     replace HRA := Hi (HRA.out.below hb)
     replace HRB := Hi (HRB.out.below hb)
     replace HX := bt HX hb
     clear hS0 hb
     have hS0 := HSX.out _ HX.out
     refine hK48.out _ _ hS0 (fun _ => wnH ?_)
     clear hK48 K48
     refine ryH (i := 3) rfl (fun K49 hK49 => ?_)
     go_simp
     with_reducible refine (vDo (HRC.out.below HX.out).val wkF5 ⟨6, 0, 0, (0, 0)⟩ (Int.le_refl _) u64z).mono ?_
     rintro e wo3 ⟨⟨v5, rfl, hv⟩, hb⟩
     rw [wkR6] at hv ⊢
     obtain ⟨B0, Bs, m0, d0, ms, ds, B, m, d, rfl, hr⟩ := hv
     clear hr
     replace HRA := Hi (HRA.out.below hb)
     replace HRB := Hi (HRB.out.below hb)
     replace HX := bt HX hb
     clear hS0 hb
     have hS0 := HSX.out _ HX.out
     refine hK49.out _ _ hS0 (fun _ => wnH ?_)
     clear hK49 K49
     refine tkI (i := 4) rfl ?_
     refine tkI (i := 5) rfl ?_
     refine tkI (i := 6) rfl ?_
     refine tkI (i := 7) rfl ?_
     obtain ⟨zq2, hzq⟩ : ∃ w, w = wo3 := ⟨_, rfl⟩
     subst hzq
    rotate_left
   rotate_left 3
   focus
    go_simp
    have hb := ba wd (.cells #[.int .i64 0, .int .u64 0] 41)
    have hre := RowAt.new wd 41 #[.int .i64 0, .int .u64 0]
    obtain ⟨gb, hge⟩ : ∃ g, wd.heap.size = g := ⟨_, rfl⟩
    have HGB := Hi (show wy.heap.size ≤ gb from by rw [← hge]; exact HX.out.size)
    have hX2 := HX.out.trans (hb.mono HX.out.size)
    replace HX := Hi hX2
    rw [hge] at hre ⊢
    have HRB := Hi hre
    clear hX2 hS0 hre hb hge
    have hS0 := HSX.out _ HX.out
    generalize wd.alloc _ = wa0 at *
    refine hK2.out _ _ hS0 (fun _ => wnH ?_)
    clear hK2 K2
    refine wpAnyH_ready (rs := [2, 8]) (by kernel_rfl) (by simp) ?_
    refine (AllReadyH.cons rfl (fun K53 hK53 => ?_) (AllReadyH.cons rfl (fun K54 hK54 => ?_) AllReadyH.nil))
    focus
     go_simp
     with_reducible refine (op_any 6 0 0 0 wa0).mono ?_
     rintro e wo1 ⟨rfl, hb⟩
     replace HRB := Hi (HRB.out.below hb)
     replace HX := bt HX hb
     clear hS0 hb
     have hS0 := HSX.out _ HX.out
     refine hK53.out _ _ hS0 (fun _ => wnH ?_)
     clear hK53 K53
     refine wpAnyH_ready (rs := [3, 8]) (by kernel_rfl) (by simp) ?_
     refine (AllReadyH.cons rfl (fun K55 hK55 => ?_) (AllReadyH.cons rfl (fun K56 hK56 => ?_) AllReadyH.nil))
     focus
      go_simp
      with_reducible refine (vDo (HRC.out.below HX.out).val wkF5 ⟨6, 0, 0, (0, 0)⟩ (Int.le_refl _) u64z).mono ?_
      rintro e wo2 ⟨⟨v5, rfl, hv⟩, hb⟩
      rw [wkR6] at hv ⊢
      obtain ⟨B0, Bs, m0, d0, ms, ds, B, m, d, rfl, hr⟩ := hv
      clear hr
      replace HRB := Hi (HRB.out.below hb)
      replace HX := bt HX hb
      clear hS0 hb
      have hS0 := HSX.out _ HX.out
      refine hK55.out _ _ hS0 (fun _ => wnH ?_)
      clear hK55 K55
      refine tkI (i := 4) rfl ?_
      refine tkI (i := 5) rfl ?_
      refine tkI (i := 6) rfl ?_
      refine tkI (i := 7) rfl ?_
      refine ryH (i := 8) rfl (fun K57 hK57 => ?_)
      go_simp
      have hb := ba wo2 (.cells #[.slice none 0 0, .int .u64 0, .slice none 0 0, .int .u64 0, .slice none 0 0, .slice none 0 0, .slice none 0 0] 34)
      have hre := RowAt.new wo2 34 #[.slice none 0 0, .int .u64 0, .slice none 0 0, .int .u64 0, .slice none 0 0, .slice none 0 0, .slice none 0 0]
      replace HRB := Hi (HRB.out.below hb)
      obtain ⟨ga, hge⟩ : ∃ g, wo2.heap.size = g := ⟨_, rfl⟩
      have HGA := Hi (show wy.heap.size ≤ ga from by rw [← hge]; exact HX.out.size)
      have hX2 := HX.out.trans (hb.mono HX.out.size)
      replace HX := Hi hX2
      rw [hge] at hre ⊢
      have HRA := Hi hre
      clear hX2 hS0 hre hb hge
      have hS0 := HSX.out _ HX.out
      generalize wo2.alloc _ = wa3 at *
      refine hK57.out _ _ hS0 (fun _ => wnH ?_)
      clear hK57 K57
      obtain ⟨zq2, hzq⟩ : ∃ w, w = wa3 := ⟨_, rfl⟩
      subst hzq
     rotate_left
     focus
      go_simp
      have hb := ba wo1 (.cells #[.slice none 0 0, .int .u64 0, .slice none 0 0, .int .u64 0, .slice none 0 0, .slice none 0 0, .slice none 0 0] 34)
      have hre := RowAt.new wo1 34 #[.slice none 0 0, .int .u64 0, .slice none 0 0, .int .u64 0, .slice none 0 0, .slice none 0 0, .slice none 0 0]
      replace HRB := Hi (HRB.out.below hb)
      obtain ⟨ga, hge⟩ : ∃ g, wo1.heap.size = g := ⟨_, rfl⟩
      have HGA := Hi (show wy.heap.size ≤ ga from by rw [← hge]; exact HX.out.size)
      have hX2 := HX.out.trans (hb.mono HX.out.size)
      replace HX := Hi hX2
      rw [hge] at hre ⊢
      have HRA := Hi hre
      clear hX2 hS0 hre hb hge
      have hS0 := HSX.out _ HX.out
      generalize wo1.alloc _ = wa2 at *
      refine hK56.out _ _ hS0 (fun _ => wnH ?_)
      clear hK56 K56
      refine ryH (i := 3) rfl (fun K61 hK61 => ?_)
      go_simp
      with_reducible refine (vDo (HRC.out.below HX.out).val wkF5 ⟨6, 0, 0, (0, 0)⟩ (Int.le_refl _) u64z).mono ?_
      rintro e wo3 ⟨⟨v5, rfl, hv⟩, hb⟩
      rw [wkR6] at hv ⊢
      obtain ⟨B0, Bs, m0, d0, ms, ds, B, m, d, rfl, hr⟩ := hv
      clear hr
      replace HRA := Hi (HRA.out.below hb)
      replace HRB := Hi (HRB.out.below hb)
      replace HX := bt HX hb
      clear hS0 hb
      have hS0 := HSX.out _ HX.out
      refine hK61.out _ _ hS0 (fun _ => wnH ?_)
      clear hK61 K61
      refine tkI (i := 4) rfl ?_
      refine tkI (i := 5) rfl ?_
      refine tkI (i := 6) rfl ?_
      refine tkI (i := 7) rfl ?_
      obtain ⟨zq2, hzq⟩ : ∃ w, w = wo3 := ⟨_, rfl⟩
      subst hzq
     rotate_left
    rotate_left 2
    focus
     go_simp
     have hb := ba wa0 (.cells #[.slice none 0 0, .int .u64 0, .slice none 0 0, .int .u64 0, .slice none 0 0, .slice none 0 0, .slice none 0 0] 34)
     have hre := RowAt.new wa0 34 #[.slice none 0 0, .int .u64 0, .slice none 0 0, .int .u64 0, .slice none 0 0, .slice none 0 0, .slice none 0 0]
     replace HRB := Hi (HRB.out.below hb)
     obtain ⟨ga, hge⟩ : ∃ g, wa0.heap.size = g := ⟨_, rfl⟩
     have HGA := Hi (show wy.heap.size ≤ ga from by rw [← hge]; exact HX.out.size)
     have hX2 := HX.out.trans (hb.mono HX.out.size)
     replace HX := Hi hX2
     rw [hge] at hre ⊢
     have HRA := Hi hre
     clear hX2 hS0 hre hb hge
     have hS0 := HSX.out _ HX.out
     generalize wa0.alloc _ = wa1 at *
     refine hK54.out _ _ hS0 (fun _ => wnH ?_)
     clear hK54 K54
     refine ryH (i := 2) rfl (fun K65 hK65 => ?_)
     go_simp
     with_reducible refine (op_any 6 0 0 0 wa1).mono ?_
     rintro e wo2 ⟨rfl, hb⟩
     replace HRA := Hi (HRA.out.below hb)
     replace HRB := Hi (HRB.out.below hb)
     replace HX := bt HX hb
     clear hS0 hb
     have hS0 := HSX.out _ HX.out
     refine hK65.out _ _ hS0 (fun _ => wnH ?_)
     clear hK65 K65
     refine ryH (i := 3) rfl (fun K66 hK66 => ?_)
     go_simp
     with_reducible refine (vDo (HRC.out.below HX.out).val wkF5 ⟨6, 0, 0, (0, 0)⟩ (Int.le_refl _) u64z).mono ?_
     rintro e wo3 ⟨⟨v5, rfl, hv⟩, hb⟩
     rw [wkR6] at hv ⊢
     obtain ⟨B0, Bs, m0, d0, ms, ds, B, m, d, rfl, hr⟩ := hv
     clear hr
     replace HRA := Hi (HRA.out.below hb)
     replace HRB := Hi (HRB.out.below hb)
     replace HX := bt HX hb
     clear hS0 hb
     have hS0 := HSX.out _ HX.out
     refine hK66.out _ _ hS0 (fun _ => wnH ?_)
     clear hK66 K66
     refine tkI (i := 4) rfl ?_
     refine tkI (i := 5) rfl ?_
     refine tkI (i := 6) rfl ?_
     refine tkI (i := 7) rfl ?_
     obtain ⟨zq2, hzq⟩ : ∃ w, w = wo3 := ⟨_, rfl⟩
     subst hzq
    rotate_left
   rotate_left 3
   all_goals
    refine ryH (i := 10) rfl (fun K9 hK9 => ?_)
    clear hS0
    have hra := HRA.out
    obtain ⟨y0, y1, y2, y3, y4, y5, y6⟩ := row7 hra
    have yl := hra.lt
    obtain ⟨yf0, yf1, yf2, yf3, yf4, yf5, yf6⟩ := fz hra
    go_simp
    have HLD := Hi (lp7 zq2 ga (.slice B0 m0 d0) (.int .u64 rec0.e) (.slice Bs ms ds) (.int .u64 (rec0.l.E : Int)) (.slice (B 0) (m 0) (d 0)) (.slice (B 1) (m 1) (d 1)) (.slice (B 2) (m 2) (d 2)))
    have HX1 := Hi (HX.out.trans (HLD.out.below.mono HGA.out))
    have HRB2 := Hi (show RowAt _ gb 41 #[.int .i64 0, .int .u64 0] from (HLD.out.block gb (fun e => by have h1 := HRB.out; rw [e] at h1; exact absurd (row_typ h1 hra) (by decide))).trans HRB.out)
    clear hra yl y0 yf0 y1 yf1 y2 yf2 y3 yf3 y4 yf4 y5 yf5 y6 yf6
    generalize World.setCell _ _ _ = wp at *
    refine hK9.out _ _ (HSX.out _ HX1.out) (fun _ => wnH ?_)
    clear hK9 K9
    refine ryH (i := 11) rfl (fun K10 hK10 => ?_)
    have u0 := row20 HRB2.out
    have u1 := row21 HRB2.out
    have ul := HRB2.out.lt
    have uf0 := HRB2.out.frozen 0
    have uf1 := HRB2.out.frozen 1
    go_simp
    have HL2 := Hi (show LaidF gb wp ((wp.setCell ⟨gb, 0, none⟩ (.int .i64 0)).setCell ⟨gb, 1, none⟩ (.int .u64 0)) from (((laid0 gb _).set 0 (.int .i64 0)).set 1 (.int .u64 0)))
    have HX3 := Hi (HX1.out.trans (HL2.out.below.mono HGB.out))
    clear u0 u1 ul uf0 uf1
    generalize (wp.setCell _ _).setCell _ _ = wq at *
    refine hK10.out _ _ (HSX.out _ HX3.out) (fun _ => wnH ?_)
    clear hK10 K10
    refine ryH (i := 12) rfl (fun K11 hK11 => ?_)
    go_simp
    refine hK11.out _ _ (HSX.out _ HX3.out) (fun _ => wnH ?_)
    clear hK11 K11
    refine wpAnyH_done (by kernel_rfl) ?_ _
    go_wp2_with fail
    go_meet
    case rel => exact ⟨rfl, HX3.out⟩
  case rest =>
   rename_i K hK
   refine hK _ _ ?_
   clear hK K
   obtain ⟨wz, hwz⟩ : ∃ w, w = wc := ⟨_, rfl⟩
   subst hwz
   obtain ⟨rfl, hbz⟩ := hcut
   replace HO := Hi (own_keepB HO.out hbz)
   replace HO8 := Hi (own_keepB HO8.out hbz)
   have HBF := Hi (HK.out.below.trans (hbz.mono HK.out.below.size))
   clear hbz HK
   go_wp2_with fail
   have hb := ba wz (.cells #[.int .i64 0, .int .u64 0, .int .i64 1, .int .u64 0] 41)
   have hS := Hi (show Rd (wz.alloc (.cells #[.int .i64 0, .int .u64 0, .int .i64 1, .int .u64 0] 41)) (wz.alloc (.cells #[.int .i64 0, .int .u64 0, .int .i64 1, .int .u64 0] 41)).heap.size 2 (some ⟨wz.heap.size, 0, none⟩) 2 (Cs encE [(0, 0), (1, 0)]) from (Rd.new wz #[.int .i64 0, .int .u64 0, .int .i64 1, .int .u64 0] 41 2 2 rfl).more (by simp))
   replace HO := Hi (own_keepB HO.out hb)
   replace HO8 := Hi (own_keepB HO8.out hb)
   replace HBF := bt HBF hb
   clear hb
   generalize wz.alloc _ = wp2 at *
   (try generalize wz.heap.size = g20 at *)
   with_reducible refine (eqEz At (some ⟨_, 0, none⟩) ct 2 2 2 [(0, 0), (1, 0)] [(0, 0), (1, 0)] wp2 (Rd.of_own HO.out) hS.out rfl rfl (by omega) (by omega) true rfl).mono ?_
   rintro e wq2 ⟨rfl, hb⟩
   replace HO8 := Hi (own_keepB HO8.out hb)
   replace HBF := bt HBF hb
   clear hb hS
   go_wp2_with fail
   have hb := ba wq2 (.cells #[.int .i64 0, .int .u64 0] 41)
   have hS := Hi (show Rd (wq2.alloc (.cells #[.int .i64 0, .int .u64 0] 41)) (wq2.alloc (.cells #[.int .i64 0, .int .u64 0] 41)).heap.size 2 (some ⟨wq2.heap.size, 0, none⟩) 1 (Cs encE [(0, 0)]) from (Rd.new wq2 #[.int .i64 0, .int .u64 0] 41 2 1 rfl).more (by simp))
   replace HO8 := Hi (own_keepB HO8.out hb)
   replace HBF := bt HBF hb
   clear hb
   generalize wq2.alloc _ = wp1 at *
   (try generalize wq2.heap.size = g10 at *)
   with_reducible refine (eqEz A8 (some ⟨_, 0, none⟩) k8 1 1 1 [(0, 0)] [(0, 0)] wp1 (Rd.of_own HO8.out) hS.out rfl rfl (by omega) (by omega) true rfl).mono ?_
   rintro e wq1 ⟨rfl, hb⟩
   replace HBF := bt HBF hb
   clear hb hS
   go_wp2_with fail
   go_ret
   exact ⟨rfl, HBF.out⟩
end Go.Proofs.YtkicidopjihjmaaGreat
namespace Go.Proofs.YtkicidopjihjmaaGreat
open Go Go.RowKit
theorem WfR.e0 {r : Rec} (h : WfR r) : 0 ≤ r.e ∧ r.e ≤ 4611686018427387904 := by
 have h1 := h.ok.ep
 have h2 : r.l.E ≤ Li.LAST := (Li.ok_out h.ok.lm).1
 have h3 : Li.LAST = 4611686018427387904 := rfl
 omega
end Go.Proofs.YtkicidopjihjmaaGreat
namespace Go.Proofs.YtkicidopjihjmaaGreat
open Go Go.RowKit
theorem doAs {F : Nat → Prop} {w : World} {v : Value} {r : Rec} (h : RecOut F w v r) (hf : FitV r) (ok og ob x1 x2 : Int) (hb : 0 ≤ ob) (hx : U64 x2) {r2 : Rec} {y : Ent} {k : Int} (hT : doR r ⟨ok, og, ob, (x1, x2)⟩ = (r2, y, k)) : Calls Tryz.prog 13 #[v, .agg #[.int .i64 ok, .int .i64 og, .int .u64 ob, .int .i64 x1, .int .u64 x2]] w fun e w' =>
  (∃ v, e = .returned (.tuple #[v, .agg #[.int .i64 y.1, .int .u64 y.2], .int .i64 k]) ∧ RecOut (From w.heap.size) w' v r2) ∧ Below w.heap.size w w' := by
 have h2 := vDo h hf ⟨ok, og, ob, (x1, x2)⟩ hb hx
 unfold DoRes at h2
 rw [hT] at h2
 exact h2
end Go.Proofs.YtkicidopjihjmaaGreat
set_option maxRecDepth 20000
namespace Go.Proofs.YtkicidopjihjmaaGreat.Li
open Go Go.RowKit
attribute [local go_sem] via_cell via_frozen
theorem hasB_out {l : List Ent} {s : Int} (h : hasB l s = true) : ∃ e ∈ l, e.1 = s := by
 obtain ⟨e, he, hs⟩ := List.any_eq_true.1 h
 exact ⟨e, he, by simpa using hs⟩
def heldL (l : Lim) : List Ent := ofL l 2 ++ (ofL l 1 ++ ofL l 0)
theorem heldL_ok {l : Lim} (hok : l.ok = true) : heldL l = l.held := by
 have h : ∀ a, a < 3 → ofL l a = l.at a := fun a ha => by
  unfold ofL
  split
  ·
   rename_i hE
   by_cases hn : l.at a = []
   · exact hn.symm
   · have := ok_at hok ha hn; omega
  · rfl
 unfold heldL Lim.held
 rw [h 2 (by omega), h 1 (by omega), h 0 (by omega)]
theorem held_own {w : World} {base base2 n2 n1 n0 : Nat} {l : Lim} {v : Value} (h : w.ownsRow base 41 2 v (0 + n2 + n1 + n0) ((([] ++ Cs encE (ofL l 2)) ++ Cs encE (ofL l 1)) ++ Cs encE (ofL l 0))) (h2 : (ofL l 2).length = n2) (h1 : (ofL l 1).length = n1) (h0 : (ofL l 0).length = n0) (hb : base2 ≤ base) :
  w.ownsRow base2 41 2 v (heldL l).length (Cs encE (heldL l)) := by
 subst h2; subst h1; subst h0
 have e1 : (heldL l).length = 0 + (ofL l 2).length + (ofL l 1).length + (ofL l 0).length := by unfold heldL; simp; omega
 have e2 : Cs encE (heldL l) = (([] ++ Cs encE (ofL l 2)) ++ Cs encE (ofL l 1)) ++ Cs encE (ofL l 0) := by unfold heldL; rw [Cs_append, Cs_append]; simp
 rw [e1, e2]
 exact ownsRow_base h hb
theorem rheld_any (A : Nat → Option Addr) (n c : Nat → Nat) (l : Lim) (W : World) (h : LimRd W W.heap.size A n l.r) (hE : l.E < 18446744073709551616) (hm : ∀ k, k < 3 → n k ≤ 4096) :
  Calls Tryz.prog 44 #[.agg (limC l.E A n c)] W fun e W' => ∃ v, e = .returned v ∧ W'.ownsRow W.heap.size 41 2 v (heldL l).length (Cs encE (heldL l)) ∧ Below W.heap.size W W' := by
 have HBN := Hi (show Below W.heap.size W (W.alloc (.cells (limC l.E A n c) 32)) from (Below.refl _ _).alloc (Nat.le_refl _) _)
 have HRN := Hi (RowAt.new W 32 (limC l.E A n c))
 have H := Hi h
 have HE := Hi hE
 have HLN : Hid (∀ a, ofN l.E n a ≤ 4096) := Hi (fun a => by
  unfold ofN
  split
  · omega
  · exact hm _ (rowN_lt l.E a))
 clear h hE hm
 go_enter Tryz.func44, Tryz.ntmps44
 go_wp2_with fail
 generalize W.alloc (.cells (limC l.E A n c) 32) = w0 at *
 have q0 := cl HRN.out 0
 have q1 := cl HRN.out 1
 have q2 := cl HRN.out 2
 have q3 := cl HRN.out 3
 have ql := HRN.out.lt
 have HO2 := Hi (fun w => show Calls Tryz.prog 74 #[.agg (limC l.E A n c), .int .u64 2] w _ from of_any A n c l.E 2 (by omega) HE.out w)
 have HO1 := Hi (fun w => show Calls Tryz.prog 74 #[.agg (limC l.E A n c), .int .u64 1] w _ from of_any A n c l.E 1 (by omega) HE.out w)
 have HO0 := Hi (fun w => show Calls Tryz.prog 74 #[.agg (limC l.E A n c), .int .u64 0] w _ from of_any A n c l.E 0 (by omega) HE.out w)
 have HRD := Hi (fun (w : World) (hb : Below w0.heap.size w0 w) (a : Nat) => of_rd ((H.out.below (HBN.out.trans (hb.mono HBN.out.size))).more (show W.heap.size ≤ w.heap.size from Nat.le_trans HBN.out.size hb.size)) a)
 go_upto_region 1 with (fail)
 refine wp_region_held_drew (S := fun wX => Below w0.heap.size w0 wX) (by kernel_rfl) (Below.refl _ _).drew (fun hHeld => ?_)
 have HQ := Hi ((Below.refl w0.heap.size w0).drew)
 (refine tkH (i := 1) (v := ?_) rfl (Or.inl ⟨by rfl, ?_⟩) ?_; rotate_left; (focus (intro w hSw; (try dsimp only at hSw); have kf0 := kept hSw q0; have kf1 := kept hSw q1; have kf2 := kept hSw q2; have kf3 := kept hSw q3; go_simp; first | done | with_reducible rfl)); (try simp only [Act.put, Na, Nb, Nc, Nd, Nx, Nf]))
 (refine tkH (i := 4) (v := ?_) rfl (Or.inl ⟨by rfl, ?_⟩) ?_; rotate_left; (focus (intro w hSw; (try dsimp only at hSw); have kf0 := kept hSw q0; have kf1 := kept hSw q1; have kf2 := kept hSw q2; have kf3 := kept hSw q3; go_simp; first | done | with_reducible rfl)); (try simp only [Act.put, Na, Nb, Nc, Nd, Nx, Nf]))
 (refine tkH (i := 7) (v := ?_) rfl (Or.inl ⟨by rfl, ?_⟩) ?_; rotate_left; (focus (intro w hSw; (try dsimp only at hSw); have kf0 := kept hSw q0; have kf1 := kept hSw q1; have kf2 := kept hSw q2; have kf3 := kept hSw q3; go_simp; first | done | with_reducible rfl)); (try simp only [Act.put, Na, Nb, Nc, Nd, Nx, Nf]))
 generalize w0.drew = wd at *
 refine wpAnyH_ready (rs := [0, 2]) (by kernel_rfl) (by simp) ?_
 refine (AllReadyH.cons rfl (fun K0 hK0 => ?_) (AllReadyH.cons rfl (fun K0 hK0 => ?_) AllReadyH.nil))
 focus
  go_simp
  refine hK0.out _ _ (HQ.out.alloc HQ.out.size _) (fun _ => wnH ?_)
  clear hK0 K0
  have HO := Hi (World.ownsRow_lit (base := w0.heap.size) (e := 41) (size := 2) wd #[] 0 HQ.out.size (by simp [maxLen]) rfl)
  replace HQ := Hi (HQ.out.alloc HQ.out.size (.cells #[] 41))
  have hsg : wd.heap.size < (wd.alloc (.cells #[] 41)).heap.size := by simp
  clear hsg
  generalize wd.alloc (.cells #[] 41) = wa0 at *
  refine ryH (i := 2) rfl (fun K1 hK1 => ?_)
  go_simp
  refine (HO2.out _).mono ?_
  rintro e wa1 ⟨rfl, hb1⟩
  replace HO := Hi (own_keepB HO.out hb1)
  replace HQ := bt HQ hb1
  clear hb1
  refine hK1.out _ _ HQ.out (fun _ => wnH ?_)
  clear hK1 K1
  refine ryH (i := 3) rfl (fun K2 hK2 => ?_)
  rw [if_pos (by rfl)]
  refine wp_app elE _ _ rfl rfl HO.out rfl (HRD.out _ HQ.out 2).1 (Cs_one_cell encE_one _) (by have := HLN.out 2; have := HLN.out 1; have := HLN.out 0; omega) HQ.out.size ?_
  intro v2 wa2 hown2 hb2 _ _
  replace HO := Hi hown2
  replace HQ := Hi (HQ.out.trans hb2)
  clear hown2 hb2
  refine hK2.out _ _ HQ.out (fun _ => wnH ?_)
  clear hK2 K2
  refine ryH (i := 5) rfl (fun K3 hK3 => ?_)
  go_simp
  refine (HO1.out _).mono ?_
  rintro e wa3 ⟨rfl, hb3⟩
  replace HO := Hi (own_keepB HO.out hb3)
  replace HQ := bt HQ hb3
  clear hb3
  refine hK3.out _ _ HQ.out (fun _ => wnH ?_)
  clear hK3 K3
  refine ryH (i := 6) rfl (fun K4 hK4 => ?_)
  rw [if_pos (by rfl)]
  refine wp_app elE _ _ rfl rfl HO.out rfl (HRD.out _ HQ.out 1).1 (Cs_one_cell encE_one _) (by have := HLN.out 2; have := HLN.out 1; have := HLN.out 0; omega) HQ.out.size ?_
  intro v4 wa4 hown4 hb4 _ _
  replace HO := Hi hown4
  replace HQ := Hi (HQ.out.trans hb4)
  clear hown4 hb4
  refine hK4.out _ _ HQ.out (fun _ => wnH ?_)
  clear hK4 K4
  refine ryH (i := 8) rfl (fun K5 hK5 => ?_)
  go_simp
  refine (HO0.out _).mono ?_
  rintro e wa5 ⟨rfl, hb5⟩
  replace HO := Hi (own_keepB HO.out hb5)
  replace HQ := bt HQ hb5
  clear hb5
  refine hK5.out _ _ HQ.out (fun _ => wnH ?_)
  clear hK5 K5
  refine ryH (i := 9) rfl (fun K6 hK6 => ?_)
 rotate_left
 focus
  go_simp
  refine (HO2.out _).mono ?_
  rintro e wa0 ⟨rfl, hb0⟩
  replace HQ := bt HQ hb0
  clear hb0
  refine hK0.out _ _ HQ.out (fun _ => wnH ?_)
  clear hK0 K0
  refine ryH (i := 0) rfl (fun K1 hK1 => ?_)
  go_simp
  refine hK1.out _ _ (HQ.out.alloc HQ.out.size _) (fun _ => wnH ?_)
  clear hK1 K1
  have HO := Hi (World.ownsRow_lit (base := w0.heap.size) (e := 41) (size := 2) wa0 #[] 0 HQ.out.size (by simp [maxLen]) rfl)
  replace HQ := Hi (HQ.out.alloc HQ.out.size (.cells #[] 41))
  have hsg : wa0.heap.size < (wa0.alloc (.cells #[] 41)).heap.size := by simp
  clear hsg
  generalize wa0.alloc (.cells #[] 41) = wa1 at *
  refine ryH (i := 3) rfl (fun K2 hK2 => ?_)
  rw [if_pos (by rfl)]
  refine wp_app elE _ _ rfl rfl HO.out rfl (HRD.out _ HQ.out 2).1 (Cs_one_cell encE_one _) (by have := HLN.out 2; have := HLN.out 1; have := HLN.out 0; omega) HQ.out.size ?_
  intro v2 wa2 hown2 hb2 _ _
  replace HO := Hi hown2
  replace HQ := Hi (HQ.out.trans hb2)
  clear hown2 hb2
  refine hK2.out _ _ HQ.out (fun _ => wnH ?_)
  clear hK2 K2
  refine ryH (i := 5) rfl (fun K3 hK3 => ?_)
  go_simp
  refine (HO1.out _).mono ?_
  rintro e wa3 ⟨rfl, hb3⟩
  replace HO := Hi (own_keepB HO.out hb3)
  replace HQ := bt HQ hb3
  clear hb3
  refine hK3.out _ _ HQ.out (fun _ => wnH ?_)
  clear hK3 K3
  refine ryH (i := 6) rfl (fun K4 hK4 => ?_)
  rw [if_pos (by rfl)]
  refine wp_app elE _ _ rfl rfl HO.out rfl (HRD.out _ HQ.out 1).1 (Cs_one_cell encE_one _) (by have := HLN.out 2; have := HLN.out 1; have := HLN.out 0; omega) HQ.out.size ?_
  intro v4 wa4 hown4 hb4 _ _
  replace HO := Hi hown4
  replace HQ := Hi (HQ.out.trans hb4)
  clear hown4 hb4
  refine hK4.out _ _ HQ.out (fun _ => wnH ?_)
  clear hK4 K4
  refine ryH (i := 8) rfl (fun K5 hK5 => ?_)
  go_simp
  refine (HO0.out _).mono ?_
  rintro e wa5 ⟨rfl, hb5⟩
  replace HO := Hi (own_keepB HO.out hb5)
  replace HQ := bt HQ hb5
  clear hb5
  refine hK5.out _ _ HQ.out (fun _ => wnH ?_)
  clear hK5 K5
  refine ryH (i := 9) rfl (fun K6 hK6 => ?_)
 rotate_left
 all_goals
  rw [if_pos (by rfl)]
  refine wp_app elE _ _ rfl rfl HO.out rfl (HRD.out _ HQ.out 0).1 (Cs_one_cell encE_one _) (by have := HLN.out 2; have := HLN.out 1; have := HLN.out 0; omega) HQ.out.size ?_
  intro v6 wa6 hown6 hb6 _ _
  replace HO := Hi hown6
  replace HQ := Hi (HQ.out.trans hb6)
  clear hown6 hb6
  refine hK6.out _ _ HQ.out (fun _ => wnH ?_)
  clear hK6 K6
  refine tkI (i := 10) rfl ?_
  refine wpAnyH_done (by kernel_rfl) ?_ _
  have HFIN := Hi (HBN.out.trans (HQ.out.mono HBN.out.size))
  go_wp2_with fail
  go_ret
  refine ⟨_, rfl, ?_, HFIN.out⟩
  exact held_own HO.out (HRD.out _ HQ.out 2).2 (HRD.out _ HQ.out 1).2 (HRD.out _ HQ.out 0).2 (Nat.le_trans (Nat.le_succ _) ql)
end Go.Proofs.YtkicidopjihjmaaGreat.Li
set_option maxRecDepth 20000
namespace Go.Proofs.YtkicidopjihjmaaGreat.Li
open Go Go.RowKit
attribute [local go_sem] via_cell via_frozen
theorem okP_of {E : Nat} {L : List (Nat × Ent)} {met : List Int} (h : ∀ p ∈ L, p.1 ≤ E ∧ entB p.2 = true ∧ p.2.1 ∉ met) (hn : (L.map (fun p => p.2.1)).Nodup) : okP E L met = true := by
 induction L generalizing met with
 | nil => rfl
 | cons q L ih =>
  rw [List.map_cons, List.nodup_cons] at hn
  obtain ⟨h1, h2, h3⟩ := h q (by simp)
  rw [okP]
  simp only [Bool.and_eq_true, decide_eq_true_eq, Bool.not_eq_true', List.contains_eq_mem, decide_eq_false_iff_not]
  refine ⟨⟨h1, h2, h3⟩, ih (fun p hp => ?_) hn.2⟩
  obtain ⟨h4, h5, h6⟩ := h p (by simp [hp])
  refine ⟨h4, h5, fun hm => ?_⟩
  rcases List.mem_cons.1 hm with he | hm
  · exact hn.1 (he ▸ List.mem_map.2 ⟨p, hp, rfl⟩)
  · exact h6 hm
def chkE (xs : List Ent) : Bool := xs.all entB && decide ((xs.map (fun x => x.1)).Nodup)
theorem chkE_snoc (xs : List Ent) (x : Ent) : chkE (xs ++ [x]) = (chkE xs && (entB x && !hasB xs x.1)) := by
 have h1 : ((xs ++ [x]).map (fun x => x.1)).Nodup ↔ (xs.map (fun x => x.1)).Nodup ∧ hasB xs x.1 = false := by
  rw [List.map_append, List.nodup_append]
  constructor
  ·
   rintro ⟨h1, _, h3⟩
   refine ⟨h1, ?_⟩
   cases hb : hasB xs x.1 with
   | false => rfl
   | true =>
    obtain ⟨e, he, hs⟩ := hasB_out hb
    exact absurd hs (h3 e.1 (List.mem_map.2 ⟨e, he, rfl⟩) x.1 (by simp))
  ·
   rintro ⟨h1, h2⟩
   refine ⟨h1, by simp, fun a ha b hb hab => ?_⟩
   obtain ⟨e, he, rfl⟩ := List.mem_map.1 ha
   have hb' : b = x.1 := by simpa using hb
   exact hasB_false h2 e he (hab.trans hb')
 have h2 : decide (((xs ++ [x]).map (fun x => x.1)).Nodup) = (decide ((xs.map (fun x => x.1)).Nodup) && !hasB xs x.1) := by
  rw [Bool.eq_iff_iff]
  simp only [decide_eq_true_eq, Bool.and_eq_true, Bool.not_eq_true']
  exact h1
 unfold chkE
 rw [List.all_append, h2]
 rw [Bool.eq_iff_iff]
 simp only [Bool.and_eq_true, decide_eq_true_eq, Bool.not_eq_true', List.all_cons, List.all_nil, Bool.and_true]
 constructor
 · rintro ⟨⟨a, b⟩, c, d⟩; exact ⟨⟨a, c⟩, b, d⟩
 · rintro ⟨⟨a, b⟩, c, d⟩; exact ⟨⟨a, c⟩, b, d⟩
theorem chkE_pre {xs ys : List Ent} (h : chkE xs = false) : chkE (xs ++ ys) = false := by
 induction ys generalizing xs with
 | nil => simpa using h
 | cons y ys ih =>
  have : xs ++ y :: ys = (xs ++ [y]) ++ ys := by simp
  rw [this]
  exact ih (by rw [chkE_snoc, h]; rfl)
theorem at_sum (l : Lim) : (l.at 2).length + ((l.at 1).length + (l.at 0).length) = (l.r 0).length + (l.r 1).length + (l.r 2).length := by
 unfold Lim.at
 have h3 : l.E % 3 = 0 ∨ l.E % 3 = 1 ∨ l.E % 3 = 2 := by omega
 rcases h3 with h | h | h
 · rw [show rowN l.E 2 = 1 from by unfold rowN; omega, show rowN l.E 1 = 2 from by unfold rowN; omega, show rowN l.E 0 = 0 from by unfold rowN; omega]; omega
 · rw [show rowN l.E 2 = 2 from by unfold rowN; omega, show rowN l.E 1 = 0 from by unfold rowN; omega, show rowN l.E 0 = 1 from by unfold rowN; omega]; omega
 · rw [show rowN l.E 2 = 0 from by unfold rowN; omega, show rowN l.E 1 = 1 from by unfold rowN; omega, show rowN l.E 0 = 2 from by unfold rowN; omega]; omega
def sumR (l : Lim) : Nat := (l.r 0).length + (l.r 1).length + (l.r 2).length
theorem ok_right (l : Lim) : l.ok = (chkE (heldL l) && (decide (l.E ≤ LAST) && decide ((heldL l).length = sumR l))) := by
 rw [Bool.eq_iff_iff]
 simp only [Bool.and_eq_true, decide_eq_true_eq]
 constructor
 ·
  intro h
  have hh := heldL_ok h
  have ho := (ok_out h).2
  refine ⟨?_, (ok_out h).1, ?_⟩
  ·
   rw [hh]
   unfold chkE
   simp only [Bool.and_eq_true, decide_eq_true_eq, List.all_eq_true]
   have e1 : l.held.map (fun x => x.1) = l.each.map (fun p => p.2.1) := by rw [← each_held, List.map_map]; rfl
   refine ⟨fun e he => ?_, by rw [e1]; exact okP_nodup ho⟩
   rw [← each_held] at he
   obtain ⟨p, hp, rfl⟩ := List.mem_map.1 he
   exact (okP_mem ho p hp).2.1
  ·
   rw [hh]
   unfold Lim.held sumR
   rw [List.length_append, List.length_append, at_sum]
 ·
  rintro ⟨hc, hE, hlen⟩
  have hle : ∀ a, (ofL l a).length ≤ (l.at a).length := fun a => by
   unfold ofL; split
   · simp
   · exact Nat.le_refl _
  have hsum : (ofL l 2).length + ((ofL l 1).length + (ofL l 0).length) = (l.at 2).length + ((l.at 1).length + (l.at 0).length) := by
   rw [at_sum]
   have := hlen
   unfold heldL sumR at this
   rw [List.length_append, List.length_append] at this
   exact this
  have hof : ∀ a, a < 3 → ofL l a = l.at a := fun a ha => by
   have h2 := hle 2
   have h1 := hle 1
   have h0 := hle 0
   have hl : (ofL l a).length = (l.at a).length := by
    match a, ha with
    | 0, _ => omega
    | 1, _ => omega
    | 2, _ => omega
   unfold ofL at hl ⊢
   split at hl
   ·
    rename_i hE2
    rw [if_pos hE2]
    exact (List.eq_nil_of_length_eq_zero (by simpa using hl.symm)).symm
   ·
    rename_i hE2
    rw [if_neg hE2]
  have hh : heldL l = l.held := by unfold heldL Lim.held; rw [hof 2 (by omega), hof 1 (by omega), hof 0 (by omega)]
  rw [hh] at hc
  unfold chkE at hc
  simp only [Bool.and_eq_true, decide_eq_true_eq, List.all_eq_true] at hc
  refine ok_mk hE (okP_of (fun p hp => ?_) ?_)
  ·
   obtain ⟨a, ha, hpa, hm⟩ := mem_each hp
   refine ⟨?_, hc.1 p.2 (by rw [← each_held]; exact List.mem_map.2 ⟨p, hp, rfl⟩), by simp⟩
   have h1 := hof a ha
   unfold ofL at h1
   split at h1
   · rw [← h1] at hm; cases hm
   · omega
  ·
   have e1 : l.held.map (fun x => x.1) = l.each.map (fun p => p.2.1) := by rw [← each_held, List.map_map]; rfl
   rw [← e1]; exact hc.2
theorem right_any (A : Nat → Option Addr) (n c : Nat → Nat) (l : Lim) (W : World) (h : LimRd W W.heap.size A n l.r) (hE : l.E < 18446744073709551616) (hm : ∀ k, k < 3 → n k ≤ 4096) (r : Bool) (hr : l.ok = r) :
  Calls Tryz.prog 43 #[.agg (limC l.E A n c)] W fun e W' => e = .returned (.bool r) ∧ Below W.heap.size W W' := by
 have HBN := Hi (show Below W.heap.size W (W.alloc (.cells (limC l.E A n c) 32)) from (Below.refl _ _).alloc (Nat.le_refl _) _)
 have HRN := Hi (RowAt.new W 32 (limC l.E A n c))
 have H := Hi h
 have HR := Hi (show (chkE (heldL l) && (decide (l.E ≤ LAST) && decide ((heldL l).length = sumR l))) = r from by rw [← ok_right]; exact hr)
 have HM := Hi hm
 have HSM := Hi (show sumR l = n 0 + n 1 + n 2 from by unfold sumR; rw [h.len 0 (by omega), h.len 1 (by omega), h.len 2 (by omega)])
 have hN : (heldL l).length ≤ 12288 := by
  have h4 : ∀ a, (ofL l a).length ≤ 4096 := fun a => by
   rw [(of_rd h a).2]
   unfold ofN
   split
   · omega
   · exact hm _ (rowN_lt l.E a)
  have := h4 0; have := h4 1; have := h4 2
  unfold heldL
  rw [List.length_append, List.length_append]
  omega
 have hEE := Hi hE
 clear h hr hm hE
 go_enter Tryz.func43, Tryz.ntmps43
 go_wp2_with fail
 generalize W.alloc (.cells (limC l.E A n c) 32) = w0 at *
 have q0 := cl HRN.out 0
 have q1 := cl HRN.out 1
 have q2 := cl HRN.out 2
 have q3 := cl HRN.out 3
 have ql := HRN.out.lt
 have HHD := Hi (rheld_any A n c l w0 ((H.out.below HBN.out).more HBN.out.size) hEE.out HM.out)
 go_wp2_with fail
 with_reducible refine HHD.out.mono ?_
 rintro e w1 ⟨v, rfl, hown, hb1⟩
 obtain ⟨Ah, ch, rfl, hch, hchm⟩ := own_form2 hown
 have HRH := Hi (Rd.of_own hown)
 have HR1 := Hi (HRN.out.below hb1)
 have HB1 := bt HBN hb1
 obtain ⟨X, hX⟩ : ∃ X, heldL l = X := ⟨_, rfl⟩
 rw [hX] at HRH HR hch hN ⊢
 obtain ⟨N, hNe⟩ : ∃ N, X.length = N := ⟨_, rfl⟩
 have HXN := Hi hNe
 rw [hNe] at HRH HR hch hN ⊢
 have hchI : (N : Int) ≤ (ch : Int) := by omega
 have hchM : (ch : Int) ≤ 9223372036854775807 := by omega
 clear q0 q1 q2 q3 ql HHD hown hb1 hX hNe HRN
 go_wp2_with fail
 go_loopw [10] (fun i wr => ∃ k : Nat, k ≤ N ∧ i = .int .i64 k ∧ chkE (X.take k) = true ∧ Below w1.heap.size w1 wr) (fun i _ => N - (intOf i).toNat)
 case atStart => exact ⟨0, Nat.zero_le _, rfl, by simp [chkE], Below.refl _ _⟩
 case round =>
  obtain ⟨k, hk, rfl, hck, hbw⟩ := hrel
  have HCK := Hi hck
  have HBW := bt HB1 hbw
  have HBX := Hi hbw
  have HRX := Hi ((HRH.out.below hbw).more hbw.size)
  have HRL := Hi (HR1.out.below hbw)
  clear hck hbw
  by_cases hlt : k < N
  ·
   have hlx : k < X.length := by rw [HXN.out]; exact hlt
   have hki : (k : Int) < (N : Int) := by omega
   obtain ⟨b, o, rfl, hb, d0, d1⟩ := HRX.out.ent HXN.out hlt
   have HT := Hi (getD_take X k hlx)
   have HSP := Hi (show X = X.take (k + 1) ++ X.drop (k + 1) from (List.take_append_drop _ _).symm)
   obtain ⟨x, hxx⟩ : ∃ x, X.getD k (0, 0) = x := ⟨_, rfl⟩
   rw [hxx] at d0 d1 HT
   obtain ⟨s, gn⟩ := x
   dsimp only at d0 d1
   clear hxx
   have HBN2 := Hi (show Below wr.heap.size wr (wr.alloc (.cells #[.int .i64 s, .int .u64 gn] 41)) from (Below.refl _ _).alloc (Nat.le_refl _) _)
   have HRE := Hi (RowAt.new wr 41 #[.int .i64 s, .int .u64 gn])
   go_upto_region 5 with (fail)
   generalize wr.alloc _ = w2 at *
   have HRX2 := Hi ((HRX.out.below HBN2.out).more HBN2.out.size)
   have HBW := Hi (HBW.out.trans (HBN2.out.mono HBW.out.size))
   have HBX := Hi (HBX.out.trans (HBN2.out.mono HBX.out.size))
   clear HRX
   generalize wr.heap.size = g5 at *
   clear d0 d1 hb HBN2 HRL
   have e0 := row20 HRE.out
   have e1 := row21 HRE.out
   have el := HRE.out.lt
   obtain ⟨q, hq⟩ : ∃ q, entB (s, gn) = q := ⟨_, rfl⟩
   have HEN := Hi (fun w => refentry_any s gn w q hq)
   have HQ1 := Hi hq
   clear hq
   have hk0 : (0 : Int) ≤ (k : Int) := by omega
   have hkc : (k : Int) ≤ (ch : Int) := by omega
   cases q with
   | false =>
    have HF := Hi (show false = r from by
     rw [← HR.out, HSP.out, chkE_pre (by rw [HT.out, chkE_snoc, HQ1.out]; simp)]; rfl)
    refine wp_region_held_drew (S := fun wX => Below w2.heap.size w2 wX) (by kernel_rfl) (Below.refl _ _).drew (fun hHeld => ?_)
    have HQ := Hi ((Below.refl w2.heap.size w2).drew)
    (refine tkH (i := 0) (v := ?_) rfl (Or.inl ⟨by rfl, ?_⟩) ?_; rotate_left; (focus (intro w hSw; (try dsimp only at hSw); have kf0 := kept hSw e0; have kf1 := kept hSw e1; go_simp; first | done | with_reducible rfl)); (try simp only [Act.put, Na, Nb, Nc, Nd, Nx, Nf]))
    generalize w2.drew = wd at *
    refine ryH (i := 1) rfl (fun K0 hK0 => ?_)
    go_simp
    refine (HEN.out _).mono ?_
    rintro e wj ⟨rfl, hbj⟩
    replace HQ := bt HQ hbj
    clear hbj
    refine hK0.out _ _ HQ.out (fun _ => wnH ?_)
    clear hK0 K0
    refine tkI (i := 2) rfl ?_
    refine tkI (i := 3) rfl ?_
    (refine tkH (i := 4) (v := undef) rfl (Or.inr ⟨by rfl, rfl⟩) ?_; (try simp only [Act.put, Na, Nb, Nc, Nd, Nx, Nf]))
    (refine tkH (i := 5) (v := undef) rfl (Or.inr ⟨by rfl, rfl⟩) ?_; (try simp only [Act.put, Na, Nb, Nc, Nd, Nx, Nf]))
    (refine tkH (i := 6) (v := undef) rfl (Or.inr ⟨by rfl, rfl⟩) ?_; (try simp only [Act.put, Na, Nb, Nc, Nd, Nx, Nf]))
    (refine tkH (i := 7) (v := undef) rfl (Or.inr ⟨by rfl, rfl⟩) ?_; (try simp only [Act.put, Na, Nb, Nc, Nd, Nx, Nf]))
    (refine tkH (i := 8) (v := undef) rfl (Or.inr ⟨by rfl, rfl⟩) ?_; (try simp only [Act.put, Na, Nb, Nc, Nd, Nx, Nf]))
    (refine tkH (i := 9) (v := undef) rfl (Or.inr ⟨by rfl, rfl⟩) ?_; (try simp only [Act.put, Na, Nb, Nc, Nd, Nx, Nf]))
    refine tkI (i := 10) rfl ?_
    refine wpAnyH_done (by kernel_rfl) ?_ _
    have HFIN := Hi (HBW.out.trans (HQ.out.mono HBW.out.size))
    clear e0 e1 el HEN HQ
    go_wp2_with fail
    go_ret
    exact ⟨ret_bool HF.out, HFIN.out⟩
   | true =>
    obtain ⟨q2, hq2⟩ : ∃ q2, hasB (X.take k) s = q2 := ⟨_, rfl⟩
    have HHS := Hi (fun (w : World) (hb : Below w2.heap.size w2 w) => has_any w2.heap.size (some ⟨b, o, none⟩) ch k s (X.take k) w ((HRX2.out.first HXN.out hk).below hb) (by rw [List.length_take, HXN.out]; omega) (by omega) hb.size q2 hq2)
    have HQ2 := Hi hq2
    clear hq2
    refine wp_region_held_drew (S := fun wX => Below w2.heap.size w2 wX) (by kernel_rfl) (Below.refl _ _).drew (fun hHeld => ?_)
    have HQ := Hi ((Below.refl w2.heap.size w2).drew)
    (refine tkH (i := 0) (v := ?_) rfl (Or.inl ⟨by rfl, ?_⟩) ?_; rotate_left; (focus (intro w hSw; (try dsimp only at hSw); have kf0 := kept hSw e0; have kf1 := kept hSw e1; go_simp; first | done | with_reducible rfl)); (try simp only [Act.put, Na, Nb, Nc, Nd, Nx, Nf]))
    generalize w2.drew = wd at *
    refine ryH (i := 1) rfl (fun K0 hK0 => ?_)
    go_simp
    refine (HEN.out _).mono ?_
    rintro e wj ⟨rfl, hbj⟩
    replace HQ := bt HQ hbj
    clear hbj
    refine hK0.out _ _ HQ.out (fun _ => wnH ?_)
    clear hK0 K0
    refine tkI (i := 2) rfl ?_
    refine tkI (i := 3) rfl ?_
    refine tkI (i := 4) rfl ?_
    refine tkI (i := 5) rfl ?_
    refine tkI (i := 6) rfl ?_
    refine tkI (i := 7) rfl ?_
    (refine tkH (i := 8) (v := ?_) rfl (Or.inl ⟨by rfl, ?_⟩) ?_; rotate_left; (focus (intro w hSw; (try dsimp only at hSw); have kf0 := kept hSw e0; go_simp; first | done | with_reducible rfl)); (try simp only [Act.put, Na, Nb, Nc, Nd, Nx, Nf]))
    refine ryH (i := 9) rfl (fun K1 hK1 => ?_)
    go_simp
    refine (HHS.out _ HQ.out).mono ?_
    rintro e wk ⟨rfl, hbj⟩
    replace HQ := bt HQ hbj
    clear hbj
    refine hK1.out _ _ HQ.out (fun _ => wnH ?_)
    clear hK1 K1
    refine tkI (i := 10) rfl ?_
    refine wpAnyH_done (by kernel_rfl) ?_ _
    have HBX := Hi (HBX.out.trans (HQ.out.mono HBX.out.size))
    have HFIN := Hi (HBW.out.trans (HQ.out.mono HBW.out.size))
    clear e0 e1 el HEN HHS HQ
    cases q2 with
    | true =>
     have HF := Hi (show false = r from by
      rw [← HR.out, HSP.out, chkE_pre (by rw [HT.out, chkE_snoc, HQ2.out]; simp)]; rfl)
     go_wp2_with fail
     go_ret
     exact ⟨ret_bool HF.out, HFIN.out⟩
    | false =>
     have HC2 := Hi (show chkE (X.take (k + 1)) = true from by rw [HT.out, chkE_snoc, HCK.out, HQ1.out, HQ2.out]; rfl)
     go_wp2_with fail
     go_roundw
     case rel => exact ⟨k + 1, by omega, by go_num, HC2.out, HBX.out⟩
     case measure => simp [intOf]; omega
  ·
   obtain rfl : k = N := by omega
   have HCX := Hi (show chkE X = true from by
    have := HCK.out
    rwa [List.take_of_length_le (by rw [HXN.out]; exact Nat.le_refl _)] at this)
   have q0 := cl HRL.out 0
   have q1 := cl HRL.out 1
   have q2 := cl HRL.out 2
   have q3 := cl HRL.out 3
   have ql := HRL.out.lt
   have h0 := HM.out 0 (by omega)
   have h1 := HM.out 1 (by omega)
   have h2 := HM.out 2 (by omega)
   have hw1 : IntKind.i64.wrap ((n 0 : Int) + (n 1 : Int)) = (n 0 : Int) + (n 1 : Int) := IntWalk.i64_in _ (by omega)
   have hw2 : IntKind.i64.wrap ((n 0 : Int) + (n 1 : Int) + (n 2 : Int)) = (n 0 : Int) + (n 1 : Int) + (n 2 : Int) := IntWalk.i64_in _ (by omega)
   by_cases hEL : l.E ≤ LAST
   ·
    have hd : decide ((l.E : Int) ≤ 4611686018427387904) = true := by unfold LAST at hEL; simp; omega
    have HF := Hi (show ((k : Int) == (n 0 : Int) + (n 1 : Int) + (n 2 : Int)) = r from by
     rw [← HR.out, HCX.out, HSM.out]
     simp only [Bool.true_and, hEL, decide_true]
     rw [Bool.eq_iff_iff, beq_iff_eq, decide_eq_true_eq]; omega)
    clear hEL
    go_wp2_with fail
    go_ret
    exact ⟨ret_bool HF.out, HBW.out⟩
   ·
    have hd : decide ((l.E : Int) ≤ 4611686018427387904) = false := by unfold LAST at hEL; simp; omega
    have HF := Hi (show false = r from by rw [← HR.out, HCX.out]; simp [hEL])
    clear hEL
    go_wp2_with fail
    go_ret
    exact ⟨ret_bool HF.out, HBW.out⟩
end Go.Proofs.YtkicidopjihjmaaGreat.Li
set_option maxRecDepth 20000
namespace Go.Proofs.YtkicidopjihjmaaGreat.Li
open Go Go.RowKit
def OwnRes (w : World) (l : Lim) (e : Ending) (w' : World) : Prop := ∃ A' c', e = .returned (.agg (limC l.cut.E A' (cutN l) c')) ∧ LimRd w' w'.heap.size A' (cutN l) l.cut.r ∧ (∀ k p, k < 3 → A' k = some p → w.heap.size ≤ p.block) ∧ (∀ k p, k < 3 → A' k = some p → p.block < w'.heap.size) ∧ Below w.heap.size w w'
structure TlAt (W w : World) (g7 g8 : Nat) (l l1 : Lim) (A : Nat → Option Addr) (n c : Nat → Nat) (A7 : Nat → Option Addr) (c7 : Nat → Nat) (A8 : Nat → Option Addr) (c8 : Nat → Nat) : Prop where
 x : RowAt w W.heap.size 32 (limC l.E A n c)
 hx : LimRd w W.heap.size A n l.r
 r7 : RowAt w g7 32 (limC l.cut.E A7 (cutN l) c7)
 r8 : RowAt w g8 32 (limC l1.cut.E A8 (cutN l1) c8)
 d7 : LimRd w w.heap.size A7 (cutN l) l.cut.r
 d8 : LimRd w w.heap.size A8 (cutN l1) l1.cut.r
 below : Below W.heap.size W w
theorem TlAt.later {W w w' : World} {g7 g8 : Nat} {l l1 : Lim} {A : Nat → Option Addr} {n c : Nat → Nat} {A7 : Nat → Option Addr} {c7 : Nat → Nat} {A8 : Nat → Option Addr} {c8 : Nat → Nat} (h : TlAt W w g7 g8 l l1 A n c A7 c7 A8 c8) (hb : Below w.heap.size w w') : TlAt W w' g7 g8 l l1 A n c A7 c7 A8 c8 :=
 ⟨h.x.below hb, h.hx.below (hb.mono h.below.size), h.r7.below hb, h.r8.below hb, (h.d7.below hb).more hb.size, (h.d8.below hb).more hb.size, h.below.trans (hb.mono h.below.size)⟩
structure GenRow (w : World) (lo hi : Nat) (A : Option Addr) (n : Nat) : Prop where
 row : 0 < n → ∃ (g : Nat) (cur : Array Value), A = some ⟨g, 0, none⟩ ∧ lo ≤ g ∧ g < hi ∧ RowAt w g 41 cur ∧ ∀ k, k < n → ∃ z : Int, cur[k * 2 + 1]? = some (.int .u64 z)
theorem GenRow.of_own {w : World} {base n c : Nat} {A : Option Addr} {xs : List Ent} (h : w.ownsRow base 41 2 (.slice A n c) n (Cs encE xs)) (hx : xs.length = n) : GenRow w base w.heap.size A n := by
 refine ⟨fun h0 => ?_⟩
 rcases h.2 with ⟨_, rfl⟩ | ⟨g, cap, cur, hv, hb, hh, _, _, _, ht⟩
 · omega
 ·
  injection hv with h1 h2 h3
  have hr : RowAt w g 41 cur := hh
  refine ⟨g, cur, h1, hb, hr.lt, hr, fun k hk => ?_⟩
  have hk2 : k < xs.length := by omega
  have e1 := Cs_at encE_len xs k 1 hk2 (by omega)
  refine ⟨xs[k].2, ?_⟩
  rw [← ht] at e1
  rw [List.getElem?_take] at e1
  split at e1
  · rw [← Array.getElem?_toList]; rw [e1]; rfl
  · simp [encE] at e1
theorem GenRow.lower {w : World} {lo lo2 hi n : Nat} {A : Option Addr} (h : GenRow w lo hi A n) (hl : lo2 ≤ lo) : GenRow w lo2 hi A n :=
 ⟨fun h0 => by obtain ⟨g, cur, h1, h2, h3, h4, h5⟩ := h.row h0; exact ⟨g, cur, h1, Nat.le_trans hl h2, h3, h4, h5⟩⟩
theorem GenRow.keep {w w' : World} {lo hi n : Nat} {A : Option Addr} (h : GenRow w lo hi A n) (hk : ∀ g, lo ≤ g → g < hi → w'.heap[g]? = w.heap[g]?) : GenRow w' lo hi A n :=
 ⟨fun h0 => by obtain ⟨g, cur, h1, h2, h3, h4, h5⟩ := h.row h0; exact ⟨g, cur, h1, h2, h3, h4.heap (hk g h2 h3), h5⟩⟩
theorem GenRow.set {w : World} {lo hi n g : Nat} (h : GenRow w lo hi (some ⟨g, 0, none⟩) n) (k : Nat) (z : Int) : GenRow (w.setCell ⟨g, k * 2 + 1, none⟩ (.int .u64 z)) lo hi (some ⟨g, 0, none⟩) n :=
 ⟨fun h0 => by
  obtain ⟨g', cur, h1, h2, h3, h4, h5⟩ := h.row h0
  have hg : g = g' := by injection h1 with h1; injection h1
  subst hg
  refine ⟨g, _, rfl, h2, h3, h4.set (k * 2 + 1) _, fun j hj => ?_⟩
  obtain ⟨z', hz⟩ := h5 j hj
  by_cases hjk : j = k
  ·
   subst hjk
   refine ⟨z, ?_⟩
   rw [Array.getElem?_setIfInBounds_self]
   have : j * 2 + 1 < cur.size := by
    rcases Nat.lt_or_ge (j * 2 + 1) cur.size with hlt | hge
    · exact hlt
    · rw [Array.getElem?_eq_none hge] at hz; cases hz
   simp [this]
  refine ⟨z', ?_⟩
  rw [Array.getElem?_setIfInBounds_ne (by omega)]
  exact hz⟩
structure GLoop (w7 : World) (mid hi : Nat) (A : Option Addr) (n : Nat) (A2 : Option Addr) (n2 : Nat) (w : World) : Prop where
 g1 : GenRow w w7.heap.size mid A n
 g2 : GenRow w mid hi A2 n2
 below : Below w7.heap.size w7 w
 le : w7.heap.size ≤ mid
 lt : hi ≤ w.heap.size
 le2 : mid ≤ hi
theorem GLoop.later {w7 w w' : World} {mid hi n n2 : Nat} {A A2 : Option Addr} (h : GLoop w7 mid hi A n A2 n2 w) (hb : Below w.heap.size w w') : GLoop w7 mid hi A n A2 n2 w' :=
 ⟨h.g1.keep (fun g _ hg => hb.block g (by have := h.lt; have := h.le2; omega)), h.g2.keep (fun g _ hg => hb.block g (by have := h.lt; omega)), h.below.trans (hb.mono h.below.size), h.le, Nat.le_trans h.lt hb.size, h.le2⟩
theorem GLoop.set1 {w7 w : World} {mid hi n n2 g : Nat} {A2 : Option Addr} (h : GLoop w7 mid hi (some ⟨g, 0, none⟩) n A2 n2 w) (hlo : w7.heap.size ≤ g) (hhi : g < mid) (k : Nat) (z : Int) : GLoop w7 mid hi (some ⟨g, 0, none⟩) n A2 n2 (w.setCell ⟨g, k * 2 + 1, none⟩ (.int .u64 z)) :=
 ⟨h.g1.set k z, h.g2.keep (fun j hj _ => heap_setCell_ne _ _ _ _ (by show j ≠ g; omega)), h.below.setCell hlo _, h.le, by simpa using h.lt, h.le2⟩
theorem GLoop.set2 {w7 w : World} {mid hi n n2 g : Nat} {A : Option Addr} (h : GLoop w7 mid hi A n (some ⟨g, 0, none⟩) n2 w) (hlo : mid ≤ g) (k : Nat) (z : Int) : GLoop w7 mid hi A n (some ⟨g, 0, none⟩) n2 (w.setCell ⟨g, k * 2 + 1, none⟩ (.int .u64 z)) :=
 ⟨h.g1.keep (fun j _ hj => heap_setCell_ne _ _ _ _ (by show j ≠ g; omega)), h.g2.set k z, h.below.setCell (Nat.le_trans h.le hlo) _, h.le, by simpa using h.lt, h.le2⟩
def RowRes (W : World) (xs : List Ent) (n : Nat) (e : Ending) (W' : World) : Prop := ∃ A c, e = .returned (.slice A n c) ∧ Rd W' W'.heap.size 2 A n (Cs encE xs) ∧ GenRow W' W.heap.size W'.heap.size A n ∧ Below W.heap.size W W'
theorem row_res {f : FuncId} {args : Array Value} {W : World} {xs : List Ent} {n : Nat} (h : Calls Tryz.prog f args W fun e W' => ∃ v, e = .returned v ∧ W'.ownsRow W.heap.size 41 2 v xs.length (Cs encE xs) ∧ Below W.heap.size W W') (hn : xs.length = n) : Calls Tryz.prog f args W (RowRes W xs n) :=
 h.mono fun e W' ⟨v, he, ho, hb⟩ => by
  subst hn
  obtain ⟨A, c, rfl, _⟩ := own_form ho
  exact ⟨A, c, he, Rd.of_own ho, GenRow.of_own ho rfl, hb⟩
theorem of_two {A : Nat → Option Addr} {n c : Nat → Nat} {E : Nat} (hE : E < 18446744073709551616) (W : World) : Calls Tryz.prog 74 #[.agg (limC E A n c), .int .u64 2] W fun e W' => e = .returned (.slice (ofA E A 2) (ofN E n 2) (ofN E c 2)) ∧ Below W.heap.size W W' :=
 of_any A n c E 2 (by omega) hE W
theorem ofL_ok {l : Lim} (h : l.ok = true) : ofL l 2 = l.at 2 := by
 unfold ofL
 by_cases hE : l.E < 2
 ·
  rw [if_pos hE]
  by_cases hn : l.at 2 = []
  · exact hn.symm
  · have := ok_at h (by omega) hn; omega
 · rw [if_neg hE]
end Go.Proofs.YtkicidopjihjmaaGreat.Li
set_option maxRecDepth 20000
namespace Go.Proofs.YtkicidopjihjmaaGreat.Li
open Go Go.RowKit
attribute [local go_sem] via_cell via_frozen
def pu {α : Type} (f : Nat → α) (k : Nat) (v : α) : Nat → α := fun j => if j = k then v else f j
def LowL (Q : Nat → Prop) (w : World) (A : Nat → Option Addr) (n : Nat → Nat) : Prop := ∀ k p, k < 3 → 0 < n k → A k = some p → Q p.block ∧ p.block < w.heap.size
theorem LowL.pu {Q : Nat → Prop} {w : World} {A : Nat → Option Addr} {n : Nat → Nat} (h : LowL Q w A n) (k : Nat) {A1 : Option Addr} {n1 : Nat} (h1 : ∀ p, A1 = some p → Q p.block ∧ p.block < w.heap.size) : LowL Q w (pu A k A1) (pu n k n1) := by
 intro j p hj hn hp
 by_cases hjk : j = k
 ·
  simp only [Go.Proofs.YtkicidopjihjmaaGreat.Li.pu, if_pos hjk] at hp
  exact h1 p hp
 ·
  simp only [Go.Proofs.YtkicidopjihjmaaGreat.Li.pu, if_neg hjk] at hp hn
  exact h j p hj hn hp
theorem LowL.more {Q : Nat → Prop} {w w' : World} {A : Nat → Option Addr} {n : Nat → Nat} (h : LowL Q w A n) (hs : w.heap.size ≤ w'.heap.size) : LowL Q w' A n := fun k p hk hn hp => ⟨(h k p hk hn hp).1, Nat.lt_of_lt_of_le (h k p hk hn hp).2 hs⟩
theorem own_fresh2 {w : World} {base : Nat} {e : TypeId} {sz n : Nat} {A : Option Addr} {c : Nat} {xs : List Value} (h : w.ownsRow base e sz (.slice A n c) n xs) (p : Addr) (hp : A = some p) : base ≤ p.block ∧ p.block < w.heap.size := by
 rcases h.2 with ⟨hv, _⟩ | ⟨g, cap, cur, hv, hg, hh, _⟩
 · injection hv with h1; rw [hp] at h1; cases h1
 ·
  injection hv with h1; rw [hp] at h1; injection h1 with h1; subst h1
  exact ⟨hg, (Array.getElem?_eq_some_iff.1 hh).1⟩
def valL : Except Int Lim → Lim
 | .ok l => l
 | .error _ => lim0
def errL {α : Type} : Except Int α → Int
 | .ok _ => 0
 | .error k => k
def CapL (n c : Nat → Nat) : Prop := ∀ k, k < 3 → (n k : Int) ≤ (c k : Int) ∧ (c k : Int) ≤ 9223372036854775807
theorem CapL.zero : CapL (fun _ => 0) (fun _ => 0) := fun k _ => ⟨by show ((0 : Nat) : Int) ≤ ((0 : Nat) : Int); omega, by show ((0 : Nat) : Int) ≤ 9223372036854775807; omega⟩
theorem CapL.pu {n c : Nat → Nat} (h : CapL n c) (k : Nat) {n1 c1 : Nat} (h1 : n1 ≤ c1) (h2 : c1 ≤ 9223372036854775807) : CapL (pu n k n1) (pu c k c1) := by
 intro j hj
 unfold Go.Proofs.YtkicidopjihjmaaGreat.Li.pu
 by_cases hjk : j = k
 · simp only [if_pos hjk]; omega
 · simp only [if_neg hjk]; exact h j hj
def RefRes (W : World) (Q : Nat → Prop) (r : Except Int Lim) (e : Ending) (W' : World) : Prop := ∃ A' n' c', e = .returned (.tuple #[.agg (limC (valL r).E A' n' c'), .int .i64 (errL r)]) ∧ LimRd W' W'.heap.size A' n' (valL r).r ∧ LowL Q W' A' n' ∧ CapL n' c' ∧ Below W.heap.size W W'
theorem refRes_err {W W' : World} {Q : Nat → Prop} {r : Except Int Lim} {k : Int} (hr : r = .error k) (hb : Below W.heap.size W W') : RefRes W Q r (.returned (.tuple #[.agg zeroC, .int .i64 k])) W' := by
 subst hr
 exact ⟨fun _ => none, fun _ => 0, fun _ => 0, rfl, zero_rd W' _, fun k p _ _ h => (by cases h), CapL.zero, hb⟩
theorem refRes_ok {W W' : World} {Q : Nat → Prop} {r : Except Int Lim} {l : Lim} {A' : Nat → Option Addr} {n' c' : Nat → Nat} (hr : r = .ok l) (hd : LimRd W' W'.heap.size A' n' l.r) (hl : LowL Q W' A' n') (hcp : CapL n' c') (hb : Below W.heap.size W W') : RefRes W Q r (.returned (.tuple #[.agg (limC l.E A' n' c'), .int .i64 0])) W' := by
 subst hr
 exact ⟨A', n', c', rfl, hd, hl, hcp, hb⟩
theorem LimRd.put {w : World} {B : Nat} {A : Nat → Option Addr} {n : Nat → Nat} {r : Nat → List Ent} (h : LimRd w B A n r) (k : Nat) {A1 : Option Addr} {n1 : Nat} {xs : List Ent} (hr : Rd w B 2 A1 n1 (Cs encE xs)) (hx : xs.length = n1) : LimRd w B (pu A k A1) (pu n k n1) (upd r k xs) := by
 refine ⟨fun j hj => ?_, fun j hj => ?_⟩
 ·
  unfold pu upd
  by_cases hjk : j = k
  · simp only [if_pos hjk]; exact hr
  · simp only [if_neg hjk]; exact h.rd j hj
 ·
  unfold pu upd
  by_cases hjk : j = k
  · simp only [if_pos hjk]; exact hx
  · simp only [if_neg hjk]; exact h.len j hj
theorem with_any (A : Nat → Option Addr) (n c : Nat → Nat) (E ago : Nat) (As : Option Addr) (ns cs : Nat) (ha : ago < 3) (hle : ago ≤ E) (hE : E < 18446744073709551616) (W : World) :
  Calls Tryz.prog 146 #[.agg (limC E A n c), .int .u64 (ago : Int), .slice As ns cs] W fun e W' => e = .returned (.agg (limC E (pu A (rowN E ago) As) (pu n (rowN E ago) ns) (pu c (rowN E ago) cs))) ∧ Below W.heap.size W W' := by
 obtain ⟨w1, hww1⟩ : ∃ w1, W.alloc (.cells (limC E A n c) 32) = w1 := ⟨_, rfl⟩
 obtain ⟨w2, hw2⟩ : ∃ w2, w1.alloc (.cells zeroC 32) = w2 := ⟨_, rfl⟩
 have s1 : w1.heap.size = W.heap.size + 1 := by rw [← hww1]; simp
 have b1 := baw hww1
 have b2 := baw hw2
 have r1 : RowAt w2 W.heap.size 32 (limC E A n c) := by have h := RowAt.new W 32 (limC E A n c); rw [hww1] at h; exact h.below b2
 have r2 : RowAt w2 (W.heap.size + 1) 32 zeroC := by have h := RowAt.new w1 32 zeroC; rw [hw2, s1] at h; exact h
 have HB := Hi (b1.trans (b2.mono b1.size))
 have R1 := Hi r1
 have R2 := Hi r2
 have hk3 := rowN_lt E ago
 have hw1 : IntKind.u64.wrap ((E : Int) - (ago : Int)) = (E : Int) - (ago : Int) := IntWalk.u64_in _ (by omega)
 have hleI : (ago : Int) ≤ (E : Int) := by omega
 have hmod : ((E : Int) - (ago : Int)) % 3 = ((rowN E ago : Nat) : Int) := by rw [← rowN_ref hle]; omega
 have hkI : ((rowN E ago : Nat) : Int) < 3 := by omega
 clear b1 b2 s1 r1 r2 hle
 subst hw2
 subst hww1
 generalize rowN E ago = kk at *
 have HUP : Hid ((limC E A n c).setIfInBounds (1 + kk) (.slice As ns cs) = limC E (pu A kk As) (pu n kk ns) (pu c kk cs)) := Hi (limC_updn E A n c hk3 As ns cs)
 generalize pu A kk As = A3 at *
 generalize pu n kk ns = n3 at *
 generalize pu c kk cs = c3 at *
 go_enter Tryz.func146, Tryz.ntmps146
 go_upto_region 1 with (fail)
 generalize (W.alloc _).alloc _ = w2 at *
 have q0 : w2.cell? ⟨W.heap.size, 0, none⟩ = some (.int .u64 (E : Int)) := by rw [R1.out.cell 0]; rfl
 have hc := limC_cell R1.out hk3
 have hf := R1.out.frozen (1 + kk)
 have ql := R1.out.lt
 go_upto_region 2 with (fail)
 have R3 := Hi (show RowAt (w2.setCell ⟨W.heap.size, 1 + kk, none⟩ (.slice As ns cs)) W.heap.size 32 (limC E A3 n3 c3) from by have h := R1.out.set (1 + kk) (.slice As ns cs); rw [HUP.out] at h; exact h)
 have R4 := Hi (R2.out.setNe (g2 := W.heap.size) (o := 1 + kk) (v := .slice As ns cs) (by omega))
 have HB3 := Hi (HB.out.setCell (p := ⟨W.heap.size, 1 + kk, none⟩) (Nat.le_refl _) (.slice As ns cs))
 clear q0 hc hf ql R1 R2 HB hmod hw1 hleI
 generalize w2.setCell _ _ = w3 at *
 have q0 := cl R3.out 0
 have q1 := cl R3.out 1
 have q2 := cl R3.out 2
 have q3 := cl R3.out 3
 have ql := R3.out.lt
 have z0 := cl R4.out 0
 have z1 := cl R4.out 1
 have z2 := cl R4.out 2
 have z3 := cl R4.out 3
 have zl := RowAt.lt R4.out
 have f0 := RowAt.frozen R4.out 0
 have f1 := RowAt.frozen R4.out 1
 have f2 := RowAt.frozen R4.out 2
 have f3 := RowAt.frozen R4.out 3
 have HLD : Hid (LaidL (W.heap.size + 1) w3 (limC E A3 n3 c3) ((((w3.setCell ⟨(W.heap.size + 1), 0, none⟩ (.int .u64 (E : Int))).setCell ⟨(W.heap.size + 1), 1, none⟩ (.slice (A3 0) (n3 0) (c3 0))).setCell ⟨(W.heap.size + 1), 2, none⟩ (.slice (A3 1) (n3 1) (c3 1))).setCell ⟨(W.heap.size + 1), 3, none⟩ (.slice (A3 2) (n3 2) (c3 2)))) := Hi (laidL_of R4.out rfl)
 go_wp2_with fail
 generalize (((w3.setCell _ _).setCell _ _).setCell _ _).setCell _ _ = w9 at *
 have y0 := cl HLD.out.row 0
 have y1 := cl HLD.out.row 1
 have y2 := cl HLD.out.row 2
 have y3 := cl HLD.out.row 3
 have yl := HLD.out.row.lt
 refine bodyPost_ret (v := .agg (limC E A3 n3 c3)) (by simp [results, Tryz.results146, go_sem, y0, y1, y2, y3, yl]) rfl ?_
 exact ⟨rfl, HB3.out.trans (HLD.out.below.mono (by omega))⟩
theorem ofL_zero (l : Lim) : ofL l 0 = l.at 0 := by unfold ofL; rw [if_neg (Nat.not_lt_zero _)]
theorem has_held {l : Lim} (hok : l.ok = true) (s : Int) : hasB (heldL l) s = (hasB (l.r 0) s || (hasB (l.r 1) s || hasB (l.r 2) s)) := by
 have h3 : ∀ k, k < 3 → ∃ a, a < 3 ∧ rowN l.E a = k := fun k hk => by
  unfold rowN
  match k, hk with
  | 0, _ => exact ⟨l.E % 3, by omega, by omega⟩
  | 1, _ => exact ⟨(l.E + 2) % 3, by omega, by omega⟩
  | 2, _ => exact ⟨(l.E + 1) % 3, by omega, by omega⟩
 have hh : heldL l = l.at 2 ++ (l.at 1 ++ l.at 0) := by rw [heldL_ok hok]; rfl
 have hin : ∀ a, a < 3 → hasB (l.at a) s = true → hasB (heldL l) s = true := fun a ha h => by
  rw [hh]; unfold hasB at h ⊢
  rw [List.any_append, List.any_append]
  match a, ha with
  | 0, _ => rw [h]; simp
  | 1, _ => rw [h]; simp
  | 2, _ => rw [h]; simp
 rcases Bool.eq_false_or_eq_true (hasB (heldL l) s) with ht | hf
 ·
  rw [ht]
  have h4 : hasB (l.at 2) s = true ∨ hasB (l.at 1) s = true ∨ hasB (l.at 0) s = true := by
   rw [hh] at ht; unfold hasB at ht ⊢
   rw [List.any_append, List.any_append] at ht
   simpa using ht
  have h5 : hasB (l.r 0) s = true ∨ hasB (l.r 1) s = true ∨ hasB (l.r 2) s = true := by
   rcases h4 with h | h | h <;> rcases at_row (l := l) _ with e | e | e <;> (rw [e] at h; simp [h])
  rcases h5 with h | h | h <;> simp [h]
 ·
  rw [hf]
  have h6 : ∀ k, k < 3 → hasB (l.r k) s = false := fun k hk => by
   obtain ⟨a, ha, he⟩ := h3 k hk
   rcases Bool.eq_false_or_eq_true (hasB (l.r k) s) with h | h
   ·
    exfalso
    have := hin a ha (by unfold Lim.at; rw [he]; exact h)
    rw [hf] at this; cases this
   · exact h
  rw [h6 0 (by omega), h6 1 (by omega), h6 2 (by omega)]; rfl
theorem keptB {B : Nat} {w w1 : World} {g o : Nat} {v : Value} (hb : Below B w w1) (hlt : g < B) (h : w.cell? ⟨g, o, none⟩ = some v) : w1.cell? ⟨g, o, none⟩ = some v := (hb.cell (p := ⟨g, o, none⟩) hlt).trans h
theorem rd_ent {w : World} {g : Nat} {s z : Int} (h : RowAt w g 41 #[.int .i64 s, .int .u64 z]) : Rd w w.heap.size 2 (some ⟨g, 0, none⟩) 1 (Cs encE [(s, z)]) := by
 refine ⟨rfl, fun _ => ⟨g, 0, rfl, h.lt, fun j u hu => ?_⟩⟩
 rw [show (0 : Nat) + j = j from Nat.zero_add j, h.cell]
 match j with
 | 0 => exact hu
 | 1 => exact hu
 | (k + 2) => simp [Cs, encE] at hu
theorem ret_row {w : World} {base n1 n9 c : Nat} {A : Option Addr} {xs ys : List Ent} {x : Ent} (h : w.ownsRow base 41 2 (.slice A n9 c) n9 (([] ++ Cs encE xs) ++ Cs encE [x])) (h9 : 0 + n1 + 1 = n9) (hx : xs.length = n1) (he : xs = ys) : Rd w w.heap.size 2 A n9 (Cs encE (ys ++ [x])) ∧ (ys ++ [x]).length = n9 := by
 subst he
 have e2 : Cs encE (xs ++ [x]) = ([] ++ Cs encE xs) ++ Cs encE [x] := by rw [Cs_append]; simp
 exact ⟨by rw [e2]; exact Rd.of_own h, by simp; omega⟩
theorem rret_any (Q : Nat → Prop) (A : Nat → Option Addr) (n c : Nat → Nat) (l : Lim) (s g : Int) (W : World) (h : LimRd W W.heap.size A n l.r) (hlo : LowL Q W A n) (hl : ∀ j, W.heap.size ≤ j → Q j) (hok : l.ok = true) (hm : ∀ k, k < 3 → n k ≤ 4096) (hcp : CapL n c) :
  Calls Tryz.prog 117 #[.agg (limC l.E A n c), .agg #[.int .i64 s, .int .u64 g]] W (RefRes W Q (doRet l (s, g))) := by
 obtain ⟨w1, hw1⟩ : ∃ w1, W.alloc (.cells (limC l.E A n c) 32) = w1 := ⟨_, rfl⟩
 obtain ⟨w2, hw2⟩ : ∃ w2, w1.alloc (.cells #[.int .i64 s, .int .u64 g] 41) = w2 := ⟨_, rfl⟩
 obtain ⟨w3, hw3⟩ : ∃ w3, w2.alloc (.cells zeroC 32) = w3 := ⟨_, rfl⟩
 have s1 : w1.heap.size = W.heap.size + 1 := by rw [← hw1]; simp
 have s2 : w2.heap.size = W.heap.size + 1 + 1 := by rw [← hw2]; simp [s1]
 have b1 := baw hw1
 have b2 := baw hw2
 have b3 := baw hw3
 have r1 : RowAt w3 W.heap.size 32 (limC l.E A n c) := by have h := RowAt.new W 32 (limC l.E A n c); rw [hw1] at h; exact (h.below b2).below b3
 have r2 : RowAt w3 (W.heap.size + 1) 41 #[.int .i64 s, .int .u64 g] := by have h := RowAt.new w1 41 #[.int .i64 s, .int .u64 g]; rw [hw2, s1] at h; exact h.below b3
 have r3 : RowAt w3 (W.heap.size + 1 + 1) 32 zeroC := by have h := RowAt.new w2 32 zeroC; rw [hw3, s2] at h; exact h
 have hb0 := (b1.trans (b2.mono b1.size)).trans (b3.mono (Nat.le_trans b1.size b2.size))
 have HB := Hi hb0
 have R1 := Hi r1
 have R2 := Hi r2
 have R3 := Hi r3
 have HD := Hi ((h.below hb0).more hb0.size)
 have HD0 := Hi (h.below hb0)
 have HLO := Hi hlo
 have HL := Hi hl
 have HCP := Hi hcp
 have HOK := Hi hok
 have HM := Hi hm
 have HE : Hid (l.E < 18446744073709551616) := Hi (by have := (ok_out hok).1; unfold LAST at this; omega)
 have HLN : Hid (∀ a, ofN l.E n a ≤ 4096) := Hi (fun a => by
  unfold ofN
  split
  · omega
  · exact hm _ (rowN_lt l.E a))
 obtain ⟨be, hbe⟩ : ∃ b, entB (s, g) = b := ⟨_, rfl⟩
 obtain ⟨bh, hbh⟩ : ∃ b, hasB (heldL l) s = b := ⟨_, rfl⟩
 have HBE := Hi hbe
 have HBH := Hi hbh
 have HX : Hid (hasB (heldL l) s = (hasB (l.r 0) s || (hasB (l.r 1) s || hasB (l.r 2) s))) := Hi (has_held hok s)
 have HLH : Hid ((heldL l).length ≤ 12288) := Hi (by rw [heldL_ok hok]; have := ok_held_len hok; omega)
 clear b1 b2 b3 s1 s2 r1 r2 r3 hb0 h hlo hl hcp hok hm hbe hbh
 subst hw3
 subst hw2
 subst hw1
 go_enter Tryz.func117, Tryz.ntmps117
 go_upto_region 1 with (fail)
 generalize ((W.alloc _).alloc _).alloc _ = w3 at *
 have e0 := row20 R2.out
 have e1 := row21 R2.out
 have el := R2.out.lt
 have HC := Hi (refentry_any s g w3 be HBE.out)
 go_wp2_with fail
 with_reducible refine HC.out.mono ?_
 rintro e w4 ⟨rfl, hb⟩
 replace R1 := Hi (R1.out.below hb)
 replace R2 := Hi (R2.out.below hb)
 replace R3 := Hi (R3.out.below hb)
 replace HD := Hi ((HD.out.below hb).more hb.size)
 replace HD0 := Hi (HD0.out.below (hb.mono HB.out.size))
 replace HB := bt HB hb
 clear e0 e1 el hb HC
 cases be with
 | false =>
  have HF := Hi (show doRet l (s, g) = .error 2 from by unfold doRet; rw [if_pos HBE.out])
  have z0 := cl R3.out 0
  have z1 := cl R3.out 1
  have z2 := cl R3.out 2
  have z3 := cl R3.out 3
  have zl := RowAt.lt R3.out
  have f0 := RowAt.frozen R3.out 0
  have f1 := RowAt.frozen R3.out 1
  have f2 := RowAt.frozen R3.out 2
  have f3 := RowAt.frozen R3.out 3
  have HLD : Hid (LaidL (W.heap.size + 1 + 1) w4 zeroC ((((w4.setCell ⟨(W.heap.size + 1 + 1), 0, none⟩ (.int .u64 0)).setCell ⟨(W.heap.size + 1 + 1), 1, none⟩ (.slice none 0 0)).setCell ⟨(W.heap.size + 1 + 1), 2, none⟩ (.slice none 0 0)).setCell ⟨(W.heap.size + 1 + 1), 3, none⟩ (.slice none 0 0))) := Hi (laidL_of R3.out rfl)
  go_wp2_with fail
  generalize (((w4.setCell _ _).setCell _ _).setCell _ _).setCell _ _ = w99 at *
  have y0 := cl HLD.out.row 0
  have y1 := cl HLD.out.row 1
  have y2 := cl HLD.out.row 2
  have y3 := cl HLD.out.row 3
  have yl := HLD.out.row.lt
  refine bodyPost_ret (v := .tuple #[.agg zeroC, .int .i64 2]) (by simp [results, Tryz.results117, go_sem, y0, y1, y2, y3, yl]) rfl ?_
  exact refRes_err HF.out (HB.out.trans (HLD.out.below.mono (by omega)))
 | true =>
  go_wp2_with fail
  have q0 := cl R1.out 0
  have q1 := cl R1.out 1
  have q2 := cl R1.out 2
  have q3 := cl R1.out 3
  have e0 := row20 R2.out
  have e1 := row21 R2.out
  have el := R2.out.lt
  have ql := R1.out.lt
  have HRH := Hi (fun (w : World) (hb : Below w4.heap.size w4 w) => row_res (rheld_any A n c l w ((HD.out.below hb).more hb.size) HE.out HM.out) rfl)
  have HHS := Hi (fun (w : World) (Ah : Option Addr) (ch : Nat) (hr : Rd w w.heap.size 2 Ah (heldL l).length (Cs encE (heldL l))) => has_any w.heap.size Ah ch (heldL l).length s (heldL l) w hr rfl HLH.out (Nat.le_refl _) bh HBH.out)
  go_upto_region 3 with (fail)
  refine wp_region_held_drew (S := fun wX => Below w4.heap.size w4 wX) (by kernel_rfl) (Below.refl _ _).drew (fun hHeld => ?_)
  have HQ := Hi ((Below.refl w4.heap.size w4).drew)
  (refine tkH (i := 0) (v := ?_) rfl (Or.inl ⟨by rfl, ?_⟩) ?_; rotate_left; (focus (intro w hSw; (try dsimp only at hSw); have kf0 := kept hSw q0; have kf1 := kept hSw q1; have kf2 := kept hSw q2; have kf3 := kept hSw q3; go_simp; first | done | with_reducible rfl)); (try simp only [Act.put, Na, Nb, Nc, Nd, Nx, Nf]))
  refine tkI (i := 2) rfl ?_
  (refine tkH (i := 3) (v := ?_) rfl (Or.inl ⟨by rfl, ?_⟩) ?_; rotate_left; (focus (intro w hSw; (try dsimp only at hSw); have kf0 := kept hSw e0; go_simp; first | done | with_reducible rfl)); (try simp only [Act.put, Na, Nb, Nc, Nd, Nx, Nf]))
  refine ryH (i := 1) rfl (fun K0 hK0 => ?_)
  go_simp
  refine (HRH.out _ HQ.out).mono ?_
  rintro e u1 ⟨Ah, ch, rfl, hrh, _, hb_⟩
  have HRB := Hi hrh
  clear hrh
  replace HQ := bt HQ hb_
  clear hb_
  refine hK0.out _ _ HQ.out (fun _ => wnH ?_)
  clear hK0 K0
  refine ryH (i := 4) rfl (fun K1 hK1 => ?_)
  go_simp
  refine (HHS.out _ Ah ch HRB.out).mono ?_
  rintro e u2 ⟨rfl, hb_⟩
  replace HQ := bt HQ hb_
  clear hb_
  refine hK1.out _ _ HQ.out (fun _ => wnH ?_)
  clear hK1 K1
  refine wpAnyH_done (by kernel_rfl) ?_ _
  replace R1 := Hi (R1.out.below HQ.out)
  replace R2 := Hi (R2.out.below HQ.out)
  replace R3 := Hi (R3.out.below HQ.out)
  replace HD := Hi ((HD.out.below HQ.out).more HQ.out.size)
  replace HD0 := Hi (HD0.out.below (HQ.out.mono HB.out.size))
  replace HB := Hi (HB.out.trans (HQ.out.mono HB.out.size))
  clear q0 q1 q2 q3 e0 e1 el ql HRH HHS HRB HQ
  cases bh with
  | true =>
   have HF := Hi (show doRet l (s, g) = .error 5 from by unfold doRet; rw [if_neg (by rw [HBE.out]; simp), if_pos (by rw [← HX.out]; exact HBH.out)])
   have z0 := cl R3.out 0
   have z1 := cl R3.out 1
   have z2 := cl R3.out 2
   have z3 := cl R3.out 3
   have zl := RowAt.lt R3.out
   have f0 := RowAt.frozen R3.out 0
   have f1 := RowAt.frozen R3.out 1
   have f2 := RowAt.frozen R3.out 2
   have f3 := RowAt.frozen R3.out 3
   have HLD : Hid (LaidL (W.heap.size + 1 + 1) u2 zeroC ((((u2.setCell ⟨(W.heap.size + 1 + 1), 0, none⟩ (.int .u64 0)).setCell ⟨(W.heap.size + 1 + 1), 1, none⟩ (.slice none 0 0)).setCell ⟨(W.heap.size + 1 + 1), 2, none⟩ (.slice none 0 0)).setCell ⟨(W.heap.size + 1 + 1), 3, none⟩ (.slice none 0 0))) := Hi (laidL_of R3.out rfl)
   go_wp2_with fail
   generalize (((u2.setCell _ _).setCell _ _).setCell _ _).setCell _ _ = w99 at *
   have y0 := cl HLD.out.row 0
   have y1 := cl HLD.out.row 1
   have y2 := cl HLD.out.row 2
   have y3 := cl HLD.out.row 3
   have yl := HLD.out.row.lt
   refine bodyPost_ret (v := .tuple #[.agg zeroC, .int .i64 5]) (by simp [results, Tryz.results117, go_sem, y0, y1, y2, y3, yl]) rfl ?_
   exact refRes_err HF.out (HB.out.trans (HLD.out.below.mono (by omega)))
  | false =>
   have HF := Hi (show doRet l (s, g) = .ok ⟨l.E, upd l.r (rowN l.E 0) (l.at 0 ++ [(s, g)])⟩ from by unfold doRet; rw [if_neg (by rw [HBE.out]; simp), if_neg (by rw [← HX.out]; rw [HBH.out]; simp)])
   go_wp2_with fail
   have q0 := cl R1.out 0
   have q1 := cl R1.out 1
   have q2 := cl R1.out 2
   have q3 := cl R1.out 3
   have e0 := row20 R2.out
   have e1 := row21 R2.out
   have el := R2.out.lt
   have ql := R1.out.lt
   have HOF := Hi (fun (w : World) => show Calls Tryz.prog 74 #[.agg (limC l.E A n c), .int .u64 0] w _ from of_any A n c l.E 0 (by omega) HE.out w)
   have HRD := Hi (fun (w : World) (hb : Below u2.heap.size u2 w) => of_rd ((HD.out.below hb).more hb.size) 0)
   have HWT := Hi (fun (w : World) (As : Option Addr) (ns cs : Nat) => show Calls Tryz.prog 146 #[.agg (limC l.E A n c), .int .u64 0, .slice As ns cs] w _ from with_any A n c l.E 0 As ns cs (by omega) (Nat.zero_le _) HE.out w)
   have HLA := Hi (HRD.out u2 (Below.refl _ _)).2
   have HEA : Hid (ofL l 0 = l.at 0) := Hi (ofL_zero l)
   have GLE : Hid (W.heap.size + 1 + 1 ≤ u2.heap.size) := Hi (Nat.le_of_lt R3.out.lt)
   go_upto_region 5 with (fail)
   refine wp_region_held_drew (S := fun wX => Below (W.heap.size + 1 + 1) u2 wX) (by kernel_rfl) (Below.refl _ _).drew (fun hHeld => ?_)
   have HQ := Hi ((Below.refl u2.heap.size u2).drew)
   (refine tkH (i := 0) (v := ?_) rfl (Or.inl ⟨by rfl, ?_⟩) ?_; rotate_left; (focus (intro w hSw; (try dsimp only at hSw); have kf0 := keptB hSw (by omega) q0; have kf1 := keptB hSw (by omega) q1; have kf2 := keptB hSw (by omega) q2; have kf3 := keptB hSw (by omega) q3; go_simp; first | done | with_reducible rfl)); (try simp only [Act.put, Na, Nb, Nc, Nd, Nx, Nf]))
   (refine tkH (i := 2) (v := ?_) rfl (Or.inl ⟨by rfl, ?_⟩) ?_; rotate_left; (focus (intro w hSw; (try dsimp only at hSw); have kf0 := keptB hSw (by omega) q0; have kf1 := keptB hSw (by omega) q1; have kf2 := keptB hSw (by omega) q2; have kf3 := keptB hSw (by omega) q3; go_simp; first | done | with_reducible rfl)); (try simp only [Act.put, Na, Nb, Nc, Nd, Nx, Nf]))
   (refine tkH (i := 5) (v := ?_) rfl (Or.inl ⟨by rfl, ?_⟩) ?_; rotate_left; (focus (intro w hSw; (try dsimp only at hSw); have kf0 := keptB hSw (by omega) e0; have kf1 := keptB hSw (by omega) e1; go_simp; first | done | with_reducible rfl)); (try simp only [Act.put, Na, Nb, Nc, Nd, Nx, Nf]))
   generalize u2.drew = wd at *
   refine wpAnyH_ready (rs := [1, 3, 6]) (by kernel_rfl) (by simp) ?_
   refine (AllReadyH.cons rfl (fun K0 hK0 => ?_) (AllReadyH.cons rfl (fun K0 hK0 => ?_) (AllReadyH.cons rfl (fun K0 hK0 => ?_) AllReadyH.nil)))
   focus
    go_simp
    refine hK0.out _ _ ((HQ.out.alloc HQ.out.size _).mono GLE.out) (fun _ => wnH ?_)
    clear hK0 K0
    have hbx := ba wd (.cells #[] 41)
    have HO := Hi (World.ownsRow_lit (base := u2.heap.size) (e := 41) (size := 2) wd #[] 0 HQ.out.size (by simp [maxLen]) rfl)
    have G1 := Hi (show wd.heap.size < (wd.alloc (.cells #[] 41)).heap.size from by simp)
    replace HQ := Hi (HQ.out.alloc HQ.out.size (.cells #[] 41))
    clear hbx
    generalize wd.alloc (.cells #[] 41) = wa0 at *
    refine wpAnyH_ready (rs := [3, 6]) (by kernel_rfl) (by simp) ?_
    refine (AllReadyH.cons rfl (fun K1 hK1 => ?_) (AllReadyH.cons rfl (fun K1 hK1 => ?_) AllReadyH.nil))
    focus
     go_simp
     refine (HOF.out _).mono ?_
     rintro e wa1 ⟨rfl, hb1⟩
     replace HO := Hi (own_keepB HO.out hb1)
     replace G1 := Hi (Nat.lt_of_lt_of_le G1.out hb1.size)
     replace HQ := bt HQ hb1
     clear hb1
     refine hK1.out _ _ ((HQ.out).mono GLE.out) (fun _ => wnH ?_)
     clear hK1 K1
     refine wpAnyH_ready (rs := [4, 6]) (by kernel_rfl) (by simp) ?_
     refine (AllReadyH.cons rfl (fun K2 hK2 => ?_) (AllReadyH.cons rfl (fun K2 hK2 => ?_) AllReadyH.nil))
     focus
      rw [if_pos (by rfl)]
      refine wp_app elE _ _ rfl rfl HO.out rfl (HRD.out _ HQ.out).1 (Cs_one_cell encE_one _) (by have := HLN.out 0; omega) HQ.out.size ?_
      intro v2 wa2 hown2 hb2 hbq2 hx2
      replace HO := Hi hown2
      clear G1
      replace HQ := Hi (HQ.out.trans hb2)
      clear hown2 hb2 hbq2 hx2
      refine hK2.out _ _ ((HQ.out).mono GLE.out) (fun _ => wnH ?_)
      clear hK2 K2
      refine ryH (i := 6) rfl (fun K3 hK3 => ?_)
      go_simp
      refine hK3.out _ _ ((HQ.out.alloc HQ.out.size _).mono GLE.out) (fun _ => wnH ?_)
      clear hK3 K3
      have hbx := ba wa2 (.cells #[.int .i64 s, .int .u64 g] 41)
      replace HO := Hi (own_keepB HO.out hbx)
      have R6 := Hi (RowAt.new wa2 41 #[.int .i64 s, .int .u64 g])
      replace HQ := Hi (HQ.out.alloc HQ.out.size (.cells #[.int .i64 s, .int .u64 g] 41))
      clear hbx
      generalize wa2.alloc _ = wa3 at *
      refine ryH (i := 7) rfl (fun K4 hK4 => ?_)
      rw [if_pos (by rfl)]
      refine wp_app elE _ _ rfl rfl HO.out rfl (rd_ent R6.out) (Cs_one_cell encE_one _) (by have := HLN.out 0; omega) HQ.out.size ?_
      intro v4 wa4 hown4 hb4 hbq4 hx4
      replace HO := Hi hown4
      replace HQ := Hi (HQ.out.trans hb4)
      clear hown4 hb4 hbq4 hx4
      obtain ⟨A9, c9, rfl, hcq1, hcq2⟩ := own_form2 HO.out
      have HCQ := Hi (CapL.pu HCP.out (rowN l.E 0) hcq1 hcq2)
      clear hcq1 hcq2
      generalize hn9 : 0 + ofN l.E n 0 + 1 = n9 at HO HCQ ⊢
      have HN9 := Hi hn9
      clear hn9
      refine hK4.out _ _ ((HQ.out).mono GLE.out) (fun _ => wnH ?_)
      clear hK4 K4
      refine ryH (i := 8) rfl (fun K5 hK5 => ?_)
      go_simp
      refine (HWT.out _ A9 n9 c9).mono ?_
      rintro e wa5 ⟨rfl, hb5⟩
      replace HO := Hi (own_keepB HO.out hb5)
      replace HQ := bt HQ hb5
      clear hb5
      refine hK5.out _ _ ((HQ.out).mono GLE.out) (fun _ => wnH ?_)
      clear hK5 K5
      refine ryH (i := 9) rfl (fun K6 hK6 => ?_)
     rotate_left
     focus
      go_simp
      refine hK2.out _ _ ((HQ.out.alloc HQ.out.size _).mono GLE.out) (fun _ => wnH ?_)
      clear hK2 K2
      have hbx := ba wa1 (.cells #[.int .i64 s, .int .u64 g] 41)
      have NE6 := Hi (show some wa1.heap.size ≠ some wd.heap.size from fun h => by injection h with h; exact absurd h (Nat.ne_of_gt G1.out))
      replace HO := Hi (own_keepB HO.out hbx)
      replace G1 := Hi (Nat.lt_of_lt_of_le G1.out hbx.size)
      have R6 := Hi (RowAt.new wa1 41 #[.int .i64 s, .int .u64 g])
      replace HQ := Hi (HQ.out.alloc HQ.out.size (.cells #[.int .i64 s, .int .u64 g] 41))
      clear hbx
      generalize wa1.alloc _ = wa2 at *
      refine ryH (i := 4) rfl (fun K3 hK3 => ?_)
      rw [if_pos (by rfl)]
      refine wp_app elE _ _ rfl rfl HO.out rfl (HRD.out _ HQ.out).1 (Cs_one_cell encE_one _) (by have := HLN.out 0; omega) HQ.out.size ?_
      intro v3 wa3 hown3 hb3 hbq3 hx3
      replace HO := Hi hown3
      replace R6 := Hi (R6.out.heap (hbq3.block _ R6.out.lt NE6.out))
      clear G1
      replace HQ := Hi (HQ.out.trans hb3)
      clear hown3 hb3 hbq3 hx3
      refine hK3.out _ _ ((HQ.out).mono GLE.out) (fun _ => wnH ?_)
      clear hK3 K3
      refine ryH (i := 7) rfl (fun K4 hK4 => ?_)
      rw [if_pos (by rfl)]
      refine wp_app elE _ _ rfl rfl HO.out rfl (rd_ent R6.out) (Cs_one_cell encE_one _) (by have := HLN.out 0; omega) HQ.out.size ?_
      intro v4 wa4 hown4 hb4 hbq4 hx4
      replace HO := Hi hown4
      replace HQ := Hi (HQ.out.trans hb4)
      clear hown4 hb4 hbq4 hx4
      obtain ⟨A9, c9, rfl, hcq1, hcq2⟩ := own_form2 HO.out
      have HCQ := Hi (CapL.pu HCP.out (rowN l.E 0) hcq1 hcq2)
      clear hcq1 hcq2
      generalize hn9 : 0 + ofN l.E n 0 + 1 = n9 at HO HCQ ⊢
      have HN9 := Hi hn9
      clear hn9
      refine hK4.out _ _ ((HQ.out).mono GLE.out) (fun _ => wnH ?_)
      clear hK4 K4
      refine ryH (i := 8) rfl (fun K5 hK5 => ?_)
      go_simp
      refine (HWT.out _ A9 n9 c9).mono ?_
      rintro e wa5 ⟨rfl, hb5⟩
      replace HO := Hi (own_keepB HO.out hb5)
      replace HQ := bt HQ hb5
      clear hb5
      refine hK5.out _ _ ((HQ.out).mono GLE.out) (fun _ => wnH ?_)
      clear hK5 K5
      refine ryH (i := 9) rfl (fun K6 hK6 => ?_)
     rotate_left
    rotate_left 2
    focus
     go_simp
     refine hK1.out _ _ ((HQ.out.alloc HQ.out.size _).mono GLE.out) (fun _ => wnH ?_)
     clear hK1 K1
     have hbx := ba wa0 (.cells #[.int .i64 s, .int .u64 g] 41)
     have NE6 := Hi (show some wa0.heap.size ≠ some wd.heap.size from fun h => by injection h with h; exact absurd h (Nat.ne_of_gt G1.out))
     replace HO := Hi (own_keepB HO.out hbx)
     replace G1 := Hi (Nat.lt_of_lt_of_le G1.out hbx.size)
     have R6 := Hi (RowAt.new wa0 41 #[.int .i64 s, .int .u64 g])
     replace HQ := Hi (HQ.out.alloc HQ.out.size (.cells #[.int .i64 s, .int .u64 g] 41))
     clear hbx
     generalize wa0.alloc _ = wa1 at *
     refine ryH (i := 3) rfl (fun K2 hK2 => ?_)
     go_simp
     refine (HOF.out _).mono ?_
     rintro e wa2 ⟨rfl, hb2⟩
     replace HO := Hi (own_keepB HO.out hb2)
     replace G1 := Hi (Nat.lt_of_lt_of_le G1.out hb2.size)
     replace R6 := Hi (R6.out.below hb2)
     replace HQ := bt HQ hb2
     clear hb2
     refine hK2.out _ _ ((HQ.out).mono GLE.out) (fun _ => wnH ?_)
     clear hK2 K2
     refine ryH (i := 4) rfl (fun K3 hK3 => ?_)
     rw [if_pos (by rfl)]
     refine wp_app elE _ _ rfl rfl HO.out rfl (HRD.out _ HQ.out).1 (Cs_one_cell encE_one _) (by have := HLN.out 0; omega) HQ.out.size ?_
     intro v3 wa3 hown3 hb3 hbq3 hx3
     replace HO := Hi hown3
     replace R6 := Hi (R6.out.heap (hbq3.block _ R6.out.lt NE6.out))
     clear G1
     replace HQ := Hi (HQ.out.trans hb3)
     clear hown3 hb3 hbq3 hx3
     refine hK3.out _ _ ((HQ.out).mono GLE.out) (fun _ => wnH ?_)
     clear hK3 K3
     refine ryH (i := 7) rfl (fun K4 hK4 => ?_)
     rw [if_pos (by rfl)]
     refine wp_app elE _ _ rfl rfl HO.out rfl (rd_ent R6.out) (Cs_one_cell encE_one _) (by have := HLN.out 0; omega) HQ.out.size ?_
     intro v4 wa4 hown4 hb4 hbq4 hx4
     replace HO := Hi hown4
     replace HQ := Hi (HQ.out.trans hb4)
     clear hown4 hb4 hbq4 hx4
     obtain ⟨A9, c9, rfl, hcq1, hcq2⟩ := own_form2 HO.out
     have HCQ := Hi (CapL.pu HCP.out (rowN l.E 0) hcq1 hcq2)
     clear hcq1 hcq2
     generalize hn9 : 0 + ofN l.E n 0 + 1 = n9 at HO HCQ ⊢
     have HN9 := Hi hn9
     clear hn9
     refine hK4.out _ _ ((HQ.out).mono GLE.out) (fun _ => wnH ?_)
     clear hK4 K4
     refine ryH (i := 8) rfl (fun K5 hK5 => ?_)
     go_simp
     refine (HWT.out _ A9 n9 c9).mono ?_
     rintro e wa5 ⟨rfl, hb5⟩
     replace HO := Hi (own_keepB HO.out hb5)
     replace HQ := bt HQ hb5
     clear hb5
     refine hK5.out _ _ ((HQ.out).mono GLE.out) (fun _ => wnH ?_)
     clear hK5 K5
     refine ryH (i := 9) rfl (fun K6 hK6 => ?_)
    rotate_left
   rotate_left 3
   focus
    go_simp
    refine (HOF.out _).mono ?_
    rintro e wa0 ⟨rfl, hb0⟩
    replace HQ := bt HQ hb0
    clear hb0
    refine hK0.out _ _ ((HQ.out).mono GLE.out) (fun _ => wnH ?_)
    clear hK0 K0
    refine wpAnyH_ready (rs := [1, 6]) (by kernel_rfl) (by simp) ?_
    refine (AllReadyH.cons rfl (fun K1 hK1 => ?_) (AllReadyH.cons rfl (fun K1 hK1 => ?_) AllReadyH.nil))
    focus
     go_simp
     refine hK1.out _ _ ((HQ.out.alloc HQ.out.size _).mono GLE.out) (fun _ => wnH ?_)
     clear hK1 K1
     have hbx := ba wa0 (.cells #[] 41)
     have HO := Hi (World.ownsRow_lit (base := u2.heap.size) (e := 41) (size := 2) wa0 #[] 0 HQ.out.size (by simp [maxLen]) rfl)
     have G1 := Hi (show wa0.heap.size < (wa0.alloc (.cells #[] 41)).heap.size from by simp)
     replace HQ := Hi (HQ.out.alloc HQ.out.size (.cells #[] 41))
     clear hbx
     generalize wa0.alloc (.cells #[] 41) = wa1 at *
     refine wpAnyH_ready (rs := [4, 6]) (by kernel_rfl) (by simp) ?_
     refine (AllReadyH.cons rfl (fun K2 hK2 => ?_) (AllReadyH.cons rfl (fun K2 hK2 => ?_) AllReadyH.nil))
     focus
      rw [if_pos (by rfl)]
      refine wp_app elE _ _ rfl rfl HO.out rfl (HRD.out _ HQ.out).1 (Cs_one_cell encE_one _) (by have := HLN.out 0; omega) HQ.out.size ?_
      intro v2 wa2 hown2 hb2 hbq2 hx2
      replace HO := Hi hown2
      clear G1
      replace HQ := Hi (HQ.out.trans hb2)
      clear hown2 hb2 hbq2 hx2
      refine hK2.out _ _ ((HQ.out).mono GLE.out) (fun _ => wnH ?_)
      clear hK2 K2
      refine ryH (i := 6) rfl (fun K3 hK3 => ?_)
      go_simp
      refine hK3.out _ _ ((HQ.out.alloc HQ.out.size _).mono GLE.out) (fun _ => wnH ?_)
      clear hK3 K3
      have hbx := ba wa2 (.cells #[.int .i64 s, .int .u64 g] 41)
      replace HO := Hi (own_keepB HO.out hbx)
      have R6 := Hi (RowAt.new wa2 41 #[.int .i64 s, .int .u64 g])
      replace HQ := Hi (HQ.out.alloc HQ.out.size (.cells #[.int .i64 s, .int .u64 g] 41))
      clear hbx
      generalize wa2.alloc _ = wa3 at *
      refine ryH (i := 7) rfl (fun K4 hK4 => ?_)
      rw [if_pos (by rfl)]
      refine wp_app elE _ _ rfl rfl HO.out rfl (rd_ent R6.out) (Cs_one_cell encE_one _) (by have := HLN.out 0; omega) HQ.out.size ?_
      intro v4 wa4 hown4 hb4 hbq4 hx4
      replace HO := Hi hown4
      replace HQ := Hi (HQ.out.trans hb4)
      clear hown4 hb4 hbq4 hx4
      obtain ⟨A9, c9, rfl, hcq1, hcq2⟩ := own_form2 HO.out
      have HCQ := Hi (CapL.pu HCP.out (rowN l.E 0) hcq1 hcq2)
      clear hcq1 hcq2
      generalize hn9 : 0 + ofN l.E n 0 + 1 = n9 at HO HCQ ⊢
      have HN9 := Hi hn9
      clear hn9
      refine hK4.out _ _ ((HQ.out).mono GLE.out) (fun _ => wnH ?_)
      clear hK4 K4
      refine ryH (i := 8) rfl (fun K5 hK5 => ?_)
      go_simp
      refine (HWT.out _ A9 n9 c9).mono ?_
      rintro e wa5 ⟨rfl, hb5⟩
      replace HO := Hi (own_keepB HO.out hb5)
      replace HQ := bt HQ hb5
      clear hb5
      refine hK5.out _ _ ((HQ.out).mono GLE.out) (fun _ => wnH ?_)
      clear hK5 K5
      refine ryH (i := 9) rfl (fun K6 hK6 => ?_)
     rotate_left
     focus
      go_simp
      refine hK2.out _ _ ((HQ.out.alloc HQ.out.size _).mono GLE.out) (fun _ => wnH ?_)
      clear hK2 K2
      have hbx := ba wa1 (.cells #[.int .i64 s, .int .u64 g] 41)
      have NE6 := Hi (show some wa1.heap.size ≠ some wa0.heap.size from fun h => by injection h with h; exact absurd h (Nat.ne_of_gt G1.out))
      replace HO := Hi (own_keepB HO.out hbx)
      replace G1 := Hi (Nat.lt_of_lt_of_le G1.out hbx.size)
      have R6 := Hi (RowAt.new wa1 41 #[.int .i64 s, .int .u64 g])
      replace HQ := Hi (HQ.out.alloc HQ.out.size (.cells #[.int .i64 s, .int .u64 g] 41))
      clear hbx
      generalize wa1.alloc _ = wa2 at *
      refine ryH (i := 4) rfl (fun K3 hK3 => ?_)
      rw [if_pos (by rfl)]
      refine wp_app elE _ _ rfl rfl HO.out rfl (HRD.out _ HQ.out).1 (Cs_one_cell encE_one _) (by have := HLN.out 0; omega) HQ.out.size ?_
      intro v3 wa3 hown3 hb3 hbq3 hx3
      replace HO := Hi hown3
      replace R6 := Hi (R6.out.heap (hbq3.block _ R6.out.lt NE6.out))
      clear G1
      replace HQ := Hi (HQ.out.trans hb3)
      clear hown3 hb3 hbq3 hx3
      refine hK3.out _ _ ((HQ.out).mono GLE.out) (fun _ => wnH ?_)
      clear hK3 K3
      refine ryH (i := 7) rfl (fun K4 hK4 => ?_)
      rw [if_pos (by rfl)]
      refine wp_app elE _ _ rfl rfl HO.out rfl (rd_ent R6.out) (Cs_one_cell encE_one _) (by have := HLN.out 0; omega) HQ.out.size ?_
      intro v4 wa4 hown4 hb4 hbq4 hx4
      replace HO := Hi hown4
      replace HQ := Hi (HQ.out.trans hb4)
      clear hown4 hb4 hbq4 hx4
      obtain ⟨A9, c9, rfl, hcq1, hcq2⟩ := own_form2 HO.out
      have HCQ := Hi (CapL.pu HCP.out (rowN l.E 0) hcq1 hcq2)
      clear hcq1 hcq2
      generalize hn9 : 0 + ofN l.E n 0 + 1 = n9 at HO HCQ ⊢
      have HN9 := Hi hn9
      clear hn9
      refine hK4.out _ _ ((HQ.out).mono GLE.out) (fun _ => wnH ?_)
      clear hK4 K4
      refine ryH (i := 8) rfl (fun K5 hK5 => ?_)
      go_simp
      refine (HWT.out _ A9 n9 c9).mono ?_
      rintro e wa5 ⟨rfl, hb5⟩
      replace HO := Hi (own_keepB HO.out hb5)
      replace HQ := bt HQ hb5
      clear hb5
      refine hK5.out _ _ ((HQ.out).mono GLE.out) (fun _ => wnH ?_)
      clear hK5 K5
      refine ryH (i := 9) rfl (fun K6 hK6 => ?_)
     rotate_left
    rotate_left 2
    focus
     go_simp
     refine hK1.out _ _ ((HQ.out.alloc HQ.out.size _).mono GLE.out) (fun _ => wnH ?_)
     clear hK1 K1
     have hbx := ba wa0 (.cells #[.int .i64 s, .int .u64 g] 41)
     have R6 := Hi (RowAt.new wa0 41 #[.int .i64 s, .int .u64 g])
     replace HQ := Hi (HQ.out.alloc HQ.out.size (.cells #[.int .i64 s, .int .u64 g] 41))
     clear hbx
     generalize wa0.alloc _ = wa1 at *
     refine ryH (i := 1) rfl (fun K2 hK2 => ?_)
     go_simp
     refine hK2.out _ _ ((HQ.out.alloc HQ.out.size _).mono GLE.out) (fun _ => wnH ?_)
     clear hK2 K2
     have hbx := ba wa1 (.cells #[] 41)
     have HO := Hi (World.ownsRow_lit (base := u2.heap.size) (e := 41) (size := 2) wa1 #[] 0 HQ.out.size (by simp [maxLen]) rfl)
     have NE6 := Hi (show some wa0.heap.size ≠ some wa1.heap.size from fun h => by injection h with h; exact absurd h (Nat.ne_of_lt R6.out.lt))
     replace R6 := Hi (R6.out.below hbx)
     have G1 := Hi (show wa1.heap.size < (wa1.alloc (.cells #[] 41)).heap.size from by simp)
     replace HQ := Hi (HQ.out.alloc HQ.out.size (.cells #[] 41))
     clear hbx
     generalize wa1.alloc (.cells #[] 41) = wa2 at *
     refine ryH (i := 4) rfl (fun K3 hK3 => ?_)
     rw [if_pos (by rfl)]
     refine wp_app elE _ _ rfl rfl HO.out rfl (HRD.out _ HQ.out).1 (Cs_one_cell encE_one _) (by have := HLN.out 0; omega) HQ.out.size ?_
     intro v3 wa3 hown3 hb3 hbq3 hx3
     replace HO := Hi hown3
     replace R6 := Hi (R6.out.heap (hbq3.block _ R6.out.lt NE6.out))
     clear G1
     replace HQ := Hi (HQ.out.trans hb3)
     clear hown3 hb3 hbq3 hx3
     refine hK3.out _ _ ((HQ.out).mono GLE.out) (fun _ => wnH ?_)
     clear hK3 K3
     refine ryH (i := 7) rfl (fun K4 hK4 => ?_)
     rw [if_pos (by rfl)]
     refine wp_app elE _ _ rfl rfl HO.out rfl (rd_ent R6.out) (Cs_one_cell encE_one _) (by have := HLN.out 0; omega) HQ.out.size ?_
     intro v4 wa4 hown4 hb4 hbq4 hx4
     replace HO := Hi hown4
     replace HQ := Hi (HQ.out.trans hb4)
     clear hown4 hb4 hbq4 hx4
     obtain ⟨A9, c9, rfl, hcq1, hcq2⟩ := own_form2 HO.out
     have HCQ := Hi (CapL.pu HCP.out (rowN l.E 0) hcq1 hcq2)
     clear hcq1 hcq2
     generalize hn9 : 0 + ofN l.E n 0 + 1 = n9 at HO HCQ ⊢
     have HN9 := Hi hn9
     clear hn9
     refine hK4.out _ _ ((HQ.out).mono GLE.out) (fun _ => wnH ?_)
     clear hK4 K4
     refine ryH (i := 8) rfl (fun K5 hK5 => ?_)
     go_simp
     refine (HWT.out _ A9 n9 c9).mono ?_
     rintro e wa5 ⟨rfl, hb5⟩
     replace HO := Hi (own_keepB HO.out hb5)
     replace HQ := bt HQ hb5
     clear hb5
     refine hK5.out _ _ ((HQ.out).mono GLE.out) (fun _ => wnH ?_)
     clear hK5 K5
     refine ryH (i := 9) rfl (fun K6 hK6 => ?_)
    rotate_left
   rotate_left 3
   focus
    go_simp
    refine hK0.out _ _ ((HQ.out.alloc HQ.out.size _).mono GLE.out) (fun _ => wnH ?_)
    clear hK0 K0
    have hbx := ba wd (.cells #[.int .i64 s, .int .u64 g] 41)
    have R6 := Hi (RowAt.new wd 41 #[.int .i64 s, .int .u64 g])
    replace HQ := Hi (HQ.out.alloc HQ.out.size (.cells #[.int .i64 s, .int .u64 g] 41))
    clear hbx
    generalize wd.alloc _ = wa0 at *
    refine wpAnyH_ready (rs := [1, 3]) (by kernel_rfl) (by simp) ?_
    refine (AllReadyH.cons rfl (fun K1 hK1 => ?_) (AllReadyH.cons rfl (fun K1 hK1 => ?_) AllReadyH.nil))
    focus
     go_simp
     refine hK1.out _ _ ((HQ.out.alloc HQ.out.size _).mono GLE.out) (fun _ => wnH ?_)
     clear hK1 K1
     have hbx := ba wa0 (.cells #[] 41)
     have HO := Hi (World.ownsRow_lit (base := u2.heap.size) (e := 41) (size := 2) wa0 #[] 0 HQ.out.size (by simp [maxLen]) rfl)
     have NE6 := Hi (show some wd.heap.size ≠ some wa0.heap.size from fun h => by injection h with h; exact absurd h (Nat.ne_of_lt R6.out.lt))
     replace R6 := Hi (R6.out.below hbx)
     have G1 := Hi (show wa0.heap.size < (wa0.alloc (.cells #[] 41)).heap.size from by simp)
     replace HQ := Hi (HQ.out.alloc HQ.out.size (.cells #[] 41))
     clear hbx
     generalize wa0.alloc (.cells #[] 41) = wa1 at *
     refine ryH (i := 3) rfl (fun K2 hK2 => ?_)
     go_simp
     refine (HOF.out _).mono ?_
     rintro e wa2 ⟨rfl, hb2⟩
     replace HO := Hi (own_keepB HO.out hb2)
     replace G1 := Hi (Nat.lt_of_lt_of_le G1.out hb2.size)
     replace R6 := Hi (R6.out.below hb2)
     replace HQ := bt HQ hb2
     clear hb2
     refine hK2.out _ _ ((HQ.out).mono GLE.out) (fun _ => wnH ?_)
     clear hK2 K2
     refine ryH (i := 4) rfl (fun K3 hK3 => ?_)
     rw [if_pos (by rfl)]
     refine wp_app elE _ _ rfl rfl HO.out rfl (HRD.out _ HQ.out).1 (Cs_one_cell encE_one _) (by have := HLN.out 0; omega) HQ.out.size ?_
     intro v3 wa3 hown3 hb3 hbq3 hx3
     replace HO := Hi hown3
     replace R6 := Hi (R6.out.heap (hbq3.block _ R6.out.lt NE6.out))
     clear G1
     replace HQ := Hi (HQ.out.trans hb3)
     clear hown3 hb3 hbq3 hx3
     refine hK3.out _ _ ((HQ.out).mono GLE.out) (fun _ => wnH ?_)
     clear hK3 K3
     refine ryH (i := 7) rfl (fun K4 hK4 => ?_)
     rw [if_pos (by rfl)]
     refine wp_app elE _ _ rfl rfl HO.out rfl (rd_ent R6.out) (Cs_one_cell encE_one _) (by have := HLN.out 0; omega) HQ.out.size ?_
     intro v4 wa4 hown4 hb4 hbq4 hx4
     replace HO := Hi hown4
     replace HQ := Hi (HQ.out.trans hb4)
     clear hown4 hb4 hbq4 hx4
     obtain ⟨A9, c9, rfl, hcq1, hcq2⟩ := own_form2 HO.out
     have HCQ := Hi (CapL.pu HCP.out (rowN l.E 0) hcq1 hcq2)
     clear hcq1 hcq2
     generalize hn9 : 0 + ofN l.E n 0 + 1 = n9 at HO HCQ ⊢
     have HN9 := Hi hn9
     clear hn9
     refine hK4.out _ _ ((HQ.out).mono GLE.out) (fun _ => wnH ?_)
     clear hK4 K4
     refine ryH (i := 8) rfl (fun K5 hK5 => ?_)
     go_simp
     refine (HWT.out _ A9 n9 c9).mono ?_
     rintro e wa5 ⟨rfl, hb5⟩
     replace HO := Hi (own_keepB HO.out hb5)
     replace HQ := bt HQ hb5
     clear hb5
     refine hK5.out _ _ ((HQ.out).mono GLE.out) (fun _ => wnH ?_)
     clear hK5 K5
     refine ryH (i := 9) rfl (fun K6 hK6 => ?_)
    rotate_left
    focus
     go_simp
     refine (HOF.out _).mono ?_
     rintro e wa1 ⟨rfl, hb1⟩
     replace R6 := Hi (R6.out.below hb1)
     replace HQ := bt HQ hb1
     clear hb1
     refine hK1.out _ _ ((HQ.out).mono GLE.out) (fun _ => wnH ?_)
     clear hK1 K1
     refine ryH (i := 1) rfl (fun K2 hK2 => ?_)
     go_simp
     refine hK2.out _ _ ((HQ.out.alloc HQ.out.size _).mono GLE.out) (fun _ => wnH ?_)
     clear hK2 K2
     have hbx := ba wa1 (.cells #[] 41)
     have HO := Hi (World.ownsRow_lit (base := u2.heap.size) (e := 41) (size := 2) wa1 #[] 0 HQ.out.size (by simp [maxLen]) rfl)
     have NE6 := Hi (show some wd.heap.size ≠ some wa1.heap.size from fun h => by injection h with h; exact absurd h (Nat.ne_of_lt R6.out.lt))
     replace R6 := Hi (R6.out.below hbx)
     have G1 := Hi (show wa1.heap.size < (wa1.alloc (.cells #[] 41)).heap.size from by simp)
     replace HQ := Hi (HQ.out.alloc HQ.out.size (.cells #[] 41))
     clear hbx
     generalize wa1.alloc (.cells #[] 41) = wa2 at *
     refine ryH (i := 4) rfl (fun K3 hK3 => ?_)
     rw [if_pos (by rfl)]
     refine wp_app elE _ _ rfl rfl HO.out rfl (HRD.out _ HQ.out).1 (Cs_one_cell encE_one _) (by have := HLN.out 0; omega) HQ.out.size ?_
     intro v3 wa3 hown3 hb3 hbq3 hx3
     replace HO := Hi hown3
     replace R6 := Hi (R6.out.heap (hbq3.block _ R6.out.lt NE6.out))
     clear G1
     replace HQ := Hi (HQ.out.trans hb3)
     clear hown3 hb3 hbq3 hx3
     refine hK3.out _ _ ((HQ.out).mono GLE.out) (fun _ => wnH ?_)
     clear hK3 K3
     refine ryH (i := 7) rfl (fun K4 hK4 => ?_)
     rw [if_pos (by rfl)]
     refine wp_app elE _ _ rfl rfl HO.out rfl (rd_ent R6.out) (Cs_one_cell encE_one _) (by have := HLN.out 0; omega) HQ.out.size ?_
     intro v4 wa4 hown4 hb4 hbq4 hx4
     replace HO := Hi hown4
     replace HQ := Hi (HQ.out.trans hb4)
     clear hown4 hb4 hbq4 hx4
     obtain ⟨A9, c9, rfl, hcq1, hcq2⟩ := own_form2 HO.out
     have HCQ := Hi (CapL.pu HCP.out (rowN l.E 0) hcq1 hcq2)
     clear hcq1 hcq2
     generalize hn9 : 0 + ofN l.E n 0 + 1 = n9 at HO HCQ ⊢
     have HN9 := Hi hn9
     clear hn9
     refine hK4.out _ _ ((HQ.out).mono GLE.out) (fun _ => wnH ?_)
     clear hK4 K4
     refine ryH (i := 8) rfl (fun K5 hK5 => ?_)
     go_simp
     refine (HWT.out _ A9 n9 c9).mono ?_
     rintro e wa5 ⟨rfl, hb5⟩
     replace HO := Hi (own_keepB HO.out hb5)
     replace HQ := bt HQ hb5
     clear hb5
     refine hK5.out _ _ ((HQ.out).mono GLE.out) (fun _ => wnH ?_)
     clear hK5 K5
     refine ryH (i := 9) rfl (fun K6 hK6 => ?_)
    rotate_left
   rotate_left 2
   all_goals
    skip
    have R9 := Hi (show RowAt wa5 (W.heap.size + 1 + 1) 32 zeroC from R3.out.below HQ.out)
    obtain ⟨A8, hA8⟩ : ∃ x, pu A (rowN l.E 0) A9 = x := ⟨_, rfl⟩
    obtain ⟨n8, hn8⟩ : ∃ x, pu n (rowN l.E 0) n9 = x := ⟨_, rfl⟩
    obtain ⟨c8, hc8⟩ : ∃ x, pu c (rowN l.E 0) c9 = x := ⟨_, rfl⟩
    rw [hA8, hn8, hc8]
    have HA8 := Hi hA8
    have HN8 := Hi hn8
    have HC8 := Hi hc8
    clear hA8 hn8 hc8
    have z0 := cl R9.out 0
    have z1 := cl R9.out 1
    have z2 := cl R9.out 2
    have z3 := cl R9.out 3
    have zl := RowAt.lt R9.out
    have f0 := RowAt.frozen R9.out 0
    have f1 := RowAt.frozen R9.out 1
    have f2 := RowAt.frozen R9.out 2
    have f3 := RowAt.frozen R9.out 3
    have HL9 : Hid (LaidL (W.heap.size + 1 + 1) wa5 (limC l.E A8 n8 c8) ((((wa5.setCell ⟨(W.heap.size + 1 + 1), 0, none⟩ (.int .u64 (l.E : Int))).setCell ⟨(W.heap.size + 1 + 1), 1, none⟩ (.slice (A8 0) (n8 0) (c8 0))).setCell ⟨(W.heap.size + 1 + 1), 2, none⟩ (.slice (A8 1) (n8 1) (c8 1))).setCell ⟨(W.heap.size + 1 + 1), 3, none⟩ (.slice (A8 2) (n8 2) (c8 2)))) := Hi (laidL_of R9.out rfl)
    go_simp
    have HB9 := Hi ((HQ.out.mono GLE.out).trans HL9.out.below)
    refine hK6.out _ _ HB9.out (fun _ => wnH ?_)
    clear hK6 K6
    clear z0 z1 z2 z3 zl f0 f1 f2 f3 R9
    generalize (((wa5.setCell _ _).setCell _ _).setCell _ _).setCell _ _ = wt at *
    have HO9 := Hi (own_other2 HO.out (fun g1 h1 _ => HL9.out.block g1 (by have := R3.out.lt; omega)))
    have HR9 := Hi (ret_row HO9.out HN9.out HLA.out HEA.out)
    have HRES := Hi (show LimRd wt wt.heap.size A8 n8 (upd l.r (rowN l.E 0) (l.at 0 ++ [(s, g)])) from by rw [← HA8.out, ← HN8.out]; exact LimRd.put ((HD0.out.below (HB9.out.mono (by omega))).more (Nat.le_trans HB.out.size (Nat.le_trans (Nat.le_of_eq rfl) HB9.out.size))) _ HR9.out.1 HR9.out.2)
    have HLOW : Hid (LowL Q wt A8 n8) := Hi (by rw [← HA8.out, ← HN8.out]; exact (HLO.out.more (Nat.le_trans HB.out.size HB9.out.size)).pu _ (fun p hp => ⟨HL.out _ (Nat.le_trans HB.out.size (own_fresh2 HO9.out p hp).1), (own_fresh2 HO9.out p hp).2⟩))
    have HCAP : Hid (CapL n8 c8) := Hi (by rw [← HN8.out, ← HC8.out]; exact HCQ.out)
    have HFIN := Hi (HB.out.trans (HB9.out.mono (by omega)))
    refine tkI (i := 10) rfl ?_
    refine wpAnyH_done (by kernel_rfl) ?_ _
    go_wp2_with fail
    have HLD := HL9
    have y0 := cl HLD.out.row 0
    have y1 := cl HLD.out.row 1
    have y2 := cl HLD.out.row 2
    have y3 := cl HLD.out.row 3
    have yl := HLD.out.row.lt
    refine bodyPost_ret (v := .tuple #[.agg (limC l.E A8 n8 c8), .int .i64 0]) (by simp [results, Tryz.results117, go_sem, y0, y1, y2, y3, yl]) rfl ?_
    exact refRes_ok (l := ⟨l.E, upd l.r (rowN l.E 0) (l.at 0 ++ [(s, g)])⟩) HF.out HRES.out HLOW.out HCAP.out HFIN.out
end Go.Proofs.YtkicidopjihjmaaGreat.Li
set_option maxRecDepth 20000
namespace Go.Proofs.YtkicidopjihjmaaGreat.Pn
open Go Go.RowKit
attribute [local go_sem] via_cell via_frozen
def RunRes (W : World) (E X : Int) (Y : List Int) (O : Int) (m : Nat) (x : Ending) (W' : World) : Prop :=
 ∃ A' c', x = .returned (.tuple #[.agg #[.int .u64 X, .slice A' m c'], .int .i64 O, .int .i64 E]) ∧ m ≤ c' ∧ c' ≤ 9223372036854775807 ∧ PnOut W A' m Y W' ∧ Below W.heap.size W W'
end Go.Proofs.YtkicidopjihjmaaGreat.Pn
set_option maxRecDepth 20000
namespace Go.Proofs.YtkicidopjihjmaaGreat.Pn
open Go Go.RowKit
attribute [local go_sem] via_cell via_frozen
attribute [local go_sem] undef
theorem _root_.Go.Proofs.YtkicidopjihjmaaGreat.Rd.setOff {w : World} {B sz n g : Nat} {A : Option Addr} {xs : List Value} (h : Rd w B sz A n xs) (ho : ∀ p, A = some p → p.block ≠ g) (o : Nat) (u : Value) : Rd (w.setCell ⟨g, o, none⟩ u) B sz A n xs := by
 refine ⟨h.1, fun hn => ?_⟩
 obtain ⟨b, off, e, hb, hc⟩ := h.2 hn
 have hne : b ≠ g := ho _ e
 exact ⟨b, off, e, hb, fun j v hv => (World.cell?_setCell_other _ _ _ _ (fun e2 => by cases e2; exact hne rfl)).trans (hc j v hv)⟩
theorem _root_.Go.Proofs.YtkicidopjihjmaaGreat.Rd.setOffS {w : World} {sz n g : Nat} {A : Option Addr} {xs : List Value} (h : Rd w w.heap.size sz A n xs) (ho : ∀ p, A = some p → p.block ≠ g) (o : Nat) (u : Value) : Rd (w.setCell ⟨g, o, none⟩ u) (w.setCell ⟨g, o, none⟩ u).heap.size sz A n xs := by
 have := h.setOff ho o u
 simpa using this
def wthS (S : List Int) (g s : Int) : List Int := if 0 ≤ g then S.set g.toNat s else S
theorem wthS_length (S : List Int) (g s : Int) : (wthS S g s).length = S.length := by unfold wthS; split <;> simp
theorem wthS_get (S : List Int) (g s : Int) (k : Nat) (hk : k < S.length) : (wthS S g s)[k]? = some (if (k : Int) = g then s else S[k]) := by
 unfold wthS
 by_cases hg : 0 ≤ g
 ·
  obtain ⟨j, rfl⟩ := Int.eq_ofNat_of_zero_le hg
  rw [if_pos hg, Int.toNat_natCast, List.getElem?_set]
  by_cases hj : j = k
  · subst hj; simp [hk]
  · rw [if_neg hj, if_neg (by omega), List.getElem?_eq_getElem hk]
 · rw [if_neg hg, if_neg (by omega), List.getElem?_eq_getElem hk]
theorem _root_.Go.Proofs.YtkicidopjihjmaaGreat.Rd.elemN {w : World} {B n : Nat} {A : Option Addr} {xs : List Int} (h : Rd w B 1 A n (Cs encW xs)) (hx : xs.length = n) {k : Nat} (hk : k < n) {q : Int} (hq : xs[k]? = some q) :
  ∃ b off, A = some ⟨b, off, none⟩ ∧ b < B ∧ w.cell? ⟨b, off + k, none⟩ = some (.int .u64 q) := by
 subst hx
 obtain ⟨b, off, h1, h2, h3⟩ := h.elem encW_len hk
 have h4 := h3 0 _ (by omega) rfl
 rw [List.getElem?_eq_getElem hk] at hq
 injection hq with hq
 rw [hq] at h4
 exact ⟨b, off, h1, h2, by simpa using h4⟩
def PBox (w : World) (g base : Nat) (e : Int) (k : Nat) (L : List Int) : Prop := ∃ v, RowAt w g 28 #[.int .u64 e, v] ∧ w.ownsRow base 25 1 v k (Cs encW L)
def WithRes (W : World) (e : Int) (Y : List Int) (m : Nat) (x : Ending) (W' : World) : Prop :=
 ∃ A' c', x = .returned (.agg #[.int .u64 e, .slice A' m c']) ∧ m ≤ c' ∧ c' ≤ 9223372036854775807 ∧ Rd W' W'.heap.size 1 A' m (Cs encW Y) ∧ (∀ p, A' = some p → W.heap.size ≤ p.block) ∧ Below W.heap.size W W'
theorem with_any (A : Option Addr) (c n : Nat) (e g s : Int) (S : List Int) (W : World) (h : Rd W W.heap.size 1 A n (Cs encW S)) (hx : S.length = n) (hn : n ≤ 4096) :
  Calls Tryz.prog 143 #[.agg #[.int .u64 e, .slice A n c], .int .i64 g, .int .u64 s] W (WithRes W e (wthS S g s) n) := by
 subst hx
 have H := Hi h
 have hb0 : Below W.heap.size W (((W.alloc (.cells #[.int .u64 e, .slice A S.length c] 28)).alloc (.cells #[.int .u64 0, .slice none 0 0] 28)).alloc (.cells #[.int .u64 e, .slice none 0 0] 28)) := (((Below.refl _ _).alloc (Nat.le_refl _) _).alloc (by simp) _).alloc (by simp; omega) _
 have r1 : RowAt (((W.alloc (.cells #[.int .u64 e, .slice A S.length c] 28)).alloc (.cells #[.int .u64 0, .slice none 0 0] 28)).alloc (.cells #[.int .u64 e, .slice none 0 0] 28)) W.heap.size 28 #[.int .u64 e, .slice A S.length c] :=
  (RowAt.new W 28 #[.int .u64 e, .slice A S.length c]).below (((Below.refl _ _).alloc (Nat.le_refl _) _).alloc (by simp) _)
 have r2 : RowAt (((W.alloc (.cells #[.int .u64 e, .slice A S.length c] 28)).alloc (.cells #[.int .u64 0, .slice none 0 0] 28)).alloc (.cells #[.int .u64 e, .slice none 0 0] 28)) (W.heap.size + 1) 28 #[.int .u64 0, .slice none 0 0] := by
  have h := RowAt.new (W.alloc (.cells #[.int .u64 e, .slice A S.length c] 28)) 28 #[.int .u64 0, .slice none 0 0]
  rw [World.size_alloc] at h
  exact h.below ((Below.refl _ _).alloc (Nat.le_refl _) _)
 have r3 : RowAt (((W.alloc (.cells #[.int .u64 e, .slice A S.length c] 28)).alloc (.cells #[.int .u64 0, .slice none 0 0] 28)).alloc (.cells #[.int .u64 e, .slice none 0 0] 28)) (W.heap.size + 1 + 1) 28 #[.int .u64 e, .slice none 0 0] := by
  have h := RowAt.new ((W.alloc (.cells #[.int .u64 e, .slice A S.length c] 28)).alloc (.cells #[.int .u64 0, .slice none 0 0] 28)) 28 #[.int .u64 e, .slice none 0 0]
  rw [World.size_alloc, World.size_alloc] at h
  exact h
 have H0 := Hi hb0
 have H1 := Hi r1
 have H2 := Hi r2
 have H3 := Hi r3
 clear hb0 r1 r2 r3 h
 go_enter Tryz.func143, Tryz.ntmps143
 go_wp2_with fail
 generalize ((W.alloc _).alloc _).alloc _ = w0 at *
 go_loopw [16] (fun i wr => ∃ (k : Nat), k ≤ S.length ∧ i = .int .i64 k ∧ RowAt wr W.heap.size 28 #[.int .u64 e, .slice A S.length c] ∧ RowAt wr (W.heap.size + 1) 28 #[.int .u64 0, .slice none 0 0] ∧ PBox wr (W.heap.size + 1 + 1) (W.heap.size + 1 + 1 + 1) e k ((wthS S g s).take k) ∧ Below W.heap.size W wr) (fun i _ => S.length - (intOf i).toNat)
 case atStart => exact ⟨0, Nat.zero_le _, rfl, H1.out, H2.out, ⟨_, H3.out, World.ownsRow_nil _ _ _ _⟩, H0.out⟩
 case round =>
  obtain ⟨k, hk, rfl, hr1, hr2, ⟨v, hr3, hown⟩, hbw⟩ := hrel
  have HB := Hi hbw
  have R1 := Hi hr1
  have R2 := Hi hr2
  have R3 := Hi hr3
  have HO := Hi hown
  have hsz : W.heap.size + 1 + 1 < wr.heap.size := hr3.lt
  have x1 := row21 hr1
  have d0 := row20 hr3
  have d1 := row21 hr3
  have f1 := hr3.frozen 1
  clear hr1 hr2 hr3 hown hbw
  obtain ⟨Av, cv, rfl, hcv, hcmv⟩ := own_form2 HO.out
  by_cases hlt : k < S.length
  ·
   obtain ⟨b1, o1, rfl, hb1, hc1⟩ := (H.out.below HB.out).elem encW_len hlt
   have hd10 := hc1 0 _ (by omega) rfl
   simp only [Nat.mul_one, Nat.add_zero] at hd10
   clear hc1
   have hbl1 : b1 < wr.heap.size := by omega
   have HG := Hi (wthS_get S g s k hlt)
   have HL := Hi (wthS_length S g s)
   generalize S[k] = q at *
   by_cases hkg : (k : Int) = g
   focus
    have hkb : ((k : Int) == g) = true := by simpa using hkg
    have HT := Hi (show (wthS S g s).take (k + 1) = (wthS S g s).take k ++ [s] by
     have h := HG.out
     rw [if_pos hkg] at h
     obtain ⟨hl, hv⟩ := List.getElem?_eq_some_iff.1 h
     rw [List.take_succ_eq_append_getElem hl, hv])
    have HRN := Hi (Rd.new wr #[.int .u64 s] 25 1 1 rfl)
    clear hkg
    go_wp2_with (at_builtin; refine wpList_app elW rfl _ _ rfl rfl (HO.out.alloc _) rfl HRN.out (by simp [Value.oneCell']) (by omega) (by simp; omega) ?_; intro v2 w2 hown2 hb3 _ _; have HB4 := Hi (((Below.refl (W.heap.size + 1 + 1 + 1) wr).alloc (by omega) (.cells #[.int .u64 s] 25)).trans hb3); have HR4 := Hi (R3.out.belowB (by omega) HB4.out); obtain ⟨A2, c2, rfl, hc2, hcm2⟩ := own_form2 hown2; have HO4 := Hi hown2; have m0 := row20 HR4.out; have m1 := row21 HR4.out; have n1 := HR4.out.frozen 1; have l4 := HR4.out.lt; clear hown2 hb3)
   rotate_left
   focus
    have hkb : ((k : Int) == g) = false := by simpa using hkg
    have HT := Hi (show (wthS S g s).take (k + 1) = (wthS S g s).take k ++ [q] by
     have h := HG.out
     rw [if_neg hkg] at h
     obtain ⟨hl, hv⟩ := List.getElem?_eq_some_iff.1 h
     rw [List.take_succ_eq_append_getElem hl, hv])
    have HRN := Hi (Rd.new wr #[.int .u64 q] 25 1 1 rfl)
    clear hkg
    go_wp2_with (at_builtin; refine wpList_app elW rfl _ _ rfl rfl (HO.out.alloc _) rfl HRN.out (by simp [Value.oneCell']) (by omega) (by simp; omega) ?_; intro v2 w2 hown2 hb3 _ _; have HB4 := Hi (((Below.refl (W.heap.size + 1 + 1 + 1) wr).alloc (by omega) (.cells #[.int .u64 q] 25)).trans hb3); have HR4 := Hi (R3.out.belowB (by omega) HB4.out); obtain ⟨A2, c2, rfl, hc2, hcm2⟩ := own_form2 hown2; have HO4 := Hi hown2; have m0 := row20 HR4.out; have m1 := row21 HR4.out; have n1 := HR4.out.frozen 1; have l4 := HR4.out.lt; clear hown2 hb3)
   rotate_left
   all_goals
    go_roundw
    case rel =>
     refine ⟨_, _, .int .i64 ((k : Int) + 1), ⟨k + 1, by omega, by go_num, (R1.out.belowB (by omega) HB4.out).setNe (by omega), (R2.out.belowB (by omega) HB4.out).setNe (by omega), ⟨_, HR4.out.set 1 _, ?_⟩, (HB.out.trans (HB4.out.mono (by omega))).setCell (p := ⟨W.heap.size + 1 + 1, 1, none⟩) (by simp; omega) _⟩, rfl, rfl, rfl⟩
     rw [HT.out, Cs_append]
     exact own_other HO4.out (fun j hj => heap_setCell_ne _ _ _ _ (by show j ≠ W.heap.size + 1 + 1; omega))
    case measure => simp [intOf]; omega
  ·
   obtain rfl : k = S.length := by omega
   have h := HO.out
   rw [List.take_of_length_le (by rw [wthS_length]; omega)] at h
   have y0 := row20 R2.out
   have y1 := row21 R2.out
   have g0 := R2.out.frozen 0
   have g1 := R2.out.frozen 1
   have ly := R2.out.lt
   have HOF := Hi h
   clear h HO
   go_wp2_with fail
   have hr4 := (R2.out.set 0 (.int .u64 e)).set 1 (.slice Av S.length cv)
   have hb4 : Below W.heap.size W ((wr.setCell ⟨W.heap.size + 1, 0, none⟩ (.int .u64 e)).setCell ⟨W.heap.size + 1, 1, none⟩ (.slice Av S.length cv)) := (HB.out.setCell (p := ⟨W.heap.size + 1, 0, none⟩) (by simp) _).setCell (p := ⟨W.heap.size + 1, 1, none⟩) (by simp) _
   have hfr := own_fresh HOF.out
   have hrd := ((Rd.of_own HOF.out).setOffS (fun p hp => by have := hfr p hp; omega) 0 (.int .u64 e) (g := W.heap.size + 1)).setOffS (fun p hp => by have := hfr p hp; omega) 1 (.slice Av S.length cv) (g := W.heap.size + 1)
   generalize (wr.setCell _ _).setCell _ _ = wF at *
   have hr5 : RowAt wF (W.heap.size + 1) 28 #[.int .u64 e, .slice Av S.length cv] := by simpa using hr4
   refine bodyPost_ret (v := .agg #[.int .u64 e, .slice Av S.length cv]) (by simp [results, Tryz.results143, go_sem, row20 hr5, row21 hr5, hr5.lt]) rfl ⟨Av, cv, rfl, hcv, hcmv, hrd, fun p hp => by have := hfr p hp; omega, hb4⟩
def RdoRes (W : World) (E X : Int) (Y : List Int) (m : Nat) (x : Ending) (W' : World) : Prop :=
 ∃ A' c', x = .returned (.tuple #[.agg #[.int .u64 X, .slice A' m c'], .int .i64 E]) ∧ m ≤ c' ∧ c' ≤ 9223372036854775807 ∧ Rd W' W'.heap.size 1 A' m (Cs encW Y) ∧ (∀ p, A' = some p → W.heap.size ≤ p.block) ∧ Below W.heap.size W W'
structure DoAt (W w : World) (A : Option Addr) (n c : Nat) (e k g b : Int) : Prop where
 below : Below W.heap.size W w
 pins : RowAt w W.heap.size 28 #[.int .u64 e, .slice A n c]
 op : RowAt w (W.heap.size + 1) 155 #[.int .i64 k, .int .i64 g, .int .u64 b]
 out : RowAt w (W.heap.size + 1 + 1) 28 #[.int .u64 0, .slice none 0 0]
theorem DoAt.mk' (W : World) (A : Option Addr) (n c : Nat) (e k g b : Int) : DoAt W (((W.alloc (.cells #[.int .u64 e, .slice A n c] 28)).alloc (.cells #[.int .i64 k, .int .i64 g, .int .u64 b] 155)).alloc (.cells #[.int .u64 0, .slice none 0 0] 28)) A n c e k g b := by
 refine ⟨(((Below.refl _ _).alloc (Nat.le_refl _) _).alloc (by simp) _).alloc (by simp; omega) _, (RowAt.new W 28 #[.int .u64 e, .slice A n c]).below (((Below.refl _ _).alloc (Nat.le_refl _) _).alloc (by simp) _), ?_, ?_⟩
 ·
  have h := RowAt.new (W.alloc (.cells #[.int .u64 e, .slice A n c] 28)) 155 #[.int .i64 k, .int .i64 g, .int .u64 b]
  rw [World.size_alloc] at h
  exact h.below ((Below.refl _ _).alloc (Nat.le_refl _) _)
 ·
  have h := RowAt.new ((W.alloc (.cells #[.int .u64 e, .slice A n c] 28)).alloc (.cells #[.int .i64 k, .int .i64 g, .int .u64 b] 155)) 28 #[.int .u64 0, .slice none 0 0]
  rw [World.size_alloc, World.size_alloc] at h
  exact h
theorem DoAt.next {W w w' : World} {A : Option Addr} {n c : Nat} {e k g b : Int} (h : DoAt W w A n c e k g b) (hb : Below w.heap.size w w') : DoAt W w' A n c e k g b := ⟨h.below.trans (hb.mono h.below.size), h.pins.below hb, h.op.below hb, h.out.below hb⟩
theorem row30 {w : World} {g : Nat} {t : TypeId} {a b c : Value} (h : RowAt w g t #[a, b, c]) : w.cell? ⟨g, 0, none⟩ = some a := by have := h.cell 0; simpa using this
theorem row31 {w : World} {g : Nat} {t : TypeId} {a b c : Value} (h : RowAt w g t #[a, b, c]) : w.cell? ⟨g, 1, none⟩ = some b := by have := h.cell 1; simpa using this
theorem row32 {w : World} {g : Nat} {t : TypeId} {a b c : Value} (h : RowAt w g t #[a, b, c]) : w.cell? ⟨g, 2, none⟩ = some c := by have := h.cell 2; simpa using this
set_option maxRecDepth 20000 in
theorem rDo_k0 (A : Option Addr) (c n : Nat) (e : Int) (S : List Int) (k g b : Int) (W : World) (h : Rd W W.heap.size 1 A n (Cs encW S)) (hx : S.length = n) (h0 : 0 ≤ e) (he : e ≤ 4611686018427387904) (hS : ∀ s ∈ S, U64 s) (hb : 0 ≤ b) (hl : n ≤ 4096) (hk : k < 1) :
  Calls Tryz.prog 112 #[.agg #[.int .u64 e, .slice A n c], .agg #[.int .i64 k, .int .i64 g, .int .u64 b]] W (RdoRes W 2 (0) ([]) 0) := by
 have HA := DoAt.mk' W A n c e k g b
 have AT := Hi HA
 have HR := Hi h
 have HX := Hi hx
 have HS := Hi hS
 clear HA h hx hS
 skip
 have z0 := row20 AT.out.pins
 have z1 := row21 AT.out.pins
 have y0 := row30 AT.out.op
 have y1 := row31 AT.out.op
 have y2 := row32 AT.out.op
 have f0 := AT.out.out.frozen 0
 have f1 := AT.out.out.frozen 1
 have v0 := row20 AT.out.out
 have v1 := row21 AT.out.out
 have l1 := AT.out.pins.lt
 have l2 := AT.out.op.lt
 have l3 := AT.out.out.lt
 go_enter Tryz.func112, Tryz.ntmps112
 go_wp2_with fail
 generalize ((W.alloc _).alloc _).alloc _ = w1 at *
 skip
 exact bodyPost_ret (v := .tuple #[.agg #[.int .u64 0, .slice none 0 0], .int .i64 2]) (by simp [results, Tryz.results112, go_sem, row20 AT.out.out, row21 AT.out.out, AT.out.out.lt]) rfl ⟨none, 0, rfl, Nat.le_refl _, by omega, Rd.none_, fun p hp => (by cases hp), AT.out.below⟩
set_option maxRecDepth 20000 in
theorem rDo_k4 (A : Option Addr) (c n : Nat) (e : Int) (S : List Int) (k g b : Int) (W : World) (h : Rd W W.heap.size 1 A n (Cs encW S)) (hx : S.length = n) (h0 : 0 ≤ e) (he : e ≤ 4611686018427387904) (hS : ∀ s ∈ S, U64 s) (hb : 0 ≤ b) (hl : n ≤ 4096) (hk : 3 < k) :
  Calls Tryz.prog 112 #[.agg #[.int .u64 e, .slice A n c], .agg #[.int .i64 k, .int .i64 g, .int .u64 b]] W (RdoRes W 2 (0) ([]) 0) := by
 have HA := DoAt.mk' W A n c e k g b
 have AT := Hi HA
 have HR := Hi h
 have HX := Hi hx
 have HS := Hi hS
 clear HA h hx hS
 have k1 : decide (k < 1) = false := by simp; omega
 have z0 := row20 AT.out.pins
 have z1 := row21 AT.out.pins
 have y0 := row30 AT.out.op
 have y1 := row31 AT.out.op
 have y2 := row32 AT.out.op
 have f0 := AT.out.out.frozen 0
 have f1 := AT.out.out.frozen 1
 have v0 := row20 AT.out.out
 have v1 := row21 AT.out.out
 have l1 := AT.out.pins.lt
 have l2 := AT.out.op.lt
 have l3 := AT.out.out.lt
 go_enter Tryz.func112, Tryz.ntmps112
 go_wp2_with fail
 generalize ((W.alloc _).alloc _).alloc _ = w1 at *
 skip
 exact bodyPost_ret (v := .tuple #[.agg #[.int .u64 0, .slice none 0 0], .int .i64 2]) (by simp [results, Tryz.results112, go_sem, row20 AT.out.out, row21 AT.out.out, AT.out.out.lt]) rfl ⟨none, 0, rfl, Nat.le_refl _, by omega, Rd.none_, fun p hp => (by cases hp), AT.out.below⟩
set_option maxRecDepth 20000 in
theorem rDo_g0 (A : Option Addr) (c n : Nat) (e : Int) (S : List Int) (k g b : Int) (W : World) (h : Rd W W.heap.size 1 A n (Cs encW S)) (hx : S.length = n) (h0 : 0 ≤ e) (he : e ≤ 4611686018427387904) (hS : ∀ s ∈ S, U64 s) (hb : 0 ≤ b) (hl : n ≤ 4096) (hk : k = 1 ∨ k = 2) (hg : g < 0) :
  Calls Tryz.prog 112 #[.agg #[.int .u64 e, .slice A n c], .agg #[.int .i64 k, .int .i64 g, .int .u64 b]] W (RdoRes W 2 (0) ([]) 0) := by
 have HA := DoAt.mk' W A n c e k g b
 have AT := Hi HA
 have HR := Hi h
 have HX := Hi hx
 have HS := Hi hS
 clear HA h hx hS
 have k1 : decide (k < 1) = false := by simp; omega
 have k2 : decide (3 < k) = false := by simp; omega
 have k3 : (k != 3) = true := by simp; omega
 have z0 := row20 AT.out.pins
 have z1 := row21 AT.out.pins
 have y0 := row30 AT.out.op
 have y1 := row31 AT.out.op
 have y2 := row32 AT.out.op
 have f0 := AT.out.out.frozen 0
 have f1 := AT.out.out.frozen 1
 have v0 := row20 AT.out.out
 have v1 := row21 AT.out.out
 have l1 := AT.out.pins.lt
 have l2 := AT.out.op.lt
 have l3 := AT.out.out.lt
 go_enter Tryz.func112, Tryz.ntmps112
 go_wp2_with fail
 generalize ((W.alloc _).alloc _).alloc _ = w1 at *
 skip
 exact bodyPost_ret (v := .tuple #[.agg #[.int .u64 0, .slice none 0 0], .int .i64 2]) (by simp [results, Tryz.results112, go_sem, row20 AT.out.out, row21 AT.out.out, AT.out.out.lt]) rfl ⟨none, 0, rfl, Nat.le_refl _, by omega, Rd.none_, fun p hp => (by cases hp), AT.out.below⟩
set_option maxRecDepth 20000 in
theorem rDo_gn (A : Option Addr) (c n : Nat) (e : Int) (S : List Int) (k g b : Int) (W : World) (h : Rd W W.heap.size 1 A n (Cs encW S)) (hx : S.length = n) (h0 : 0 ≤ e) (he : e ≤ 4611686018427387904) (hS : ∀ s ∈ S, U64 s) (hb : 0 ≤ b) (hl : n ≤ 4096) (hk : k = 1 ∨ k = 2) (hg : (n : Int) ≤ g) :
  Calls Tryz.prog 112 #[.agg #[.int .u64 e, .slice A n c], .agg #[.int .i64 k, .int .i64 g, .int .u64 b]] W (RdoRes W 2 (0) ([]) 0) := by
 have HA := DoAt.mk' W A n c e k g b
 have AT := Hi HA
 have HR := Hi h
 have HX := Hi hx
 have HS := Hi hS
 clear HA h hx hS
 have k1 : decide (k < 1) = false := by simp; omega
 have k2 : decide (3 < k) = false := by simp; omega
 have k3 : (k != 3) = true := by simp; omega
 have g1 : decide (g < 0) = false := by simp; omega
 have z0 := row20 AT.out.pins
 have z1 := row21 AT.out.pins
 have y0 := row30 AT.out.op
 have y1 := row31 AT.out.op
 have y2 := row32 AT.out.op
 have f0 := AT.out.out.frozen 0
 have f1 := AT.out.out.frozen 1
 have v0 := row20 AT.out.out
 have v1 := row21 AT.out.out
 have l1 := AT.out.pins.lt
 have l2 := AT.out.op.lt
 have l3 := AT.out.out.lt
 go_enter Tryz.func112, Tryz.ntmps112
 go_wp2_with fail
 generalize ((W.alloc _).alloc _).alloc _ = w1 at *
 skip
 exact bodyPost_ret (v := .tuple #[.agg #[.int .u64 0, .slice none 0 0], .int .i64 2]) (by simp [results, Tryz.results112, go_sem, row20 AT.out.out, row21 AT.out.out, AT.out.out.lt]) rfl ⟨none, 0, rfl, Nat.le_refl _, by omega, Rd.none_, fun p hp => (by cases hp), AT.out.below⟩
set_option maxRecDepth 20000 in
theorem rDo_3held (A : Option Addr) (c n : Nat) (e : Int) (S : List Int) (k g b : Int) (W : World) (h : Rd W W.heap.size 1 A n (Cs encW S)) (hx : S.length = n) (h0 : 0 ≤ e) (he : e ≤ 4611686018427387904) (hS : ∀ s ∈ S, U64 s) (hb : 0 ≤ b) (hl : n ≤ 4096) (m0 : Nat) (hm : (backL e S).length = m0) (hm0 : 0 < m0) :
  Calls Tryz.prog 112 #[.agg #[.int .u64 e, .slice A n c], .agg #[.int .i64 3, .int .i64 g, .int .u64 b]] W (RdoRes W 231 (0) ([]) 0) := by
 have HA := DoAt.mk' W A n c e 3 g b
 have AT := Hi HA
 have HR := Hi h
 have HX := Hi hx
 have HS := Hi hS
 clear HA h hx hS
 have HM := Hi hm
 clear hm
 have z0 := row20 AT.out.pins
 have z1 := row21 AT.out.pins
 have y0 := row30 AT.out.op
 have y1 := row31 AT.out.op
 have y2 := row32 AT.out.op
 have f0 := AT.out.out.frozen 0
 have f1 := AT.out.out.frozen 1
 have v0 := row20 AT.out.out
 have v1 := row21 AT.out.out
 have l1 := AT.out.pins.lt
 have l2 := AT.out.op.lt
 have l3 := AT.out.out.lt
 go_enter Tryz.func112, Tryz.ntmps112
 go_wp2_with fail
 generalize ((W.alloc _).alloc _).alloc _ = w1 at *
 skip
 have HBK := Hi (rBack_any A c n e S w1 ((HR.out.below AT.out.below).more AT.out.below.size) HX.out HS.out hl m0 HM.out)
 refine HBK.out.mono ?_
 rintro x w2 ⟨A2, c2, rfl, hc2, hcm2, hrd, hb2⟩
 replace AT := Hi (AT.out.next hb2)
 have hw0sz : W.heap.size + 1 + 1 < w1.heap.size := l3
 clear hb2 hrd z0 z1 y0 y1 y2 f0 f1 v0 v1 l1 l2 l3 HBK
 have z0 := row20 AT.out.pins
 have z1 := row21 AT.out.pins
 have y0 := row30 AT.out.op
 have y1 := row31 AT.out.op
 have y2 := row32 AT.out.op
 have f0 := AT.out.out.frozen 0
 have f1 := AT.out.out.frozen 1
 have v0 := row20 AT.out.out
 have v1 := row21 AT.out.out
 have l1 := AT.out.pins.lt
 have l2 := AT.out.op.lt
 have l3 := AT.out.out.lt
 go_wp2_with fail
 have hr4 := (AT.out.out.set 0 (.int .u64 0)).set 1 (.slice none 0 0)
 have hb4 : Below W.heap.size W ((w2.setCell ⟨W.heap.size + 1 + 1, 0, none⟩ (.int .u64 0)).setCell ⟨W.heap.size + 1 + 1, 1, none⟩ (.slice none 0 0)) := (AT.out.below.setCell (p := ⟨W.heap.size + 1 + 1, 0, none⟩) (by simp; omega) _).setCell (p := ⟨W.heap.size + 1 + 1, 1, none⟩) (by simp; omega) _
 generalize (w2.setCell _ _).setCell _ _ = wF at *
 have hr5 : RowAt wF (W.heap.size + 1 + 1) 28 #[.int .u64 0, .slice none 0 0] := by simpa using hr4
 exact bodyPost_ret (v := .tuple #[.agg #[.int .u64 0, .slice none 0 0], .int .i64 231]) (by simp [results, Tryz.results112, go_sem, row20 hr5, row21 hr5, hr5.lt]) rfl ⟨none, 0, rfl, Nat.le_refl _, by omega, Rd.none_, fun p hp => (by cases hp), hb4⟩
set_option maxRecDepth 20000 in
theorem rDo_3full (A : Option Addr) (c n : Nat) (e : Int) (S : List Int) (k g b : Int) (W : World) (h : Rd W W.heap.size 1 A n (Cs encW S)) (hx : S.length = n) (h0 : 0 ≤ e) (he : e ≤ 4611686018427387904) (hS : ∀ s ∈ S, U64 s) (hb : 0 ≤ b) (hl : n ≤ 4096) (m0 : Nat) (hm : (backL e S).length = m0) (hm0 : m0 = 0) (hem : e = 4611686018427387904) :
  Calls Tryz.prog 112 #[.agg #[.int .u64 e, .slice A n c], .agg #[.int .i64 3, .int .i64 g, .int .u64 b]] W (RdoRes W 6 (0) ([]) 0) := by
 have HA := DoAt.mk' W A n c e 3 g b
 have AT := Hi HA
 have HR := Hi h
 have HX := Hi hx
 have HS := Hi hS
 clear HA h hx hS
 have HM := Hi hm
 clear hm
 subst hm0
 have he1 : (e == 4611686018427387904) = true := by simpa using hem
 clear hem
 have z0 := row20 AT.out.pins
 have z1 := row21 AT.out.pins
 have y0 := row30 AT.out.op
 have y1 := row31 AT.out.op
 have y2 := row32 AT.out.op
 have f0 := AT.out.out.frozen 0
 have f1 := AT.out.out.frozen 1
 have v0 := row20 AT.out.out
 have v1 := row21 AT.out.out
 have l1 := AT.out.pins.lt
 have l2 := AT.out.op.lt
 have l3 := AT.out.out.lt
 go_enter Tryz.func112, Tryz.ntmps112
 go_wp2_with fail
 generalize ((W.alloc _).alloc _).alloc _ = w1 at *
 skip
 have HBK := Hi (rBack_any A c n e S w1 ((HR.out.below AT.out.below).more AT.out.below.size) HX.out HS.out hl 0 HM.out)
 refine HBK.out.mono ?_
 rintro x w2 ⟨A2, c2, rfl, hc2, hcm2, hrd, hb2⟩
 replace AT := Hi (AT.out.next hb2)
 have hw0sz : W.heap.size + 1 + 1 < w1.heap.size := l3
 clear hb2 hrd z0 z1 y0 y1 y2 f0 f1 v0 v1 l1 l2 l3 HBK
 have z0 := row20 AT.out.pins
 have z1 := row21 AT.out.pins
 have y0 := row30 AT.out.op
 have y1 := row31 AT.out.op
 have y2 := row32 AT.out.op
 have f0 := AT.out.out.frozen 0
 have f1 := AT.out.out.frozen 1
 have v0 := row20 AT.out.out
 have v1 := row21 AT.out.out
 have l1 := AT.out.pins.lt
 have l2 := AT.out.op.lt
 have l3 := AT.out.out.lt
 go_wp2_with fail
 have hr4 := (AT.out.out.set 0 (.int .u64 0)).set 1 (.slice none 0 0)
 have hb4 : Below W.heap.size W ((w2.setCell ⟨W.heap.size + 1 + 1, 0, none⟩ (.int .u64 0)).setCell ⟨W.heap.size + 1 + 1, 1, none⟩ (.slice none 0 0)) := (AT.out.below.setCell (p := ⟨W.heap.size + 1 + 1, 0, none⟩) (by simp; omega) _).setCell (p := ⟨W.heap.size + 1 + 1, 1, none⟩) (by simp; omega) _
 generalize (w2.setCell _ _).setCell _ _ = wF at *
 have hr5 : RowAt wF (W.heap.size + 1 + 1) 28 #[.int .u64 0, .slice none 0 0] := by simpa using hr4
 exact bodyPost_ret (v := .tuple #[.agg #[.int .u64 0, .slice none 0 0], .int .i64 6]) (by simp [results, Tryz.results112, go_sem, row20 hr5, row21 hr5, hr5.lt]) rfl ⟨none, 0, rfl, Nat.le_refl _, by omega, Rd.none_, fun p hp => (by cases hp), hb4⟩
set_option maxRecDepth 20000 in
theorem rDo_3ok (A : Option Addr) (c n : Nat) (e : Int) (S : List Int) (k g b : Int) (W : World) (h : Rd W W.heap.size 1 A n (Cs encW S)) (hx : S.length = n) (h0 : 0 ≤ e) (he : e ≤ 4611686018427387904) (hS : ∀ s ∈ S, U64 s) (hb : 0 ≤ b) (hl : n ≤ 4096) (m0 : Nat) (hm : (backL e S).length = m0) (hm0 : m0 = 0) (hem : e < 4611686018427387904) :
  Calls Tryz.prog 112 #[.agg #[.int .u64 e, .slice A n c], .agg #[.int .i64 3, .int .i64 g, .int .u64 b]] W (RdoRes W 0 (e + 1) (S) n) := by
 have HA := DoAt.mk' W A n c e 3 g b
 have AT := Hi HA
 have HR := Hi h
 have HX := Hi hx
 have HS := Hi hS
 clear HA h hx hS
 have HM := Hi hm
 clear hm
 subst hm0
 have he1 : (e == 4611686018427387904) = false := by simp; omega
 have u0 : (0 : Int) ≤ e + 1 := by omega
 have u1 : e + 1 < 18446744073709551616 := by omega
 have z0 := row20 AT.out.pins
 have z1 := row21 AT.out.pins
 have y0 := row30 AT.out.op
 have y1 := row31 AT.out.op
 have y2 := row32 AT.out.op
 have f0 := AT.out.out.frozen 0
 have f1 := AT.out.out.frozen 1
 have v0 := row20 AT.out.out
 have v1 := row21 AT.out.out
 have l1 := AT.out.pins.lt
 have l2 := AT.out.op.lt
 have l3 := AT.out.out.lt
 go_enter Tryz.func112, Tryz.ntmps112
 go_wp2_with fail
 generalize ((W.alloc _).alloc _).alloc _ = w1 at *
 skip
 have HBK := Hi (rBack_any A c n e S w1 ((HR.out.below AT.out.below).more AT.out.below.size) HX.out HS.out hl 0 HM.out)
 refine HBK.out.mono ?_
 rintro x w2 ⟨A2, c2, rfl, hc2, hcm2, hrd, hb2⟩
 replace AT := Hi (AT.out.next hb2)
 have hw0sz : W.heap.size + 1 + 1 < w1.heap.size := l3
 clear hb2 hrd z0 z1 y0 y1 y2 f0 f1 v0 v1 l1 l2 l3 HBK
 have z0 := row20 AT.out.pins
 have z1 := row21 AT.out.pins
 have y0 := row30 AT.out.op
 have y1 := row31 AT.out.op
 have y2 := row32 AT.out.op
 have f0 := AT.out.out.frozen 0
 have f1 := AT.out.out.frozen 1
 have v0 := row20 AT.out.out
 have v1 := row21 AT.out.out
 have l1 := AT.out.pins.lt
 have l2 := AT.out.op.lt
 have l3 := AT.out.out.lt
 go_wp2_with fail
 have HW := Hi (with_any A c n (e + 1) (-1) 0 S w2 ((HR.out.below AT.out.below).more AT.out.below.size) HX.out hl)
 rw [show wthS S (-1) 0 = S from rfl] at HW
 clear z0 z1 y0 y1 y2 f0 f1 v0 v1 l1 l2 l3
 have hw0sz2 : W.heap.size + 1 + 1 < w2.heap.size := AT.out.out.lt
 refine HW.out.mono ?_
 rintro x w3 ⟨A2, c2, rfl, hc2, hcm2, hrd, hfr, hb⟩
 replace AT := Hi (AT.out.next hb)
 have HRD := Hi hrd
 have HFR := Hi hfr
 clear hrd hfr hb
 have f0 := AT.out.out.frozen 0
 have f1 := AT.out.out.frozen 1
 have v0 := row20 AT.out.out
 have v1 := row21 AT.out.out
 have l3 := AT.out.out.lt
 go_wp2_with fail
 have hr4 := (AT.out.out.set 0 (.int .u64 (e + 1))).set 1 (.slice A2 n c2)
 have hb4 : Below W.heap.size W ((w3.setCell ⟨W.heap.size + 1 + 1, 0, none⟩ (.int .u64 (e + 1))).setCell ⟨W.heap.size + 1 + 1, 1, none⟩ (.slice A2 n c2)) := (AT.out.below.setCell (p := ⟨W.heap.size + 1 + 1, 0, none⟩) (by simp; omega) _).setCell (p := ⟨W.heap.size + 1 + 1, 1, none⟩) (by simp; omega) _
 have hne : ∀ p, A2 = some p → p.block ≠ W.heap.size + 1 + 1 := fun p hp => by have := HFR.out p hp; omega
 have hrd := (HRD.out.setOffS (g := W.heap.size + 1 + 1) hne 0 (.int .u64 (e + 1))).setOffS (g := W.heap.size + 1 + 1) hne 1 (.slice A2 n c2)
 generalize (w3.setCell _ _).setCell _ _ = wF at *
 have hr5 : RowAt wF (W.heap.size + 1 + 1) 28 #[.int .u64 (e + 1), .slice A2 n c2] := by simpa using hr4
 exact bodyPost_ret (v := .tuple #[.agg #[.int .u64 (e + 1), .slice A2 n c2], .int .i64 0]) (by simp [results, Tryz.results112, go_sem, row20 hr5, row21 hr5, hr5.lt]) rfl ⟨A2, c2, rfl, hc2, hcm2, hrd, fun p hp => by have := HFR.out p hp; omega, hb4⟩
set_option maxRecDepth 20000 in
theorem rDo_1there (A : Option Addr) (c n : Nat) (e : Int) (S : List Int) (k g b : Int) (W : World) (h : Rd W W.heap.size 1 A n (Cs encW S)) (hx : S.length = n) (h0 : 0 ≤ e) (he : e ≤ 4611686018427387904) (hS : ∀ s ∈ S, U64 s) (hb : 0 ≤ b) (hl : n ≤ 4096) (j : Nat) (hj : j < n) (q : Int) (hq : S[j]? = some q) (hq5 : 0 < q) :
  Calls Tryz.prog 112 #[.agg #[.int .u64 e, .slice A n c], .agg #[.int .i64 1, .int .i64 (j : Int), .int .u64 b]] W (RdoRes W 5 (0) ([]) 0) := by
 have HA := DoAt.mk' W A n c e 1 (j : Int) b
 have AT := Hi HA
 have HR := Hi h
 have HX := Hi hx
 have HS := Hi hS
 clear HA h hx hS
 have hq0 : U64 q := HS.out _ (List.mem_of_getElem? hq)
 obtain ⟨b1, o1, hA1, hb1, hd10⟩ := (HR.out.below AT.out.below).elemN HX.out hj hq
 subst hA1
 have hbsz := AT.out.below.size
 have hb1l := Nat.lt_of_lt_of_le hb1 hbsz
 have jI : (j : Int) < (n : Int) := by omega
 have j0 : decide ((j : Int) < 0) = false := by simp <;> omega
 have jn : decide (n ≤ j) = false := by simp <;> omega
 clear hbsz hq
 have z0 := row20 AT.out.pins
 have z1 := row21 AT.out.pins
 have y0 := row30 AT.out.op
 have y1 := row31 AT.out.op
 have y2 := row32 AT.out.op
 have f0 := AT.out.out.frozen 0
 have f1 := AT.out.out.frozen 1
 have v0 := row20 AT.out.out
 have v1 := row21 AT.out.out
 have l1 := AT.out.pins.lt
 have l2 := AT.out.op.lt
 have l3 := AT.out.out.lt
 go_enter Tryz.func112, Tryz.ntmps112
 go_upto_region 9 with fail
 generalize ((W.alloc _).alloc _).alloc _ = w1 at *
 go_wp2_with fail
 have hr4 := (AT.out.out.set 0 (.int .u64 0)).set 1 (.slice none 0 0)
 have hb4 : Below W.heap.size W ((w1.setCell ⟨W.heap.size + 1 + 1, 0, none⟩ (.int .u64 0)).setCell ⟨W.heap.size + 1 + 1, 1, none⟩ (.slice none 0 0)) := (AT.out.below.setCell (p := ⟨W.heap.size + 1 + 1, 0, none⟩) (by simp; omega) _).setCell (p := ⟨W.heap.size + 1 + 1, 1, none⟩) (by simp; omega) _
 generalize (w1.setCell _ _).setCell _ _ = wF at *
 have hr5 : RowAt wF (W.heap.size + 1 + 1) 28 #[.int .u64 0, .slice none 0 0] := by simpa using hr4
 exact bodyPost_ret (v := .tuple #[.agg #[.int .u64 0, .slice none 0 0], .int .i64 5]) (by simp [results, Tryz.results112, go_sem, row20 hr5, row21 hr5, hr5.lt]) rfl ⟨none, 0, rfl, Nat.le_refl _, by omega, Rd.none_, fun p hp => (by cases hp), hb4⟩
set_option maxRecDepth 20000 in
theorem rDo_1none (A : Option Addr) (c n : Nat) (e : Int) (S : List Int) (k g b : Int) (W : World) (h : Rd W W.heap.size 1 A n (Cs encW S)) (hx : S.length = n) (h0 : 0 ≤ e) (he : e ≤ 4611686018427387904) (hS : ∀ s ∈ S, U64 s) (hb : 0 ≤ b) (hl : n ≤ 4096) (j : Nat) (hj : j < n) (q : Int) (hq : S[j]? = some q) (hq5 : q = 0) (hbe : e < b) :
  Calls Tryz.prog 112 #[.agg #[.int .u64 e, .slice A n c], .agg #[.int .i64 1, .int .i64 (j : Int), .int .u64 b]] W (RdoRes W 4 (0) ([]) 0) := by
 have HA := DoAt.mk' W A n c e 1 (j : Int) b
 have AT := Hi HA
 have HR := Hi h
 have HX := Hi hx
 have HS := Hi hS
 clear HA h hx hS
 have hq0 : U64 q := HS.out _ (List.mem_of_getElem? hq)
 obtain ⟨b1, o1, hA1, hb1, hd10⟩ := (HR.out.below AT.out.below).elemN HX.out hj hq
 subst hA1
 have hbsz := AT.out.below.size
 have hb1l := Nat.lt_of_lt_of_le hb1 hbsz
 have jI : (j : Int) < (n : Int) := by omega
 have j0 : decide ((j : Int) < 0) = false := by simp <;> omega
 have jn : decide (n ≤ j) = false := by simp <;> omega
 clear hbsz hq
 subst hq5
 have z0 := row20 AT.out.pins
 have z1 := row21 AT.out.pins
 have y0 := row30 AT.out.op
 have y1 := row31 AT.out.op
 have y2 := row32 AT.out.op
 have f0 := AT.out.out.frozen 0
 have f1 := AT.out.out.frozen 1
 have v0 := row20 AT.out.out
 have v1 := row21 AT.out.out
 have l1 := AT.out.pins.lt
 have l2 := AT.out.op.lt
 have l3 := AT.out.out.lt
 go_enter Tryz.func112, Tryz.ntmps112
 go_upto_region 9 with fail
 generalize ((W.alloc _).alloc _).alloc _ = w1 at *
 go_wp2_with fail
 have hr4 := (AT.out.out.set 0 (.int .u64 0)).set 1 (.slice none 0 0)
 have hb4 : Below W.heap.size W ((w1.setCell ⟨W.heap.size + 1 + 1, 0, none⟩ (.int .u64 0)).setCell ⟨W.heap.size + 1 + 1, 1, none⟩ (.slice none 0 0)) := (AT.out.below.setCell (p := ⟨W.heap.size + 1 + 1, 0, none⟩) (by simp; omega) _).setCell (p := ⟨W.heap.size + 1 + 1, 1, none⟩) (by simp; omega) _
 generalize (w1.setCell _ _).setCell _ _ = wF at *
 have hr5 : RowAt wF (W.heap.size + 1 + 1) 28 #[.int .u64 0, .slice none 0 0] := by simpa using hr4
 exact bodyPost_ret (v := .tuple #[.agg #[.int .u64 0, .slice none 0 0], .int .i64 4]) (by simp [results, Tryz.results112, go_sem, row20 hr5, row21 hr5, hr5.lt]) rfl ⟨none, 0, rfl, Nat.le_refl _, by omega, Rd.none_, fun p hp => (by cases hp), hb4⟩
set_option maxRecDepth 20000 in
theorem rDo_2none (A : Option Addr) (c n : Nat) (e : Int) (S : List Int) (k g b : Int) (W : World) (h : Rd W W.heap.size 1 A n (Cs encW S)) (hx : S.length = n) (h0 : 0 ≤ e) (he : e ≤ 4611686018427387904) (hS : ∀ s ∈ S, U64 s) (hb : 0 ≤ b) (hl : n ≤ 4096) (j : Nat) (hj : j < n) (q : Int) (hq : S[j]? = some q) (hq5 : q = 0) :
  Calls Tryz.prog 112 #[.agg #[.int .u64 e, .slice A n c], .agg #[.int .i64 2, .int .i64 (j : Int), .int .u64 b]] W (RdoRes W 4 (0) ([]) 0) := by
 have HA := DoAt.mk' W A n c e 2 (j : Int) b
 have AT := Hi HA
 have HR := Hi h
 have HX := Hi hx
 have HS := Hi hS
 clear HA h hx hS
 have hq0 : U64 q := HS.out _ (List.mem_of_getElem? hq)
 obtain ⟨b1, o1, hA1, hb1, hd10⟩ := (HR.out.below AT.out.below).elemN HX.out hj hq
 subst hA1
 have hbsz := AT.out.below.size
 have hb1l := Nat.lt_of_lt_of_le hb1 hbsz
 have jI : (j : Int) < (n : Int) := by omega
 have j0 : decide ((j : Int) < 0) = false := by simp <;> omega
 have jn : decide (n ≤ j) = false := by simp <;> omega
 clear hbsz hq
 subst hq5
 have z0 := row20 AT.out.pins
 have z1 := row21 AT.out.pins
 have y0 := row30 AT.out.op
 have y1 := row31 AT.out.op
 have y2 := row32 AT.out.op
 have f0 := AT.out.out.frozen 0
 have f1 := AT.out.out.frozen 1
 have v0 := row20 AT.out.out
 have v1 := row21 AT.out.out
 have l1 := AT.out.pins.lt
 have l2 := AT.out.op.lt
 have l3 := AT.out.out.lt
 go_enter Tryz.func112, Tryz.ntmps112
 go_upto_region 9 with fail
 generalize ((W.alloc _).alloc _).alloc _ = w1 at *
 go_wp2_with fail
 have hr4 := (AT.out.out.set 0 (.int .u64 0)).set 1 (.slice none 0 0)
 have hb4 : Below W.heap.size W ((w1.setCell ⟨W.heap.size + 1 + 1, 0, none⟩ (.int .u64 0)).setCell ⟨W.heap.size + 1 + 1, 1, none⟩ (.slice none 0 0)) := (AT.out.below.setCell (p := ⟨W.heap.size + 1 + 1, 0, none⟩) (by simp; omega) _).setCell (p := ⟨W.heap.size + 1 + 1, 1, none⟩) (by simp; omega) _
 generalize (w1.setCell _ _).setCell _ _ = wF at *
 have hr5 : RowAt wF (W.heap.size + 1 + 1) 28 #[.int .u64 0, .slice none 0 0] := by simpa using hr4
 exact bodyPost_ret (v := .tuple #[.agg #[.int .u64 0, .slice none 0 0], .int .i64 4]) (by simp [results, Tryz.results112, go_sem, row20 hr5, row21 hr5, hr5.lt]) rfl ⟨none, 0, rfl, Nat.le_refl _, by omega, Rd.none_, fun p hp => (by cases hp), hb4⟩
set_option maxRecDepth 20000 in
theorem rDo_1ok (A : Option Addr) (c n : Nat) (e : Int) (S : List Int) (k g b : Int) (W : World) (h : Rd W W.heap.size 1 A n (Cs encW S)) (hx : S.length = n) (h0 : 0 ≤ e) (he : e ≤ 4611686018427387904) (hS : ∀ s ∈ S, U64 s) (hb : 0 ≤ b) (hl : n ≤ 4096) (j : Nat) (hj : j < n) (q : Int) (hq : S[j]? = some q) (hq5 : q = 0) (hbe : b ≤ e) :
  Calls Tryz.prog 112 #[.agg #[.int .u64 e, .slice A n c], .agg #[.int .i64 1, .int .i64 (j : Int), .int .u64 b]] W (RdoRes W 0 (e) (S.set j (e + 1 - b)) n) := by
 have HA := DoAt.mk' W A n c e 1 (j : Int) b
 have AT := Hi HA
 have HR := Hi h
 have HX := Hi hx
 have HS := Hi hS
 clear HA h hx hS
 have hq0 : U64 q := HS.out _ (List.mem_of_getElem? hq)
 obtain ⟨b1, o1, hA1, hb1, hd10⟩ := (HR.out.below AT.out.below).elemN HX.out hj hq
 subst hA1
 have hbsz := AT.out.below.size
 have hb1l := Nat.lt_of_lt_of_le hb1 hbsz
 have jI : (j : Int) < (n : Int) := by omega
 have j0 : decide ((j : Int) < 0) = false := by simp <;> omega
 have jn : decide (n ≤ j) = false := by simp <;> omega
 clear hbsz hq
 subst hq5
 have hbe' : decide (e < b) = false := by simp; omega
 have u0 : (0 : Int) ≤ e + 1 := by omega
 have u1 : e + 1 < 18446744073709551616 := by omega
 have u2 : (0 : Int) ≤ e + 1 - b := by omega
 have u3 : e + 1 - b < 18446744073709551616 := by omega
 have z0 := row20 AT.out.pins
 have z1 := row21 AT.out.pins
 have y0 := row30 AT.out.op
 have y1 := row31 AT.out.op
 have y2 := row32 AT.out.op
 have f0 := AT.out.out.frozen 0
 have f1 := AT.out.out.frozen 1
 have v0 := row20 AT.out.out
 have v1 := row21 AT.out.out
 have l1 := AT.out.pins.lt
 have l2 := AT.out.op.lt
 have l3 := AT.out.out.lt
 go_enter Tryz.func112, Tryz.ntmps112
 go_upto_region 9 with fail
 generalize ((W.alloc _).alloc _).alloc _ = w1 at *
 go_wp2_with fail
 have HW := Hi (with_any (some ⟨b1, o1, none⟩) c n e (j : Int) (e + 1 - b) S w1 ((HR.out.below AT.out.below).more AT.out.below.size) HX.out hl)
 rw [show wthS S (j : Int) (e + 1 - b) = S.set j (e + 1 - b) by simp [wthS]] at HW
 have hw0sz2 := l3
 clear z0 z1 y0 y1 y2 f0 f1 v0 v1 l1 l2 l3 hd10
 refine HW.out.mono ?_
 rintro x w3 ⟨A2, c2, rfl, hc2, hcm2, hrd, hfr, hb⟩
 replace AT := Hi (AT.out.next hb)
 have HRD := Hi hrd
 have HFR := Hi hfr
 clear hrd hfr hb
 have f0 := AT.out.out.frozen 0
 have f1 := AT.out.out.frozen 1
 have v0 := row20 AT.out.out
 have v1 := row21 AT.out.out
 have l3 := AT.out.out.lt
 go_wp2_with fail
 have hr4 := (AT.out.out.set 0 (.int .u64 e)).set 1 (.slice A2 n c2)
 have hb4 : Below W.heap.size W ((w3.setCell ⟨W.heap.size + 1 + 1, 0, none⟩ (.int .u64 e)).setCell ⟨W.heap.size + 1 + 1, 1, none⟩ (.slice A2 n c2)) := (AT.out.below.setCell (p := ⟨W.heap.size + 1 + 1, 0, none⟩) (by simp; omega) _).setCell (p := ⟨W.heap.size + 1 + 1, 1, none⟩) (by simp; omega) _
 have hne : ∀ p, A2 = some p → p.block ≠ W.heap.size + 1 + 1 := fun p hp => by have := HFR.out p hp; omega
 have hrd := (HRD.out.setOffS (g := W.heap.size + 1 + 1) hne 0 (.int .u64 e)).setOffS (g := W.heap.size + 1 + 1) hne 1 (.slice A2 n c2)
 generalize (w3.setCell _ _).setCell _ _ = wF at *
 have hr5 : RowAt wF (W.heap.size + 1 + 1) 28 #[.int .u64 e, .slice A2 n c2] := by simpa using hr4
 exact bodyPost_ret (v := .tuple #[.agg #[.int .u64 e, .slice A2 n c2], .int .i64 0]) (by simp [results, Tryz.results112, go_sem, row20 hr5, row21 hr5, hr5.lt]) rfl ⟨A2, c2, rfl, hc2, hcm2, hrd, fun p hp => by have := HFR.out p hp; omega, hb4⟩
set_option maxRecDepth 20000 in
theorem rDo_2ok (A : Option Addr) (c n : Nat) (e : Int) (S : List Int) (k g b : Int) (W : World) (h : Rd W W.heap.size 1 A n (Cs encW S)) (hx : S.length = n) (h0 : 0 ≤ e) (he : e ≤ 4611686018427387904) (hS : ∀ s ∈ S, U64 s) (hb : 0 ≤ b) (hl : n ≤ 4096) (j : Nat) (hj : j < n) (q : Int) (hq : S[j]? = some q) (hq5 : 0 < q) :
  Calls Tryz.prog 112 #[.agg #[.int .u64 e, .slice A n c], .agg #[.int .i64 2, .int .i64 (j : Int), .int .u64 b]] W (RdoRes W 0 (e) (S.set j (0)) n) := by
 have HA := DoAt.mk' W A n c e 2 (j : Int) b
 have AT := Hi HA
 have HR := Hi h
 have HX := Hi hx
 have HS := Hi hS
 clear HA h hx hS
 have hq0 : U64 q := HS.out _ (List.mem_of_getElem? hq)
 obtain ⟨b1, o1, hA1, hb1, hd10⟩ := (HR.out.below AT.out.below).elemN HX.out hj hq
 subst hA1
 have hbsz := AT.out.below.size
 have hb1l := Nat.lt_of_lt_of_le hb1 hbsz
 have jI : (j : Int) < (n : Int) := by omega
 have j0 : decide ((j : Int) < 0) = false := by simp <;> omega
 have jn : decide (n ≤ j) = false := by simp <;> omega
 clear hbsz hq
 have hq6 : (q == 0) = false := by simp; omega
 have z0 := row20 AT.out.pins
 have z1 := row21 AT.out.pins
 have y0 := row30 AT.out.op
 have y1 := row31 AT.out.op
 have y2 := row32 AT.out.op
 have f0 := AT.out.out.frozen 0
 have f1 := AT.out.out.frozen 1
 have v0 := row20 AT.out.out
 have v1 := row21 AT.out.out
 have l1 := AT.out.pins.lt
 have l2 := AT.out.op.lt
 have l3 := AT.out.out.lt
 go_enter Tryz.func112, Tryz.ntmps112
 go_upto_region 9 with fail
 generalize ((W.alloc _).alloc _).alloc _ = w1 at *
 go_wp2_with fail
 have HW := Hi (with_any (some ⟨b1, o1, none⟩) c n e (j : Int) (0) S w1 ((HR.out.below AT.out.below).more AT.out.below.size) HX.out hl)
 rw [show wthS S (j : Int) (0) = S.set j (0) by simp [wthS]] at HW
 have hw0sz2 := l3
 clear z0 z1 y0 y1 y2 f0 f1 v0 v1 l1 l2 l3 hd10
 refine HW.out.mono ?_
 rintro x w3 ⟨A2, c2, rfl, hc2, hcm2, hrd, hfr, hb⟩
 replace AT := Hi (AT.out.next hb)
 have HRD := Hi hrd
 have HFR := Hi hfr
 clear hrd hfr hb
 have f0 := AT.out.out.frozen 0
 have f1 := AT.out.out.frozen 1
 have v0 := row20 AT.out.out
 have v1 := row21 AT.out.out
 have l3 := AT.out.out.lt
 go_wp2_with fail
 have hr4 := (AT.out.out.set 0 (.int .u64 e)).set 1 (.slice A2 n c2)
 have hb4 : Below W.heap.size W ((w3.setCell ⟨W.heap.size + 1 + 1, 0, none⟩ (.int .u64 e)).setCell ⟨W.heap.size + 1 + 1, 1, none⟩ (.slice A2 n c2)) := (AT.out.below.setCell (p := ⟨W.heap.size + 1 + 1, 0, none⟩) (by simp; omega) _).setCell (p := ⟨W.heap.size + 1 + 1, 1, none⟩) (by simp; omega) _
 have hne : ∀ p, A2 = some p → p.block ≠ W.heap.size + 1 + 1 := fun p hp => by have := HFR.out p hp; omega
 have hrd := (HRD.out.setOffS (g := W.heap.size + 1 + 1) hne 0 (.int .u64 e)).setOffS (g := W.heap.size + 1 + 1) hne 1 (.slice A2 n c2)
 generalize (w3.setCell _ _).setCell _ _ = wF at *
 have hr5 : RowAt wF (W.heap.size + 1 + 1) 28 #[.int .u64 e, .slice A2 n c2] := by simpa using hr4
 exact bodyPost_ret (v := .tuple #[.agg #[.int .u64 e, .slice A2 n c2], .int .i64 0]) (by simp [results, Tryz.results112, go_sem, row20 hr5, row21 hr5, hr5.lt]) rfl ⟨A2, c2, rfl, hc2, hcm2, hrd, fun p hp => by have := HFR.out p hp; omega, hb4⟩
theorem rDo_any (A : Option Addr) (c n : Nat) (e : Int) (S : List Int) (k g b : Int) (W : World) (h : Rd W W.heap.size 1 A n (Cs encW S)) (hx : S.length = n) (h0 : 0 ≤ e) (hS : ∀ s ∈ S, U64 s) (hb : 0 ≤ b) (ho : pOk e S = true)
  (E X : Int) (Y : List Int) (m : Nat) (hE : doE e S k g b = E) (hX : doX e S k g b = X) (hY : doS e S k g b = Y) (hm : Y.length = m) :
  Calls Tryz.prog 112 #[.agg #[.int .u64 e, .slice A n c], .agg #[.int .i64 k, .int .i64 g, .int .u64 b]] W (RdoRes W E X Y m) := by
 have hl : n ≤ 4096 := by have := (pOk_out ho).2.1; omega
 have he := (pOk_out ho).2.2.1
 have hDE : doE e S k g b = dE e S k g b := by unfold doE; rw [if_pos ho]
 -- an arm that is an error; one that is none
 have no : ∀ E', dE e S k g b = E' → E' ≠ 0 → Calls Tryz.prog 112 #[.agg #[.int .u64 e, .slice A n c], .agg #[.int .i64 k, .int .i64 g, .int .u64 b]] W (RdoRes W E' 0 [] 0) →
   Calls Tryz.prog 112 #[.agg #[.int .u64 e, .slice A n c], .agg #[.int .i64 k, .int .i64 g, .int .u64 b]] W (RdoRes W E X Y m) := fun E' h1 h2 h3 => by
  have e1 : E = E' := by rw [← hE, hDE, h1]
  have e2 : X = 0 := by rw [← hX]; unfold doX; rw [hDE, h1, if_neg h2]
  have e3 : Y = [] := by rw [← hY]; unfold doS; rw [hDE, h1, if_neg h2]
  subst e1 e2 e3
  simp at hm
  subst hm
  exact h3
 have yes : ∀ X' Y', dE e S k g b = 0 → dX e k = X' → dS e S k g b = Y' → Calls Tryz.prog 112 #[.agg #[.int .u64 e, .slice A n c], .agg #[.int .i64 k, .int .i64 g, .int .u64 b]] W (RdoRes W 0 X' Y' n) →
   Calls Tryz.prog 112 #[.agg #[.int .u64 e, .slice A n c], .agg #[.int .i64 k, .int .i64 g, .int .u64 b]] W (RdoRes W E X Y m) := fun X' Y' h1 h2 h3 h4 => by
  have e1 : E = 0 := by rw [← hE, hDE, h1]
  have e2 : X = X' := by rw [← hX]; unfold doX; rw [hDE, h1, if_pos rfl, h2]
  have e3 : Y = Y' := by rw [← hY]; unfold doS; rw [hDE, h1, if_pos rfl, h3]
  have e4 : m = n := by rw [← hm, e3, ← h3, dS_length, hx]
  subst e1 e2 e3 e4
  exact h4
 by_cases k0 : k < 1
 · exact no 2 (by unfold dE; rw [if_pos (by omega)]) (by omega) (rDo_k0 A c n e S k g b W h hx h0 he hS hb hl k0)
 by_cases k4 : 3 < k
 · exact no 2 (by unfold dE; rw [if_pos (by omega)]) (by omega) (rDo_k4 A c n e S k g b W h hx h0 he hS hb hl k4)
 by_cases k3 : k = 3
 ·
  subst k3
  obtain ⟨m0, hm0⟩ : ∃ m0, (backL e S).length = m0 := ⟨_, rfl⟩
  have hd : dE e S 3 g b = if S.any (heldB e) = true then 231 else if e = 4611686018427387904 then 6 else 0 := by unfold dE; rw [if_neg (by omega), if_pos rfl]
  by_cases hz : m0 = 0
  ·
   have ha : S.any (heldB e) = false := backL_nil.1 (List.length_eq_zero_iff.1 (by omega))
   by_cases hem : e = 4611686018427387904
   · exact no 6 (by rw [hd, ha, if_neg (by simp), if_pos hem]) (by omega) (rDo_3full A c n e S 3 g b W h hx h0 he hS hb hl m0 hm0 hz hem)
   · exact yes (e + 1) S (by rw [hd, ha, if_neg (by simp), if_neg hem]) (by simp [dX]) (by simp [dS]) (rDo_3ok A c n e S 3 g b W h hx h0 he hS hb hl m0 hm0 hz (by omega))
  ·
   have ha : S.any (heldB e) = true := by
    cases h1 : S.any (heldB e) with
    | true => rfl
    | false => exact absurd (by rw [← hm0, backL_nil.2 h1]; rfl) hz
   exact no 231 (by rw [hd, ha, if_pos rfl]) (by omega) (rDo_3held A c n e S 3 g b W h hx h0 he hS hb hl m0 hm0 (by omega))
 by_cases g0 : g < 0
 · exact no 2 (by unfold dE; rw [if_pos (by omega)]) (by omega) (rDo_g0 A c n e S k g b W h hx h0 he hS hb hl (by omega) g0)
 by_cases gn : (n : Int) ≤ g
 · exact no 2 (by unfold dE; rw [if_pos (by omega)]) (by omega) (rDo_gn A c n e S k g b W h hx h0 he hS hb hl (by omega) gn)
 obtain ⟨j, rfl⟩ := Int.eq_ofNat_of_zero_le (by omega : 0 ≤ g)
 have hj : j < n := by omega
 have hjS : j < S.length := by omega
 obtain ⟨q, hq⟩ : ∃ q, S[j]? = some q := ⟨_, List.getElem?_eq_getElem hjS⟩
 have hqd : S.getD j 0 = q := by rw [List.getD_eq_getElem?_getD, hq]; rfl
 have hq0 : 0 ≤ q := (hS q (List.mem_of_getElem? hq)).1
 obtain rfl | rfl : k = 1 ∨ k = 2 := by omega
 ·
  have hd : dE e S 1 j b = if 0 < q then 5 else if e < b then 4 else 0 := by
   unfold dE; rw [if_neg (by omega), if_neg (by omega), if_pos rfl, Int.toNat_natCast, hqd]
  by_cases hq5 : 0 < q
  · exact no 5 (by rw [hd, if_pos hq5]) (by omega) (rDo_1there A c n e S 1 j b W h hx h0 he hS hb hl j hj q hq hq5)
  ·
   by_cases hbe : e < b
   · exact no 4 (by rw [hd, if_neg hq5, if_pos hbe]) (by omega) (rDo_1none A c n e S 1 j b W h hx h0 he hS hb hl j hj q hq (by omega) hbe)
   · exact yes e (S.set j (e + 1 - b)) (by rw [hd, if_neg hq5, if_neg hbe]) (by simp [dX]) (by simp [dS]) (rDo_1ok A c n e S 1 j b W h hx h0 he hS hb hl j hj q hq (by omega) (by omega))
 ·
  have hd : dE e S 2 j b = if q = 0 then 4 else 0 := by
   unfold dE; rw [if_neg (by omega), if_neg (by omega), if_neg (by omega), Int.toNat_natCast, hqd]
  by_cases hq5 : q = 0
  · exact no 4 (by rw [hd, if_pos hq5]) (by omega) (rDo_2none A c n e S 2 j b W h hx h0 he hS hb hl j hj q hq hq5)
  · exact yes e (S.set j 0) (by rw [hd, if_neg hq5]) (by simp [dX]) (by simp [dS]) (rDo_2ok A c n e S 2 j b W h hx h0 he hS hb hl j hj q hq (by omega))
end Go.Proofs.YtkicidopjihjmaaGreat.Pn
namespace Go.Proofs.YtkicidopjihjmaaGreat
open Go Go.RowKit
attribute [local go_sem] via_cell via_frozen
def hasE (l : List Ent) (e : Ent) : Bool := l.any (fun y => decide (y = e))
theorem hasE_iff {l : List Ent} {e : Ent} : hasE l e = true ↔ e ∈ l := by unfold hasE; rw [List.any_eq_true]; exact ⟨fun ⟨y, h1, h2⟩ => by simp at h2; rw [← h2]; exact h1, fun h => ⟨e, h, by simp⟩⟩
theorem rhas_any (B : Nat) (A : Option Addr) (c n : Nat) (s z : Int) (xs : List Ent) (W : World) (h : Rd W B 2 A n (Cs encE xs)) (hx : xs.length = n) (hB : B ≤ W.heap.size) (hn : n ≤ 4096) (r : Bool) (hr : hasE xs (s, z) = r) :
  Calls Tryz.prog 46 #[.slice A n c, .agg #[.int .i64 s, .int .u64 z]] W fun e W' => e = .returned (.bool r) ∧ Below W.heap.size W W' := by
 have HB := Hi (show Below W.heap.size W (W.alloc (.cells #[.int .i64 s, .int .u64 z] 41)) from (Below.refl _ _).alloc (Nat.le_refl _) _)
 have RE := Hi (RowAt.new W 41 #[.int .i64 s, .int .u64 z])
 have H := Hi (h.below (HB.out.mono hB))
 have HX := Hi hx
 have HR := Hi hr
 clear h hx hr
 go_enter Tryz.func46, Tryz.ntmps46
 go_wp2_with fail
 have HSZ := Hi HB.out.size
 generalize W.alloc _ = w1 at *
 go_loopw [9] (fun i wr => ∃ k : Nat, k ≤ n ∧ i = .int .i64 k ∧ hasE (xs.take k) (s, z) = false ∧ Below w1.heap.size w1 wr) (fun i _ => n - (intOf i).toNat)
 case atStart => exact ⟨0, Nat.zero_le _, rfl, rfl, Below.refl _ _⟩
 case round =>
  obtain ⟨k, hk, rfl, hno, hbr⟩ := hrel
  have HNO := Hi hno
  have HBR := Hi hbr
  clear hno hbr
  by_cases hlt : k < n
  ·
   obtain ⟨b, o, rfl, hb, d0, d1⟩ := (H.out.below (HBR.out.mono (Nat.le_trans hB HSZ.out))).ent HX.out hlt
   have hbl : b < wr.heap.size := Nat.lt_of_lt_of_le hb (Nat.le_trans hB (Nat.le_trans HSZ.out HBR.out.size))
   have hkm : (k : Int) < (n : Int) := by omega
   have hlx : k < xs.length := by rw [HX.out]; exact hlt
   have HTK := Hi (show xs.take (k + 1) = xs.take k ++ [xs.getD k (0, 0)] from by rw [List.take_succ_eq_append_getElem hlx, List.getD_eq_getElem?_getD, List.getElem?_eq_getElem hlx]; rfl)
   have HME := Hi (show xs.getD k (0, 0) ∈ xs from by rw [List.getD_eq_getElem?_getD, List.getElem?_eq_getElem hlx]; exact List.getElem_mem hlx)
   have RE2 := Hi (RE.out.below HBR.out)
   generalize xs.getD k (0, 0) = t at *
   obtain ⟨t1, t2⟩ := t
   dsimp only at *
   clear hb hlx
   go_upto_region 4 with (fail)
   have HBN := Hi (show Below wr.heap.size wr (wr.alloc (.cells #[.int .i64 t1, .int .u64 t2] 41)) from (Below.refl _ _).alloc (Nat.le_refl _) _)
   have RN := Hi (RowAt.new wr 41 #[.int .i64 t1, .int .u64 t2])
   replace RE2 := Hi (RE2.out.below HBN.out)
   have HB5 := Hi (HBR.out.trans (HBN.out.mono HBR.out.size))
   generalize wr.alloc _ = w5 at *
   have y0 := row20 RN.out
   have y1 := row21 RN.out
   have yl := RN.out.lt
   have z0 := row20 RE2.out
   have z1 := row21 RE2.out
   have zl := RE2.out.lt
   clear d0 d1 hbl
   by_cases he : t1 = s ∧ t2 = z
   ·
    obtain ⟨rfl, rfl⟩ := he
    have HF := Hi (show true = r from by rw [← HR.out]; exact (hasE_iff.2 HME.out).symm)
    go_wp2_with fail
    go_ret
    rw [← HF.out]
    exact ⟨rfl, HB.out.trans (HB5.out.mono HSZ.out)⟩
   ·
    have HN := Hi (show hasE (xs.take (k + 1)) (s, z) = false from by rw [HTK.out]; unfold hasE at *; rw [List.any_append, HNO.out]; simp; intro h1 h2; exact he ⟨h1, h2⟩)
    have he1 : (t1 == s && t2 == z) = false := by simp; intro h1 h2; exact he ⟨h1, h2⟩
    have he2 : (t1 == s) = true → (t2 == z) = false := by intro h1; simp at h1 ⊢; exact fun h2 => he ⟨h1, h2⟩
    by_cases h1 : t1 = s
    focus
     have h2 : ¬ t2 = z := fun h2 => he ⟨h1, h2⟩
     have hd2 : (t2 == z) = false := by simpa using h2
     subst h1
     clear he he1 he2 h2
    rotate_left
    focus
     have hd1 : (t1 == s) = false := by simpa using h1
     clear he he1 he2 h1
    rotate_left
    all_goals
     go_wp2_with fail
     go_roundw
     case rel => exact ⟨k + 1, by omega, by go_num, HN.out, HB5.out⟩
     case measure => simp [intOf]; omega
  ·
   obtain rfl : k = n := by omega
   have HF := Hi (show false = r from by rw [← HR.out, ← HNO.out, List.take_of_length_le (by rw [HX.out]; exact Nat.le_refl _)])
   go_wp2_with fail
   go_ret
   rw [← HF.out]
   exact ⟨rfl, HB.out.trans (HBR.out.mono HSZ.out)⟩
theorem held_le {r : Rec} (h : FitR r) : r.l.held.length ≤ 12288 := by
 have h3 : ∀ k, (r.l.at k).length ≤ 4096 := fun k => h.rw _ (Nat.mod_lt _ (by omega))
 have a0 := h3 0
 have a1 := h3 1
 have a2 := h3 2
 have e : r.l.held.length = (r.l.at 2).length + ((r.l.at 1).length + (r.l.at 0).length) := by unfold Li.Lim.held; simp
 omega
theorem rec_lim {F : Nat → Prop} {w : World} {A0 As : Option Addr} {n0 c0 ns cs : Nat} {A : Nat → Option Addr} {n c : Nat → Nat} {r : Rec} (h : RecF F w A0 As n0 c0 ns cs A n c r) (hf : FitR r) : (∀ k, k < 3 → n k ≤ 4096) ∧ n0 ≤ 4096 ∧ ns ≤ 4096 :=
 ⟨fun k hk => by rw [← h.ll k hk]; exact hf.rw k hk, by rw [← h.l0]; exact hf.sl, by rw [← h.ls]; exact hf.S⟩
set_option maxRecDepth 20000 in
theorem RRight_any (F1 : Nat → Prop) (A1 S1 : Option Addr) (n1 c1 m1 d1 : Nat) (B1 : Nat → Option Addr) (p1 f1 : Nat → Nat) (r : Rec) (W : World) (hr : RecF F1 W A1 S1 n1 c1 m1 d1 B1 p1 f1 r) (hf : FitR r) (q : Bool) (hq : r.ok = q) : Calls Tryz.prog 11 #[.agg #[.slice A1 n1 c1, .int .u64 r.e, .slice S1 m1 d1, .int .u64 (r.l.E : Int), .slice (B1 0) (p1 0) (f1 0), .slice (B1 1) (p1 1) (f1 1), .slice (B1 2) (p1 2) (f1 2)]] W fun e W' => e = .returned (.bool q) ∧ Below W.heap.size W W' := by
 have HF := Hi hf
 have HL := Hi (rec_lim hr hf)
 have HQ := Hi hq
 have R1 := Hi hr
 have HB := Hi (Below.refl W.heap.size W)
 clear hr hf hq
 go_enter Tryz.func11, Tryz.ntmps11
 go_upto_region 1 with (fail)
 have hb := ba W (.cells #[.slice A1 n1 c1, .int .u64 r.e, .slice S1 m1 d1, .int .u64 (r.l.E : Int), .slice (B1 0) (p1 0) (f1 0), .slice (B1 1) (p1 1) (f1 1), .slice (B1 2) (p1 2) (f1 2)] 34)
 have hk := RowAt.new W 34 #[.slice A1 n1 c1, .int .u64 r.e, .slice S1 m1 d1, .int .u64 (r.l.E : Int), .slice (B1 0) (p1 0) (f1 0), .slice (B1 1) (p1 1) (f1 1), .slice (B1 2) (p1 2) (f1 2)]
 have hGB : W.heap.size ≤ W.heap.size := Nat.le_refl _
 replace R1 := Hi (R1.out.below hb)
 replace HB := bt HB hb
 have K1 := Hi hk
 have L1 := Hi hGB
 clear hb hk hGB
 generalize W.alloc _ = w1 at *
 obtain ⟨K1y0, K1y1, K1y2, K1y3, K1y4, K1y5, K1y6⟩ := row7 K1.out
 have K1l := K1.out.lt
 go_wp2_with fail
 clear K1y0 K1y1 K1y2 K1y3 K1y4 K1y5 K1y6 K1l
 obtain ⟨o1, h1⟩ : ∃ b, arOk r.sl = b := ⟨_, rfl⟩
 with_reducible refine (rright_any w1.heap.size A1 c1 n1 r.sl w1 R1.out.sl.rd R1.out.l0 (Nat.le_refl _) o1 h1 HL.out.2.1).mono ?_
 rintro e w2 ⟨rfl, hb⟩
 replace R1 := Hi (R1.out.below hb)
 replace K1 := Hi (K1.out.below hb)
 replace HB := bt HB hb
 clear hb
 have H1 := Hi h1
 clear h1
 cases o1 with
 | false =>
  obtain ⟨K1y0, K1y1, K1y2, K1y3, K1y4, K1y5, K1y6⟩ := row7 K1.out
  have K1l := K1.out.lt
  go_wp2_with fail
  clear K1y0 K1y1 K1y2 K1y3 K1y4 K1y5 K1y6 K1l
  go_ret
  exact ⟨by rw [← HQ.out]; unfold Rec.ok; simp [H1.out], HB.out⟩
 | true =>
  obtain ⟨K1y0, K1y1, K1y2, K1y3, K1y4, K1y5, K1y6⟩ := row7 K1.out
  have K1l := K1.out.lt
  go_wp2_with fail
  clear K1y0 K1y1 K1y2 K1y3 K1y4 K1y5 K1y6 K1l
  obtain ⟨o2, h2⟩ : ∃ b, Pn.pOk r.e r.S = b := ⟨_, rfl⟩
  with_reducible refine (Pn.rright_any S1 d1 m1 r.e r.S w2 R1.out.S.rd R1.out.ls HL.out.2.2 HF.out.e.1 HF.out.s o2 h2).mono ?_
  rintro e w3 ⟨rfl, hb⟩
  replace R1 := Hi (R1.out.below hb)
  replace K1 := Hi (K1.out.below hb)
  replace HB := bt HB hb
  clear hb
  have H2 := Hi h2
  clear h2
  cases o2 with
  | false =>
   obtain ⟨K1y0, K1y1, K1y2, K1y3, K1y4, K1y5, K1y6⟩ := row7 K1.out
   have K1l := K1.out.lt
   go_wp2_with fail
   clear K1y0 K1y1 K1y2 K1y3 K1y4 K1y5 K1y6 K1l
   go_ret
   exact ⟨by rw [← HQ.out]; unfold Rec.ok; simp [H2.out], HB.out⟩
  | true =>
   obtain ⟨K1y0, K1y1, K1y2, K1y3, K1y4, K1y5, K1y6⟩ := row7 K1.out
   have K1l := K1.out.lt
   go_wp2_with fail
   clear K1y0 K1y1 K1y2 K1y3 K1y4 K1y5 K1y6 K1l
   obtain ⟨o3, h3⟩ : ∃ b, r.l.ok = b := ⟨_, rfl⟩
   with_reducible refine (Li.right_any B1 p1 f1 r.l w3 R1.out.lim HF.out.E HL.out.1 o3 h3).mono ?_
   rintro e w4 ⟨rfl, hb⟩
   replace R1 := Hi (R1.out.below hb)
   replace K1 := Hi (K1.out.below hb)
   replace HB := bt HB hb
   clear hb
   have H3 := Hi h3
   clear h3
   cases o3 with
   | false =>
    obtain ⟨K1y0, K1y1, K1y2, K1y3, K1y4, K1y5, K1y6⟩ := row7 K1.out
    have K1l := K1.out.lt
    go_wp2_with fail
    clear K1y0 K1y1 K1y2 K1y3 K1y4 K1y5 K1y6 K1l
    go_ret
    exact ⟨by rw [← HQ.out]; unfold Rec.ok; simp [H3.out], HB.out⟩
   | true =>
    by_cases h4 : (r.l.E : Int) = r.e
    case neg =>
     have e4 : ((r.l.E : Int) == r.e) = false := by simpa using h4
     have H4 := Hi h4
     clear h4
     obtain ⟨K1y0, K1y1, K1y2, K1y3, K1y4, K1y5, K1y6⟩ := row7 K1.out
     have K1l := K1.out.lt
     go_wp2_with fail
     clear K1y0 K1y1 K1y2 K1y3 K1y4 K1y5 K1y6 K1l
     go_ret
     exact ⟨by rw [← HQ.out]; unfold Rec.ok; simp [H4.out], HB.out⟩
    case pos =>
     have e4 : ((r.l.E : Int) == r.e) = true := by simpa using h4
     have H4 := Hi h4
     clear h4
     obtain ⟨K1y0, K1y1, K1y2, K1y3, K1y4, K1y5, K1y6⟩ := row7 K1.out
     have K1l := K1.out.lt
     go_upto_region 3 with (fail)
     clear K1y0 K1y1 K1y2 K1y3 K1y4 K1y5 K1y6 K1l e4
     have HS5 := Hi (Li.heldL_ok H3.out)
     obtain ⟨w0, hw0⟩ : ∃ w, w = w4 := ⟨_, rfl⟩
     subst hw0
     have HSX := Hi (fun (wX : World) (hgX : Below w0.heap.size w0 wX) => show wX.cell? ⟨W.heap.size, 0, none⟩ = some (.slice A1 n1 c1) ∧ wX.cell? ⟨W.heap.size, 1, none⟩ = some (.int .u64 r.e) ∧ wX.cell? ⟨W.heap.size, 2, none⟩ = some (.slice S1 m1 d1) ∧ wX.cell? ⟨W.heap.size, 3, none⟩ = some (.int .u64 (r.l.E : Int)) ∧ wX.cell? ⟨W.heap.size, 4, none⟩ = some (.slice (B1 0) (p1 0) (f1 0)) ∧ wX.cell? ⟨W.heap.size, 5, none⟩ = some (.slice (B1 1) (p1 1) (f1 1)) ∧ wX.cell? ⟨W.heap.size, 6, none⟩ = some (.slice (B1 2) (p1 2) (f1 2)) ∧ W.heap.size < wX.heap.size from by
      obtain ⟨z0, z1, z2, z3, z4, z5, z6⟩ := row7 K1.out
      exact ⟨kept hgX z0, kept hgX z1, kept hgX z2, kept hgX z3, kept hgX z4, kept hgX z5, kept hgX z6, Nat.lt_of_lt_of_le K1.out.lt hgX.size⟩)
     have HX := Hi ((Below.refl w0.heap.size w0).drew)
     refine wp_region_held_drew (S := fun wX => wX.cell? ⟨W.heap.size, 0, none⟩ = some (.slice A1 n1 c1) ∧ wX.cell? ⟨W.heap.size, 1, none⟩ = some (.int .u64 r.e) ∧ wX.cell? ⟨W.heap.size, 2, none⟩ = some (.slice S1 m1 d1) ∧ wX.cell? ⟨W.heap.size, 3, none⟩ = some (.int .u64 (r.l.E : Int)) ∧ wX.cell? ⟨W.heap.size, 4, none⟩ = some (.slice (B1 0) (p1 0) (f1 0)) ∧ wX.cell? ⟨W.heap.size, 5, none⟩ = some (.slice (B1 1) (p1 1) (f1 1)) ∧ wX.cell? ⟨W.heap.size, 6, none⟩ = some (.slice (B1 2) (p1 2) (f1 2)) ∧ W.heap.size < wX.heap.size) (by kernel_rfl) (HSX.out _ HX.out) (fun hHeld => ?_)
     clear hHeld
     have hS0 := HSX.out _ HX.out
     generalize w0.drew = wd at *
     refine tkI (i := 0) rfl ?_
     refine tkI (i := 1) rfl ?_
     refine tkI (i := 3) rfl ?_
     refine tkI (i := 4) rfl ?_
     refine ryH (i := 2) rfl (fun K0 hK0 => ?_)
     go_simp
     have RX := Hi (R1.out.below HX.out)
     with_reducible refine (Li.rheld_any B1 p1 f1 r.l wd RX.out.lim HF.out.E HL.out.1).mono ?_
     rintro e wa ⟨v, rfl, hown, hb⟩
     rw [HS5.out] at hown
     obtain ⟨AH, cH, rfl, hcH, hcm⟩ := own_form2 hown
     have HOW := Hi hown
     have hX2 := HX.out.trans (hb.mono HX.out.size)
     replace HX := Hi hX2
     clear hX2 hS0 hb hown RX
     have hS0 := HSX.out _ HX.out
     refine hK0.out _ _ hS0 (fun _ => wnH ?_)
     clear hK0 K0
     refine ryH (i := 5) rfl (fun K1 hK1 => ?_)
     go_simp
     have RX := Hi (R1.out.below HX.out)
     with_reducible refine (rents_any A1 c1 n1 2 r.sl wa RX.out.sl.rd RX.out.l0 HL.out.2.1).mono ?_
     rintro e wb ⟨AE, cE, rfl, hcE, hcm2, hrd, _, hb⟩
     have HRD := Hi hrd
     replace HOW := Hi (own_keepB HOW.out hb)
     have hX2 := HX.out.trans (hb.mono HX.out.size)
     replace HX := Hi hX2
     clear hX2 hS0 hb hrd RX
     have hS0 := HSX.out _ HX.out
     refine hK1.out _ _ hS0 (fun _ => wnH ?_)
     clear hK1 K1
     refine ryH (i := 6) rfl (fun K2 hK2 => ?_)
     go_simp
     refine hK2.out _ _ hS0 (fun _ => wnH ?_)
     clear hK2 K2
     refine ryH (i := 7) rfl (fun K3 hK3 => ?_)
     go_simp
     refine hK3.out _ _ hS0 (fun _ => wnH ?_)
     clear hK3 K3
     refine wpAnyH_done (by kernel_rfl) ?_ _
     clear hS0 HSX
     replace HB := Hi (HB.out.trans (HX.out.mono HB.out.size))
     clear K1 L1 R1 HX
     obtain ⟨H0, hH0⟩ : ∃ l, r.l.held = l := ⟨_, rfl⟩
     obtain ⟨E0, hE0⟩ : ∃ l, ents r.sl 2 = l := ⟨_, rfl⟩
     have HH0 := Hi hH0
     have HE0 := Hi hE0
     rw [hH0] at HOW
     rw [hE0] at HRD
     have hlh : H0.length ≤ 12288 := by rw [← hH0]; exact held_le HF.out
     have hle : E0.length ≤ 4096 := by rw [← hE0]; exact Nat.le_trans (ents_length _ _) HF.out.sl
     simp only [hH0, hE0]
     obtain ⟨nh, hnh⟩ : ∃ n, H0.length = n := ⟨_, rfl⟩
     obtain ⟨ne, hne⟩ : ∃ n, E0.length = n := ⟨_, rfl⟩
     rw [hnh] at HOW hlh
     rw [hne] at HRD hle
     simp only [hnh, hne]
     have HNH := Hi hnh
     have HNE := Hi hne
     have HLH := Hi hlh
     have HLE := Hi hle
     clear hH0 hE0 hnh hne hlh hle hcH hcm hcE hcm2
     have HFIN : Hid (q = (H0.all (fun x => hasE E0 x) && decide (nh = ne))) := Hi (by
      rw [← HQ.out]; unfold Rec.ok fitB
      rw [H1.out, H2.out, H3.out, HH0.out, HE0.out, HNH.out, HNE.out]
      simp only [Bool.true_and, H4.out, decide_true]
      rfl)
     clear HQ H1 H2 H3 H4 HS5 HH0 HE0
     go_upto_region 5 with (fail)
     go_loopw [40] (fun i wr => ∃ k : Nat, k ≤ nh ∧ i = .int .i64 k ∧ (H0.take k).all (fun x => hasE E0 x) = true ∧ Below wb.heap.size wb wr) (fun i _ => nh - (intOf i).toNat)
     case atStart => exact ⟨0, Nat.zero_le _, rfl, rfl, Below.refl _ _⟩
     case round =>
      obtain ⟨k, hk, rfl, hall, hbr⟩ := hrel
      have HA := Hi hall
      have HBR := Hi hbr
      clear hall hbr
      by_cases hlt : k < nh
      case neg =>
       have hkn : nh = k := by omega
       subst hkn
       clear hk hlt
       have htk : H0.take nh = H0 := by rw [← HNH.out]; exact List.take_length
       rw [htk] at HA
       have HBF := Hi (HB.out.trans (HBR.out.mono HB.out.size))
       have HFX := Hi (show decide (nh = ne) = q from by rw [HFIN.out, HA.out]; rfl)
       by_cases hee : nh = ne
       ·
        subst hee
        go_wp2_with fail
        go_ret
        exact ⟨by rw [← HFX.out]; simp, HBF.out⟩
       ·
        have e1 : ((nh : Int) == (ne : Int)) = false := by simp; omega
        have HEE := Hi hee
        clear hee
        go_wp2_with fail
        go_ret
        exact ⟨by rw [← HFX.out]; simp [HEE.out], HBF.out⟩
      case pos =>
       have hki : (k : Int) < (nh : Int) := by omega
       have HK := Hi hlt
       have HOR := Hi (own_keepB HOW.out HBR.out)
       obtain ⟨b2, o2, hA, hbl, d0, d1⟩ := Rd.ent (Rd.of_own HOR.out) HNH.out hlt
       have hbl2 : b2 < wr.heap.size := hbl
       have hlx : k < H0.length := by rw [HNH.out]; exact hlt
       have HTK := Hi (show H0.take (k + 1) = H0.take k ++ [H0.getD k (0, 0)] from by rw [List.take_succ_eq_append_getElem hlx, List.getD_eq_getElem?_getD, List.getElem?_eq_getElem hlx]; rfl)
       have HME := Hi (show H0.getD k (0, 0) ∈ H0 from by rw [List.getD_eq_getElem?_getD, List.getElem?_eq_getElem hlx]; exact List.getElem_mem hlx)
       generalize H0.getD k (0, 0) = e at *
       clear hk hlt hbl hlx
       have hba := ba wr (.cells #[.int .i64 e.1, .int .u64 e.2] 41)
       have hre := RowAt.new wr 41 #[.int .i64 e.1, .int .u64 e.2]
       replace HBR := bt HBR hba
       have K6 := Hi hre
       clear hre hba HOR
       subst hA
       go_upto_region 7 with (fail)
       clear d0 d1 hbl2
       generalize wr.alloc _ = wk at *
       generalize wr.heap.size = g6 at *
       have u0 := row20 K6.out
       have u1 := row21 K6.out
       have ul := K6.out.lt
       go_wp2_with fail
       clear u0 u1 ul K6
       obtain ⟨hh, hhh⟩ : ∃ b, hasE E0 (e.1, e.2) = b := ⟨_, rfl⟩
       have HHH := Hi hhh
       with_reducible refine (rhas_any wk.heap.size AE cE ne e.1 e.2 E0 wk ((HRD.out.below HBR.out).more HBR.out.size) HNE.out (Nat.le_refl _) HLE.out hh hhh).mono ?_
       rintro e9 wm ⟨rfl, hb⟩
       replace HBR := bt HBR hb
       clear hb hhh
       have hk5 : (k : Int) < 12289 := by have := HK.out; have := HLH.out; omega
       cases hh with
       | false =>
        have HFX := Hi (show false = q from by
         rw [HFIN.out]
         have h : H0.all (fun x => hasE E0 x) = false := by
          rw [List.all_eq_false]
          exact ⟨e, HME.out, by rw [show hasE E0 e = false from HHH.out]; decide⟩
         rw [h]; rfl)
        go_wp2_with fail
        go_ret
        exact ⟨by rw [← HFX.out]; rfl, HB.out.trans (HBR.out.mono HB.out.size)⟩
       | true =>
        go_wp2_with fail
        go_roundw
        case rel => exact ⟨k + 1, HK.out, by have := HK.out; have := HLH.out; go_num, by rw [HTK.out, List.all_append, HA.out]; simp; exact HHH.out, HBR.out⟩
        case measure => have := HK.out; simp [intOf]; omega
set_option maxRecDepth 20000 in
theorem RSame_any (F1 : Nat → Prop) (A1 S1 : Option Addr) (n1 c1 m1 d1 : Nat) (B1 : Nat → Option Addr) (p1 f1 : Nat → Nat) (a : Rec) (F2 : Nat → Prop) (A2 S2 : Option Addr) (n2 c2 m2 d2 : Nat) (B2 : Nat → Option Addr) (p2 f2 : Nat → Nat) (b : Rec) (W : World) (h1 : RecF F1 W A1 S1 n1 c1 m1 d1 B1 p1 f1 a) (h2 : RecF F2 W A2 S2 n2 c2 m2 d2 B2 p2 f2 b) (hf : FitR a) (hg : FitR b) (q : Bool) (hq : sameR a b = q) : Calls Tryz.prog 15 #[.agg #[.slice A1 n1 c1, .int .u64 a.e, .slice S1 m1 d1, .int .u64 (a.l.E : Int), .slice (B1 0) (p1 0) (f1 0), .slice (B1 1) (p1 1) (f1 1), .slice (B1 2) (p1 2) (f1 2)], .agg #[.slice A2 n2 c2, .int .u64 b.e, .slice S2 m2 d2, .int .u64 (b.l.E : Int), .slice (B2 0) (p2 0) (f2 0), .slice (B2 1) (p2 1) (f2 1), .slice (B2 2) (p2 2) (f2 2)]] W fun e W' => e = .returned (.bool q) ∧ Below W.heap.size W W' := by
 have HF := Hi hf
 have HG := Hi hg
 have HL := Hi (rec_lim h1 hf)
 have HM := Hi (rec_lim h2 hg)
 have HQ : Hid ((decide (a.sl = b.sl) && (decide (a.e = b.e ∧ a.S = b.S) && Li.sameB a.l b.l)) = q) := Hi (by rw [← hq, sameB_eq])
 have R1 := Hi h1
 have R2 := Hi h2
 clear h1 h2 hf hg hq
 have hb : Below W.heap.size W ((W.alloc (.cells #[.slice A1 n1 c1, .int .u64 a.e, .slice S1 m1 d1, .int .u64 (a.l.E : Int), .slice (B1 0) (p1 0) (f1 0), .slice (B1 1) (p1 1) (f1 1), .slice (B1 2) (p1 2) (f1 2)] 34)).alloc (.cells #[.slice A2 n2 c2, .int .u64 b.e, .slice S2 m2 d2, .int .u64 (b.l.E : Int), .slice (B2 0) (p2 0) (f2 0), .slice (B2 1) (p2 1) (f2 1), .slice (B2 2) (p2 2) (f2 2)] 34)) := ((Below.refl _ _).alloc (Nat.le_refl _) _).alloc (by simp) _
 have al := al2 W #[.slice A1 n1 c1, .int .u64 a.e, .slice S1 m1 d1, .int .u64 (a.l.E : Int), .slice (B1 0) (p1 0) (f1 0), .slice (B1 1) (p1 1) (f1 1), .slice (B1 2) (p1 2) (f1 2)] 34 #[.slice A2 n2 c2, .int .u64 b.e, .slice S2 m2 d2, .int .u64 (b.l.E : Int), .slice (B2 0) (p2 0) (f2 0), .slice (B2 1) (p2 1) (f2 1), .slice (B2 2) (p2 2) (f2 2)] 34
 have K1 := Hi al.1.1
 have K2 := Hi al.1.2
 clear al
 replace R1 := Hi (R1.out.below hb)
 replace R2 := Hi (R2.out.below hb)
 have HB := Hi hb
 clear hb
 go_enter Tryz.func15, Tryz.ntmps15
 go_upto_region 1 with (fail)
 generalize (W.alloc _).alloc _ = w1 at *
 obtain ⟨K1y0, K1y1, K1y2, K1y3, K1y4, K1y5, K1y6⟩ := row7 K1.out
 have K1l := K1.out.lt
 obtain ⟨K2y0, K2y1, K2y2, K2y3, K2y4, K2y5, K2y6⟩ := row7 K2.out
 have K2l := K2.out.lt
 go_wp2_with fail
 clear K1y0 K1y1 K1y2 K1y3 K1y4 K1y5 K1y6 K1l K2y0 K2y1 K2y2 K2y3 K2y4 K2y5 K2y6 K2l
 obtain ⟨o1, h1⟩ : ∃ o, decide (a.sl = b.sl) = o := ⟨_, rfl⟩
 rw [h1] at HQ
 with_reducible refine (rsame_any A1 A2 c1 c2 n1 n2 a.sl b.sl w1 R1.out.sl.rd R2.out.sl.rd R1.out.l0 R2.out.l0 HL.out.2.1 HM.out.2.1 o1 h1).mono ?_
 rintro e w1 ⟨rfl, hb⟩
 replace R1 := Hi (R1.out.below hb)
 replace R2 := Hi (R2.out.below hb)
 replace K1 := Hi (K1.out.below hb)
 replace K2 := Hi (K2.out.below hb)
 replace HB := bt HB hb
 clear hb
 clear h1
 cases o1 with
 | false =>
  obtain ⟨K1y0, K1y1, K1y2, K1y3, K1y4, K1y5, K1y6⟩ := row7 K1.out
  have K1l := K1.out.lt
  obtain ⟨K2y0, K2y1, K2y2, K2y3, K2y4, K2y5, K2y6⟩ := row7 K2.out
  have K2l := K2.out.lt
  go_wp2_with fail
  clear K1y0 K1y1 K1y2 K1y3 K1y4 K1y5 K1y6 K1l K2y0 K2y1 K2y2 K2y3 K2y4 K2y5 K2y6 K2l
  go_ret
  exact ⟨by rw [← HQ.out]; simp [], HB.out⟩
 | true =>
  obtain ⟨K1y0, K1y1, K1y2, K1y3, K1y4, K1y5, K1y6⟩ := row7 K1.out
  have K1l := K1.out.lt
  obtain ⟨K2y0, K2y1, K2y2, K2y3, K2y4, K2y5, K2y6⟩ := row7 K2.out
  have K2l := K2.out.lt
  go_wp2_with fail
  clear K1y0 K1y1 K1y2 K1y3 K1y4 K1y5 K1y6 K1l K2y0 K2y1 K2y2 K2y3 K2y4 K2y5 K2y6 K2l
  obtain ⟨o2, h2⟩ : ∃ o, decide (a.e = b.e ∧ a.S = b.S) = o := ⟨_, rfl⟩
  rw [h2] at HQ
  with_reducible refine (Pn.rsame_any S1 S2 d1 d2 m1 m2 a.e b.e a.S b.S w1 R1.out.S.rd R2.out.S.rd R1.out.ls R2.out.ls HL.out.2.2 HM.out.2.2 o2 h2).mono ?_
  rintro e w2 ⟨rfl, hb⟩
  replace R1 := Hi (R1.out.below hb)
  replace R2 := Hi (R2.out.below hb)
  replace K1 := Hi (K1.out.below hb)
  replace K2 := Hi (K2.out.below hb)
  replace HB := bt HB hb
  clear hb
  clear h2
  cases o2 with
  | false =>
   obtain ⟨K1y0, K1y1, K1y2, K1y3, K1y4, K1y5, K1y6⟩ := row7 K1.out
   have K1l := K1.out.lt
   obtain ⟨K2y0, K2y1, K2y2, K2y3, K2y4, K2y5, K2y6⟩ := row7 K2.out
   have K2l := K2.out.lt
   go_wp2_with fail
   clear K1y0 K1y1 K1y2 K1y3 K1y4 K1y5 K1y6 K1l K2y0 K2y1 K2y2 K2y3 K2y4 K2y5 K2y6 K2l
   go_ret
   exact ⟨by rw [← HQ.out]; simp [], HB.out⟩
  | true =>
   obtain ⟨K1y0, K1y1, K1y2, K1y3, K1y4, K1y5, K1y6⟩ := row7 K1.out
   have K1l := K1.out.lt
   obtain ⟨K2y0, K2y1, K2y2, K2y3, K2y4, K2y5, K2y6⟩ := row7 K2.out
   have K2l := K2.out.lt
   go_wp2_with fail
   clear K1y0 K1y1 K1y2 K1y3 K1y4 K1y5 K1y6 K1l K2y0 K2y1 K2y2 K2y3 K2y4 K2y5 K2y6 K2l
   with_reducible refine (Li.rsame_any B1 p1 f1 a.l B2 p2 f2 b.l w2 R1.out.lim R2.out.lim HL.out.1 HM.out.1 (Li.sameB a.l b.l) rfl).mono ?_
   rintro e w3 ⟨rfl, hb⟩
   replace R1 := Hi (R1.out.below hb)
   replace R2 := Hi (R2.out.below hb)
   replace K1 := Hi (K1.out.below hb)
   replace K2 := Hi (K2.out.below hb)
   replace HB := bt HB hb
   clear hb
   obtain ⟨K1y0, K1y1, K1y2, K1y3, K1y4, K1y5, K1y6⟩ := row7 K1.out
   have K1l := K1.out.lt
   obtain ⟨K2y0, K2y1, K2y2, K2y3, K2y4, K2y5, K2y6⟩ := row7 K2.out
   have K2l := K2.out.lt
   go_wp2_with fail
   clear K1y0 K1y1 K1y2 K1y3 K1y4 K1y5 K1y6 K1l K2y0 K2y1 K2y2 K2y3 K2y4 K2y5 K2y6 K2l
   go_ret
   exact ⟨by rw [← HQ.out]; rfl, HB.out⟩
theorem vRRight {F : Nat → Prop} {w : World} {v : Value} {r : Rec} (h : RecOut F w v r) (hf : FitR r) (q : Bool) (hq : r.ok = q) : Calls Tryz.prog 11 #[v] w fun e w' => e = .returned (.bool q) ∧ Below w.heap.size w w' := by
 obtain ⟨A0, As, n0, c0, ns, cs, A, n, c, rfl, h⟩ := h
 exact RRight_any F A0 As n0 c0 ns cs A n c r w h hf q hq
theorem vRSame {F G : Nat → Prop} {w : World} {u v : Value} {a b : Rec} (hx : RecOut F w u a) (hy : RecOut G w v b) (hf : FitR a) (hg : FitR b) (q : Bool) (hq : sameR a b = q) : Calls Tryz.prog 15 #[u, v] w fun e w' => e = .returned (.bool q) ∧ Below w.heap.size w w' := by
 obtain ⟨A0, As, n0, c0, ns, cs, A, n, c, rfl, h⟩ := hx
 obtain ⟨A0', As', n0', c0', ns', cs', A', n', c', rfl, h'⟩ := hy
 exact RSame_any F A0 As n0 c0 ns cs A n c a G A0' As' n0' c0' ns' cs' A' n' c' b w h h' hf hg q hq
end Go.Proofs.YtkicidopjihjmaaGreat
namespace Go.Proofs.YtkicidopjihjmaaGreat
open Go Go.RowKit
structure OffP (a r : Rec) (k : Nat) : Prop where
 wf : WfR r
 sl : r.sl = a.sl
 l : r.l = a.l
 e : r.e = a.e
 len : r.S.length = a.S.length
 off : ∀ j, j < k → r.S.getD j 0 = 0
theorem OffP.step {a r : Rec} {k : Nat} (h : OffP a r k) (hk : k < a.S.length) {r' : Rec} {y : Ent} {z : Int} (hs : doR r ⟨2, (k : Int), 0, (0, 0)⟩ = (r', y, z)) : (z = 0 → OffP a r' (k + 1)) ∧ (z ≠ 0 → OffP a r (k + 1)) := by
 have ho := ok_iff.2 h.wf.ok
 unfold doR at hs
 rw [if_pos ho] at hs
 have hst : stepR r [] ⟨2, (k : Int), 0, (0, 0)⟩ = pinR r [] ⟨2, (k : Int), 0, (0, 0)⟩ 2 := rfl
 rw [hst] at hs
 have hdE : Pn.doE r.e r.S 2 (k : Int) 0 = if r.S.getD k 0 = 0 then 4 else 0 := by
  unfold Pn.doE
  rw [if_pos h.wf.ok.pn]
  unfold Pn.dE
  rw [if_neg (by have := h.len; omega), if_neg (by omega), if_neg (by omega)]
  simp
 cases hp : pinR r [] ⟨2, (k : Int), 0, (0, 0)⟩ 2 with
 | error c =>
  rw [hp] at hs
  simp only [Prod.mk.injEq] at hs
  obtain ⟨rfl, rfl, rfl⟩ := hs
  have hne := pin_ne hp
  refine ⟨fun hz => absurd hz hne, fun _ => ⟨h.wf, h.sl, h.l, h.e, h.len, fun j hj => ?_⟩⟩
  rcases Nat.lt_or_ge j k with h1 | h1
  · exact h.off j h1
  ·
   obtain rfl : j = k := by omega
   unfold pinR at hp
   split at hp
   · cases hp
   ·
    rename_i h2
    have h2 : ¬ Pn.doE r.e r.S 2 (j : Int) 0 = 0 := h2
    rw [hdE] at h2
    by_cases h3 : r.S.getD j 0 = 0
    · exact h3
    · rw [if_neg h3] at h2; exact absurd rfl h2
 | ok x =>
  have hw := wf_pin h.wf (.inr rfl) (Int.le_refl _) (r' := x.1) (t' := x.2) hp
  rw [hp] at hs
  simp only [Prod.mk.injEq] at hs
  obtain ⟨h1, _, rfl⟩ := hs
  refine ⟨fun _ => ?_, fun hz => absurd rfl hz⟩
  have h1 : x.1 = r' := h1
  unfold pinR at hp
  split at hp
  ·
   rename_i h0
   injection hp with hp
   have hx : x.1 = ⟨r.sl, Pn.doX r.e r.S 2 (k : Int) 0, Pn.doS r.e r.S 2 (k : Int) 0, r.l⟩ := by rw [← hp]
   have h0 : Pn.doE r.e r.S 2 (k : Int) 0 = 0 := h0
   have e1 : Pn.doX r.e r.S 2 (k : Int) 0 = r.e := by unfold Pn.doX; rw [if_pos h0]; rfl
   have e2 : Pn.doS r.e r.S 2 (k : Int) 0 = r.S.set k 0 := by unfold Pn.doS; rw [if_pos h0]; unfold Pn.dS; rw [if_neg (by omega), if_neg (by omega)]; simp
   rw [e1, e2] at hx
   rw [← h1]
   refine ⟨hw.1, by rw [hx]; exact h.sl, by rw [hx]; exact h.l, by rw [hx]; exact h.e, by rw [hx]; show (r.S.set k 0).length = _; rw [List.length_set]; exact h.len, fun j hj => ?_⟩
   rw [hx]
   show (r.S.set k 0).getD j 0 = 0
   rw [List.getD_eq_getElem?_getD, List.getElem?_set]
   split
   · split <;> rfl
   ·
    rw [← List.getD_eq_getElem?_getD]
    exact h.off j (by omega)
  · cases hp
theorem OffP.free {a r : Rec} (h : OffP a r a.S.length) : r.S.any (Pn.heldB r.e) = false := by
 rw [List.any_eq_false]
 intro s hs
 obtain ⟨j, hj, rfl⟩ := List.getElem_of_mem hs
 have h1 := h.off j (by have := h.len; omega)
 rw [List.getD_eq_getElem?_getD, List.getElem?_eq_getElem hj] at h1
 have h1 : r.S[j] = 0 := h1
 rw [h1]
 simp [Pn.heldB]
def three (r : Rec) : Rec × List Ent := ((triesR (triesR (triesR r []).1 []).1 []).1, (triesR r []).2.1 ++ (triesR (triesR r []).1 []).2.1 ++ (triesR (triesR (triesR r []).1 []).1 []).2.1)
def manyT (r : Rec) : Nat → Rec × List Ent
 | 0 => (r, [])
 | n + 1 => ((triesR (manyT r n).1 []).1, (manyT r n).2 ++ (triesR (manyT r n).1 []).2.1)
theorem OffP.zero {a r : Rec} (h : OffP a r a.S.length) : ∀ s ∈ r.S, s = 0 := by
 intro s hs
 obtain ⟨j, hj, rfl⟩ := List.getElem_of_mem hs
 have h1 := h.off j (by have := h.len; omega)
 rw [List.getD_eq_getElem?_getD, List.getElem?_eq_getElem hj] at h1
 exact h1
structure HoldI (E0 : Int) (L0 : List Ent) (g : Int) (r : Rec) : Prop where
 wf : WfR r
 lo : E0 ≤ r.e ∧ r.e ≤ E0 + 1
 g0 : 0 ≤ g
 pin : r.S[g.toNat]? = some (E0 + 1)
 e0 : 0 ≤ E0
 live : ∀ x ∈ L0, 0 ≤ x.1 ∧ (r.sl[x.1.toNat]? = some (1, x.2) ∨ (r.sl[x.1.toNat]? = some (2, x.2) ∧ ∃ a, (a, x) ∈ r.l.each ∧ (a : Int) ≤ r.e - E0))
theorem HoldI.tag {E0 : Int} {L0 : List Ent} {g : Int} {r : Rec} (h : HoldI E0 L0 g r) {x : Ent} (hx : x ∈ L0) : (arOk r.sl && meantB r.sl x) = true ∧ tagOf r.sl x ≠ 0 := by
 obtain ⟨x1, x2⟩ := h.live x hx
 obtain ⟨u, hu, hu2⟩ : ∃ u : Int, r.sl[x.1.toNat]? = some (u, x.2) ∧ u ≠ 0 := by
  rcases x2 with x2 | ⟨x2, _⟩
  · exact ⟨1, x2, by omega⟩
  · exact ⟨2, x2, by omega⟩
 obtain ⟨h6, h7⟩ := List.getElem?_eq_some_iff.1 hu
 constructor
 ·
  rw [h.wf.ok.ar]
  unfold meantB
  simp
  refine ⟨⟨x1, by omega⟩, ?_⟩
  simp [List.getElem?_eq_getElem h6, h7]
 ·
  unfold tagOf
  rw [List.getD_eq_getElem?_getD, hu]
  exact hu2
end Go.Proofs.YtkicidopjihjmaaGreat
namespace Go.Proofs.YtkicidopjihjmaaGreat
open Go Go.RowKit
attribute [local go_sem] via_cell via_frozen
theorem rec_apart {w : World} {B n g : Nat} {A : Option Addr} {xs : List Ent} {e : Int} {E : Nat} {A0 As : Option Addr} {n0 c0 ns cs : Nat} {A2 : Nat → Option Addr} {n2 c2 : Nat → Nat} {t : TypeId} (h : Rd w B 2 A n (Cs encE xs)) (hx : xs.length = n) (hg : RowAt w g t (recC e E A0 As n0 c0 ns cs A2 n2 c2)) : 0 < n → ∀ p, A = some p → p.block ≠ g := by
 intro hn q hq he
 obtain ⟨b, o, e1, hb, hc⟩ := h.2 hn
 rw [hq] at e1
 injection e1 with e1
 subst e1
 cases xs with
 | nil => simp at hx; omega
 | cons x xs =>
  have h0 := hc 0 (.int .i64 x.1) rfl
  have e2 : b = g := he
  subst e2
  rw [hg.cell] at h0
  match o with
  | 0 => simp at h0
  | 1 => simp at h0
  | 2 => simp at h0
  | 3 => simp at h0
  | 4 => simp at h0
  | 5 => simp at h0
  | 6 => simp at h0
  | o + 7 => simp at h0
theorem BoxR.lt {w : World} {g : Nat} {r : Rec} (h : BoxR w g r) : g < w.heap.size := by
 obtain ⟨_, _, _, _, _, _, _, _, _, h, _⟩ := h
 exact h.lt
structure HoldW (W w : World) (g m : Nat) (A : Option Addr) (E0 : Int) (L0 : List Ent) (goer : Int) (r : Rec) : Prop where
 box : BoxR w g r
 inv : HoldI E0 L0 goer r
 live : Rd w w.heap.size 2 A m (Cs encE L0)
 lm : L0.length = m
 below : Below W.heap.size W w
 lo : W.heap.size ≤ g
theorem HoldW.keep {W w w' : World} {g m : Nat} {A : Option Addr} {E0 : Int} {L0 : List Ent} {goer : Int} {r : Rec} (h : HoldW W w g m A E0 L0 goer r) (hb : Below w.heap.size w w') : HoldW W w' g m A E0 L0 goer r :=
 ⟨h.box.below hb, h.inv, (h.live.below hb).more hb.size, h.lm, h.below.trans (hb.mono h.below.size), h.lo⟩
theorem HoldW.put {W w ww : World} {g m : Nat} {A : Option Addr} {E0 : Int} {L0 : List Ent} {goer : Int} {r r' : Rec} {A0 As : Option Addr} {n0 c0 ns cs : Nat} {A2 : Nat → Option Addr} {n2 c2 : Nat → Nat} {F : Nat → Prop} (h : HoldW W w g m A E0 L0 goer r) (hl : LaidF g w ww) (hrow : RowAt ww g 34 (recC r'.e r'.l.E A0 As n0 c0 ns cs A2 n2 c2)) (hr : RecF F w A0 As n0 c0 ns cs A2 n2 c2 r') (hF : ∀ j, F j → j ≠ g) (hi : HoldI E0 L0 goer r') : HoldW W ww g m A E0 L0 goer r' := by
 refine ⟨⟨A0, As, n0, c0, ns, cs, A2, n2, c2, hrow, (hr.stay (hl.stay (fun h => hF g h rfl))).up (fun j hj _ => hF j hj)⟩, hi, ?_, h.lm, h.below.trans (hl.below.mono h.lo), h.lo⟩
 obtain ⟨_, _, _, _, _, _, _, _, _, hrw, _⟩ := h.box
 exact h.live.stayF (F := fun j => j ≠ g) (fun hn p hp => rec_apart h.live h.lm hrw hn p hp) (hl.stay (fun h => h rfl))
structure AtB (W w : World) (g : Nat) (r : Rec) : Prop where
 box : BoxR w g r
 below : Below W.heap.size W w
 lo : W.heap.size ≤ g
theorem AtB.keep {W w w' : World} {g : Nat} {r : Rec} (h : AtB W w g r) (hb : Below w.heap.size w w') : AtB W w' g r := ⟨h.box.below hb, h.below.trans (hb.mono h.below.size), h.lo⟩
theorem AtB.put {W w ww : World} {g : Nat} {r r' : Rec} {A0 As : Option Addr} {n0 c0 ns cs : Nat} {A2 : Nat → Option Addr} {n2 c2 : Nat → Nat} {F : Nat → Prop} (h : AtB W w g r) (hl : LaidF g w ww) (hrow : RowAt ww g 34 (recC r'.e r'.l.E A0 As n0 c0 ns cs A2 n2 c2)) (hr : RecF F w A0 As n0 c0 ns cs A2 n2 c2 r') (hF : ∀ j, F j → j ≠ g) : AtB W ww g r' :=
 ⟨⟨A0, As, n0, c0, ns, cs, A2, n2, c2, hrow, (hr.stay (hl.stay (fun h => hF g h rfl))).up (fun j hj _ => hF j hj)⟩, h.below.trans (hl.below.mono h.lo), h.lo⟩
theorem Rd.laid {w w' : World} {B sz n g : Nat} {A : Option Addr} {xs : List Value} (h : Rd w B sz A n xs) (hne : 0 < n → ∀ p, A = some p → p.block ≠ g) (hl : LaidF g w w') : Rd w' B sz A n xs := by
 refine ⟨h.1, fun hn => ?_⟩
 obtain ⟨b, o, rfl, hb, hc⟩ := h.2 hn
 exact ⟨b, o, rfl, hb, fun j u hu => (cell_of_heap (hl.block b (hne hn _ rfl))).trans (hc j u hu)⟩
theorem AtB.of {W w ww : World} {g : Nat} {r' : Rec} {A0 As : Option Addr} {n0 c0 ns cs : Nat} {A2 : Nat → Option Addr} {n2 c2 : Nat → Nat} {F : Nat → Prop} (hbel : Below W.heap.size W w) (hlo : W.heap.size ≤ g) (hl : LaidF g w ww) (hrow : RowAt ww g 34 (recC r'.e r'.l.E A0 As n0 c0 ns cs A2 n2 c2)) (hr : RecF F w A0 As n0 c0 ns cs A2 n2 c2 r') (hF : ∀ j, F j → j ≠ g) : AtB W ww g r' :=
 ⟨⟨A0, As, n0, c0, ns, cs, A2, n2, c2, hrow, (hr.stay (hl.stay (fun h => hF g h rfl))).up (fun j hj _ => hF j hj)⟩, hbel.trans (hl.below.mono hlo), hlo⟩
theorem Rd.firstE {w : World} {B n k : Nat} {A : Option Addr} {X : List Ent} (h : Rd w B 2 A n (Cs encE X)) (hx : X.length = n) (hk : k ≤ n) : Rd w B 2 A k (Cs encE (X.take k)) := by
 obtain ⟨h1, h2⟩ := h
 have hl : (X.take k).length = k := by rw [List.length_take]; omega
 refine ⟨by rw [Cs_length encE_len, hl], fun h0 => ?_⟩
 obtain ⟨b, o, hA, hb, hc⟩ := h2 (by omega)
 refine ⟨b, o, hA, hb, fun j u hj => hc j u ?_⟩
 have hcat : Cs encE X = Cs encE (X.take k) ++ Cs encE (X.drop k) := by rw [← Cs_append, List.take_append_drop]
 rw [hcat]
 have hlt : j < (Cs encE (X.take k)).length := by
  rcases Nat.lt_or_ge j (Cs encE (X.take k)).length with h | h
  · exact h
  · rw [List.getElem?_eq_none h] at hj; cases hj
 rw [List.getElem?_append_left hlt]; exact hj
structure TryL (W wv w : World) (g m8 : Nat) (A8 : Option Addr) (L0 : List Ent) (r : Rec) (k : Nat) (Ax : Option Addr) (na ca : Nat) : Prop where
 box : AtB W w g (manyT r k).1
 own : w.ownsRow wv.heap.size 41 2 (.slice Ax na ca) na (Cs encE (manyT r k).2)
 len : (manyT r k).2.length = na
 live : Rd w wv.heap.size 2 A8 m8 (Cs encE L0)
 lm : L0.length = m8
 size : wv.heap.size ≤ w.heap.size
 glt : g < wv.heap.size
theorem TryL.keep {W wv w w' : World} {g m8 : Nat} {A8 : Option Addr} {L0 : List Ent} {r : Rec} {k : Nat} {Ax : Option Addr} {na ca : Nat} (h : TryL W wv w g m8 A8 L0 r k Ax na ca) (hb : Below w.heap.size w w') : TryL W wv w' g m8 A8 L0 r k Ax na ca :=
 ⟨h.box.keep hb, own_keepB h.own hb, h.len, h.live.below (hb.mono h.size), h.lm, Nat.le_trans h.size hb.size, h.glt⟩
theorem same_refl (r : Rec) : sameR r r = true := by unfold sameR; simp
theorem all7 {w : World} {g : Nat} {t : TypeId} {v0 v1 v2 v3 v4 v5 v6 : Value} (h : RowAt w g t #[v0, v1, v2, v3, v4, v5, v6]) : (w.cell? ⟨g, 0, none⟩ = some v0 ∧ w.cell? ⟨g, 1, none⟩ = some v1 ∧ w.cell? ⟨g, 2, none⟩ = some v2 ∧ w.cell? ⟨g, 3, none⟩ = some v3 ∧ w.cell? ⟨g, 4, none⟩ = some v4 ∧ w.cell? ⟨g, 5, none⟩ = some v5 ∧ w.cell? ⟨g, 6, none⟩ = some v6) ∧ (w.frozen? ⟨g, 0, none⟩ = false ∧ w.frozen? ⟨g, 1, none⟩ = false ∧ w.frozen? ⟨g, 2, none⟩ = false ∧ w.frozen? ⟨g, 3, none⟩ = false ∧ w.frozen? ⟨g, 4, none⟩ = false ∧ w.frozen? ⟨g, 5, none⟩ = false ∧ w.frozen? ⟨g, 6, none⟩ = false) ∧ g < w.heap.size :=
 ⟨row7 h, ⟨h.frozen 0, h.frozen 1, h.frozen 2, h.frozen 3, h.frozen 4, h.frozen 5, h.frozen 6⟩, h.lt⟩
theorem laid7 {w w' : World} {g : Nat} {t : TypeId} {u0 u1 u2 u3 u4 u5 u6 v0 v1 v2 v3 v4 v5 v6 : Value} (h : RowAt w g t #[u0, u1, u2, u3, u4, u5, u6])
  (hw : (((((((w.setCell ⟨g, 0, none⟩ v0).setCell ⟨g, 1, none⟩ v1).setCell ⟨g, 2, none⟩ v2).setCell ⟨g, 3, none⟩ v3).setCell ⟨g, 4, none⟩ v4).setCell ⟨g, 5, none⟩ v5).setCell ⟨g, 6, none⟩ v6) = w') : LaidF g w w' ∧ RowAt w' g t #[v0, v1, v2, v3, v4, v5, v6] := by
 subst hw
 refine ⟨(((((((laid0 g w).set 0 v0).set 1 v1).set 2 v2).set 3 v3).set 4 v4).set 5 v5).set 6 v6, ?_⟩
 have h2 := ((((((h.set 0 v0).set 1 v1).set 2 v2).set 3 v3).set 4 v4).set 5 v5).set 6 v6
 simpa using h2
end Go.Proofs.YtkicidopjihjmaaGreat
