/-
  Part of a proof: ZAll says of what.
-/
import Derived.Test.YtkicidopjihjmaaGreatZAllE
set_option linter.unusedSimpArgs false
set_option linter.unusedVariables false
set_option linter.unusedSimpArgs false
set_option linter.unusedVariables false
namespace Go.Proofs.YtkicidopjihjmaaGreat
open Go Go.RowKit
attribute [local go_sem] via_cell via_frozen
structure WkB (W w : World) (g1 g3 : Nat) (r : Rec) : Prop where
 box : BoxR w g1 r
 ent : RowAt w g3 41 #[.int .i64 0, .int .u64 0]
 lo : W.heap.size ≤ g1 ∧ g1 < g3
 below : Below W.heap.size W w
theorem WkB.keep {W w w' : World} {g1 g3 : Nat} {r : Rec} (h : WkB W w g1 g3 r) (hb : Below w.heap.size w w') : WkB W w' g1 g3 r := ⟨h.box.below hb, h.ent.below hb, h.lo, h.below.trans (hb.mono h.below.size)⟩
theorem WkB.put {W w ww : World} {g1 g3 base : Nat} {r0 r : Rec} {A0 As : Option Addr} {n0 c0 ns cs : Nat} {A : Nat → Option Addr} {n c : Nat → Nat} (h : WkB W w g1 g3 r0) (hl : LaidF g1 w ww) (hrow : RowAt ww g1 34 (recC r.e r.l.E A0 As n0 c0 ns cs A n c)) (hr : RecF (From base) w A0 As n0 c0 ns cs A n c r) (hg : g1 < base) : WkB W ww g1 g3 r :=
 ⟨⟨A0, As, n0, c0, ns, cs, A, n, c, hrow, (hr.stay (hl.stay (fun (h : base ≤ g1) => by omega))).up (fun j (hj : base ≤ j) _ => by show j ≠ g1; omega)⟩, (hl.block _ (by have := h.lo; omega)).trans h.ent, h.lo, h.below.trans (hl.below.mono h.lo.1)⟩
theorem WkB.put2 {W w w' w2 : World} {g1 g3 ge base : Nat} {r0 r : Rec} {A0 As : Option Addr} {n0 c0 ns cs : Nat} {A : Nat → Option Addr} {n c : Nat → Nat} (h : WkB W w g1 g3 r0) (hl : LaidF g1 w w') (hl2 : LaidF ge w' w2) (hrow : RowAt w' g1 34 (recC r.e r.l.E A0 As n0 c0 ns cs A n c)) (hr : RecF (fun j => base ≤ j ∧ j ≠ ge) w A0 As n0 c0 ns cs A n c r) (hg : g1 < base) (h1 : ge ≠ g1) (h3 : ge ≠ g3) (hW : W.heap.size ≤ ge) : WkB W w2 g1 g3 r :=
 ⟨⟨A0, As, n0, c0, ns, cs, A, n, c, (hl2.block _ (Ne.symm h1)).trans hrow, (((hr.stay (hl.stay (fun h => by have h5 : base ≤ g1 := h.1; omega))).stay (hl2.stay (fun h => h.2 rfl))).up (fun j hj _ => by have h5 : base ≤ j := hj.1; show j ≠ g1; omega))⟩, (hl2.block _ (Ne.symm h3)).trans ((hl.block _ (by have := h.lo; omega)).trans h.ent), h.lo, (h.below.trans (hl.below.mono h.lo.1)).trans (hl2.below.mono hW)⟩
theorem own_up {w ww : World} {ge base n c : Nat} {At : Option Addr} {xs : List Value} (h : w.ownsRow base 41 2 (.slice At n c) n xs) (hl : LaidF ge w ww) (hlt : ∀ q, At = some q → q.block < ge) : ww.ownsRow base 41 2 (.slice At n c) n xs :=
 own_kept h (fun j hj _ => hl.block j (fun e => by
  rw [own_block] at hj
  cases At with
  | none => cases hj
  | some q => (injection hj with hj; have hj : q.block = j := hj; have := hlt q rfl; omega)))
theorem u64z : U64 0 := by unfold U64; omega
theorem RecF.val {F : Nat → Prop} {w : World} {A0 As : Option Addr} {n0 c0 ns cs : Nat} {A : Nat → Option Addr} {n c : Nat → Nat} {r : Rec} (h : RecF F w A0 As n0 c0 ns cs A n c r) : RecOut F w (.agg (recC r.e r.l.E A0 As n0 c0 ns cs A n c)) r := by
 refine ⟨A0, As, n0, c0, ns, cs, A, n, c, rfl, h⟩
theorem own_laid {w ww : World} {g base n : Nat} {v : Value} {xs : List Value} {C : Array Value} (h : w.ownsRow base 41 2 v n xs) (hrow : RowAt w g 34 C) (hl : LaidF g w ww) : ww.ownsRow base 41 2 v n xs :=
 own_kept h (fun j hj _ => hl.block j (fun e => by
  obtain ⟨_, cs, h2⟩ := own_typ h hj
  rw [e] at h2
  exact absurd (row_typ h2 hrow) (by decide)))
theorem eqEz (A1 A2 : Option Addr) (c1 c2 n1 n2 : Nat) (xs ys : List (Int × Int)) (W : World) (h1 : Rd W W.heap.size 2 A1 n1 (Cs encE xs)) (h2 : Rd W W.heap.size 2 A2 n2 (Cs encE ys)) (hx : xs.length = n1) (hy : ys.length = n2) (hl1 : n1 ≤ 4096) (hl2 : n2 ≤ 4096) (r : Bool) (hr : decide (xs = ys) = r) :
  Calls Tryz.prog 19 #[.slice A1 n1 c1, .slice A2 n2 c2] W fun e W' => e = .returned (.bool r) ∧ Below W.heap.size W W' := by
 subst hx; subst hy
 exact EqualE _ _ A1 A2 c1 c2 xs ys W h1 h2 (Nat.le_refl _) (Nat.le_refl _) hl1 hl2 r hr
set_option maxRecDepth 100000 in
set_option maxHeartbeats 16000000 in
theorem wakes_any (W : World) : Calls Tryz.prog 9 #[] W fun e W' => e = .returned (.bool true) ∧ Below W.heap.size W W' := by
 have HC := hide (New_any 2 3 W)
 go_enter Tryz.func9, Tryz.ntmps9
 go_wp2_with fail
 with_reducible refine HC.out.mono ?_
 rintro e w1 ⟨⟨v, rfl, hv⟩, hb⟩
 have hv : RecOut (fun _ => True) w1 v wk0 := hv
 obtain ⟨B0, Bs, m0, d0, ms, ds, B, m, d, rfl, hr⟩ := hv
 have HV := hide hr
 have HB1 := hide hb
 have ke : NewK 2 3 = 0 := rfl
 rw [ke]
 clear hr hb HC ke
 go_upto_region 2 with (fail)
 have hbA : Below w1.heap.size w1 (w1.alloc (.cells (recC wk0.e wk0.l.E B0 Bs m0 d0 ms ds B m d) 34)) := (Below.refl _ _).alloc (Nat.le_refl _) _
 have hbE : Below (w1.alloc (.cells (recC wk0.e wk0.l.E B0 Bs m0 d0 ms ds B m d) 34)).heap.size (w1.alloc (.cells (recC wk0.e wk0.l.E B0 Bs m0 d0 ms ds B m d) 34)) ((w1.alloc (.cells (recC wk0.e wk0.l.E B0 Bs m0 d0 ms ds B m d) 34)).alloc (.cells #[.int .i64 0, .int .u64 0] 41)) := (Below.refl _ _).alloc (Nat.le_refl _) _
 have hsA : (w1.alloc (.cells (recC wk0.e wk0.l.E B0 Bs m0 d0 ms ds B m d) 34)).heap.size = w1.heap.size + 1 := by rw [World.size_alloc]
 have HK := hide (show WkB W ((w1.alloc (.cells (recC wk0.e wk0.l.E B0 Bs m0 d0 ms ds B m d) 34)).alloc (.cells #[.int .i64 0, .int .u64 0] 41)) w1.heap.size (w1.heap.size + 1) wk0 from ⟨⟨B0, Bs, m0, d0, ms, ds, B, m, d, (RowAt.new w1 34 (recC wk0.e wk0.l.E B0 Bs m0 d0 ms ds B m d)).below hbE, ((HV.out.up (G := fun j => j ≠ w1.heap.size) (fun j _ hl => by show j ≠ _; omega)).below hbA).below hbE⟩, by have h := RowAt.new (w1.alloc (.cells (recC wk0.e wk0.l.E B0 Bs m0 d0 ms ds B m d) 34)) 41 #[.int .i64 0, .int .u64 0]; rw [hsA] at h; exact h, ⟨HB1.out.size, by omega⟩, (HB1.out.trans (hbA.mono HB1.out.size)).trans (hbE.mono (by have := HB1.out.size; omega))⟩)
 clear hbA hbE hsA
 go_upto_region 3 with (fail)
 skip
 obtain ⟨w3, hw3⟩ : ∃ w3, ((w1.alloc (.cells (recC wk0.e wk0.l.E B0 Bs m0 d0 ms ds B m d) 34)).alloc (.cells #[.int .i64 0, .int .u64 0] 41)) = w3 := ⟨_, rfl⟩
 rw [hw3] at HK
 rw [hw3]
 clear hw3 HV HB1
 generalize w1.heap.size + 1 = g3 at *
 generalize w1.heap.size = g1 at *
 obtain ⟨C0, Cs0, p0, f0, ps, fs, C, q, f, hrow, hrec⟩ := HK.out.box
 have HRW := hide hrow
 have HRC := hide hrec
 clear hrow hrec
 have HSX := hide (fun (wX : World) (hgX : Below w3.heap.size w3 wX) => show wX.cell? ⟨g1, 0, none⟩ = some (.slice C0 p0 f0) ∧ wX.cell? ⟨g1, 1, none⟩ = some (.int .u64 wk0.e) ∧ wX.cell? ⟨g1, 2, none⟩ = some (.slice Cs0 ps fs) ∧ wX.cell? ⟨g1, 3, none⟩ = some (.int .u64 (wk0.l.E : Int)) ∧ wX.cell? ⟨g1, 4, none⟩ = some (.slice (C 0) (q 0) (f 0)) ∧ wX.cell? ⟨g1, 5, none⟩ = some (.slice (C 1) (q 1) (f 1)) ∧ wX.cell? ⟨g1, 6, none⟩ = some (.slice (C 2) (q 2) (f 2)) ∧ wX.cell? ⟨g3, 0, none⟩ = some (.int .i64 0) ∧ wX.cell? ⟨g3, 1, none⟩ = some (.int .u64 0) ∧ g1 < wX.heap.size ∧ g3 < wX.heap.size from by
  obtain ⟨z0, z1, z2, z3, z4, z5, z6⟩ := row7 HRW.out
  exact ⟨kept hgX z0, kept hgX z1, kept hgX z2, kept hgX z3, kept hgX z4, kept hgX z5, kept hgX z6, kept hgX (row20 HK.out.ent), kept hgX (row21 HK.out.ent), Nat.lt_of_lt_of_le HRW.out.lt hgX.size, Nat.lt_of_lt_of_le HK.out.ent.lt hgX.size⟩)
 have HX := hide ((Below.refl w3.heap.size w3).drew)
 refine wp_region_Z (fun wX => wX.cell? ⟨g1, 0, none⟩ = some (.slice C0 p0 f0) ∧ wX.cell? ⟨g1, 1, none⟩ = some (.int .u64 wk0.e) ∧ wX.cell? ⟨g1, 2, none⟩ = some (.slice Cs0 ps fs) ∧ wX.cell? ⟨g1, 3, none⟩ = some (.int .u64 (wk0.l.E : Int)) ∧ wX.cell? ⟨g1, 4, none⟩ = some (.slice (C 0) (q 0) (f 0)) ∧ wX.cell? ⟨g1, 5, none⟩ = some (.slice (C 1) (q 1) (f 1)) ∧ wX.cell? ⟨g1, 6, none⟩ = some (.slice (C 2) (q 2) (f 2)) ∧ wX.cell? ⟨g3, 0, none⟩ = some (.int .i64 0) ∧ wX.cell? ⟨g3, 1, none⟩ = some (.int .u64 0) ∧ g1 < wX.heap.size ∧ g3 < wX.heap.size) 16 (by kernel_rfl) (HSX.out _ HX.out) (fun hHeld => ?_)
 clear hHeld
 have hS0 := HSX.out _ HX.out
 generalize w3.drew = wd at *
 (refine wpAnyZ_take (i := 0) (v := ?_) rfl (by kernel_rfl) (by kernel_rfl) (by kernel_rfl) (by kernel_rfl) (by kernel_rfl) (fun _ _ _ h => h) (Or.inl ⟨by rfl, ?_⟩) (by assumption) ?_; rotate_left; (focus (intro w hSw; (try dsimp only at hSw); obtain ⟨kf0, kf1, kf2, kf3, kf4, kf5, kf6, kf7, kf8, kf9, kf10⟩ := hSw; go_simp; first | done | with_reducible rfl)); (try simp only [Act.put, List.getElem_toArray, List.getElem_cons_succ, List.getElem_cons_zero, List.setIfInBounds_toArray, List.set_cons_zero, List.set_cons_succ]))
 (refine wpAnyZ_take (i := 1) (v := ?_) rfl (by kernel_rfl) (by kernel_rfl) (by kernel_rfl) (by kernel_rfl) (by kernel_rfl) (fun _ _ _ h => h) (Or.inl ⟨by rfl, ?_⟩) (by assumption) ?_; rotate_left; (focus (intro w hSw; (try dsimp only at hSw); obtain ⟨kf0, kf1, kf2, kf3, kf4, kf5, kf6, kf7, kf8, kf9, kf10⟩ := hSw; go_simp; first | done | with_reducible rfl)); (try simp only [Act.put, List.getElem_toArray, List.getElem_cons_succ, List.getElem_cons_zero, List.setIfInBounds_toArray, List.set_cons_zero, List.set_cons_succ]))
 (refine wpAnyZ_take (i := 3) (v := ?_) rfl (by kernel_rfl) (by kernel_rfl) (by kernel_rfl) (by kernel_rfl) (by kernel_rfl) (fun _ _ _ h => h) (Or.inl ⟨by rfl, ?_⟩) (by assumption) ?_; rotate_left; (focus (intro w hSw; (try dsimp only at hSw); obtain ⟨kf0, kf1, kf2, kf3, kf4, kf5, kf6, kf7, kf8, kf9, kf10⟩ := hSw; go_simp; first | done | with_reducible rfl)); (try simp only [Act.put, List.getElem_toArray, List.getElem_cons_succ, List.getElem_cons_zero, List.setIfInBounds_toArray, List.set_cons_zero, List.set_cons_succ]))
 (refine wpAnyZ_take (i := 5) (v := ?_) rfl (by kernel_rfl) (by kernel_rfl) (by kernel_rfl) (by kernel_rfl) (by kernel_rfl) (fun _ _ _ h => h) (Or.inl ⟨by rfl, ?_⟩) (by assumption) ?_; rotate_left; (focus (intro w hSw; (try dsimp only at hSw); obtain ⟨kf0, kf1, kf2, kf3, kf4, kf5, kf6, kf7, kf8, kf9, kf10⟩ := hSw; go_simp; first | done | with_reducible rfl)); (try simp only [Act.put, List.getElem_toArray, List.getElem_cons_succ, List.getElem_cons_zero, List.setIfInBounds_toArray, List.set_cons_zero, List.set_cons_succ]))
 (refine wpAnyZ_take (i := 7) (v := ?_) rfl (by kernel_rfl) (by kernel_rfl) (by kernel_rfl) (by kernel_rfl) (by kernel_rfl) (fun _ _ _ h => h) (Or.inl ⟨by rfl, ?_⟩) (by assumption) ?_; rotate_left; (focus (intro w hSw; (try dsimp only at hSw); obtain ⟨kf0, kf1, kf2, kf3, kf4, kf5, kf6, kf7, kf8, kf9, kf10⟩ := hSw; go_simp; first | done | with_reducible rfl)); (try simp only [Act.put, List.getElem_toArray, List.getElem_cons_succ, List.getElem_cons_zero, List.setIfInBounds_toArray, List.set_cons_zero, List.set_cons_succ]))
 refine wpAnyZ_one (i := 2) rfl (by kernel_rfl) (fun K0 hK0 => ?_)
 go_simp
 with_reducible refine (op_any 3 0 0 0 wd).mono ?_
 rintro e wo0 ⟨rfl, hb⟩
 have hX2 := HX.out.trans (hb.mono HX.out.size)
 replace HX := hide hX2
 clear hX2 hS0 hb
 have hS0 := HSX.out _ HX.out
 refine hK0.out _ _ (fun _ _ => hS0) ?_
 clear hK0 K0
 (try simp only [Act.put, List.getElem_toArray, List.getElem_cons_succ, List.getElem_cons_zero, List.setIfInBounds_toArray, List.set_cons_zero, List.set_cons_succ])
 refine wpAnyZ_one (i := 4) rfl (by kernel_rfl) (fun K1 hK1 => ?_)
 go_simp
 with_reducible refine (op_any 3 0 0 0 wo0).mono ?_
 rintro e wo1 ⟨rfl, hb⟩
 have hX2 := HX.out.trans (hb.mono HX.out.size)
 replace HX := hide hX2
 clear hX2 hS0 hb
 have hS0 := HSX.out _ HX.out
 refine hK1.out _ _ (fun _ _ => hS0) ?_
 clear hK1 K1
 (try simp only [Act.put, List.getElem_toArray, List.getElem_cons_succ, List.getElem_cons_zero, List.setIfInBounds_toArray, List.set_cons_zero, List.set_cons_succ])
 refine wpAnyZ_one (i := 6) rfl (by kernel_rfl) (fun K2 hK2 => ?_)
 go_simp
 with_reducible refine (op_any 1 0 0 0 wo1).mono ?_
 rintro e wo2 ⟨rfl, hb⟩
 have hX2 := HX.out.trans (hb.mono HX.out.size)
 replace HX := hide hX2
 clear hX2 hS0 hb
 have hS0 := HSX.out _ HX.out
 refine hK2.out _ _ (fun _ _ => hS0) ?_
 clear hK2 K2
 (try simp only [Act.put, List.getElem_toArray, List.getElem_cons_succ, List.getElem_cons_zero, List.setIfInBounds_toArray, List.set_cons_zero, List.set_cons_succ])
 refine wpAnyZ_one (i := 8) rfl (by kernel_rfl) (fun K3 hK3 => ?_)
 go_simp
 with_reducible refine (op_any 5 0 0 0 wo2).mono ?_
 rintro e wo3 ⟨rfl, hb⟩
 have hX2 := HX.out.trans (hb.mono HX.out.size)
 replace HX := hide hX2
 clear hX2 hS0 hb
 have hS0 := HSX.out _ HX.out
 refine hK3.out _ _ (fun _ _ => hS0) ?_
 clear hK3 K3
 (try simp only [Act.put, List.getElem_toArray, List.getElem_cons_succ, List.getElem_cons_zero, List.setIfInBounds_toArray, List.set_cons_zero, List.set_cons_succ])
 refine wpAnyZ_one (i := 9) rfl (by kernel_rfl) (fun K4 hK4 => ?_)
 go_simp
 have hb : Below wo3.heap.size wo3 (wo3.alloc (.cells #[.int .i64 3, .int .i64 0, .int .u64 0, .int .i64 0, .int .u64 0, .int .i64 3, .int .i64 0, .int .u64 0, .int .i64 0, .int .u64 0, .int .i64 1, .int .i64 0, .int .u64 0, .int .i64 0, .int .u64 0, .int .i64 5, .int .i64 0, .int .u64 0, .int .i64 0, .int .u64 0] 43)) := (Below.refl _ _).alloc (Nat.le_refl _) _
 have HSL := hide (show Rd (wo3.alloc (.cells #[.int .i64 3, .int .i64 0, .int .u64 0, .int .i64 0, .int .u64 0, .int .i64 3, .int .i64 0, .int .u64 0, .int .i64 0, .int .u64 0, .int .i64 1, .int .i64 0, .int .u64 0, .int .i64 0, .int .u64 0, .int .i64 5, .int .i64 0, .int .u64 0, .int .i64 0, .int .u64 0] 43)) (wo3.alloc (.cells #[.int .i64 3, .int .i64 0, .int .u64 0, .int .i64 0, .int .u64 0, .int .i64 3, .int .i64 0, .int .u64 0, .int .i64 0, .int .u64 0, .int .i64 1, .int .i64 0, .int .u64 0, .int .i64 0, .int .u64 0, .int .i64 5, .int .i64 0, .int .u64 0, .int .i64 0, .int .u64 0] 43)).heap.size 5 (some ⟨wo3.heap.size, 0, none⟩) 4 (Cs encP wkO) from (Rd.new wo3 #[.int .i64 3, .int .i64 0, .int .u64 0, .int .i64 0, .int .u64 0, .int .i64 3, .int .i64 0, .int .u64 0, .int .i64 0, .int .u64 0, .int .i64 1, .int .i64 0, .int .u64 0, .int .i64 0, .int .u64 0, .int .i64 5, .int .i64 0, .int .u64 0, .int .i64 0, .int .u64 0] 43 5 4 rfl).more (by simp))
 have hX2 := HX.out.trans (hb.mono HX.out.size)
 replace HX := hide hX2
 clear hX2 hS0 hb
 have hS0 := HSX.out _ HX.out
 refine hK4.out _ _ (fun _ _ => hS0) ?_
 clear hK4 K4
 (try simp only [Act.put, List.getElem_toArray, List.getElem_cons_succ, List.getElem_cons_zero, List.setIfInBounds_toArray, List.set_cons_zero, List.set_cons_succ])
 generalize (wo3.alloc (.cells #[.int .i64 3, .int .i64 0, .int .u64 0, .int .i64 0, .int .u64 0, .int .i64 3, .int .i64 0, .int .u64 0, .int .i64 0, .int .u64 0, .int .i64 1, .int .i64 0, .int .u64 0, .int .i64 0, .int .u64 0, .int .i64 5, .int .i64 0, .int .u64 0, .int .i64 0, .int .u64 0] 43)) = wb at *
 refine wpAnyZ_one (i := 10) rfl (by kernel_rfl) (fun K5 hK5 => ?_)
 go_simp
 with_reducible refine (vRun (F := fun j => j ≠ g1) (r := wk0) (HRC.out.below HX.out).val wkF0 _ 4 4 wkO HSL.out rfl (by omega) wkOu).mono ?_
 rintro e w5 ⟨⟨v5, At, nt, ct, rfl, hv, ho, hn⟩, hb⟩
 rw [wkR1] at hv ho hn ⊢
 obtain ⟨B0, Bs, m0, d0, ms, ds, B, m, d, rfl, hr⟩ := hv
 have HV := hide (show RecF (From wb.heap.size) w5 B0 Bs m0 d0 ms ds B m d wk1 from hr)
 have hn : 2 = nt := hn
 subst hn
 have HO := hide (show w5.ownsRow wb.heap.size 41 2 (.slice At 2 ct) 2 (Cs encE [(0, 0), (1, 0)]) from ho)
 have HW5 := hide (show g1 < wb.heap.size from Nat.lt_of_lt_of_le HRW.out.lt HX.out.size)
 have HHB := hide hb
 clear hr ho
 have hX2 := HX.out.trans (hb.mono HX.out.size)
 replace HX := hide hX2
 clear hX2 hS0 hb
 have hS0 := HSX.out _ HX.out
 refine hK5.out _ _ (fun _ _ => hS0) ?_
 clear hK5 K5
 (try simp only [Act.put, List.getElem_toArray, List.getElem_cons_succ, List.getElem_cons_zero, List.setIfInBounds_toArray, List.set_cons_zero, List.set_cons_succ])
 (refine wpAnyZ_takeF (i := 11) (v := ?_) rfl (by kernel_rfl) (by kernel_rfl) (by kernel_rfl) (by kernel_rfl) (fun _ _ _ h => h) (Or.inl ⟨by rfl, ?_⟩) (fun _ => hS0) ?_; rotate_left; (focus (intro w hSw; go_simp; first | done | with_reducible rfl)); (try simp only [Act.put, List.getElem_toArray, List.getElem_cons_succ, List.getElem_cons_zero, List.setIfInBounds_toArray, List.set_cons_zero, List.set_cons_succ]))
 (refine wpAnyZ_takeF (i := 12) (v := ?_) rfl (by kernel_rfl) (by kernel_rfl) (by kernel_rfl) (by kernel_rfl) (fun _ _ _ h => h) (Or.inl ⟨by rfl, ?_⟩) (fun _ => hS0) ?_; rotate_left; (focus (intro w hSw; go_simp; first | done | with_reducible rfl)); (try simp only [Act.put, List.getElem_toArray, List.getElem_cons_succ, List.getElem_cons_zero, List.setIfInBounds_toArray, List.set_cons_zero, List.set_cons_succ]))
 (refine wpAnyZ_takeF (i := 13) (v := ?_) rfl (by kernel_rfl) (by kernel_rfl) (by kernel_rfl) (by kernel_rfl) (fun _ _ _ h => h) (Or.inl ⟨by rfl, ?_⟩) (fun _ => hS0) ?_; rotate_left; (focus (intro w hSw; go_simp; first | done | with_reducible rfl)); (try simp only [Act.put, List.getElem_toArray, List.getElem_cons_succ, List.getElem_cons_zero, List.setIfInBounds_toArray, List.set_cons_zero, List.set_cons_succ]))
 (refine wpAnyZ_takeF (i := 14) (v := ?_) rfl (by kernel_rfl) (by kernel_rfl) (by kernel_rfl) (by kernel_rfl) (fun _ _ _ h => h) (Or.inl ⟨by rfl, ?_⟩) (fun _ => hS0) ?_; rotate_left; (focus (intro w hSw; go_simp; first | done | with_reducible rfl)); (try simp only [Act.put, List.getElem_toArray, List.getElem_cons_succ, List.getElem_cons_zero, List.setIfInBounds_toArray, List.set_cons_zero, List.set_cons_succ]))
 (refine wpAnyZ_takeF (i := 15) (v := ?_) rfl (by kernel_rfl) (by kernel_rfl) (by kernel_rfl) (by kernel_rfl) (fun _ _ _ h => h) (Or.inl ⟨by rfl, ?_⟩) (fun _ => hS0) ?_; rotate_left; (focus (intro w hSw; go_simp; first | done | with_reducible rfl)); (try simp only [Act.put, List.getElem_toArray, List.getElem_cons_succ, List.getElem_cons_zero, List.setIfInBounds_toArray, List.set_cons_zero, List.set_cons_succ]))
 refine wpAnyZ_one (i := 16) rfl (by kernel_rfl) (fun K6 hK6 => ?_)
 clear hS0
 have hrw := HRW.out.below HX.out
 obtain ⟨y0, y1, y2, y3, y4, y5, y6⟩ := row7 hrw
 have yl := hrw.lt
 have yf0 := hrw.frozen 0
 have yf1 := hrw.frozen 1
 have yf2 := hrw.frozen 2
 have yf3 := hrw.frozen 3
 have yf4 := hrw.frozen 4
 have yf5 := hrw.frozen 5
 have yf6 := hrw.frozen 6
 go_simp
 have HLD := hide (show LaidF g1 w5 (((((((w5.setCell ⟨g1, 0, none⟩ (.slice B0 m0 d0)).setCell ⟨g1, 1, none⟩ (.int .u64 wk1.e)).setCell ⟨g1, 2, none⟩ (.slice Bs ms ds)).setCell ⟨g1, 3, none⟩ (.int .u64 (wk1.l.E : Int))).setCell ⟨g1, 4, none⟩ (.slice (B 0) (m 0) (d 0))).setCell ⟨g1, 5, none⟩ (.slice (B 1) (m 1) (d 1))).setCell ⟨g1, 6, none⟩ (.slice (B 2) (m 2) (d 2))) from ((((((((laid0 g1 _).set 0 (.slice B0 m0 d0)).set 1 (.int .u64 wk1.e)).set 2 (.slice Bs ms ds)).set 3 (.int .u64 (wk1.l.E : Int))).set 4 (.slice (B 0) (m 0) (d 0))).set 5 (.slice (B 1) (m 1) (d 1))).set 6 (.slice (B 2) (m 2) (d 2))))
 have HRN := hide (show RowAt (((((((w5.setCell ⟨g1, 0, none⟩ (.slice B0 m0 d0)).setCell ⟨g1, 1, none⟩ (.int .u64 wk1.e)).setCell ⟨g1, 2, none⟩ (.slice Bs ms ds)).setCell ⟨g1, 3, none⟩ (.int .u64 (wk1.l.E : Int))).setCell ⟨g1, 4, none⟩ (.slice (B 0) (m 0) (d 0))).setCell ⟨g1, 5, none⟩ (.slice (B 1) (m 1) (d 1))).setCell ⟨g1, 6, none⟩ (.slice (B 2) (m 2) (d 2))) g1 34 (recC wk1.e wk1.l.E B0 Bs m0 d0 ms ds B m d) from by have h := (((((((hrw.set 0 (.slice B0 m0 d0)).set 1 (.int .u64 wk1.e)).set 2 (.slice Bs ms ds)).set 3 (.int .u64 (wk1.l.E : Int))).set 4 (.slice (B 0) (m 0) (d 0))).set 5 (.slice (B 1) (m 1) (d 1))).set 6 (.slice (B 2) (m 2) (d 2))); simpa using h)
 have HK6 := hide ((HK.out.keep HX.out).put HLD.out HRN.out HV.out HW5.out)
 have HO6 := hide (own_laid HO.out hrw HLD.out)
 clear hrw yl y0 yf0 y1 yf1 y2 yf2 y3 yf3 y4 yf4 y5 yf5 y6 yf6
 generalize (((((((w5.setCell ⟨g1, 0, none⟩ (.slice B0 m0 d0)).setCell ⟨g1, 1, none⟩ (.int .u64 wk1.e)).setCell ⟨g1, 2, none⟩ (.slice Bs ms ds)).setCell ⟨g1, 3, none⟩ (.int .u64 (wk1.l.E : Int))).setCell ⟨g1, 4, none⟩ (.slice (B 0) (m 0) (d 0))).setCell ⟨g1, 5, none⟩ (.slice (B 1) (m 1) (d 1))).setCell ⟨g1, 6, none⟩ (.slice (B 2) (m 2) (d 2))) = w6 at *
 refine hK6.out _ _ (fun h _ => absurd rfl h) ?_
 clear hK6 K6
 (try simp only [Act.put, List.getElem_toArray, List.getElem_cons_succ, List.getElem_cons_zero, List.setIfInBounds_toArray, List.set_cons_zero, List.set_cons_succ])
 refine wpAnyZ_one (i := 17) rfl (by kernel_rfl) (fun K7 hK7 => ?_)
 go_simp
 refine hK7.out _ _ (fun _ h => Bool.noConfusion (show true = false from h)) ?_
 clear hK7 K7
 (try simp only [Act.put, List.getElem_toArray, List.getElem_cons_succ, List.getElem_cons_zero, List.setIfInBounds_toArray, List.set_cons_zero, List.set_cons_succ])
 refine wpAnyZ_one (i := 18) rfl (by kernel_rfl) (fun K8 hK8 => ?_)
 go_simp
 refine hK8.out _ _ (fun _ h => Bool.noConfusion (show true = false from h)) ?_
 clear hK8 K8
 (try simp only [Act.put, List.getElem_toArray, List.getElem_cons_succ, List.getElem_cons_zero, List.setIfInBounds_toArray, List.set_cons_zero, List.set_cons_succ])
 refine wpAnyZ_one (i := 19) rfl (by kernel_rfl) (fun K9 hK9 => ?_)
 go_simp
 refine hK9.out _ _ (fun _ h => Bool.noConfusion (show true = false from h)) ?_
 clear hK9 K9
 (try simp only [Act.put, List.getElem_toArray, List.getElem_cons_succ, List.getElem_cons_zero, List.setIfInBounds_toArray, List.set_cons_zero, List.set_cons_succ])
 refine wpAnyZ_done (by kernel_rfl) ?_ _
 clear HLD HRN HV HO HK HX HSX HRW HRC HSL HHB HW5
 replace HO := HO6
 clear HO6
 have HK := HK6
 clear HK6
 obtain ⟨C0, Cs0, p0, f0, ps, fs, C, q, f, hrow, hrec⟩ := HK.out.box
 have HRW := hide hrow
 have HRC := hide hrec
 obtain ⟨z0, z1, z2, z3, z4, z5, z6⟩ := row7 hrow
 have zl := hrow.lt
 clear hrow hrec
 go_upto_region 4 with (fail)
 go_wp2_with fail
 with_reducible refine (vTry HRC.out.val wkF1).mono ?_
 rintro e wt ⟨⟨v5, A4, nt, k4, rfl, hv, ho, hn⟩, hb⟩
 rw [wkR2] at hv ho hn ⊢
 obtain ⟨B0, Bs, m0, d0, ms, ds, B, m, d, rfl, hr⟩ := hv
 have HV := hide (show RecF (From w6.heap.size) wt B0 Bs m0 d0 ms ds B m d wk2 from hr)
 have hn : 0 = nt := hn
 subst hn
 have HON := hide (show wt.ownsRow w6.heap.size 41 2 (.slice A4 0 k4) 0 (Cs encE []) from ho)
 have HW5 := hide (show g1 < w6.heap.size from HRW.out.lt)
 have HKt := hide (HK.out.keep hb)
 have HOt := hide (own_keepB HO.out hb)
 clear HK HO hr ho z0 z1 z2 z3 z4 z5 z6 zl
 have hrw := HRW.out.below hb
 clear hb
 obtain ⟨y0, y1, y2, y3, y4, y5, y6⟩ := row7 hrw
 have yl := hrw.lt
 have yf0 := hrw.frozen 0
 have yf1 := hrw.frozen 1
 have yf2 := hrw.frozen 2
 have yf3 := hrw.frozen 3
 have yf4 := hrw.frozen 4
 have yf5 := hrw.frozen 5
 have yf6 := hrw.frozen 6
 go_upto_region 5 with (fail)
 have HLD := hide (show LaidF g1 wt (((((((wt.setCell ⟨g1, 0, none⟩ (.slice B0 m0 d0)).setCell ⟨g1, 1, none⟩ (.int .u64 wk2.e)).setCell ⟨g1, 2, none⟩ (.slice Bs ms ds)).setCell ⟨g1, 3, none⟩ (.int .u64 (wk2.l.E : Int))).setCell ⟨g1, 4, none⟩ (.slice (B 0) (m 0) (d 0))).setCell ⟨g1, 5, none⟩ (.slice (B 1) (m 1) (d 1))).setCell ⟨g1, 6, none⟩ (.slice (B 2) (m 2) (d 2))) from ((((((((laid0 g1 _).set 0 (.slice B0 m0 d0)).set 1 (.int .u64 wk2.e)).set 2 (.slice Bs ms ds)).set 3 (.int .u64 (wk2.l.E : Int))).set 4 (.slice (B 0) (m 0) (d 0))).set 5 (.slice (B 1) (m 1) (d 1))).set 6 (.slice (B 2) (m 2) (d 2))))
 have HRN := hide (show RowAt (((((((wt.setCell ⟨g1, 0, none⟩ (.slice B0 m0 d0)).setCell ⟨g1, 1, none⟩ (.int .u64 wk2.e)).setCell ⟨g1, 2, none⟩ (.slice Bs ms ds)).setCell ⟨g1, 3, none⟩ (.int .u64 (wk2.l.E : Int))).setCell ⟨g1, 4, none⟩ (.slice (B 0) (m 0) (d 0))).setCell ⟨g1, 5, none⟩ (.slice (B 1) (m 1) (d 1))).setCell ⟨g1, 6, none⟩ (.slice (B 2) (m 2) (d 2))) g1 34 (recC wk2.e wk2.l.E B0 Bs m0 d0 ms ds B m d) from by have h := (((((((hrw.set 0 (.slice B0 m0 d0)).set 1 (.int .u64 wk2.e)).set 2 (.slice Bs ms ds)).set 3 (.int .u64 (wk2.l.E : Int))).set 4 (.slice (B 0) (m 0) (d 0))).set 5 (.slice (B 1) (m 1) (d 1))).set 6 (.slice (B 2) (m 2) (d 2))); simpa using h)
 have HK := hide (HKt.out.put HLD.out HRN.out HV.out HW5.out)
 have HO := hide (own_laid HOt.out hrw HLD.out)
 have HO4 := hide (own_laid HON.out hrw HLD.out)
 clear hrw yl y0 yf0 y1 yf1 y2 yf2 y3 yf3 y4 yf4 y5 yf5 y6 yf6
 generalize (((((((wt.setCell ⟨g1, 0, none⟩ (.slice B0 m0 d0)).setCell ⟨g1, 1, none⟩ (.int .u64 wk2.e)).setCell ⟨g1, 2, none⟩ (.slice Bs ms ds)).setCell ⟨g1, 3, none⟩ (.int .u64 (wk2.l.E : Int))).setCell ⟨g1, 4, none⟩ (.slice (B 0) (m 0) (d 0))).setCell ⟨g1, 5, none⟩ (.slice (B 1) (m 1) (d 1))).setCell ⟨g1, 6, none⟩ (.slice (B 2) (m 2) (d 2))) = w7 at *
 clear HLD HRN HV HKt HON HRW HRC HW5 HOt
 obtain ⟨C0, Cs0, p0, f0, ps, fs, C, q, f, hrow, hrec⟩ := HK.out.box
 have HRW := hide hrow
 have HRC := hide hrec
 obtain ⟨z0, z1, z2, z3, z4, z5, z6⟩ := row7 hrow
 have zl := hrow.lt
 clear hrow hrec
 go_upto_region 5 with (fail)
 go_wp2_with fail
 with_reducible refine (vTry HRC.out.val wkF2).mono ?_
 rintro e wt ⟨⟨v5, A5, nt, k5, rfl, hv, ho, hn⟩, hb⟩
 rw [wkR3] at hv ho hn ⊢
 obtain ⟨B0, Bs, m0, d0, ms, ds, B, m, d, rfl, hr⟩ := hv
 have HV := hide (show RecF (From w7.heap.size) wt B0 Bs m0 d0 ms ds B m d wk3 from hr)
 have hn : 0 = nt := hn
 subst hn
 have HON := hide (show wt.ownsRow w7.heap.size 41 2 (.slice A5 0 k5) 0 (Cs encE []) from ho)
 have HW5 := hide (show g1 < w7.heap.size from HRW.out.lt)
 have HKt := hide (HK.out.keep hb)
 have HOt := hide (own_keepB HO.out hb)
 clear HK HO hr ho z0 z1 z2 z3 z4 z5 z6 zl
 have hrw := HRW.out.below hb
 clear hb
 obtain ⟨y0, y1, y2, y3, y4, y5, y6⟩ := row7 hrw
 have yl := hrw.lt
 have yf0 := hrw.frozen 0
 have yf1 := hrw.frozen 1
 have yf2 := hrw.frozen 2
 have yf3 := hrw.frozen 3
 have yf4 := hrw.frozen 4
 have yf5 := hrw.frozen 5
 have yf6 := hrw.frozen 6
 go_upto_region 6 with (fail)
 have HLD := hide (show LaidF g1 wt (((((((wt.setCell ⟨g1, 0, none⟩ (.slice B0 m0 d0)).setCell ⟨g1, 1, none⟩ (.int .u64 wk3.e)).setCell ⟨g1, 2, none⟩ (.slice Bs ms ds)).setCell ⟨g1, 3, none⟩ (.int .u64 (wk3.l.E : Int))).setCell ⟨g1, 4, none⟩ (.slice (B 0) (m 0) (d 0))).setCell ⟨g1, 5, none⟩ (.slice (B 1) (m 1) (d 1))).setCell ⟨g1, 6, none⟩ (.slice (B 2) (m 2) (d 2))) from ((((((((laid0 g1 _).set 0 (.slice B0 m0 d0)).set 1 (.int .u64 wk3.e)).set 2 (.slice Bs ms ds)).set 3 (.int .u64 (wk3.l.E : Int))).set 4 (.slice (B 0) (m 0) (d 0))).set 5 (.slice (B 1) (m 1) (d 1))).set 6 (.slice (B 2) (m 2) (d 2))))
 have HRN := hide (show RowAt (((((((wt.setCell ⟨g1, 0, none⟩ (.slice B0 m0 d0)).setCell ⟨g1, 1, none⟩ (.int .u64 wk3.e)).setCell ⟨g1, 2, none⟩ (.slice Bs ms ds)).setCell ⟨g1, 3, none⟩ (.int .u64 (wk3.l.E : Int))).setCell ⟨g1, 4, none⟩ (.slice (B 0) (m 0) (d 0))).setCell ⟨g1, 5, none⟩ (.slice (B 1) (m 1) (d 1))).setCell ⟨g1, 6, none⟩ (.slice (B 2) (m 2) (d 2))) g1 34 (recC wk3.e wk3.l.E B0 Bs m0 d0 ms ds B m d) from by have h := (((((((hrw.set 0 (.slice B0 m0 d0)).set 1 (.int .u64 wk3.e)).set 2 (.slice Bs ms ds)).set 3 (.int .u64 (wk3.l.E : Int))).set 4 (.slice (B 0) (m 0) (d 0))).set 5 (.slice (B 1) (m 1) (d 1))).set 6 (.slice (B 2) (m 2) (d 2))); simpa using h)
 have HK := hide (HKt.out.put HLD.out HRN.out HV.out HW5.out)
 have HO := hide (own_laid HOt.out hrw HLD.out)
 have HO5 := hide (own_laid HON.out hrw HLD.out)
 clear hrw yl y0 yf0 y1 yf1 y2 yf2 y3 yf3 y4 yf4 y5 yf5 y6 yf6
 generalize (((((((wt.setCell ⟨g1, 0, none⟩ (.slice B0 m0 d0)).setCell ⟨g1, 1, none⟩ (.int .u64 wk3.e)).setCell ⟨g1, 2, none⟩ (.slice Bs ms ds)).setCell ⟨g1, 3, none⟩ (.int .u64 (wk3.l.E : Int))).setCell ⟨g1, 4, none⟩ (.slice (B 0) (m 0) (d 0))).setCell ⟨g1, 5, none⟩ (.slice (B 1) (m 1) (d 1))).setCell ⟨g1, 6, none⟩ (.slice (B 2) (m 2) (d 2))) = w8 at *
 clear HLD HRN HV HKt HON HRW HRC HW5 HOt
 obtain ⟨C0, Cs0, p0, f0, ps, fs, C, q, f, hrow, hrec⟩ := HK.out.box
 have HRC := hide hrec
 obtain ⟨z0, z1, z2, z3, z4, z5, z6⟩ := row7 hrow
 have zl := hrow.lt
 clear hrow hrec
 go_upto_region 6 with (fail)
 go_wp2_with fail
 with_reducible refine (vWaits HRC.out.val wkF3.fit 1 wkR3n).mono ?_
 rintro e w9 ⟨rfl, hb⟩
 replace HK := hide (HK.out.keep hb)
 replace HO := hide (own_keepB HO.out hb)
 clear hb HRC z0 z1 z2 z3 z4 z5 z6 zl HO4 HO5
 go_upto_region 7 with (fail)
 go_cut [15] from 59 to 66 (fun s15 wx => s15 = .int .i64 0 ∧ WkB W wx g1 g3 wk4 ∧ wx.ownsRow wb.heap.size 41 2 (.slice At 2 ct) 2 (Cs encE [(0, 0), (1, 0)]))
 case first =>
  obtain ⟨C0, Cs0, p0, f0, ps, fs, C, q, f, hrow, hrec⟩ := HK.out.box
  have HRW := hide hrow
  have HRC := hide hrec
  clear hrow hrec
  have HSX := hide (fun (wX : World) (hgX : Below w9.heap.size w9 wX) => show wX.cell? ⟨g1, 0, none⟩ = some (.slice C0 p0 f0) ∧ wX.cell? ⟨g1, 1, none⟩ = some (.int .u64 wk3.e) ∧ wX.cell? ⟨g1, 2, none⟩ = some (.slice Cs0 ps fs) ∧ wX.cell? ⟨g1, 3, none⟩ = some (.int .u64 (wk3.l.E : Int)) ∧ wX.cell? ⟨g1, 4, none⟩ = some (.slice (C 0) (q 0) (f 0)) ∧ wX.cell? ⟨g1, 5, none⟩ = some (.slice (C 1) (q 1) (f 1)) ∧ wX.cell? ⟨g1, 6, none⟩ = some (.slice (C 2) (q 2) (f 2)) ∧ wX.cell? ⟨g3, 0, none⟩ = some (.int .i64 0) ∧ wX.cell? ⟨g3, 1, none⟩ = some (.int .u64 0) ∧ g1 < wX.heap.size ∧ g3 < wX.heap.size from by
   obtain ⟨z0, z1, z2, z3, z4, z5, z6⟩ := row7 HRW.out
   exact ⟨kept hgX z0, kept hgX z1, kept hgX z2, kept hgX z3, kept hgX z4, kept hgX z5, kept hgX z6, kept hgX (row20 HK.out.ent), kept hgX (row21 HK.out.ent), Nat.lt_of_lt_of_le HRW.out.lt hgX.size, Nat.lt_of_lt_of_le HK.out.ent.lt hgX.size⟩)
  have HX := hide ((Below.refl w9.heap.size w9).drew)
  have HOL := hide (told_lt HO.out)
  refine wp_region_Z (fun wX => wX.cell? ⟨g1, 0, none⟩ = some (.slice C0 p0 f0) ∧ wX.cell? ⟨g1, 1, none⟩ = some (.int .u64 wk3.e) ∧ wX.cell? ⟨g1, 2, none⟩ = some (.slice Cs0 ps fs) ∧ wX.cell? ⟨g1, 3, none⟩ = some (.int .u64 (wk3.l.E : Int)) ∧ wX.cell? ⟨g1, 4, none⟩ = some (.slice (C 0) (q 0) (f 0)) ∧ wX.cell? ⟨g1, 5, none⟩ = some (.slice (C 1) (q 1) (f 1)) ∧ wX.cell? ⟨g1, 6, none⟩ = some (.slice (C 2) (q 2) (f 2)) ∧ wX.cell? ⟨g3, 0, none⟩ = some (.int .i64 0) ∧ wX.cell? ⟨g3, 1, none⟩ = some (.int .u64 0) ∧ g1 < wX.heap.size ∧ g3 < wX.heap.size) 9 (by kernel_rfl) (HSX.out _ HX.out) (fun hHeld => ?_)
  clear hHeld
  have hS0 := HSX.out _ HX.out
  generalize w9.drew = wd at *
  (refine wpAnyZ_take (i := 0) (v := ?_) rfl (by kernel_rfl) (by kernel_rfl) (by kernel_rfl) (by kernel_rfl) (by kernel_rfl) (fun _ _ _ h => h) (Or.inl ⟨by rfl, ?_⟩) (by assumption) ?_; rotate_left; (focus (intro w hSw; (try dsimp only at hSw); obtain ⟨kf0, kf1, kf2, kf3, kf4, kf5, kf6, kf7, kf8, kf9, kf10⟩ := hSw; go_simp; first | done | with_reducible rfl)); (try simp only [Act.put, List.getElem_toArray, List.getElem_cons_succ, List.getElem_cons_zero, List.setIfInBounds_toArray, List.set_cons_zero, List.set_cons_succ]))
  (refine wpAnyZ_take (i := 1) (v := ?_) rfl (by kernel_rfl) (by kernel_rfl) (by kernel_rfl) (by kernel_rfl) (by kernel_rfl) (fun _ _ _ h => h) (Or.inl ⟨by rfl, ?_⟩) (by assumption) ?_; rotate_left; (focus (intro w hSw; (try dsimp only at hSw); obtain ⟨kf0, kf1, kf2, kf3, kf4, kf5, kf6, kf7, kf8, kf9, kf10⟩ := hSw; go_simp; first | done | with_reducible rfl)); (try simp only [Act.put, List.getElem_toArray, List.getElem_cons_succ, List.getElem_cons_zero, List.setIfInBounds_toArray, List.set_cons_zero, List.set_cons_succ]))
  refine wpAnyZ_two (i := 2) (j := 8) rfl rfl (by kernel_rfl) (fun K0 hK0 => ?_) (fun K1 hK1 => ?_)
  ·
   go_simp
   with_reducible refine (op_any 2 0 0 0 wd).mono ?_
   rintro e wo0 ⟨rfl, hb⟩
   have hX2 := HX.out.trans (hb.mono HX.out.size)
   replace HX := hide hX2
   clear hX2 hS0 hb
   have hS0 := HSX.out _ HX.out
   refine hK0.out _ _ (fun _ _ => hS0) ?_
   clear hK0 K0
   (try simp only [Act.put, List.getElem_toArray, List.getElem_cons_succ, List.getElem_cons_zero, List.setIfInBounds_toArray, List.set_cons_zero, List.set_cons_succ])
   refine wpAnyZ_two (i := 3) (j := 8) rfl rfl (by kernel_rfl) (fun K2 hK2 => ?_) (fun K3 hK3 => ?_)
   ·
    go_simp
    with_reducible refine (vDo (HRC.out.below HX.out).val wkF3 ⟨2, 0, 0, (0, 0)⟩ (Int.le_refl _) u64z).mono ?_
    rintro e wc1 ⟨⟨v5, rfl, hv⟩, hb⟩
    rw [wkR4] at hv ⊢
    obtain ⟨B0, Bs, m0, d0, ms, ds, B, m, d, rfl, hr⟩ := hv
    obtain ⟨wcall, hwc⟩ : ∃ n, wo0.heap.size = n := ⟨_, rfl⟩
    have HV := hide (show RecF (fun j => wcall ≤ j) wc1 B0 Bs m0 d0 ms ds B m d wk4 from by rw [← hwc]; exact hr)
    have HGB := hide (show g1 < wcall from by rw [← hwc]; exact Nat.lt_of_lt_of_le HRW.out.lt HX.out.size)
    clear hr hwc
    have hX2 := HX.out.trans (hb.mono HX.out.size)
    replace HX := hide hX2
    clear hX2 hS0 hb
    have hS0 := HSX.out _ HX.out
    refine hK2.out _ _ (fun _ _ => hS0) ?_
    clear hK2 K2
    (try simp only [Act.put, List.getElem_toArray, List.getElem_cons_succ, List.getElem_cons_zero, List.setIfInBounds_toArray, List.set_cons_zero, List.set_cons_succ])
    (refine wpAnyZ_takeF (i := 4) (v := ?_) rfl (by kernel_rfl) (by kernel_rfl) (by kernel_rfl) (by kernel_rfl) (fun _ _ _ h => h) (Or.inl ⟨by rfl, ?_⟩) (fun _ => hS0) ?_; rotate_left; (focus (intro w hSw; go_simp; first | done | with_reducible rfl)); (try simp only [Act.put, List.getElem_toArray, List.getElem_cons_succ, List.getElem_cons_zero, List.setIfInBounds_toArray, List.set_cons_zero, List.set_cons_succ]))
    (refine wpAnyZ_takeF (i := 5) (v := ?_) rfl (by kernel_rfl) (by kernel_rfl) (by kernel_rfl) (by kernel_rfl) (fun _ _ _ h => h) (Or.inl ⟨by rfl, ?_⟩) (fun _ => hS0) ?_; rotate_left; (focus (intro w hSw; go_simp; first | done | with_reducible rfl)); (try simp only [Act.put, List.getElem_toArray, List.getElem_cons_succ, List.getElem_cons_zero, List.setIfInBounds_toArray, List.set_cons_zero, List.set_cons_succ]))
    (refine wpAnyZ_takeF (i := 6) (v := ?_) rfl (by kernel_rfl) (by kernel_rfl) (by kernel_rfl) (by kernel_rfl) (fun _ _ _ h => h) (Or.inl ⟨by rfl, ?_⟩) (fun _ => hS0) ?_; rotate_left; (focus (intro w hSw; go_simp; first | done | with_reducible rfl)); (try simp only [Act.put, List.getElem_toArray, List.getElem_cons_succ, List.getElem_cons_zero, List.setIfInBounds_toArray, List.set_cons_zero, List.set_cons_succ]))
    (refine wpAnyZ_takeF (i := 7) (v := ?_) rfl (by kernel_rfl) (by kernel_rfl) (by kernel_rfl) (by kernel_rfl) (fun _ _ _ h => h) (Or.inl ⟨by rfl, ?_⟩) (fun _ => hS0) ?_; rotate_left; (focus (intro w hSw; go_simp; first | done | with_reducible rfl)); (try simp only [Act.put, List.getElem_toArray, List.getElem_cons_succ, List.getElem_cons_zero, List.setIfInBounds_toArray, List.set_cons_zero, List.set_cons_succ]))
    refine wpAnyZ_one (i := 8) rfl (by kernel_rfl) (fun K4 hK4 => ?_)
    go_simp
    have hb : Below wc1.heap.size wc1 (wc1.alloc (.cells #[.int .i64 0, .int .u64 0] 41)) := (Below.refl _ _).alloc (Nat.le_refl _) _
    have hre := RowAt.new wc1 41 #[.int .i64 0, .int .u64 0]
    have HVG := hide ((HV.out.up (G := fun j => wcall ≤ j ∧ j ≠ wc1.heap.size) (fun j (hj : wcall ≤ j) hl => ⟨hj, by omega⟩)).below hb)
    obtain ⟨ge, hge⟩ : ∃ ge, wc1.heap.size = ge := ⟨_, rfl⟩
    have HGE := hide (show w9.heap.size ≤ ge from by rw [← hge]; exact HX.out.size)
    have HGW := hide (show ge < (wc1.alloc (.cells #[.int .i64 0, .int .u64 0] 41)).heap.size from by rw [World.size_alloc]; omega)
    have hX2 := HX.out.trans (hb.mono HX.out.size)
    replace HX := hide hX2
    rw [hge] at hre HVG ⊢
    have HRE := hide hre
    clear hX2 hS0 hre hb hge
    have hS0 := HSX.out _ HX.out
    generalize (wc1.alloc (.cells #[.int .i64 0, .int .u64 0] 41)) = wa2 at *
    refine hK4.out _ _ (fun _ _ => hS0) ?_
    clear hK4 K4
    (try simp only [Act.put, List.getElem_toArray, List.getElem_cons_succ, List.getElem_cons_zero, List.setIfInBounds_toArray, List.set_cons_zero, List.set_cons_succ])
    refine wpAnyZ_one (i := 9) rfl (by kernel_rfl) (fun K5 hK5 => ?_)
    clear hS0
    have hrw := HRW.out.below HX.out
    obtain ⟨y0, y1, y2, y3, y4, y5, y6⟩ := row7 hrw
    have yl := hrw.lt
    have yf0 := hrw.frozen 0
    have yf1 := hrw.frozen 1
    have yf2 := hrw.frozen 2
    have yf3 := hrw.frozen 3
    have yf4 := hrw.frozen 4
    have yf5 := hrw.frozen 5
    have yf6 := hrw.frozen 6
    go_simp
    have HLD := hide (show LaidF g1 wa2 (((((((wa2.setCell ⟨g1, 0, none⟩ (.slice B0 m0 d0)).setCell ⟨g1, 1, none⟩ (.int .u64 wk4.e)).setCell ⟨g1, 2, none⟩ (.slice Bs ms ds)).setCell ⟨g1, 3, none⟩ (.int .u64 (wk4.l.E : Int))).setCell ⟨g1, 4, none⟩ (.slice (B 0) (m 0) (d 0))).setCell ⟨g1, 5, none⟩ (.slice (B 1) (m 1) (d 1))).setCell ⟨g1, 6, none⟩ (.slice (B 2) (m 2) (d 2))) from ((((((((laid0 g1 _).set 0 (.slice B0 m0 d0)).set 1 (.int .u64 wk4.e)).set 2 (.slice Bs ms ds)).set 3 (.int .u64 (wk4.l.E : Int))).set 4 (.slice (B 0) (m 0) (d 0))).set 5 (.slice (B 1) (m 1) (d 1))).set 6 (.slice (B 2) (m 2) (d 2))))
    have HRN := hide (show RowAt (((((((wa2.setCell ⟨g1, 0, none⟩ (.slice B0 m0 d0)).setCell ⟨g1, 1, none⟩ (.int .u64 wk4.e)).setCell ⟨g1, 2, none⟩ (.slice Bs ms ds)).setCell ⟨g1, 3, none⟩ (.int .u64 (wk4.l.E : Int))).setCell ⟨g1, 4, none⟩ (.slice (B 0) (m 0) (d 0))).setCell ⟨g1, 5, none⟩ (.slice (B 1) (m 1) (d 1))).setCell ⟨g1, 6, none⟩ (.slice (B 2) (m 2) (d 2))) g1 34 (recC wk4.e wk4.l.E B0 Bs m0 d0 ms ds B m d) from by have h := (((((((hrw.set 0 (.slice B0 m0 d0)).set 1 (.int .u64 wk4.e)).set 2 (.slice Bs ms ds)).set 3 (.int .u64 (wk4.l.E : Int))).set 4 (.slice (B 0) (m 0) (d 0))).set 5 (.slice (B 1) (m 1) (d 1))).set 6 (.slice (B 2) (m 2) (d 2))); simpa using h)
    have HOw := hide (own_laid (own_keepB HO.out HX.out) hrw HLD.out)
    clear hrw yl y0 yf0 y1 yf1 y2 yf2 y3 yf3 y4 yf4 y5 yf5 y6 yf6
    generalize (((((((wa2.setCell ⟨g1, 0, none⟩ (.slice B0 m0 d0)).setCell ⟨g1, 1, none⟩ (.int .u64 wk4.e)).setCell ⟨g1, 2, none⟩ (.slice Bs ms ds)).setCell ⟨g1, 3, none⟩ (.int .u64 (wk4.l.E : Int))).setCell ⟨g1, 4, none⟩ (.slice (B 0) (m 0) (d 0))).setCell ⟨g1, 5, none⟩ (.slice (B 1) (m 1) (d 1))).setCell ⟨g1, 6, none⟩ (.slice (B 2) (m 2) (d 2))) = wp at *
    refine hK5.out _ _ (fun h _ => absurd rfl h) ?_
    clear hK5 K5
    (try simp only [Act.put, List.getElem_toArray, List.getElem_cons_succ, List.getElem_cons_zero, List.setIfInBounds_toArray, List.set_cons_zero, List.set_cons_succ])
    refine wpAnyZ_one (i := 10) rfl (by kernel_rfl) (fun K6 hK6 => ?_)
    have hre : RowAt wp ge 41 #[.int .i64 0, .int .u64 0] := (HLD.out.block _ (by have := HGE.out; have := HRW.out.lt; omega)).trans HRE.out
    have u0 := row20 hre
    have u1 := row21 hre
    have ul := hre.lt
    have uf0 := hre.frozen 0
    have uf1 := hre.frozen 1
    go_simp
    have HL2 := hide (show LaidF ge wp ((wp.setCell ⟨ge, 0, none⟩ (.int .i64 0)).setCell ⟨ge, 1, none⟩ (.int .u64 0)) from (((laid0 ge _).set 0 (.int .i64 0)).set 1 (.int .u64 0)))
    clear hre u0 u1 ul uf0 uf1
    generalize ((wp.setCell ⟨ge, 0, none⟩ (.int .i64 0)).setCell ⟨ge, 1, none⟩ (.int .u64 0)) = wq at *
    refine hK6.out _ _ (fun _ h => Bool.noConfusion (show true = false from h)) ?_
    clear hK6 K6
    (try simp only [Act.put, List.getElem_toArray, List.getElem_cons_succ, List.getElem_cons_zero, List.setIfInBounds_toArray, List.set_cons_zero, List.set_cons_succ])
    refine wpAnyZ_one (i := 11) rfl (by kernel_rfl) (fun K7 hK7 => ?_)
    go_simp
    refine hK7.out _ _ (fun _ h => Bool.noConfusion (show true = false from h)) ?_
    clear hK7 K7
    (try simp only [Act.put, List.getElem_toArray, List.getElem_cons_succ, List.getElem_cons_zero, List.setIfInBounds_toArray, List.set_cons_zero, List.set_cons_succ])
    refine wpAnyZ_done (by kernel_rfl) ?_ _
    go_wp2_with fail
    go_meet
    case rel => exact ⟨rfl, (HK.out.keep HX.out).put2 HLD.out HL2.out HRN.out HVG.out HGB.out (by have := HGE.out; have := HRW.out.lt; omega) (by have := HGE.out; have := HK.out.ent.lt; omega) (by have := HGE.out; have := HK.out.below.size; omega), own_up HOw.out HL2.out (fun q hq => by have := (HOL.out q hq).2; have := HGE.out; omega)⟩
   ·
    go_simp
    have hb : Below wo0.heap.size wo0 (wo0.alloc (.cells #[.int .i64 0, .int .u64 0] 41)) := (Below.refl _ _).alloc (Nat.le_refl _) _
    have hre := RowAt.new wo0 41 #[.int .i64 0, .int .u64 0]
    obtain ⟨ge, hge⟩ : ∃ ge, wo0.heap.size = ge := ⟨_, rfl⟩
    have HGE := hide (show w9.heap.size ≤ ge from by rw [← hge]; exact HX.out.size)
    have HGW := hide (show ge < (wo0.alloc (.cells #[.int .i64 0, .int .u64 0] 41)).heap.size from by rw [World.size_alloc]; omega)
    have hX2 := HX.out.trans (hb.mono HX.out.size)
    replace HX := hide hX2
    rw [hge] at hre  ⊢
    have HRE := hide hre
    clear hX2 hS0 hre hb hge
    have hS0 := HSX.out _ HX.out
    generalize (wo0.alloc (.cells #[.int .i64 0, .int .u64 0] 41)) = wa1 at *
    refine hK3.out _ _ (fun _ _ => hS0) ?_
    clear hK3 K3
    (try simp only [Act.put, List.getElem_toArray, List.getElem_cons_succ, List.getElem_cons_zero, List.setIfInBounds_toArray, List.set_cons_zero, List.set_cons_succ])
    refine wpAnyZ_one (i := 3) rfl (by kernel_rfl) (fun K8 hK8 => ?_)
    go_simp
    with_reducible refine (vDo (HRC.out.below HX.out).val wkF3 ⟨2, 0, 0, (0, 0)⟩ (Int.le_refl _) u64z).mono ?_
    rintro e wc2 ⟨⟨v5, rfl, hv⟩, hb⟩
    rw [wkR4] at hv ⊢
    obtain ⟨B0, Bs, m0, d0, ms, ds, B, m, d, rfl, hr⟩ := hv
    obtain ⟨wcall, hwc⟩ : ∃ n, wa1.heap.size = n := ⟨_, rfl⟩
    have HV := hide (show RecF (fun j => wcall ≤ j) wc2 B0 Bs m0 d0 ms ds B m d wk4 from by rw [← hwc]; exact hr)
    have HGB := hide (show g1 < wcall from by rw [← hwc]; exact Nat.lt_of_lt_of_le HRW.out.lt HX.out.size)
    have HVG := hide (HV.out.up (G := fun j => wcall ≤ j ∧ j ≠ ge) (fun j (hj : wcall ≤ j) _ => ⟨hj, by have := HGW.out; omega⟩))
    replace HRE := hide (HRE.out.below hb)
    clear hr hwc
    have hX2 := HX.out.trans (hb.mono HX.out.size)
    replace HX := hide hX2
    clear hX2 hS0 hb
    have hS0 := HSX.out _ HX.out
    refine hK8.out _ _ (fun _ _ => hS0) ?_
    clear hK8 K8
    (try simp only [Act.put, List.getElem_toArray, List.getElem_cons_succ, List.getElem_cons_zero, List.setIfInBounds_toArray, List.set_cons_zero, List.set_cons_succ])
    (refine wpAnyZ_takeF (i := 4) (v := ?_) rfl (by kernel_rfl) (by kernel_rfl) (by kernel_rfl) (by kernel_rfl) (fun _ _ _ h => h) (Or.inl ⟨by rfl, ?_⟩) (fun _ => hS0) ?_; rotate_left; (focus (intro w hSw; go_simp; first | done | with_reducible rfl)); (try simp only [Act.put, List.getElem_toArray, List.getElem_cons_succ, List.getElem_cons_zero, List.setIfInBounds_toArray, List.set_cons_zero, List.set_cons_succ]))
    (refine wpAnyZ_takeF (i := 5) (v := ?_) rfl (by kernel_rfl) (by kernel_rfl) (by kernel_rfl) (by kernel_rfl) (fun _ _ _ h => h) (Or.inl ⟨by rfl, ?_⟩) (fun _ => hS0) ?_; rotate_left; (focus (intro w hSw; go_simp; first | done | with_reducible rfl)); (try simp only [Act.put, List.getElem_toArray, List.getElem_cons_succ, List.getElem_cons_zero, List.setIfInBounds_toArray, List.set_cons_zero, List.set_cons_succ]))
    (refine wpAnyZ_takeF (i := 6) (v := ?_) rfl (by kernel_rfl) (by kernel_rfl) (by kernel_rfl) (by kernel_rfl) (fun _ _ _ h => h) (Or.inl ⟨by rfl, ?_⟩) (fun _ => hS0) ?_; rotate_left; (focus (intro w hSw; go_simp; first | done | with_reducible rfl)); (try simp only [Act.put, List.getElem_toArray, List.getElem_cons_succ, List.getElem_cons_zero, List.setIfInBounds_toArray, List.set_cons_zero, List.set_cons_succ]))
    (refine wpAnyZ_takeF (i := 7) (v := ?_) rfl (by kernel_rfl) (by kernel_rfl) (by kernel_rfl) (by kernel_rfl) (fun _ _ _ h => h) (Or.inl ⟨by rfl, ?_⟩) (fun _ => hS0) ?_; rotate_left; (focus (intro w hSw; go_simp; first | done | with_reducible rfl)); (try simp only [Act.put, List.getElem_toArray, List.getElem_cons_succ, List.getElem_cons_zero, List.setIfInBounds_toArray, List.set_cons_zero, List.set_cons_succ]))
    refine wpAnyZ_one (i := 9) rfl (by kernel_rfl) (fun K9 hK9 => ?_)
    clear hS0
    have hrw := HRW.out.below HX.out
    obtain ⟨y0, y1, y2, y3, y4, y5, y6⟩ := row7 hrw
    have yl := hrw.lt
    have yf0 := hrw.frozen 0
    have yf1 := hrw.frozen 1
    have yf2 := hrw.frozen 2
    have yf3 := hrw.frozen 3
    have yf4 := hrw.frozen 4
    have yf5 := hrw.frozen 5
    have yf6 := hrw.frozen 6
    go_simp
    have HLD := hide (show LaidF g1 wc2 (((((((wc2.setCell ⟨g1, 0, none⟩ (.slice B0 m0 d0)).setCell ⟨g1, 1, none⟩ (.int .u64 wk4.e)).setCell ⟨g1, 2, none⟩ (.slice Bs ms ds)).setCell ⟨g1, 3, none⟩ (.int .u64 (wk4.l.E : Int))).setCell ⟨g1, 4, none⟩ (.slice (B 0) (m 0) (d 0))).setCell ⟨g1, 5, none⟩ (.slice (B 1) (m 1) (d 1))).setCell ⟨g1, 6, none⟩ (.slice (B 2) (m 2) (d 2))) from ((((((((laid0 g1 _).set 0 (.slice B0 m0 d0)).set 1 (.int .u64 wk4.e)).set 2 (.slice Bs ms ds)).set 3 (.int .u64 (wk4.l.E : Int))).set 4 (.slice (B 0) (m 0) (d 0))).set 5 (.slice (B 1) (m 1) (d 1))).set 6 (.slice (B 2) (m 2) (d 2))))
    have HRN := hide (show RowAt (((((((wc2.setCell ⟨g1, 0, none⟩ (.slice B0 m0 d0)).setCell ⟨g1, 1, none⟩ (.int .u64 wk4.e)).setCell ⟨g1, 2, none⟩ (.slice Bs ms ds)).setCell ⟨g1, 3, none⟩ (.int .u64 (wk4.l.E : Int))).setCell ⟨g1, 4, none⟩ (.slice (B 0) (m 0) (d 0))).setCell ⟨g1, 5, none⟩ (.slice (B 1) (m 1) (d 1))).setCell ⟨g1, 6, none⟩ (.slice (B 2) (m 2) (d 2))) g1 34 (recC wk4.e wk4.l.E B0 Bs m0 d0 ms ds B m d) from by have h := (((((((hrw.set 0 (.slice B0 m0 d0)).set 1 (.int .u64 wk4.e)).set 2 (.slice Bs ms ds)).set 3 (.int .u64 (wk4.l.E : Int))).set 4 (.slice (B 0) (m 0) (d 0))).set 5 (.slice (B 1) (m 1) (d 1))).set 6 (.slice (B 2) (m 2) (d 2))); simpa using h)
    have HOw := hide (own_laid (own_keepB HO.out HX.out) hrw HLD.out)
    clear hrw yl y0 yf0 y1 yf1 y2 yf2 y3 yf3 y4 yf4 y5 yf5 y6 yf6
    generalize (((((((wc2.setCell ⟨g1, 0, none⟩ (.slice B0 m0 d0)).setCell ⟨g1, 1, none⟩ (.int .u64 wk4.e)).setCell ⟨g1, 2, none⟩ (.slice Bs ms ds)).setCell ⟨g1, 3, none⟩ (.int .u64 (wk4.l.E : Int))).setCell ⟨g1, 4, none⟩ (.slice (B 0) (m 0) (d 0))).setCell ⟨g1, 5, none⟩ (.slice (B 1) (m 1) (d 1))).setCell ⟨g1, 6, none⟩ (.slice (B 2) (m 2) (d 2))) = wp at *
    refine hK9.out _ _ (fun h _ => absurd rfl h) ?_
    clear hK9 K9
    (try simp only [Act.put, List.getElem_toArray, List.getElem_cons_succ, List.getElem_cons_zero, List.setIfInBounds_toArray, List.set_cons_zero, List.set_cons_succ])
    refine wpAnyZ_one (i := 10) rfl (by kernel_rfl) (fun K10 hK10 => ?_)
    have hre : RowAt wp ge 41 #[.int .i64 0, .int .u64 0] := (HLD.out.block _ (by have := HGE.out; have := HRW.out.lt; omega)).trans HRE.out
    have u0 := row20 hre
    have u1 := row21 hre
    have ul := hre.lt
    have uf0 := hre.frozen 0
    have uf1 := hre.frozen 1
    go_simp
    have HL2 := hide (show LaidF ge wp ((wp.setCell ⟨ge, 0, none⟩ (.int .i64 0)).setCell ⟨ge, 1, none⟩ (.int .u64 0)) from (((laid0 ge _).set 0 (.int .i64 0)).set 1 (.int .u64 0)))
    clear hre u0 u1 ul uf0 uf1
    generalize ((wp.setCell ⟨ge, 0, none⟩ (.int .i64 0)).setCell ⟨ge, 1, none⟩ (.int .u64 0)) = wq at *
    refine hK10.out _ _ (fun _ h => Bool.noConfusion (show true = false from h)) ?_
    clear hK10 K10
    (try simp only [Act.put, List.getElem_toArray, List.getElem_cons_succ, List.getElem_cons_zero, List.setIfInBounds_toArray, List.set_cons_zero, List.set_cons_succ])
    refine wpAnyZ_one (i := 11) rfl (by kernel_rfl) (fun K11 hK11 => ?_)
    go_simp
    refine hK11.out _ _ (fun _ h => Bool.noConfusion (show true = false from h)) ?_
    clear hK11 K11
    (try simp only [Act.put, List.getElem_toArray, List.getElem_cons_succ, List.getElem_cons_zero, List.setIfInBounds_toArray, List.set_cons_zero, List.set_cons_succ])
    refine wpAnyZ_done (by kernel_rfl) ?_ _
    go_wp2_with fail
    go_meet
    case rel => exact ⟨rfl, (HK.out.keep HX.out).put2 HLD.out HL2.out HRN.out HVG.out HGB.out (by have := HGE.out; have := HRW.out.lt; omega) (by have := HGE.out; have := HK.out.ent.lt; omega) (by have := HGE.out; have := HK.out.below.size; omega), own_up HOw.out HL2.out (fun q hq => by have := (HOL.out q hq).2; have := HGE.out; omega)⟩
  ·
   go_simp
   have hb : Below wd.heap.size wd (wd.alloc (.cells #[.int .i64 0, .int .u64 0] 41)) := (Below.refl _ _).alloc (Nat.le_refl _) _
   have hre := RowAt.new wd 41 #[.int .i64 0, .int .u64 0]
   obtain ⟨ge, hge⟩ : ∃ ge, wd.heap.size = ge := ⟨_, rfl⟩
   have HGE := hide (show w9.heap.size ≤ ge from by rw [← hge]; exact HX.out.size)
   have HGW := hide (show ge < (wd.alloc (.cells #[.int .i64 0, .int .u64 0] 41)).heap.size from by rw [World.size_alloc]; omega)
   have hX2 := HX.out.trans (hb.mono HX.out.size)
   replace HX := hide hX2
   rw [hge] at hre  ⊢
   have HRE := hide hre
   clear hX2 hS0 hre hb hge
   have hS0 := HSX.out _ HX.out
   generalize (wd.alloc (.cells #[.int .i64 0, .int .u64 0] 41)) = wa0 at *
   refine hK1.out _ _ (fun _ _ => hS0) ?_
   clear hK1 K1
   (try simp only [Act.put, List.getElem_toArray, List.getElem_cons_succ, List.getElem_cons_zero, List.setIfInBounds_toArray, List.set_cons_zero, List.set_cons_succ])
   refine wpAnyZ_one (i := 2) rfl (by kernel_rfl) (fun K12 hK12 => ?_)
   go_simp
   with_reducible refine (op_any 2 0 0 0 wa0).mono ?_
   rintro e wo1 ⟨rfl, hb⟩
   have HGW2 := hide (Nat.lt_of_lt_of_le HGW.out hb.size)
   replace HRE := hide (HRE.out.below hb)
   replace HGW := HGW2
   clear HGW2
   have hX2 := HX.out.trans (hb.mono HX.out.size)
   replace HX := hide hX2
   clear hX2 hS0 hb
   have hS0 := HSX.out _ HX.out
   refine hK12.out _ _ (fun _ _ => hS0) ?_
   clear hK12 K12
   (try simp only [Act.put, List.getElem_toArray, List.getElem_cons_succ, List.getElem_cons_zero, List.setIfInBounds_toArray, List.set_cons_zero, List.set_cons_succ])
   refine wpAnyZ_one (i := 3) rfl (by kernel_rfl) (fun K13 hK13 => ?_)
   go_simp
   with_reducible refine (vDo (HRC.out.below HX.out).val wkF3 ⟨2, 0, 0, (0, 0)⟩ (Int.le_refl _) u64z).mono ?_
   rintro e wc2 ⟨⟨v5, rfl, hv⟩, hb⟩
   rw [wkR4] at hv ⊢
   obtain ⟨B0, Bs, m0, d0, ms, ds, B, m, d, rfl, hr⟩ := hv
   obtain ⟨wcall, hwc⟩ : ∃ n, wo1.heap.size = n := ⟨_, rfl⟩
   have HV := hide (show RecF (fun j => wcall ≤ j) wc2 B0 Bs m0 d0 ms ds B m d wk4 from by rw [← hwc]; exact hr)
   have HGB := hide (show g1 < wcall from by rw [← hwc]; exact Nat.lt_of_lt_of_le HRW.out.lt HX.out.size)
   have HVG := hide (HV.out.up (G := fun j => wcall ≤ j ∧ j ≠ ge) (fun j (hj : wcall ≤ j) _ => ⟨hj, by have := HGW.out; omega⟩))
   replace HRE := hide (HRE.out.below hb)
   clear hr hwc
   have hX2 := HX.out.trans (hb.mono HX.out.size)
   replace HX := hide hX2
   clear hX2 hS0 hb
   have hS0 := HSX.out _ HX.out
   refine hK13.out _ _ (fun _ _ => hS0) ?_
   clear hK13 K13
   (try simp only [Act.put, List.getElem_toArray, List.getElem_cons_succ, List.getElem_cons_zero, List.setIfInBounds_toArray, List.set_cons_zero, List.set_cons_succ])
   (refine wpAnyZ_takeF (i := 4) (v := ?_) rfl (by kernel_rfl) (by kernel_rfl) (by kernel_rfl) (by kernel_rfl) (fun _ _ _ h => h) (Or.inl ⟨by rfl, ?_⟩) (fun _ => hS0) ?_; rotate_left; (focus (intro w hSw; go_simp; first | done | with_reducible rfl)); (try simp only [Act.put, List.getElem_toArray, List.getElem_cons_succ, List.getElem_cons_zero, List.setIfInBounds_toArray, List.set_cons_zero, List.set_cons_succ]))
   (refine wpAnyZ_takeF (i := 5) (v := ?_) rfl (by kernel_rfl) (by kernel_rfl) (by kernel_rfl) (by kernel_rfl) (fun _ _ _ h => h) (Or.inl ⟨by rfl, ?_⟩) (fun _ => hS0) ?_; rotate_left; (focus (intro w hSw; go_simp; first | done | with_reducible rfl)); (try simp only [Act.put, List.getElem_toArray, List.getElem_cons_succ, List.getElem_cons_zero, List.setIfInBounds_toArray, List.set_cons_zero, List.set_cons_succ]))
   (refine wpAnyZ_takeF (i := 6) (v := ?_) rfl (by kernel_rfl) (by kernel_rfl) (by kernel_rfl) (by kernel_rfl) (fun _ _ _ h => h) (Or.inl ⟨by rfl, ?_⟩) (fun _ => hS0) ?_; rotate_left; (focus (intro w hSw; go_simp; first | done | with_reducible rfl)); (try simp only [Act.put, List.getElem_toArray, List.getElem_cons_succ, List.getElem_cons_zero, List.setIfInBounds_toArray, List.set_cons_zero, List.set_cons_succ]))
   (refine wpAnyZ_takeF (i := 7) (v := ?_) rfl (by kernel_rfl) (by kernel_rfl) (by kernel_rfl) (by kernel_rfl) (fun _ _ _ h => h) (Or.inl ⟨by rfl, ?_⟩) (fun _ => hS0) ?_; rotate_left; (focus (intro w hSw; go_simp; first | done | with_reducible rfl)); (try simp only [Act.put, List.getElem_toArray, List.getElem_cons_succ, List.getElem_cons_zero, List.setIfInBounds_toArray, List.set_cons_zero, List.set_cons_succ]))
   refine wpAnyZ_one (i := 9) rfl (by kernel_rfl) (fun K14 hK14 => ?_)
   clear hS0
   have hrw := HRW.out.below HX.out
   obtain ⟨y0, y1, y2, y3, y4, y5, y6⟩ := row7 hrw
   have yl := hrw.lt
   have yf0 := hrw.frozen 0
   have yf1 := hrw.frozen 1
   have yf2 := hrw.frozen 2
   have yf3 := hrw.frozen 3
   have yf4 := hrw.frozen 4
   have yf5 := hrw.frozen 5
   have yf6 := hrw.frozen 6
   go_simp
   have HLD := hide (show LaidF g1 wc2 (((((((wc2.setCell ⟨g1, 0, none⟩ (.slice B0 m0 d0)).setCell ⟨g1, 1, none⟩ (.int .u64 wk4.e)).setCell ⟨g1, 2, none⟩ (.slice Bs ms ds)).setCell ⟨g1, 3, none⟩ (.int .u64 (wk4.l.E : Int))).setCell ⟨g1, 4, none⟩ (.slice (B 0) (m 0) (d 0))).setCell ⟨g1, 5, none⟩ (.slice (B 1) (m 1) (d 1))).setCell ⟨g1, 6, none⟩ (.slice (B 2) (m 2) (d 2))) from ((((((((laid0 g1 _).set 0 (.slice B0 m0 d0)).set 1 (.int .u64 wk4.e)).set 2 (.slice Bs ms ds)).set 3 (.int .u64 (wk4.l.E : Int))).set 4 (.slice (B 0) (m 0) (d 0))).set 5 (.slice (B 1) (m 1) (d 1))).set 6 (.slice (B 2) (m 2) (d 2))))
   have HRN := hide (show RowAt (((((((wc2.setCell ⟨g1, 0, none⟩ (.slice B0 m0 d0)).setCell ⟨g1, 1, none⟩ (.int .u64 wk4.e)).setCell ⟨g1, 2, none⟩ (.slice Bs ms ds)).setCell ⟨g1, 3, none⟩ (.int .u64 (wk4.l.E : Int))).setCell ⟨g1, 4, none⟩ (.slice (B 0) (m 0) (d 0))).setCell ⟨g1, 5, none⟩ (.slice (B 1) (m 1) (d 1))).setCell ⟨g1, 6, none⟩ (.slice (B 2) (m 2) (d 2))) g1 34 (recC wk4.e wk4.l.E B0 Bs m0 d0 ms ds B m d) from by have h := (((((((hrw.set 0 (.slice B0 m0 d0)).set 1 (.int .u64 wk4.e)).set 2 (.slice Bs ms ds)).set 3 (.int .u64 (wk4.l.E : Int))).set 4 (.slice (B 0) (m 0) (d 0))).set 5 (.slice (B 1) (m 1) (d 1))).set 6 (.slice (B 2) (m 2) (d 2))); simpa using h)
   have HOw := hide (own_laid (own_keepB HO.out HX.out) hrw HLD.out)
   clear hrw yl y0 yf0 y1 yf1 y2 yf2 y3 yf3 y4 yf4 y5 yf5 y6 yf6
   generalize (((((((wc2.setCell ⟨g1, 0, none⟩ (.slice B0 m0 d0)).setCell ⟨g1, 1, none⟩ (.int .u64 wk4.e)).setCell ⟨g1, 2, none⟩ (.slice Bs ms ds)).setCell ⟨g1, 3, none⟩ (.int .u64 (wk4.l.E : Int))).setCell ⟨g1, 4, none⟩ (.slice (B 0) (m 0) (d 0))).setCell ⟨g1, 5, none⟩ (.slice (B 1) (m 1) (d 1))).setCell ⟨g1, 6, none⟩ (.slice (B 2) (m 2) (d 2))) = wp at *
   refine hK14.out _ _ (fun h _ => absurd rfl h) ?_
   clear hK14 K14
   (try simp only [Act.put, List.getElem_toArray, List.getElem_cons_succ, List.getElem_cons_zero, List.setIfInBounds_toArray, List.set_cons_zero, List.set_cons_succ])
   refine wpAnyZ_one (i := 10) rfl (by kernel_rfl) (fun K15 hK15 => ?_)
   have hre : RowAt wp ge 41 #[.int .i64 0, .int .u64 0] := (HLD.out.block _ (by have := HGE.out; have := HRW.out.lt; omega)).trans HRE.out
   have u0 := row20 hre
   have u1 := row21 hre
   have ul := hre.lt
   have uf0 := hre.frozen 0
   have uf1 := hre.frozen 1
   go_simp
   have HL2 := hide (show LaidF ge wp ((wp.setCell ⟨ge, 0, none⟩ (.int .i64 0)).setCell ⟨ge, 1, none⟩ (.int .u64 0)) from (((laid0 ge _).set 0 (.int .i64 0)).set 1 (.int .u64 0)))
   clear hre u0 u1 ul uf0 uf1
   generalize ((wp.setCell ⟨ge, 0, none⟩ (.int .i64 0)).setCell ⟨ge, 1, none⟩ (.int .u64 0)) = wq at *
   refine hK15.out _ _ (fun _ h => Bool.noConfusion (show true = false from h)) ?_
   clear hK15 K15
   (try simp only [Act.put, List.getElem_toArray, List.getElem_cons_succ, List.getElem_cons_zero, List.setIfInBounds_toArray, List.set_cons_zero, List.set_cons_succ])
   refine wpAnyZ_one (i := 11) rfl (by kernel_rfl) (fun K16 hK16 => ?_)
   go_simp
   refine hK16.out _ _ (fun _ h => Bool.noConfusion (show true = false from h)) ?_
   clear hK16 K16
   (try simp only [Act.put, List.getElem_toArray, List.getElem_cons_succ, List.getElem_cons_zero, List.setIfInBounds_toArray, List.set_cons_zero, List.set_cons_succ])
   refine wpAnyZ_done (by kernel_rfl) ?_ _
   go_wp2_with fail
   go_meet
   case rel => exact ⟨rfl, (HK.out.keep HX.out).put2 HLD.out HL2.out HRN.out HVG.out HGB.out (by have := HGE.out; have := HRW.out.lt; omega) (by have := HGE.out; have := HK.out.ent.lt; omega) (by have := HGE.out; have := HK.out.below.size; omega), own_up HOw.out HL2.out (fun q hq => by have := (HOL.out q hq).2; have := HGE.out; omega)⟩
 case rest =>
  rename_i K hK
  refine hK _ _ ?_
  clear hK K
  obtain ⟨wx, hwx⟩ : ∃ w, w = wc := ⟨_, rfl⟩
  subst hwx
  obtain ⟨rfl, hk, ho⟩ := hcut
  clear HK HO
  have HK := hide hk
  have HO := hide ho
  clear hk ho
  skip
  obtain ⟨C0, Cs0, p0, f0, ps, fs, C, q, f, hrow, hrec⟩ := HK.out.box
  have HRW := hide hrow
  have HRC := hide hrec
  obtain ⟨z0, z1, z2, z3, z4, z5, z6⟩ := row7 hrow
  have zl := hrow.lt
  clear hrow hrec
  go_upto_region 8 with (fail)
  go_wp2_with fail
  with_reducible refine (vTry HRC.out.val wkF4).mono ?_
  rintro e wt ⟨⟨v5, A8, nt, k8, rfl, hv, ho, hn⟩, hb⟩
  rw [wkR5] at hv ho hn ⊢
  obtain ⟨B0, Bs, m0, d0, ms, ds, B, m, d, rfl, hr⟩ := hv
  have HV := hide (show RecF (From wx.heap.size) wt B0 Bs m0 d0 ms ds B m d wk5 from hr)
  have hn : 1 = nt := hn
  subst hn
  have HON := hide (show wt.ownsRow wx.heap.size 41 2 (.slice A8 1 k8) 1 (Cs encE [(0, 0)]) from ho)
  have HW5 := hide (show g1 < wx.heap.size from HRW.out.lt)
  have HKt := hide (HK.out.keep hb)
  have HOt := hide (own_keepB HO.out hb)
  clear HK HO hr ho z0 z1 z2 z3 z4 z5 z6 zl
  have hrw := HRW.out.below hb
  clear hb
  obtain ⟨y0, y1, y2, y3, y4, y5, y6⟩ := row7 hrw
  have yl := hrw.lt
  have yf0 := hrw.frozen 0
  have yf1 := hrw.frozen 1
  have yf2 := hrw.frozen 2
  have yf3 := hrw.frozen 3
  have yf4 := hrw.frozen 4
  have yf5 := hrw.frozen 5
  have yf6 := hrw.frozen 6
  go_upto_region 9 with (fail)
  have HLD := hide (show LaidF g1 wt (((((((wt.setCell ⟨g1, 0, none⟩ (.slice B0 m0 d0)).setCell ⟨g1, 1, none⟩ (.int .u64 wk5.e)).setCell ⟨g1, 2, none⟩ (.slice Bs ms ds)).setCell ⟨g1, 3, none⟩ (.int .u64 (wk5.l.E : Int))).setCell ⟨g1, 4, none⟩ (.slice (B 0) (m 0) (d 0))).setCell ⟨g1, 5, none⟩ (.slice (B 1) (m 1) (d 1))).setCell ⟨g1, 6, none⟩ (.slice (B 2) (m 2) (d 2))) from ((((((((laid0 g1 _).set 0 (.slice B0 m0 d0)).set 1 (.int .u64 wk5.e)).set 2 (.slice Bs ms ds)).set 3 (.int .u64 (wk5.l.E : Int))).set 4 (.slice (B 0) (m 0) (d 0))).set 5 (.slice (B 1) (m 1) (d 1))).set 6 (.slice (B 2) (m 2) (d 2))))
  have HRN := hide (show RowAt (((((((wt.setCell ⟨g1, 0, none⟩ (.slice B0 m0 d0)).setCell ⟨g1, 1, none⟩ (.int .u64 wk5.e)).setCell ⟨g1, 2, none⟩ (.slice Bs ms ds)).setCell ⟨g1, 3, none⟩ (.int .u64 (wk5.l.E : Int))).setCell ⟨g1, 4, none⟩ (.slice (B 0) (m 0) (d 0))).setCell ⟨g1, 5, none⟩ (.slice (B 1) (m 1) (d 1))).setCell ⟨g1, 6, none⟩ (.slice (B 2) (m 2) (d 2))) g1 34 (recC wk5.e wk5.l.E B0 Bs m0 d0 ms ds B m d) from by have h := (((((((hrw.set 0 (.slice B0 m0 d0)).set 1 (.int .u64 wk5.e)).set 2 (.slice Bs ms ds)).set 3 (.int .u64 (wk5.l.E : Int))).set 4 (.slice (B 0) (m 0) (d 0))).set 5 (.slice (B 1) (m 1) (d 1))).set 6 (.slice (B 2) (m 2) (d 2))); simpa using h)
  have HK := hide (HKt.out.put HLD.out HRN.out HV.out HW5.out)
  have HO := hide (own_laid HOt.out hrw HLD.out)
  have HO8 := hide (own_laid HON.out hrw HLD.out)
  clear hrw yl y0 yf0 y1 yf1 y2 yf2 y3 yf3 y4 yf4 y5 yf5 y6 yf6
  generalize (((((((wt.setCell ⟨g1, 0, none⟩ (.slice B0 m0 d0)).setCell ⟨g1, 1, none⟩ (.int .u64 wk5.e)).setCell ⟨g1, 2, none⟩ (.slice Bs ms ds)).setCell ⟨g1, 3, none⟩ (.int .u64 (wk5.l.E : Int))).setCell ⟨g1, 4, none⟩ (.slice (B 0) (m 0) (d 0))).setCell ⟨g1, 5, none⟩ (.slice (B 1) (m 1) (d 1))).setCell ⟨g1, 6, none⟩ (.slice (B 2) (m 2) (d 2))) = wy at *
  clear HLD HRN HV HKt HON HRW HRC HW5 HOt
  go_cut [21] from 74 to 81 (fun s21 wx => s21 = .int .i64 4 ∧ Below wy.heap.size wy wx)
  case first =>
   obtain ⟨C0, Cs0, p0, f0, ps, fs, C, q, f, hrow, hrec⟩ := HK.out.box
   have HRW := hide hrow
   have HRC := hide hrec
   clear hrow hrec
   have HSX := hide (fun (wX : World) (hgX : Below wy.heap.size wy wX) => show wX.cell? ⟨g1, 0, none⟩ = some (.slice C0 p0 f0) ∧ wX.cell? ⟨g1, 1, none⟩ = some (.int .u64 wk5.e) ∧ wX.cell? ⟨g1, 2, none⟩ = some (.slice Cs0 ps fs) ∧ wX.cell? ⟨g1, 3, none⟩ = some (.int .u64 (wk5.l.E : Int)) ∧ wX.cell? ⟨g1, 4, none⟩ = some (.slice (C 0) (q 0) (f 0)) ∧ wX.cell? ⟨g1, 5, none⟩ = some (.slice (C 1) (q 1) (f 1)) ∧ wX.cell? ⟨g1, 6, none⟩ = some (.slice (C 2) (q 2) (f 2)) ∧ wX.cell? ⟨g3, 0, none⟩ = some (.int .i64 0) ∧ wX.cell? ⟨g3, 1, none⟩ = some (.int .u64 0) ∧ g1 < wX.heap.size ∧ g3 < wX.heap.size from by
    obtain ⟨z0, z1, z2, z3, z4, z5, z6⟩ := row7 HRW.out
    exact ⟨kept hgX z0, kept hgX z1, kept hgX z2, kept hgX z3, kept hgX z4, kept hgX z5, kept hgX z6, kept hgX (row20 HK.out.ent), kept hgX (row21 HK.out.ent), Nat.lt_of_lt_of_le HRW.out.lt hgX.size, Nat.lt_of_lt_of_le HK.out.ent.lt hgX.size⟩)
   have HX := hide ((Below.refl wy.heap.size wy).drew)
   refine wp_region_held_drew (S := fun wX => wX.cell? ⟨g1, 0, none⟩ = some (.slice C0 p0 f0) ∧ wX.cell? ⟨g1, 1, none⟩ = some (.int .u64 wk5.e) ∧ wX.cell? ⟨g1, 2, none⟩ = some (.slice Cs0 ps fs) ∧ wX.cell? ⟨g1, 3, none⟩ = some (.int .u64 (wk5.l.E : Int)) ∧ wX.cell? ⟨g1, 4, none⟩ = some (.slice (C 0) (q 0) (f 0)) ∧ wX.cell? ⟨g1, 5, none⟩ = some (.slice (C 1) (q 1) (f 1)) ∧ wX.cell? ⟨g1, 6, none⟩ = some (.slice (C 2) (q 2) (f 2)) ∧ wX.cell? ⟨g3, 0, none⟩ = some (.int .i64 0) ∧ wX.cell? ⟨g3, 1, none⟩ = some (.int .u64 0) ∧ g1 < wX.heap.size ∧ g3 < wX.heap.size) (by kernel_rfl) (HSX.out _ HX.out) (fun hHeld => ?_)
   clear hHeld
   have hS0 := HSX.out _ HX.out
   generalize wy.drew = wd at *
   (refine wpAnyH_take (i := 0) (v := ?_) rfl (by kernel_rfl) (by kernel_rfl) (by kernel_rfl) (fun _ _ _ h => h) (Or.inl ⟨by rfl, ?_⟩) (by assumption) ?_; rotate_left; (focus (intro w hSw; (try dsimp only at hSw); obtain ⟨kf0, kf1, kf2, kf3, kf4, kf5, kf6, kf7, kf8, kf9, kf10⟩ := hSw; go_simp; first | done | with_reducible rfl)); (try simp only [Act.put, List.getElem_toArray, List.getElem_cons_succ, List.getElem_cons_zero, List.setIfInBounds_toArray, List.set_cons_zero, List.set_cons_succ]))
   (refine wpAnyH_take (i := 1) (v := ?_) rfl (by kernel_rfl) (by kernel_rfl) (by kernel_rfl) (fun _ _ _ h => h) (Or.inl ⟨by rfl, ?_⟩) (by assumption) ?_; rotate_left; (focus (intro w hSw; (try dsimp only at hSw); obtain ⟨kf0, kf1, kf2, kf3, kf4, kf5, kf6, kf7, kf8, kf9, kf10⟩ := hSw; go_simp; first | done | with_reducible rfl)); (try simp only [Act.put, List.getElem_toArray, List.getElem_cons_succ, List.getElem_cons_zero, List.setIfInBounds_toArray, List.set_cons_zero, List.set_cons_succ]))
   refine wpAnyH_ready (rs := [2, 8, 9]) (by kernel_rfl) (by simp) ?_
   refine (AllReadyH.cons rfl (fun K0 hK0 => ?_) (AllReadyH.cons rfl (fun K1 hK1 => ?_) (AllReadyH.cons rfl (fun K2 hK2 => ?_) AllReadyH.nil)))
   ·
    go_simp
    with_reducible refine (op_any 6 0 0 0 wd).mono ?_
    rintro e wo0 ⟨rfl, hb⟩
    have hX2 := HX.out.trans (hb.mono HX.out.size)
    replace HX := hide hX2
    clear hX2 hS0 hb
    have hS0 := HSX.out _ HX.out
    refine hK0.out _ _ (hS0) (fun _ => ?_)
    clear hK0 K0
    (try simp only [Act.put, List.getElem_toArray, List.getElem_cons_succ, List.getElem_cons_zero, List.setIfInBounds_toArray, List.set_cons_zero, List.set_cons_succ])
    refine wpAnyH_ready (rs := [3, 8, 9]) (by kernel_rfl) (by simp) ?_
    refine (AllReadyH.cons rfl (fun K3 hK3 => ?_) (AllReadyH.cons rfl (fun K4 hK4 => ?_) (AllReadyH.cons rfl (fun K5 hK5 => ?_) AllReadyH.nil)))
    ·
     go_simp
     with_reducible refine (vDo (HRC.out.below HX.out).val wkF5 ⟨6, 0, 0, (0, 0)⟩ (Int.le_refl _) u64z).mono ?_
     rintro e wo1 ⟨⟨v5, rfl, hv⟩, hb⟩
     rw [wkR6] at hv ⊢
     obtain ⟨B0, Bs, m0, d0, ms, ds, B, m, d, rfl, hr⟩ := hv
     clear hr
     have hX2 := HX.out.trans (hb.mono HX.out.size)
     replace HX := hide hX2
     clear hX2 hS0 hb
     have hS0 := HSX.out _ HX.out
     refine hK3.out _ _ (hS0) (fun _ => ?_)
     clear hK3 K3
     (try simp only [Act.put, List.getElem_toArray, List.getElem_cons_succ, List.getElem_cons_zero, List.setIfInBounds_toArray, List.set_cons_zero, List.set_cons_succ])
     (refine wpAnyH_take (i := 4) (v := ?_) rfl (by kernel_rfl) (by kernel_rfl) (by kernel_rfl) (fun _ _ _ h => h) (Or.inl ⟨by rfl, ?_⟩) (by assumption) ?_; rotate_left; (focus (intro w hSw; (try dsimp only at hSw); obtain ⟨kf0, kf1, kf2, kf3, kf4, kf5, kf6, kf7, kf8, kf9, kf10⟩ := hSw; go_simp; first | done | with_reducible rfl)); (try simp only [Act.put, List.getElem_toArray, List.getElem_cons_succ, List.getElem_cons_zero, List.setIfInBounds_toArray, List.set_cons_zero, List.set_cons_succ]))
     (refine wpAnyH_take (i := 5) (v := ?_) rfl (by kernel_rfl) (by kernel_rfl) (by kernel_rfl) (fun _ _ _ h => h) (Or.inl ⟨by rfl, ?_⟩) (by assumption) ?_; rotate_left; (focus (intro w hSw; (try dsimp only at hSw); obtain ⟨kf0, kf1, kf2, kf3, kf4, kf5, kf6, kf7, kf8, kf9, kf10⟩ := hSw; go_simp; first | done | with_reducible rfl)); (try simp only [Act.put, List.getElem_toArray, List.getElem_cons_succ, List.getElem_cons_zero, List.setIfInBounds_toArray, List.set_cons_zero, List.set_cons_succ]))
     (refine wpAnyH_take (i := 6) (v := ?_) rfl (by kernel_rfl) (by kernel_rfl) (by kernel_rfl) (fun _ _ _ h => h) (Or.inl ⟨by rfl, ?_⟩) (by assumption) ?_; rotate_left; (focus (intro w hSw; (try dsimp only at hSw); obtain ⟨kf0, kf1, kf2, kf3, kf4, kf5, kf6, kf7, kf8, kf9, kf10⟩ := hSw; go_simp; first | done | with_reducible rfl)); (try simp only [Act.put, List.getElem_toArray, List.getElem_cons_succ, List.getElem_cons_zero, List.setIfInBounds_toArray, List.set_cons_zero, List.set_cons_succ]))
     (refine wpAnyH_take (i := 7) (v := ?_) rfl (by kernel_rfl) (by kernel_rfl) (by kernel_rfl) (fun _ _ _ h => h) (Or.inl ⟨by rfl, ?_⟩) (by assumption) ?_; rotate_left; (focus (intro w hSw; (try dsimp only at hSw); obtain ⟨kf0, kf1, kf2, kf3, kf4, kf5, kf6, kf7, kf8, kf9, kf10⟩ := hSw; go_simp; first | done | with_reducible rfl)); (try simp only [Act.put, List.getElem_toArray, List.getElem_cons_succ, List.getElem_cons_zero, List.setIfInBounds_toArray, List.set_cons_zero, List.set_cons_succ]))
     refine wpAnyH_ready (rs := [8, 9]) (by kernel_rfl) (by simp) ?_
     refine (AllReadyH.cons rfl (fun K6 hK6 => ?_) (AllReadyH.cons rfl (fun K7 hK7 => ?_) AllReadyH.nil))
     ·
      go_simp
      have hb : Below wo1.heap.size wo1 (wo1.alloc (.cells #[.slice none 0 0, .int .u64 0, .slice none 0 0, .int .u64 0, .slice none 0 0, .slice none 0 0, .slice none 0 0] 34)) := (Below.refl _ _).alloc (Nat.le_refl _) _
      have hre := RowAt.new wo1 34 #[.slice none 0 0, .int .u64 0, .slice none 0 0, .int .u64 0, .slice none 0 0, .slice none 0 0, .slice none 0 0]
      obtain ⟨ga, hge⟩ : ∃ g, wo1.heap.size = g := ⟨_, rfl⟩
      have HGA := hide (show wy.heap.size ≤ ga from by rw [← hge]; exact HX.out.size)
      have hX2 := HX.out.trans (hb.mono HX.out.size)
      replace HX := hide hX2
      rw [hge] at hre ⊢
      have HRA := hide hre
      clear hX2 hS0 hre hb hge
      have hS0 := HSX.out _ HX.out
      generalize (wo1.alloc (.cells #[.slice none 0 0, .int .u64 0, .slice none 0 0, .int .u64 0, .slice none 0 0, .slice none 0 0, .slice none 0 0] 34)) = wa2 at *
      refine hK6.out _ _ (hS0) (fun _ => ?_)
      clear hK6 K6
      (try simp only [Act.put, List.getElem_toArray, List.getElem_cons_succ, List.getElem_cons_zero, List.setIfInBounds_toArray, List.set_cons_zero, List.set_cons_succ])
      refine wpAnyH_ready (rs := [9]) (by kernel_rfl) (by simp) ?_
      refine (AllReadyH.cons rfl (fun K8 hK8 => ?_) AllReadyH.nil)
      go_simp
      have hb : Below wa2.heap.size wa2 (wa2.alloc (.cells #[.int .i64 0, .int .u64 0] 41)) := (Below.refl _ _).alloc (Nat.le_refl _) _
      have hre := RowAt.new wa2 41 #[.int .i64 0, .int .u64 0]
      replace HRA := hide (HRA.out.below hb)
      obtain ⟨gb, hge⟩ : ∃ g, wa2.heap.size = g := ⟨_, rfl⟩
      have HGB := hide (show wy.heap.size ≤ gb from by rw [← hge]; exact HX.out.size)
      have hX2 := HX.out.trans (hb.mono HX.out.size)
      replace HX := hide hX2
      rw [hge] at hre ⊢
      have HRB := hide hre
      clear hX2 hS0 hre hb hge
      have hS0 := HSX.out _ HX.out
      generalize (wa2.alloc (.cells #[.int .i64 0, .int .u64 0] 41)) = wa3 at *
      refine hK8.out _ _ (hS0) (fun _ => ?_)
      clear hK8 K8
      (try simp only [Act.put, List.getElem_toArray, List.getElem_cons_succ, List.getElem_cons_zero, List.setIfInBounds_toArray, List.set_cons_zero, List.set_cons_succ])
      refine wpAnyH_ready (rs := [10]) (by kernel_rfl) (by simp) ?_
      refine (AllReadyH.cons rfl (fun K9 hK9 => ?_) AllReadyH.nil)
      clear hS0
      have hra := HRA.out
      obtain ⟨y0, y1, y2, y3, y4, y5, y6⟩ := row7 hra
      have yl := hra.lt
      have yf0 := hra.frozen 0
      have yf1 := hra.frozen 1
      have yf2 := hra.frozen 2
      have yf3 := hra.frozen 3
      have yf4 := hra.frozen 4
      have yf5 := hra.frozen 5
      have yf6 := hra.frozen 6
      go_simp
      have HLD := hide (show LaidF ga wa3 (((((((wa3.setCell ⟨ga, 0, none⟩ (.slice B0 m0 d0)).setCell ⟨ga, 1, none⟩ (.int .u64 rec0.e)).setCell ⟨ga, 2, none⟩ (.slice Bs ms ds)).setCell ⟨ga, 3, none⟩ (.int .u64 (rec0.l.E : Int))).setCell ⟨ga, 4, none⟩ (.slice (B 0) (m 0) (d 0))).setCell ⟨ga, 5, none⟩ (.slice (B 1) (m 1) (d 1))).setCell ⟨ga, 6, none⟩ (.slice (B 2) (m 2) (d 2))) from ((((((((laid0 ga _).set 0 (.slice B0 m0 d0)).set 1 (.int .u64 rec0.e)).set 2 (.slice Bs ms ds)).set 3 (.int .u64 (rec0.l.E : Int))).set 4 (.slice (B 0) (m 0) (d 0))).set 5 (.slice (B 1) (m 1) (d 1))).set 6 (.slice (B 2) (m 2) (d 2))))
      have HX1 := hide (HX.out.trans (HLD.out.below.mono HGA.out))
      have HRB2 := hide (show RowAt _ gb 41 #[.int .i64 0, .int .u64 0] from (HLD.out.block gb (fun e => by have h1 := HRB.out; rw [e] at h1; exact absurd (row_typ h1 hra) (by decide))).trans HRB.out)
      clear hra yl y0 yf0 y1 yf1 y2 yf2 y3 yf3 y4 yf4 y5 yf5 y6 yf6
      generalize (((((((wa3.setCell ⟨ga, 0, none⟩ (.slice B0 m0 d0)).setCell ⟨ga, 1, none⟩ (.int .u64 rec0.e)).setCell ⟨ga, 2, none⟩ (.slice Bs ms ds)).setCell ⟨ga, 3, none⟩ (.int .u64 (rec0.l.E : Int))).setCell ⟨ga, 4, none⟩ (.slice (B 0) (m 0) (d 0))).setCell ⟨ga, 5, none⟩ (.slice (B 1) (m 1) (d 1))).setCell ⟨ga, 6, none⟩ (.slice (B 2) (m 2) (d 2))) = wp at *
      refine hK9.out _ _ (HSX.out _ HX1.out) (fun _ => ?_)
      clear hK9 K9
      (try simp only [Act.put, List.getElem_toArray, List.getElem_cons_succ, List.getElem_cons_zero, List.setIfInBounds_toArray, List.set_cons_zero, List.set_cons_succ])
      refine wpAnyH_ready (rs := [11]) (by kernel_rfl) (by simp) ?_
      refine (AllReadyH.cons rfl (fun K10 hK10 => ?_) AllReadyH.nil)
      have u0 := row20 HRB2.out
      have u1 := row21 HRB2.out
      have ul := HRB2.out.lt
      have uf0 := HRB2.out.frozen 0
      have uf1 := HRB2.out.frozen 1
      go_simp
      have HL2 := hide (show LaidF gb wp ((wp.setCell ⟨gb, 0, none⟩ (.int .i64 0)).setCell ⟨gb, 1, none⟩ (.int .u64 0)) from (((laid0 gb _).set 0 (.int .i64 0)).set 1 (.int .u64 0)))
      have HX3 := hide (HX1.out.trans (HL2.out.below.mono HGB.out))
      clear u0 u1 ul uf0 uf1
      generalize ((wp.setCell ⟨gb, 0, none⟩ (.int .i64 0)).setCell ⟨gb, 1, none⟩ (.int .u64 0)) = wq at *
      refine hK10.out _ _ (HSX.out _ HX3.out) (fun _ => ?_)
      clear hK10 K10
      (try simp only [Act.put, List.getElem_toArray, List.getElem_cons_succ, List.getElem_cons_zero, List.setIfInBounds_toArray, List.set_cons_zero, List.set_cons_succ])
      refine wpAnyH_ready (rs := [12]) (by kernel_rfl) (by simp) ?_
      refine (AllReadyH.cons rfl (fun K11 hK11 => ?_) AllReadyH.nil)
      go_simp
      refine hK11.out _ _ (HSX.out _ HX3.out) (fun _ => ?_)
      clear hK11 K11
      (try simp only [Act.put, List.getElem_toArray, List.getElem_cons_succ, List.getElem_cons_zero, List.setIfInBounds_toArray, List.set_cons_zero, List.set_cons_succ])
      refine wpAnyH_done (by kernel_rfl) ?_ _
      go_wp2_with fail
      go_meet
      case rel => exact ⟨rfl, HX3.out⟩
     ·
      go_simp
      have hb : Below wo1.heap.size wo1 (wo1.alloc (.cells #[.int .i64 0, .int .u64 0] 41)) := (Below.refl _ _).alloc (Nat.le_refl _) _
      have hre := RowAt.new wo1 41 #[.int .i64 0, .int .u64 0]
      obtain ⟨gb, hge⟩ : ∃ g, wo1.heap.size = g := ⟨_, rfl⟩
      have HGB := hide (show wy.heap.size ≤ gb from by rw [← hge]; exact HX.out.size)
      have hX2 := HX.out.trans (hb.mono HX.out.size)
      replace HX := hide hX2
      rw [hge] at hre ⊢
      have HRB := hide hre
      clear hX2 hS0 hre hb hge
      have hS0 := HSX.out _ HX.out
      generalize (wo1.alloc (.cells #[.int .i64 0, .int .u64 0] 41)) = wa2 at *
      refine hK7.out _ _ (hS0) (fun _ => ?_)
      clear hK7 K7
      (try simp only [Act.put, List.getElem_toArray, List.getElem_cons_succ, List.getElem_cons_zero, List.setIfInBounds_toArray, List.set_cons_zero, List.set_cons_succ])
      refine wpAnyH_ready (rs := [8]) (by kernel_rfl) (by simp) ?_
      refine (AllReadyH.cons rfl (fun K12 hK12 => ?_) AllReadyH.nil)
      go_simp
      have hb : Below wa2.heap.size wa2 (wa2.alloc (.cells #[.slice none 0 0, .int .u64 0, .slice none 0 0, .int .u64 0, .slice none 0 0, .slice none 0 0, .slice none 0 0] 34)) := (Below.refl _ _).alloc (Nat.le_refl _) _
      have hre := RowAt.new wa2 34 #[.slice none 0 0, .int .u64 0, .slice none 0 0, .int .u64 0, .slice none 0 0, .slice none 0 0, .slice none 0 0]
      replace HRB := hide (HRB.out.below hb)
      obtain ⟨ga, hge⟩ : ∃ g, wa2.heap.size = g := ⟨_, rfl⟩
      have HGA := hide (show wy.heap.size ≤ ga from by rw [← hge]; exact HX.out.size)
      have hX2 := HX.out.trans (hb.mono HX.out.size)
      replace HX := hide hX2
      rw [hge] at hre ⊢
      have HRA := hide hre
      clear hX2 hS0 hre hb hge
      have hS0 := HSX.out _ HX.out
      generalize (wa2.alloc (.cells #[.slice none 0 0, .int .u64 0, .slice none 0 0, .int .u64 0, .slice none 0 0, .slice none 0 0, .slice none 0 0] 34)) = wa3 at *
      refine hK12.out _ _ (hS0) (fun _ => ?_)
      clear hK12 K12
      (try simp only [Act.put, List.getElem_toArray, List.getElem_cons_succ, List.getElem_cons_zero, List.setIfInBounds_toArray, List.set_cons_zero, List.set_cons_succ])
      refine wpAnyH_ready (rs := [10]) (by kernel_rfl) (by simp) ?_
      refine (AllReadyH.cons rfl (fun K13 hK13 => ?_) AllReadyH.nil)
      clear hS0
      have hra := HRA.out
      obtain ⟨y0, y1, y2, y3, y4, y5, y6⟩ := row7 hra
      have yl := hra.lt
      have yf0 := hra.frozen 0
      have yf1 := hra.frozen 1
      have yf2 := hra.frozen 2
      have yf3 := hra.frozen 3
      have yf4 := hra.frozen 4
      have yf5 := hra.frozen 5
      have yf6 := hra.frozen 6
      go_simp
      have HLD := hide (show LaidF ga wa3 (((((((wa3.setCell ⟨ga, 0, none⟩ (.slice B0 m0 d0)).setCell ⟨ga, 1, none⟩ (.int .u64 rec0.e)).setCell ⟨ga, 2, none⟩ (.slice Bs ms ds)).setCell ⟨ga, 3, none⟩ (.int .u64 (rec0.l.E : Int))).setCell ⟨ga, 4, none⟩ (.slice (B 0) (m 0) (d 0))).setCell ⟨ga, 5, none⟩ (.slice (B 1) (m 1) (d 1))).setCell ⟨ga, 6, none⟩ (.slice (B 2) (m 2) (d 2))) from ((((((((laid0 ga _).set 0 (.slice B0 m0 d0)).set 1 (.int .u64 rec0.e)).set 2 (.slice Bs ms ds)).set 3 (.int .u64 (rec0.l.E : Int))).set 4 (.slice (B 0) (m 0) (d 0))).set 5 (.slice (B 1) (m 1) (d 1))).set 6 (.slice (B 2) (m 2) (d 2))))
      have HX1 := hide (HX.out.trans (HLD.out.below.mono HGA.out))
      have HRB2 := hide (show RowAt _ gb 41 #[.int .i64 0, .int .u64 0] from (HLD.out.block gb (fun e => by have h1 := HRB.out; rw [e] at h1; exact absurd (row_typ h1 hra) (by decide))).trans HRB.out)
      clear hra yl y0 yf0 y1 yf1 y2 yf2 y3 yf3 y4 yf4 y5 yf5 y6 yf6
      generalize (((((((wa3.setCell ⟨ga, 0, none⟩ (.slice B0 m0 d0)).setCell ⟨ga, 1, none⟩ (.int .u64 rec0.e)).setCell ⟨ga, 2, none⟩ (.slice Bs ms ds)).setCell ⟨ga, 3, none⟩ (.int .u64 (rec0.l.E : Int))).setCell ⟨ga, 4, none⟩ (.slice (B 0) (m 0) (d 0))).setCell ⟨ga, 5, none⟩ (.slice (B 1) (m 1) (d 1))).setCell ⟨ga, 6, none⟩ (.slice (B 2) (m 2) (d 2))) = wp at *
      refine hK13.out _ _ (HSX.out _ HX1.out) (fun _ => ?_)
      clear hK13 K13
      (try simp only [Act.put, List.getElem_toArray, List.getElem_cons_succ, List.getElem_cons_zero, List.setIfInBounds_toArray, List.set_cons_zero, List.set_cons_succ])
      refine wpAnyH_ready (rs := [11]) (by kernel_rfl) (by simp) ?_
      refine (AllReadyH.cons rfl (fun K14 hK14 => ?_) AllReadyH.nil)
      have u0 := row20 HRB2.out
      have u1 := row21 HRB2.out
      have ul := HRB2.out.lt
      have uf0 := HRB2.out.frozen 0
      have uf1 := HRB2.out.frozen 1
      go_simp
      have HL2 := hide (show LaidF gb wp ((wp.setCell ⟨gb, 0, none⟩ (.int .i64 0)).setCell ⟨gb, 1, none⟩ (.int .u64 0)) from (((laid0 gb _).set 0 (.int .i64 0)).set 1 (.int .u64 0)))
      have HX3 := hide (HX1.out.trans (HL2.out.below.mono HGB.out))
      clear u0 u1 ul uf0 uf1
      generalize ((wp.setCell ⟨gb, 0, none⟩ (.int .i64 0)).setCell ⟨gb, 1, none⟩ (.int .u64 0)) = wq at *
      refine hK14.out _ _ (HSX.out _ HX3.out) (fun _ => ?_)
      clear hK14 K14
      (try simp only [Act.put, List.getElem_toArray, List.getElem_cons_succ, List.getElem_cons_zero, List.setIfInBounds_toArray, List.set_cons_zero, List.set_cons_succ])
      refine wpAnyH_ready (rs := [12]) (by kernel_rfl) (by simp) ?_
      refine (AllReadyH.cons rfl (fun K15 hK15 => ?_) AllReadyH.nil)
      go_simp
      refine hK15.out _ _ (HSX.out _ HX3.out) (fun _ => ?_)
      clear hK15 K15
      (try simp only [Act.put, List.getElem_toArray, List.getElem_cons_succ, List.getElem_cons_zero, List.setIfInBounds_toArray, List.set_cons_zero, List.set_cons_succ])
      refine wpAnyH_done (by kernel_rfl) ?_ _
      go_wp2_with fail
      go_meet
      case rel => exact ⟨rfl, HX3.out⟩
    ·
     go_simp
     have hb : Below wo0.heap.size wo0 (wo0.alloc (.cells #[.slice none 0 0, .int .u64 0, .slice none 0 0, .int .u64 0, .slice none 0 0, .slice none 0 0, .slice none 0 0] 34)) := (Below.refl _ _).alloc (Nat.le_refl _) _
     have hre := RowAt.new wo0 34 #[.slice none 0 0, .int .u64 0, .slice none 0 0, .int .u64 0, .slice none 0 0, .slice none 0 0, .slice none 0 0]
     obtain ⟨ga, hge⟩ : ∃ g, wo0.heap.size = g := ⟨_, rfl⟩
     have HGA := hide (show wy.heap.size ≤ ga from by rw [← hge]; exact HX.out.size)
     have hX2 := HX.out.trans (hb.mono HX.out.size)
     replace HX := hide hX2
     rw [hge] at hre ⊢
     have HRA := hide hre
     clear hX2 hS0 hre hb hge
     have hS0 := HSX.out _ HX.out
     generalize (wo0.alloc (.cells #[.slice none 0 0, .int .u64 0, .slice none 0 0, .int .u64 0, .slice none 0 0, .slice none 0 0, .slice none 0 0] 34)) = wa1 at *
     refine hK4.out _ _ (hS0) (fun _ => ?_)
     clear hK4 K4
     (try simp only [Act.put, List.getElem_toArray, List.getElem_cons_succ, List.getElem_cons_zero, List.setIfInBounds_toArray, List.set_cons_zero, List.set_cons_succ])
     refine wpAnyH_ready (rs := [3, 9]) (by kernel_rfl) (by simp) ?_
     refine (AllReadyH.cons rfl (fun K16 hK16 => ?_) (AllReadyH.cons rfl (fun K17 hK17 => ?_) AllReadyH.nil))
     ·
      go_simp
      with_reducible refine (vDo (HRC.out.below HX.out).val wkF5 ⟨6, 0, 0, (0, 0)⟩ (Int.le_refl _) u64z).mono ?_
      rintro e wo2 ⟨⟨v5, rfl, hv⟩, hb⟩
      rw [wkR6] at hv ⊢
      obtain ⟨B0, Bs, m0, d0, ms, ds, B, m, d, rfl, hr⟩ := hv
      clear hr
      replace HRA := hide (HRA.out.below hb)
      have hX2 := HX.out.trans (hb.mono HX.out.size)
      replace HX := hide hX2
      clear hX2 hS0 hb
      have hS0 := HSX.out _ HX.out
      refine hK16.out _ _ (hS0) (fun _ => ?_)
      clear hK16 K16
      (try simp only [Act.put, List.getElem_toArray, List.getElem_cons_succ, List.getElem_cons_zero, List.setIfInBounds_toArray, List.set_cons_zero, List.set_cons_succ])
      (refine wpAnyH_take (i := 4) (v := ?_) rfl (by kernel_rfl) (by kernel_rfl) (by kernel_rfl) (fun _ _ _ h => h) (Or.inl ⟨by rfl, ?_⟩) (by assumption) ?_; rotate_left; (focus (intro w hSw; (try dsimp only at hSw); obtain ⟨kf0, kf1, kf2, kf3, kf4, kf5, kf6, kf7, kf8, kf9, kf10⟩ := hSw; go_simp; first | done | with_reducible rfl)); (try simp only [Act.put, List.getElem_toArray, List.getElem_cons_succ, List.getElem_cons_zero, List.setIfInBounds_toArray, List.set_cons_zero, List.set_cons_succ]))
      (refine wpAnyH_take (i := 5) (v := ?_) rfl (by kernel_rfl) (by kernel_rfl) (by kernel_rfl) (fun _ _ _ h => h) (Or.inl ⟨by rfl, ?_⟩) (by assumption) ?_; rotate_left; (focus (intro w hSw; (try dsimp only at hSw); obtain ⟨kf0, kf1, kf2, kf3, kf4, kf5, kf6, kf7, kf8, kf9, kf10⟩ := hSw; go_simp; first | done | with_reducible rfl)); (try simp only [Act.put, List.getElem_toArray, List.getElem_cons_succ, List.getElem_cons_zero, List.setIfInBounds_toArray, List.set_cons_zero, List.set_cons_succ]))
      (refine wpAnyH_take (i := 6) (v := ?_) rfl (by kernel_rfl) (by kernel_rfl) (by kernel_rfl) (fun _ _ _ h => h) (Or.inl ⟨by rfl, ?_⟩) (by assumption) ?_; rotate_left; (focus (intro w hSw; (try dsimp only at hSw); obtain ⟨kf0, kf1, kf2, kf3, kf4, kf5, kf6, kf7, kf8, kf9, kf10⟩ := hSw; go_simp; first | done | with_reducible rfl)); (try simp only [Act.put, List.getElem_toArray, List.getElem_cons_succ, List.getElem_cons_zero, List.setIfInBounds_toArray, List.set_cons_zero, List.set_cons_succ]))
      (refine wpAnyH_take (i := 7) (v := ?_) rfl (by kernel_rfl) (by kernel_rfl) (by kernel_rfl) (fun _ _ _ h => h) (Or.inl ⟨by rfl, ?_⟩) (by assumption) ?_; rotate_left; (focus (intro w hSw; (try dsimp only at hSw); obtain ⟨kf0, kf1, kf2, kf3, kf4, kf5, kf6, kf7, kf8, kf9, kf10⟩ := hSw; go_simp; first | done | with_reducible rfl)); (try simp only [Act.put, List.getElem_toArray, List.getElem_cons_succ, List.getElem_cons_zero, List.setIfInBounds_toArray, List.set_cons_zero, List.set_cons_succ]))
      refine wpAnyH_ready (rs := [9]) (by kernel_rfl) (by simp) ?_
      refine (AllReadyH.cons rfl (fun K18 hK18 => ?_) AllReadyH.nil)
      go_simp
      have hb : Below wo2.heap.size wo2 (wo2.alloc (.cells #[.int .i64 0, .int .u64 0] 41)) := (Below.refl _ _).alloc (Nat.le_refl _) _
      have hre := RowAt.new wo2 41 #[.int .i64 0, .int .u64 0]
      replace HRA := hide (HRA.out.below hb)
      obtain ⟨gb, hge⟩ : ∃ g, wo2.heap.size = g := ⟨_, rfl⟩
      have HGB := hide (show wy.heap.size ≤ gb from by rw [← hge]; exact HX.out.size)
      have hX2 := HX.out.trans (hb.mono HX.out.size)
      replace HX := hide hX2
      rw [hge] at hre ⊢
      have HRB := hide hre
      clear hX2 hS0 hre hb hge
      have hS0 := HSX.out _ HX.out
      generalize (wo2.alloc (.cells #[.int .i64 0, .int .u64 0] 41)) = wa3 at *
      refine hK18.out _ _ (hS0) (fun _ => ?_)
      clear hK18 K18
      (try simp only [Act.put, List.getElem_toArray, List.getElem_cons_succ, List.getElem_cons_zero, List.setIfInBounds_toArray, List.set_cons_zero, List.set_cons_succ])
      refine wpAnyH_ready (rs := [10]) (by kernel_rfl) (by simp) ?_
      refine (AllReadyH.cons rfl (fun K19 hK19 => ?_) AllReadyH.nil)
      clear hS0
      have hra := HRA.out
      obtain ⟨y0, y1, y2, y3, y4, y5, y6⟩ := row7 hra
      have yl := hra.lt
      have yf0 := hra.frozen 0
      have yf1 := hra.frozen 1
      have yf2 := hra.frozen 2
      have yf3 := hra.frozen 3
      have yf4 := hra.frozen 4
      have yf5 := hra.frozen 5
      have yf6 := hra.frozen 6
      go_simp
      have HLD := hide (show LaidF ga wa3 (((((((wa3.setCell ⟨ga, 0, none⟩ (.slice B0 m0 d0)).setCell ⟨ga, 1, none⟩ (.int .u64 rec0.e)).setCell ⟨ga, 2, none⟩ (.slice Bs ms ds)).setCell ⟨ga, 3, none⟩ (.int .u64 (rec0.l.E : Int))).setCell ⟨ga, 4, none⟩ (.slice (B 0) (m 0) (d 0))).setCell ⟨ga, 5, none⟩ (.slice (B 1) (m 1) (d 1))).setCell ⟨ga, 6, none⟩ (.slice (B 2) (m 2) (d 2))) from ((((((((laid0 ga _).set 0 (.slice B0 m0 d0)).set 1 (.int .u64 rec0.e)).set 2 (.slice Bs ms ds)).set 3 (.int .u64 (rec0.l.E : Int))).set 4 (.slice (B 0) (m 0) (d 0))).set 5 (.slice (B 1) (m 1) (d 1))).set 6 (.slice (B 2) (m 2) (d 2))))
      have HX1 := hide (HX.out.trans (HLD.out.below.mono HGA.out))
      have HRB2 := hide (show RowAt _ gb 41 #[.int .i64 0, .int .u64 0] from (HLD.out.block gb (fun e => by have h1 := HRB.out; rw [e] at h1; exact absurd (row_typ h1 hra) (by decide))).trans HRB.out)
      clear hra yl y0 yf0 y1 yf1 y2 yf2 y3 yf3 y4 yf4 y5 yf5 y6 yf6
      generalize (((((((wa3.setCell ⟨ga, 0, none⟩ (.slice B0 m0 d0)).setCell ⟨ga, 1, none⟩ (.int .u64 rec0.e)).setCell ⟨ga, 2, none⟩ (.slice Bs ms ds)).setCell ⟨ga, 3, none⟩ (.int .u64 (rec0.l.E : Int))).setCell ⟨ga, 4, none⟩ (.slice (B 0) (m 0) (d 0))).setCell ⟨ga, 5, none⟩ (.slice (B 1) (m 1) (d 1))).setCell ⟨ga, 6, none⟩ (.slice (B 2) (m 2) (d 2))) = wp at *
      refine hK19.out _ _ (HSX.out _ HX1.out) (fun _ => ?_)
      clear hK19 K19
      (try simp only [Act.put, List.getElem_toArray, List.getElem_cons_succ, List.getElem_cons_zero, List.setIfInBounds_toArray, List.set_cons_zero, List.set_cons_succ])
      refine wpAnyH_ready (rs := [11]) (by kernel_rfl) (by simp) ?_
      refine (AllReadyH.cons rfl (fun K20 hK20 => ?_) AllReadyH.nil)
      have u0 := row20 HRB2.out
      have u1 := row21 HRB2.out
      have ul := HRB2.out.lt
      have uf0 := HRB2.out.frozen 0
      have uf1 := HRB2.out.frozen 1
      go_simp
      have HL2 := hide (show LaidF gb wp ((wp.setCell ⟨gb, 0, none⟩ (.int .i64 0)).setCell ⟨gb, 1, none⟩ (.int .u64 0)) from (((laid0 gb _).set 0 (.int .i64 0)).set 1 (.int .u64 0)))
      have HX3 := hide (HX1.out.trans (HL2.out.below.mono HGB.out))
      clear u0 u1 ul uf0 uf1
      generalize ((wp.setCell ⟨gb, 0, none⟩ (.int .i64 0)).setCell ⟨gb, 1, none⟩ (.int .u64 0)) = wq at *
      refine hK20.out _ _ (HSX.out _ HX3.out) (fun _ => ?_)
      clear hK20 K20
      (try simp only [Act.put, List.getElem_toArray, List.getElem_cons_succ, List.getElem_cons_zero, List.setIfInBounds_toArray, List.set_cons_zero, List.set_cons_succ])
      refine wpAnyH_ready (rs := [12]) (by kernel_rfl) (by simp) ?_
      refine (AllReadyH.cons rfl (fun K21 hK21 => ?_) AllReadyH.nil)
      go_simp
      refine hK21.out _ _ (HSX.out _ HX3.out) (fun _ => ?_)
      clear hK21 K21
      (try simp only [Act.put, List.getElem_toArray, List.getElem_cons_succ, List.getElem_cons_zero, List.setIfInBounds_toArray, List.set_cons_zero, List.set_cons_succ])
      refine wpAnyH_done (by kernel_rfl) ?_ _
      go_wp2_with fail
      go_meet
      case rel => exact ⟨rfl, HX3.out⟩
     ·
      go_simp
      have hb : Below wa1.heap.size wa1 (wa1.alloc (.cells #[.int .i64 0, .int .u64 0] 41)) := (Below.refl _ _).alloc (Nat.le_refl _) _
      have hre := RowAt.new wa1 41 #[.int .i64 0, .int .u64 0]
      replace HRA := hide (HRA.out.below hb)
      obtain ⟨gb, hge⟩ : ∃ g, wa1.heap.size = g := ⟨_, rfl⟩
      have HGB := hide (show wy.heap.size ≤ gb from by rw [← hge]; exact HX.out.size)
      have hX2 := HX.out.trans (hb.mono HX.out.size)
      replace HX := hide hX2
      rw [hge] at hre ⊢
      have HRB := hide hre
      clear hX2 hS0 hre hb hge
      have hS0 := HSX.out _ HX.out
      generalize (wa1.alloc (.cells #[.int .i64 0, .int .u64 0] 41)) = wa2 at *
      refine hK17.out _ _ (hS0) (fun _ => ?_)
      clear hK17 K17
      (try simp only [Act.put, List.getElem_toArray, List.getElem_cons_succ, List.getElem_cons_zero, List.setIfInBounds_toArray, List.set_cons_zero, List.set_cons_succ])
      refine wpAnyH_ready (rs := [3]) (by kernel_rfl) (by simp) ?_
      refine (AllReadyH.cons rfl (fun K22 hK22 => ?_) AllReadyH.nil)
      go_simp
      with_reducible refine (vDo (HRC.out.below HX.out).val wkF5 ⟨6, 0, 0, (0, 0)⟩ (Int.le_refl _) u64z).mono ?_
      rintro e wo3 ⟨⟨v5, rfl, hv⟩, hb⟩
      rw [wkR6] at hv ⊢
      obtain ⟨B0, Bs, m0, d0, ms, ds, B, m, d, rfl, hr⟩ := hv
      clear hr
      replace HRA := hide (HRA.out.below hb)
      replace HRB := hide (HRB.out.below hb)
      have hX2 := HX.out.trans (hb.mono HX.out.size)
      replace HX := hide hX2
      clear hX2 hS0 hb
      have hS0 := HSX.out _ HX.out
      refine hK22.out _ _ (hS0) (fun _ => ?_)
      clear hK22 K22
      (try simp only [Act.put, List.getElem_toArray, List.getElem_cons_succ, List.getElem_cons_zero, List.setIfInBounds_toArray, List.set_cons_zero, List.set_cons_succ])
      (refine wpAnyH_take (i := 4) (v := ?_) rfl (by kernel_rfl) (by kernel_rfl) (by kernel_rfl) (fun _ _ _ h => h) (Or.inl ⟨by rfl, ?_⟩) (by assumption) ?_; rotate_left; (focus (intro w hSw; (try dsimp only at hSw); obtain ⟨kf0, kf1, kf2, kf3, kf4, kf5, kf6, kf7, kf8, kf9, kf10⟩ := hSw; go_simp; first | done | with_reducible rfl)); (try simp only [Act.put, List.getElem_toArray, List.getElem_cons_succ, List.getElem_cons_zero, List.setIfInBounds_toArray, List.set_cons_zero, List.set_cons_succ]))
      (refine wpAnyH_take (i := 5) (v := ?_) rfl (by kernel_rfl) (by kernel_rfl) (by kernel_rfl) (fun _ _ _ h => h) (Or.inl ⟨by rfl, ?_⟩) (by assumption) ?_; rotate_left; (focus (intro w hSw; (try dsimp only at hSw); obtain ⟨kf0, kf1, kf2, kf3, kf4, kf5, kf6, kf7, kf8, kf9, kf10⟩ := hSw; go_simp; first | done | with_reducible rfl)); (try simp only [Act.put, List.getElem_toArray, List.getElem_cons_succ, List.getElem_cons_zero, List.setIfInBounds_toArray, List.set_cons_zero, List.set_cons_succ]))
      (refine wpAnyH_take (i := 6) (v := ?_) rfl (by kernel_rfl) (by kernel_rfl) (by kernel_rfl) (fun _ _ _ h => h) (Or.inl ⟨by rfl, ?_⟩) (by assumption) ?_; rotate_left; (focus (intro w hSw; (try dsimp only at hSw); obtain ⟨kf0, kf1, kf2, kf3, kf4, kf5, kf6, kf7, kf8, kf9, kf10⟩ := hSw; go_simp; first | done | with_reducible rfl)); (try simp only [Act.put, List.getElem_toArray, List.getElem_cons_succ, List.getElem_cons_zero, List.setIfInBounds_toArray, List.set_cons_zero, List.set_cons_succ]))
      (refine wpAnyH_take (i := 7) (v := ?_) rfl (by kernel_rfl) (by kernel_rfl) (by kernel_rfl) (fun _ _ _ h => h) (Or.inl ⟨by rfl, ?_⟩) (by assumption) ?_; rotate_left; (focus (intro w hSw; (try dsimp only at hSw); obtain ⟨kf0, kf1, kf2, kf3, kf4, kf5, kf6, kf7, kf8, kf9, kf10⟩ := hSw; go_simp; first | done | with_reducible rfl)); (try simp only [Act.put, List.getElem_toArray, List.getElem_cons_succ, List.getElem_cons_zero, List.setIfInBounds_toArray, List.set_cons_zero, List.set_cons_succ]))
      refine wpAnyH_ready (rs := [10]) (by kernel_rfl) (by simp) ?_
      refine (AllReadyH.cons rfl (fun K23 hK23 => ?_) AllReadyH.nil)
      clear hS0
      have hra := HRA.out
      obtain ⟨y0, y1, y2, y3, y4, y5, y6⟩ := row7 hra
      have yl := hra.lt
      have yf0 := hra.frozen 0
      have yf1 := hra.frozen 1
      have yf2 := hra.frozen 2
      have yf3 := hra.frozen 3
      have yf4 := hra.frozen 4
      have yf5 := hra.frozen 5
      have yf6 := hra.frozen 6
      go_simp
      have HLD := hide (show LaidF ga wo3 (((((((wo3.setCell ⟨ga, 0, none⟩ (.slice B0 m0 d0)).setCell ⟨ga, 1, none⟩ (.int .u64 rec0.e)).setCell ⟨ga, 2, none⟩ (.slice Bs ms ds)).setCell ⟨ga, 3, none⟩ (.int .u64 (rec0.l.E : Int))).setCell ⟨ga, 4, none⟩ (.slice (B 0) (m 0) (d 0))).setCell ⟨ga, 5, none⟩ (.slice (B 1) (m 1) (d 1))).setCell ⟨ga, 6, none⟩ (.slice (B 2) (m 2) (d 2))) from ((((((((laid0 ga _).set 0 (.slice B0 m0 d0)).set 1 (.int .u64 rec0.e)).set 2 (.slice Bs ms ds)).set 3 (.int .u64 (rec0.l.E : Int))).set 4 (.slice (B 0) (m 0) (d 0))).set 5 (.slice (B 1) (m 1) (d 1))).set 6 (.slice (B 2) (m 2) (d 2))))
      have HX1 := hide (HX.out.trans (HLD.out.below.mono HGA.out))
      have HRB2 := hide (show RowAt _ gb 41 #[.int .i64 0, .int .u64 0] from (HLD.out.block gb (fun e => by have h1 := HRB.out; rw [e] at h1; exact absurd (row_typ h1 hra) (by decide))).trans HRB.out)
      clear hra yl y0 yf0 y1 yf1 y2 yf2 y3 yf3 y4 yf4 y5 yf5 y6 yf6
      generalize (((((((wo3.setCell ⟨ga, 0, none⟩ (.slice B0 m0 d0)).setCell ⟨ga, 1, none⟩ (.int .u64 rec0.e)).setCell ⟨ga, 2, none⟩ (.slice Bs ms ds)).setCell ⟨ga, 3, none⟩ (.int .u64 (rec0.l.E : Int))).setCell ⟨ga, 4, none⟩ (.slice (B 0) (m 0) (d 0))).setCell ⟨ga, 5, none⟩ (.slice (B 1) (m 1) (d 1))).setCell ⟨ga, 6, none⟩ (.slice (B 2) (m 2) (d 2))) = wp at *
      refine hK23.out _ _ (HSX.out _ HX1.out) (fun _ => ?_)
      clear hK23 K23
      (try simp only [Act.put, List.getElem_toArray, List.getElem_cons_succ, List.getElem_cons_zero, List.setIfInBounds_toArray, List.set_cons_zero, List.set_cons_succ])
      refine wpAnyH_ready (rs := [11]) (by kernel_rfl) (by simp) ?_
      refine (AllReadyH.cons rfl (fun K24 hK24 => ?_) AllReadyH.nil)
      have u0 := row20 HRB2.out
      have u1 := row21 HRB2.out
      have ul := HRB2.out.lt
      have uf0 := HRB2.out.frozen 0
      have uf1 := HRB2.out.frozen 1
      go_simp
      have HL2 := hide (show LaidF gb wp ((wp.setCell ⟨gb, 0, none⟩ (.int .i64 0)).setCell ⟨gb, 1, none⟩ (.int .u64 0)) from (((laid0 gb _).set 0 (.int .i64 0)).set 1 (.int .u64 0)))
      have HX3 := hide (HX1.out.trans (HL2.out.below.mono HGB.out))
      clear u0 u1 ul uf0 uf1
      generalize ((wp.setCell ⟨gb, 0, none⟩ (.int .i64 0)).setCell ⟨gb, 1, none⟩ (.int .u64 0)) = wq at *
      refine hK24.out _ _ (HSX.out _ HX3.out) (fun _ => ?_)
      clear hK24 K24
      (try simp only [Act.put, List.getElem_toArray, List.getElem_cons_succ, List.getElem_cons_zero, List.setIfInBounds_toArray, List.set_cons_zero, List.set_cons_succ])
      refine wpAnyH_ready (rs := [12]) (by kernel_rfl) (by simp) ?_
      refine (AllReadyH.cons rfl (fun K25 hK25 => ?_) AllReadyH.nil)
      go_simp
      refine hK25.out _ _ (HSX.out _ HX3.out) (fun _ => ?_)
      clear hK25 K25
      (try simp only [Act.put, List.getElem_toArray, List.getElem_cons_succ, List.getElem_cons_zero, List.setIfInBounds_toArray, List.set_cons_zero, List.set_cons_succ])
      refine wpAnyH_done (by kernel_rfl) ?_ _
      go_wp2_with fail
      go_meet
      case rel => exact ⟨rfl, HX3.out⟩
    ·
     go_simp
     have hb : Below wo0.heap.size wo0 (wo0.alloc (.cells #[.int .i64 0, .int .u64 0] 41)) := (Below.refl _ _).alloc (Nat.le_refl _) _
     have hre := RowAt.new wo0 41 #[.int .i64 0, .int .u64 0]
     obtain ⟨gb, hge⟩ : ∃ g, wo0.heap.size = g := ⟨_, rfl⟩
     have HGB := hide (show wy.heap.size ≤ gb from by rw [← hge]; exact HX.out.size)
     have hX2 := HX.out.trans (hb.mono HX.out.size)
     replace HX := hide hX2
     rw [hge] at hre ⊢
     have HRB := hide hre
     clear hX2 hS0 hre hb hge
     have hS0 := HSX.out _ HX.out
     generalize (wo0.alloc (.cells #[.int .i64 0, .int .u64 0] 41)) = wa1 at *
     refine hK5.out _ _ (hS0) (fun _ => ?_)
     clear hK5 K5
     (try simp only [Act.put, List.getElem_toArray, List.getElem_cons_succ, List.getElem_cons_zero, List.setIfInBounds_toArray, List.set_cons_zero, List.set_cons_succ])
     refine wpAnyH_ready (rs := [3, 8]) (by kernel_rfl) (by simp) ?_
     refine (AllReadyH.cons rfl (fun K26 hK26 => ?_) (AllReadyH.cons rfl (fun K27 hK27 => ?_) AllReadyH.nil))
     ·
      go_simp
      with_reducible refine (vDo (HRC.out.below HX.out).val wkF5 ⟨6, 0, 0, (0, 0)⟩ (Int.le_refl _) u64z).mono ?_
      rintro e wo2 ⟨⟨v5, rfl, hv⟩, hb⟩
      rw [wkR6] at hv ⊢
      obtain ⟨B0, Bs, m0, d0, ms, ds, B, m, d, rfl, hr⟩ := hv
      clear hr
      replace HRB := hide (HRB.out.below hb)
      have hX2 := HX.out.trans (hb.mono HX.out.size)
      replace HX := hide hX2
      clear hX2 hS0 hb
      have hS0 := HSX.out _ HX.out
      refine hK26.out _ _ (hS0) (fun _ => ?_)
      clear hK26 K26
      (try simp only [Act.put, List.getElem_toArray, List.getElem_cons_succ, List.getElem_cons_zero, List.setIfInBounds_toArray, List.set_cons_zero, List.set_cons_succ])
      (refine wpAnyH_take (i := 4) (v := ?_) rfl (by kernel_rfl) (by kernel_rfl) (by kernel_rfl) (fun _ _ _ h => h) (Or.inl ⟨by rfl, ?_⟩) (by assumption) ?_; rotate_left; (focus (intro w hSw; (try dsimp only at hSw); obtain ⟨kf0, kf1, kf2, kf3, kf4, kf5, kf6, kf7, kf8, kf9, kf10⟩ := hSw; go_simp; first | done | with_reducible rfl)); (try simp only [Act.put, List.getElem_toArray, List.getElem_cons_succ, List.getElem_cons_zero, List.setIfInBounds_toArray, List.set_cons_zero, List.set_cons_succ]))
      (refine wpAnyH_take (i := 5) (v := ?_) rfl (by kernel_rfl) (by kernel_rfl) (by kernel_rfl) (fun _ _ _ h => h) (Or.inl ⟨by rfl, ?_⟩) (by assumption) ?_; rotate_left; (focus (intro w hSw; (try dsimp only at hSw); obtain ⟨kf0, kf1, kf2, kf3, kf4, kf5, kf6, kf7, kf8, kf9, kf10⟩ := hSw; go_simp; first | done | with_reducible rfl)); (try simp only [Act.put, List.getElem_toArray, List.getElem_cons_succ, List.getElem_cons_zero, List.setIfInBounds_toArray, List.set_cons_zero, List.set_cons_succ]))
      (refine wpAnyH_take (i := 6) (v := ?_) rfl (by kernel_rfl) (by kernel_rfl) (by kernel_rfl) (fun _ _ _ h => h) (Or.inl ⟨by rfl, ?_⟩) (by assumption) ?_; rotate_left; (focus (intro w hSw; (try dsimp only at hSw); obtain ⟨kf0, kf1, kf2, kf3, kf4, kf5, kf6, kf7, kf8, kf9, kf10⟩ := hSw; go_simp; first | done | with_reducible rfl)); (try simp only [Act.put, List.getElem_toArray, List.getElem_cons_succ, List.getElem_cons_zero, List.setIfInBounds_toArray, List.set_cons_zero, List.set_cons_succ]))
      (refine wpAnyH_take (i := 7) (v := ?_) rfl (by kernel_rfl) (by kernel_rfl) (by kernel_rfl) (fun _ _ _ h => h) (Or.inl ⟨by rfl, ?_⟩) (by assumption) ?_; rotate_left; (focus (intro w hSw; (try dsimp only at hSw); obtain ⟨kf0, kf1, kf2, kf3, kf4, kf5, kf6, kf7, kf8, kf9, kf10⟩ := hSw; go_simp; first | done | with_reducible rfl)); (try simp only [Act.put, List.getElem_toArray, List.getElem_cons_succ, List.getElem_cons_zero, List.setIfInBounds_toArray, List.set_cons_zero, List.set_cons_succ]))
      refine wpAnyH_ready (rs := [8]) (by kernel_rfl) (by simp) ?_
      refine (AllReadyH.cons rfl (fun K28 hK28 => ?_) AllReadyH.nil)
      go_simp
      have hb : Below wo2.heap.size wo2 (wo2.alloc (.cells #[.slice none 0 0, .int .u64 0, .slice none 0 0, .int .u64 0, .slice none 0 0, .slice none 0 0, .slice none 0 0] 34)) := (Below.refl _ _).alloc (Nat.le_refl _) _
      have hre := RowAt.new wo2 34 #[.slice none 0 0, .int .u64 0, .slice none 0 0, .int .u64 0, .slice none 0 0, .slice none 0 0, .slice none 0 0]
      replace HRB := hide (HRB.out.below hb)
      obtain ⟨ga, hge⟩ : ∃ g, wo2.heap.size = g := ⟨_, rfl⟩
      have HGA := hide (show wy.heap.size ≤ ga from by rw [← hge]; exact HX.out.size)
      have hX2 := HX.out.trans (hb.mono HX.out.size)
      replace HX := hide hX2
      rw [hge] at hre ⊢
      have HRA := hide hre
      clear hX2 hS0 hre hb hge
      have hS0 := HSX.out _ HX.out
      generalize (wo2.alloc (.cells #[.slice none 0 0, .int .u64 0, .slice none 0 0, .int .u64 0, .slice none 0 0, .slice none 0 0, .slice none 0 0] 34)) = wa3 at *
      refine hK28.out _ _ (hS0) (fun _ => ?_)
      clear hK28 K28
      (try simp only [Act.put, List.getElem_toArray, List.getElem_cons_succ, List.getElem_cons_zero, List.setIfInBounds_toArray, List.set_cons_zero, List.set_cons_succ])
      refine wpAnyH_ready (rs := [10]) (by kernel_rfl) (by simp) ?_
      refine (AllReadyH.cons rfl (fun K29 hK29 => ?_) AllReadyH.nil)
      clear hS0
      have hra := HRA.out
      obtain ⟨y0, y1, y2, y3, y4, y5, y6⟩ := row7 hra
      have yl := hra.lt
      have yf0 := hra.frozen 0
      have yf1 := hra.frozen 1
      have yf2 := hra.frozen 2
      have yf3 := hra.frozen 3
      have yf4 := hra.frozen 4
      have yf5 := hra.frozen 5
      have yf6 := hra.frozen 6
      go_simp
      have HLD := hide (show LaidF ga wa3 (((((((wa3.setCell ⟨ga, 0, none⟩ (.slice B0 m0 d0)).setCell ⟨ga, 1, none⟩ (.int .u64 rec0.e)).setCell ⟨ga, 2, none⟩ (.slice Bs ms ds)).setCell ⟨ga, 3, none⟩ (.int .u64 (rec0.l.E : Int))).setCell ⟨ga, 4, none⟩ (.slice (B 0) (m 0) (d 0))).setCell ⟨ga, 5, none⟩ (.slice (B 1) (m 1) (d 1))).setCell ⟨ga, 6, none⟩ (.slice (B 2) (m 2) (d 2))) from ((((((((laid0 ga _).set 0 (.slice B0 m0 d0)).set 1 (.int .u64 rec0.e)).set 2 (.slice Bs ms ds)).set 3 (.int .u64 (rec0.l.E : Int))).set 4 (.slice (B 0) (m 0) (d 0))).set 5 (.slice (B 1) (m 1) (d 1))).set 6 (.slice (B 2) (m 2) (d 2))))
      have HX1 := hide (HX.out.trans (HLD.out.below.mono HGA.out))
      have HRB2 := hide (show RowAt _ gb 41 #[.int .i64 0, .int .u64 0] from (HLD.out.block gb (fun e => by have h1 := HRB.out; rw [e] at h1; exact absurd (row_typ h1 hra) (by decide))).trans HRB.out)
      clear hra yl y0 yf0 y1 yf1 y2 yf2 y3 yf3 y4 yf4 y5 yf5 y6 yf6
      generalize (((((((wa3.setCell ⟨ga, 0, none⟩ (.slice B0 m0 d0)).setCell ⟨ga, 1, none⟩ (.int .u64 rec0.e)).setCell ⟨ga, 2, none⟩ (.slice Bs ms ds)).setCell ⟨ga, 3, none⟩ (.int .u64 (rec0.l.E : Int))).setCell ⟨ga, 4, none⟩ (.slice (B 0) (m 0) (d 0))).setCell ⟨ga, 5, none⟩ (.slice (B 1) (m 1) (d 1))).setCell ⟨ga, 6, none⟩ (.slice (B 2) (m 2) (d 2))) = wp at *
      refine hK29.out _ _ (HSX.out _ HX1.out) (fun _ => ?_)
      clear hK29 K29
      (try simp only [Act.put, List.getElem_toArray, List.getElem_cons_succ, List.getElem_cons_zero, List.setIfInBounds_toArray, List.set_cons_zero, List.set_cons_succ])
      refine wpAnyH_ready (rs := [11]) (by kernel_rfl) (by simp) ?_
      refine (AllReadyH.cons rfl (fun K30 hK30 => ?_) AllReadyH.nil)
      have u0 := row20 HRB2.out
      have u1 := row21 HRB2.out
      have ul := HRB2.out.lt
      have uf0 := HRB2.out.frozen 0
      have uf1 := HRB2.out.frozen 1
      go_simp
      have HL2 := hide (show LaidF gb wp ((wp.setCell ⟨gb, 0, none⟩ (.int .i64 0)).setCell ⟨gb, 1, none⟩ (.int .u64 0)) from (((laid0 gb _).set 0 (.int .i64 0)).set 1 (.int .u64 0)))
      have HX3 := hide (HX1.out.trans (HL2.out.below.mono HGB.out))
      clear u0 u1 ul uf0 uf1
      generalize ((wp.setCell ⟨gb, 0, none⟩ (.int .i64 0)).setCell ⟨gb, 1, none⟩ (.int .u64 0)) = wq at *
      refine hK30.out _ _ (HSX.out _ HX3.out) (fun _ => ?_)
      clear hK30 K30
      (try simp only [Act.put, List.getElem_toArray, List.getElem_cons_succ, List.getElem_cons_zero, List.setIfInBounds_toArray, List.set_cons_zero, List.set_cons_succ])
      refine wpAnyH_ready (rs := [12]) (by kernel_rfl) (by simp) ?_
      refine (AllReadyH.cons rfl (fun K31 hK31 => ?_) AllReadyH.nil)
      go_simp
      refine hK31.out _ _ (HSX.out _ HX3.out) (fun _ => ?_)
      clear hK31 K31
      (try simp only [Act.put, List.getElem_toArray, List.getElem_cons_succ, List.getElem_cons_zero, List.setIfInBounds_toArray, List.set_cons_zero, List.set_cons_succ])
      refine wpAnyH_done (by kernel_rfl) ?_ _
      go_wp2_with fail
      go_meet
      case rel => exact ⟨rfl, HX3.out⟩
     ·
      go_simp
      have hb : Below wa1.heap.size wa1 (wa1.alloc (.cells #[.slice none 0 0, .int .u64 0, .slice none 0 0, .int .u64 0, .slice none 0 0, .slice none 0 0, .slice none 0 0] 34)) := (Below.refl _ _).alloc (Nat.le_refl _) _
      have hre := RowAt.new wa1 34 #[.slice none 0 0, .int .u64 0, .slice none 0 0, .int .u64 0, .slice none 0 0, .slice none 0 0, .slice none 0 0]
      replace HRB := hide (HRB.out.below hb)
      obtain ⟨ga, hge⟩ : ∃ g, wa1.heap.size = g := ⟨_, rfl⟩
      have HGA := hide (show wy.heap.size ≤ ga from by rw [← hge]; exact HX.out.size)
      have hX2 := HX.out.trans (hb.mono HX.out.size)
      replace HX := hide hX2
      rw [hge] at hre ⊢
      have HRA := hide hre
      clear hX2 hS0 hre hb hge
      have hS0 := HSX.out _ HX.out
      generalize (wa1.alloc (.cells #[.slice none 0 0, .int .u64 0, .slice none 0 0, .int .u64 0, .slice none 0 0, .slice none 0 0, .slice none 0 0] 34)) = wa2 at *
      refine hK27.out _ _ (hS0) (fun _ => ?_)
      clear hK27 K27
      (try simp only [Act.put, List.getElem_toArray, List.getElem_cons_succ, List.getElem_cons_zero, List.setIfInBounds_toArray, List.set_cons_zero, List.set_cons_succ])
      refine wpAnyH_ready (rs := [3]) (by kernel_rfl) (by simp) ?_
      refine (AllReadyH.cons rfl (fun K32 hK32 => ?_) AllReadyH.nil)
      go_simp
      with_reducible refine (vDo (HRC.out.below HX.out).val wkF5 ⟨6, 0, 0, (0, 0)⟩ (Int.le_refl _) u64z).mono ?_
      rintro e wo3 ⟨⟨v5, rfl, hv⟩, hb⟩
      rw [wkR6] at hv ⊢
      obtain ⟨B0, Bs, m0, d0, ms, ds, B, m, d, rfl, hr⟩ := hv
      clear hr
      replace HRA := hide (HRA.out.below hb)
      replace HRB := hide (HRB.out.below hb)
      have hX2 := HX.out.trans (hb.mono HX.out.size)
      replace HX := hide hX2
      clear hX2 hS0 hb
      have hS0 := HSX.out _ HX.out
      refine hK32.out _ _ (hS0) (fun _ => ?_)
      clear hK32 K32
      (try simp only [Act.put, List.getElem_toArray, List.getElem_cons_succ, List.getElem_cons_zero, List.setIfInBounds_toArray, List.set_cons_zero, List.set_cons_succ])
      (refine wpAnyH_take (i := 4) (v := ?_) rfl (by kernel_rfl) (by kernel_rfl) (by kernel_rfl) (fun _ _ _ h => h) (Or.inl ⟨by rfl, ?_⟩) (by assumption) ?_; rotate_left; (focus (intro w hSw; (try dsimp only at hSw); obtain ⟨kf0, kf1, kf2, kf3, kf4, kf5, kf6, kf7, kf8, kf9, kf10⟩ := hSw; go_simp; first | done | with_reducible rfl)); (try simp only [Act.put, List.getElem_toArray, List.getElem_cons_succ, List.getElem_cons_zero, List.setIfInBounds_toArray, List.set_cons_zero, List.set_cons_succ]))
      (refine wpAnyH_take (i := 5) (v := ?_) rfl (by kernel_rfl) (by kernel_rfl) (by kernel_rfl) (fun _ _ _ h => h) (Or.inl ⟨by rfl, ?_⟩) (by assumption) ?_; rotate_left; (focus (intro w hSw; (try dsimp only at hSw); obtain ⟨kf0, kf1, kf2, kf3, kf4, kf5, kf6, kf7, kf8, kf9, kf10⟩ := hSw; go_simp; first | done | with_reducible rfl)); (try simp only [Act.put, List.getElem_toArray, List.getElem_cons_succ, List.getElem_cons_zero, List.setIfInBounds_toArray, List.set_cons_zero, List.set_cons_succ]))
      (refine wpAnyH_take (i := 6) (v := ?_) rfl (by kernel_rfl) (by kernel_rfl) (by kernel_rfl) (fun _ _ _ h => h) (Or.inl ⟨by rfl, ?_⟩) (by assumption) ?_; rotate_left; (focus (intro w hSw; (try dsimp only at hSw); obtain ⟨kf0, kf1, kf2, kf3, kf4, kf5, kf6, kf7, kf8, kf9, kf10⟩ := hSw; go_simp; first | done | with_reducible rfl)); (try simp only [Act.put, List.getElem_toArray, List.getElem_cons_succ, List.getElem_cons_zero, List.setIfInBounds_toArray, List.set_cons_zero, List.set_cons_succ]))
      (refine wpAnyH_take (i := 7) (v := ?_) rfl (by kernel_rfl) (by kernel_rfl) (by kernel_rfl) (fun _ _ _ h => h) (Or.inl ⟨by rfl, ?_⟩) (by assumption) ?_; rotate_left; (focus (intro w hSw; (try dsimp only at hSw); obtain ⟨kf0, kf1, kf2, kf3, kf4, kf5, kf6, kf7, kf8, kf9, kf10⟩ := hSw; go_simp; first | done | with_reducible rfl)); (try simp only [Act.put, List.getElem_toArray, List.getElem_cons_succ, List.getElem_cons_zero, List.setIfInBounds_toArray, List.set_cons_zero, List.set_cons_succ]))
      refine wpAnyH_ready (rs := [10]) (by kernel_rfl) (by simp) ?_
      refine (AllReadyH.cons rfl (fun K33 hK33 => ?_) AllReadyH.nil)
      clear hS0
      have hra := HRA.out
      obtain ⟨y0, y1, y2, y3, y4, y5, y6⟩ := row7 hra
      have yl := hra.lt
      have yf0 := hra.frozen 0
      have yf1 := hra.frozen 1
      have yf2 := hra.frozen 2
      have yf3 := hra.frozen 3
      have yf4 := hra.frozen 4
      have yf5 := hra.frozen 5
      have yf6 := hra.frozen 6
      go_simp
      have HLD := hide (show LaidF ga wo3 (((((((wo3.setCell ⟨ga, 0, none⟩ (.slice B0 m0 d0)).setCell ⟨ga, 1, none⟩ (.int .u64 rec0.e)).setCell ⟨ga, 2, none⟩ (.slice Bs ms ds)).setCell ⟨ga, 3, none⟩ (.int .u64 (rec0.l.E : Int))).setCell ⟨ga, 4, none⟩ (.slice (B 0) (m 0) (d 0))).setCell ⟨ga, 5, none⟩ (.slice (B 1) (m 1) (d 1))).setCell ⟨ga, 6, none⟩ (.slice (B 2) (m 2) (d 2))) from ((((((((laid0 ga _).set 0 (.slice B0 m0 d0)).set 1 (.int .u64 rec0.e)).set 2 (.slice Bs ms ds)).set 3 (.int .u64 (rec0.l.E : Int))).set 4 (.slice (B 0) (m 0) (d 0))).set 5 (.slice (B 1) (m 1) (d 1))).set 6 (.slice (B 2) (m 2) (d 2))))
      have HX1 := hide (HX.out.trans (HLD.out.below.mono HGA.out))
      have HRB2 := hide (show RowAt _ gb 41 #[.int .i64 0, .int .u64 0] from (HLD.out.block gb (fun e => by have h1 := HRB.out; rw [e] at h1; exact absurd (row_typ h1 hra) (by decide))).trans HRB.out)
      clear hra yl y0 yf0 y1 yf1 y2 yf2 y3 yf3 y4 yf4 y5 yf5 y6 yf6
      generalize (((((((wo3.setCell ⟨ga, 0, none⟩ (.slice B0 m0 d0)).setCell ⟨ga, 1, none⟩ (.int .u64 rec0.e)).setCell ⟨ga, 2, none⟩ (.slice Bs ms ds)).setCell ⟨ga, 3, none⟩ (.int .u64 (rec0.l.E : Int))).setCell ⟨ga, 4, none⟩ (.slice (B 0) (m 0) (d 0))).setCell ⟨ga, 5, none⟩ (.slice (B 1) (m 1) (d 1))).setCell ⟨ga, 6, none⟩ (.slice (B 2) (m 2) (d 2))) = wp at *
      refine hK33.out _ _ (HSX.out _ HX1.out) (fun _ => ?_)
      clear hK33 K33
      (try simp only [Act.put, List.getElem_toArray, List.getElem_cons_succ, List.getElem_cons_zero, List.setIfInBounds_toArray, List.set_cons_zero, List.set_cons_succ])
      refine wpAnyH_ready (rs := [11]) (by kernel_rfl) (by simp) ?_
      refine (AllReadyH.cons rfl (fun K34 hK34 => ?_) AllReadyH.nil)
      have u0 := row20 HRB2.out
      have u1 := row21 HRB2.out
      have ul := HRB2.out.lt
      have uf0 := HRB2.out.frozen 0
      have uf1 := HRB2.out.frozen 1
      go_simp
      have HL2 := hide (show LaidF gb wp ((wp.setCell ⟨gb, 0, none⟩ (.int .i64 0)).setCell ⟨gb, 1, none⟩ (.int .u64 0)) from (((laid0 gb _).set 0 (.int .i64 0)).set 1 (.int .u64 0)))
      have HX3 := hide (HX1.out.trans (HL2.out.below.mono HGB.out))
      clear u0 u1 ul uf0 uf1
      generalize ((wp.setCell ⟨gb, 0, none⟩ (.int .i64 0)).setCell ⟨gb, 1, none⟩ (.int .u64 0)) = wq at *
      refine hK34.out _ _ (HSX.out _ HX3.out) (fun _ => ?_)
      clear hK34 K34
      (try simp only [Act.put, List.getElem_toArray, List.getElem_cons_succ, List.getElem_cons_zero, List.setIfInBounds_toArray, List.set_cons_zero, List.set_cons_succ])
      refine wpAnyH_ready (rs := [12]) (by kernel_rfl) (by simp) ?_
      refine (AllReadyH.cons rfl (fun K35 hK35 => ?_) AllReadyH.nil)
      go_simp
      refine hK35.out _ _ (HSX.out _ HX3.out) (fun _ => ?_)
      clear hK35 K35
      (try simp only [Act.put, List.getElem_toArray, List.getElem_cons_succ, List.getElem_cons_zero, List.setIfInBounds_toArray, List.set_cons_zero, List.set_cons_succ])
      refine wpAnyH_done (by kernel_rfl) ?_ _
      go_wp2_with fail
      go_meet
      case rel => exact ⟨rfl, HX3.out⟩
   ·
    go_simp
    have hb : Below wd.heap.size wd (wd.alloc (.cells #[.slice none 0 0, .int .u64 0, .slice none 0 0, .int .u64 0, .slice none 0 0, .slice none 0 0, .slice none 0 0] 34)) := (Below.refl _ _).alloc (Nat.le_refl _) _
    have hre := RowAt.new wd 34 #[.slice none 0 0, .int .u64 0, .slice none 0 0, .int .u64 0, .slice none 0 0, .slice none 0 0, .slice none 0 0]
    obtain ⟨ga, hge⟩ : ∃ g, wd.heap.size = g := ⟨_, rfl⟩
    have HGA := hide (show wy.heap.size ≤ ga from by rw [← hge]; exact HX.out.size)
    have hX2 := HX.out.trans (hb.mono HX.out.size)
    replace HX := hide hX2
    rw [hge] at hre ⊢
    have HRA := hide hre
    clear hX2 hS0 hre hb hge
    have hS0 := HSX.out _ HX.out
    generalize (wd.alloc (.cells #[.slice none 0 0, .int .u64 0, .slice none 0 0, .int .u64 0, .slice none 0 0, .slice none 0 0, .slice none 0 0] 34)) = wa0 at *
    refine hK1.out _ _ (hS0) (fun _ => ?_)
    clear hK1 K1
    (try simp only [Act.put, List.getElem_toArray, List.getElem_cons_succ, List.getElem_cons_zero, List.setIfInBounds_toArray, List.set_cons_zero, List.set_cons_succ])
    refine wpAnyH_ready (rs := [2, 9]) (by kernel_rfl) (by simp) ?_
    refine (AllReadyH.cons rfl (fun K36 hK36 => ?_) (AllReadyH.cons rfl (fun K37 hK37 => ?_) AllReadyH.nil))
    ·
     go_simp
     with_reducible refine (op_any 6 0 0 0 wa0).mono ?_
     rintro e wo1 ⟨rfl, hb⟩
     replace HRA := hide (HRA.out.below hb)
     have hX2 := HX.out.trans (hb.mono HX.out.size)
     replace HX := hide hX2
     clear hX2 hS0 hb
     have hS0 := HSX.out _ HX.out
     refine hK36.out _ _ (hS0) (fun _ => ?_)
     clear hK36 K36
     (try simp only [Act.put, List.getElem_toArray, List.getElem_cons_succ, List.getElem_cons_zero, List.setIfInBounds_toArray, List.set_cons_zero, List.set_cons_succ])
     refine wpAnyH_ready (rs := [3, 9]) (by kernel_rfl) (by simp) ?_
     refine (AllReadyH.cons rfl (fun K38 hK38 => ?_) (AllReadyH.cons rfl (fun K39 hK39 => ?_) AllReadyH.nil))
     ·
      go_simp
      with_reducible refine (vDo (HRC.out.below HX.out).val wkF5 ⟨6, 0, 0, (0, 0)⟩ (Int.le_refl _) u64z).mono ?_
      rintro e wo2 ⟨⟨v5, rfl, hv⟩, hb⟩
      rw [wkR6] at hv ⊢
      obtain ⟨B0, Bs, m0, d0, ms, ds, B, m, d, rfl, hr⟩ := hv
      clear hr
      replace HRA := hide (HRA.out.below hb)
      have hX2 := HX.out.trans (hb.mono HX.out.size)
      replace HX := hide hX2
      clear hX2 hS0 hb
      have hS0 := HSX.out _ HX.out
      refine hK38.out _ _ (hS0) (fun _ => ?_)
      clear hK38 K38
      (try simp only [Act.put, List.getElem_toArray, List.getElem_cons_succ, List.getElem_cons_zero, List.setIfInBounds_toArray, List.set_cons_zero, List.set_cons_succ])
      (refine wpAnyH_take (i := 4) (v := ?_) rfl (by kernel_rfl) (by kernel_rfl) (by kernel_rfl) (fun _ _ _ h => h) (Or.inl ⟨by rfl, ?_⟩) (by assumption) ?_; rotate_left; (focus (intro w hSw; (try dsimp only at hSw); obtain ⟨kf0, kf1, kf2, kf3, kf4, kf5, kf6, kf7, kf8, kf9, kf10⟩ := hSw; go_simp; first | done | with_reducible rfl)); (try simp only [Act.put, List.getElem_toArray, List.getElem_cons_succ, List.getElem_cons_zero, List.setIfInBounds_toArray, List.set_cons_zero, List.set_cons_succ]))
      (refine wpAnyH_take (i := 5) (v := ?_) rfl (by kernel_rfl) (by kernel_rfl) (by kernel_rfl) (fun _ _ _ h => h) (Or.inl ⟨by rfl, ?_⟩) (by assumption) ?_; rotate_left; (focus (intro w hSw; (try dsimp only at hSw); obtain ⟨kf0, kf1, kf2, kf3, kf4, kf5, kf6, kf7, kf8, kf9, kf10⟩ := hSw; go_simp; first | done | with_reducible rfl)); (try simp only [Act.put, List.getElem_toArray, List.getElem_cons_succ, List.getElem_cons_zero, List.setIfInBounds_toArray, List.set_cons_zero, List.set_cons_succ]))
      (refine wpAnyH_take (i := 6) (v := ?_) rfl (by kernel_rfl) (by kernel_rfl) (by kernel_rfl) (fun _ _ _ h => h) (Or.inl ⟨by rfl, ?_⟩) (by assumption) ?_; rotate_left; (focus (intro w hSw; (try dsimp only at hSw); obtain ⟨kf0, kf1, kf2, kf3, kf4, kf5, kf6, kf7, kf8, kf9, kf10⟩ := hSw; go_simp; first | done | with_reducible rfl)); (try simp only [Act.put, List.getElem_toArray, List.getElem_cons_succ, List.getElem_cons_zero, List.setIfInBounds_toArray, List.set_cons_zero, List.set_cons_succ]))
      (refine wpAnyH_take (i := 7) (v := ?_) rfl (by kernel_rfl) (by kernel_rfl) (by kernel_rfl) (fun _ _ _ h => h) (Or.inl ⟨by rfl, ?_⟩) (by assumption) ?_; rotate_left; (focus (intro w hSw; (try dsimp only at hSw); obtain ⟨kf0, kf1, kf2, kf3, kf4, kf5, kf6, kf7, kf8, kf9, kf10⟩ := hSw; go_simp; first | done | with_reducible rfl)); (try simp only [Act.put, List.getElem_toArray, List.getElem_cons_succ, List.getElem_cons_zero, List.setIfInBounds_toArray, List.set_cons_zero, List.set_cons_succ]))
      refine wpAnyH_ready (rs := [9]) (by kernel_rfl) (by simp) ?_
      refine (AllReadyH.cons rfl (fun K40 hK40 => ?_) AllReadyH.nil)
      go_simp
      have hb : Below wo2.heap.size wo2 (wo2.alloc (.cells #[.int .i64 0, .int .u64 0] 41)) := (Below.refl _ _).alloc (Nat.le_refl _) _
      have hre := RowAt.new wo2 41 #[.int .i64 0, .int .u64 0]
      replace HRA := hide (HRA.out.below hb)
      obtain ⟨gb, hge⟩ : ∃ g, wo2.heap.size = g := ⟨_, rfl⟩
      have HGB := hide (show wy.heap.size ≤ gb from by rw [← hge]; exact HX.out.size)
      have hX2 := HX.out.trans (hb.mono HX.out.size)
      replace HX := hide hX2
      rw [hge] at hre ⊢
      have HRB := hide hre
      clear hX2 hS0 hre hb hge
      have hS0 := HSX.out _ HX.out
      generalize (wo2.alloc (.cells #[.int .i64 0, .int .u64 0] 41)) = wa3 at *
      refine hK40.out _ _ (hS0) (fun _ => ?_)
      clear hK40 K40
      (try simp only [Act.put, List.getElem_toArray, List.getElem_cons_succ, List.getElem_cons_zero, List.setIfInBounds_toArray, List.set_cons_zero, List.set_cons_succ])
      refine wpAnyH_ready (rs := [10]) (by kernel_rfl) (by simp) ?_
      refine (AllReadyH.cons rfl (fun K41 hK41 => ?_) AllReadyH.nil)
      clear hS0
      have hra := HRA.out
      obtain ⟨y0, y1, y2, y3, y4, y5, y6⟩ := row7 hra
      have yl := hra.lt
      have yf0 := hra.frozen 0
      have yf1 := hra.frozen 1
      have yf2 := hra.frozen 2
      have yf3 := hra.frozen 3
      have yf4 := hra.frozen 4
      have yf5 := hra.frozen 5
      have yf6 := hra.frozen 6
      go_simp
      have HLD := hide (show LaidF ga wa3 (((((((wa3.setCell ⟨ga, 0, none⟩ (.slice B0 m0 d0)).setCell ⟨ga, 1, none⟩ (.int .u64 rec0.e)).setCell ⟨ga, 2, none⟩ (.slice Bs ms ds)).setCell ⟨ga, 3, none⟩ (.int .u64 (rec0.l.E : Int))).setCell ⟨ga, 4, none⟩ (.slice (B 0) (m 0) (d 0))).setCell ⟨ga, 5, none⟩ (.slice (B 1) (m 1) (d 1))).setCell ⟨ga, 6, none⟩ (.slice (B 2) (m 2) (d 2))) from ((((((((laid0 ga _).set 0 (.slice B0 m0 d0)).set 1 (.int .u64 rec0.e)).set 2 (.slice Bs ms ds)).set 3 (.int .u64 (rec0.l.E : Int))).set 4 (.slice (B 0) (m 0) (d 0))).set 5 (.slice (B 1) (m 1) (d 1))).set 6 (.slice (B 2) (m 2) (d 2))))
      have HX1 := hide (HX.out.trans (HLD.out.below.mono HGA.out))
      have HRB2 := hide (show RowAt _ gb 41 #[.int .i64 0, .int .u64 0] from (HLD.out.block gb (fun e => by have h1 := HRB.out; rw [e] at h1; exact absurd (row_typ h1 hra) (by decide))).trans HRB.out)
      clear hra yl y0 yf0 y1 yf1 y2 yf2 y3 yf3 y4 yf4 y5 yf5 y6 yf6
      generalize (((((((wa3.setCell ⟨ga, 0, none⟩ (.slice B0 m0 d0)).setCell ⟨ga, 1, none⟩ (.int .u64 rec0.e)).setCell ⟨ga, 2, none⟩ (.slice Bs ms ds)).setCell ⟨ga, 3, none⟩ (.int .u64 (rec0.l.E : Int))).setCell ⟨ga, 4, none⟩ (.slice (B 0) (m 0) (d 0))).setCell ⟨ga, 5, none⟩ (.slice (B 1) (m 1) (d 1))).setCell ⟨ga, 6, none⟩ (.slice (B 2) (m 2) (d 2))) = wp at *
      refine hK41.out _ _ (HSX.out _ HX1.out) (fun _ => ?_)
      clear hK41 K41
      (try simp only [Act.put, List.getElem_toArray, List.getElem_cons_succ, List.getElem_cons_zero, List.setIfInBounds_toArray, List.set_cons_zero, List.set_cons_succ])
      refine wpAnyH_ready (rs := [11]) (by kernel_rfl) (by simp) ?_
      refine (AllReadyH.cons rfl (fun K42 hK42 => ?_) AllReadyH.nil)
      have u0 := row20 HRB2.out
      have u1 := row21 HRB2.out
      have ul := HRB2.out.lt
      have uf0 := HRB2.out.frozen 0
      have uf1 := HRB2.out.frozen 1
      go_simp
      have HL2 := hide (show LaidF gb wp ((wp.setCell ⟨gb, 0, none⟩ (.int .i64 0)).setCell ⟨gb, 1, none⟩ (.int .u64 0)) from (((laid0 gb _).set 0 (.int .i64 0)).set 1 (.int .u64 0)))
      have HX3 := hide (HX1.out.trans (HL2.out.below.mono HGB.out))
      clear u0 u1 ul uf0 uf1
      generalize ((wp.setCell ⟨gb, 0, none⟩ (.int .i64 0)).setCell ⟨gb, 1, none⟩ (.int .u64 0)) = wq at *
      refine hK42.out _ _ (HSX.out _ HX3.out) (fun _ => ?_)
      clear hK42 K42
      (try simp only [Act.put, List.getElem_toArray, List.getElem_cons_succ, List.getElem_cons_zero, List.setIfInBounds_toArray, List.set_cons_zero, List.set_cons_succ])
      refine wpAnyH_ready (rs := [12]) (by kernel_rfl) (by simp) ?_
      refine (AllReadyH.cons rfl (fun K43 hK43 => ?_) AllReadyH.nil)
      go_simp
      refine hK43.out _ _ (HSX.out _ HX3.out) (fun _ => ?_)
      clear hK43 K43
      (try simp only [Act.put, List.getElem_toArray, List.getElem_cons_succ, List.getElem_cons_zero, List.setIfInBounds_toArray, List.set_cons_zero, List.set_cons_succ])
      refine wpAnyH_done (by kernel_rfl) ?_ _
      go_wp2_with fail
      go_meet
      case rel => exact ⟨rfl, HX3.out⟩
     ·
      go_simp
      have hb : Below wo1.heap.size wo1 (wo1.alloc (.cells #[.int .i64 0, .int .u64 0] 41)) := (Below.refl _ _).alloc (Nat.le_refl _) _
      have hre := RowAt.new wo1 41 #[.int .i64 0, .int .u64 0]
      replace HRA := hide (HRA.out.below hb)
      obtain ⟨gb, hge⟩ : ∃ g, wo1.heap.size = g := ⟨_, rfl⟩
      have HGB := hide (show wy.heap.size ≤ gb from by rw [← hge]; exact HX.out.size)
      have hX2 := HX.out.trans (hb.mono HX.out.size)
      replace HX := hide hX2
      rw [hge] at hre ⊢
      have HRB := hide hre
      clear hX2 hS0 hre hb hge
      have hS0 := HSX.out _ HX.out
      generalize (wo1.alloc (.cells #[.int .i64 0, .int .u64 0] 41)) = wa2 at *
      refine hK39.out _ _ (hS0) (fun _ => ?_)
      clear hK39 K39
      (try simp only [Act.put, List.getElem_toArray, List.getElem_cons_succ, List.getElem_cons_zero, List.setIfInBounds_toArray, List.set_cons_zero, List.set_cons_succ])
      refine wpAnyH_ready (rs := [3]) (by kernel_rfl) (by simp) ?_
      refine (AllReadyH.cons rfl (fun K44 hK44 => ?_) AllReadyH.nil)
      go_simp
      with_reducible refine (vDo (HRC.out.below HX.out).val wkF5 ⟨6, 0, 0, (0, 0)⟩ (Int.le_refl _) u64z).mono ?_
      rintro e wo3 ⟨⟨v5, rfl, hv⟩, hb⟩
      rw [wkR6] at hv ⊢
      obtain ⟨B0, Bs, m0, d0, ms, ds, B, m, d, rfl, hr⟩ := hv
      clear hr
      replace HRA := hide (HRA.out.below hb)
      replace HRB := hide (HRB.out.below hb)
      have hX2 := HX.out.trans (hb.mono HX.out.size)
      replace HX := hide hX2
      clear hX2 hS0 hb
      have hS0 := HSX.out _ HX.out
      refine hK44.out _ _ (hS0) (fun _ => ?_)
      clear hK44 K44
      (try simp only [Act.put, List.getElem_toArray, List.getElem_cons_succ, List.getElem_cons_zero, List.setIfInBounds_toArray, List.set_cons_zero, List.set_cons_succ])
      (refine wpAnyH_take (i := 4) (v := ?_) rfl (by kernel_rfl) (by kernel_rfl) (by kernel_rfl) (fun _ _ _ h => h) (Or.inl ⟨by rfl, ?_⟩) (by assumption) ?_; rotate_left; (focus (intro w hSw; (try dsimp only at hSw); obtain ⟨kf0, kf1, kf2, kf3, kf4, kf5, kf6, kf7, kf8, kf9, kf10⟩ := hSw; go_simp; first | done | with_reducible rfl)); (try simp only [Act.put, List.getElem_toArray, List.getElem_cons_succ, List.getElem_cons_zero, List.setIfInBounds_toArray, List.set_cons_zero, List.set_cons_succ]))
      (refine wpAnyH_take (i := 5) (v := ?_) rfl (by kernel_rfl) (by kernel_rfl) (by kernel_rfl) (fun _ _ _ h => h) (Or.inl ⟨by rfl, ?_⟩) (by assumption) ?_; rotate_left; (focus (intro w hSw; (try dsimp only at hSw); obtain ⟨kf0, kf1, kf2, kf3, kf4, kf5, kf6, kf7, kf8, kf9, kf10⟩ := hSw; go_simp; first | done | with_reducible rfl)); (try simp only [Act.put, List.getElem_toArray, List.getElem_cons_succ, List.getElem_cons_zero, List.setIfInBounds_toArray, List.set_cons_zero, List.set_cons_succ]))
      (refine wpAnyH_take (i := 6) (v := ?_) rfl (by kernel_rfl) (by kernel_rfl) (by kernel_rfl) (fun _ _ _ h => h) (Or.inl ⟨by rfl, ?_⟩) (by assumption) ?_; rotate_left; (focus (intro w hSw; (try dsimp only at hSw); obtain ⟨kf0, kf1, kf2, kf3, kf4, kf5, kf6, kf7, kf8, kf9, kf10⟩ := hSw; go_simp; first | done | with_reducible rfl)); (try simp only [Act.put, List.getElem_toArray, List.getElem_cons_succ, List.getElem_cons_zero, List.setIfInBounds_toArray, List.set_cons_zero, List.set_cons_succ]))
      (refine wpAnyH_take (i := 7) (v := ?_) rfl (by kernel_rfl) (by kernel_rfl) (by kernel_rfl) (fun _ _ _ h => h) (Or.inl ⟨by rfl, ?_⟩) (by assumption) ?_; rotate_left; (focus (intro w hSw; (try dsimp only at hSw); obtain ⟨kf0, kf1, kf2, kf3, kf4, kf5, kf6, kf7, kf8, kf9, kf10⟩ := hSw; go_simp; first | done | with_reducible rfl)); (try simp only [Act.put, List.getElem_toArray, List.getElem_cons_succ, List.getElem_cons_zero, List.setIfInBounds_toArray, List.set_cons_zero, List.set_cons_succ]))
      refine wpAnyH_ready (rs := [10]) (by kernel_rfl) (by simp) ?_
      refine (AllReadyH.cons rfl (fun K45 hK45 => ?_) AllReadyH.nil)
      clear hS0
      have hra := HRA.out
      obtain ⟨y0, y1, y2, y3, y4, y5, y6⟩ := row7 hra
      have yl := hra.lt
      have yf0 := hra.frozen 0
      have yf1 := hra.frozen 1
      have yf2 := hra.frozen 2
      have yf3 := hra.frozen 3
      have yf4 := hra.frozen 4
      have yf5 := hra.frozen 5
      have yf6 := hra.frozen 6
      go_simp
      have HLD := hide (show LaidF ga wo3 (((((((wo3.setCell ⟨ga, 0, none⟩ (.slice B0 m0 d0)).setCell ⟨ga, 1, none⟩ (.int .u64 rec0.e)).setCell ⟨ga, 2, none⟩ (.slice Bs ms ds)).setCell ⟨ga, 3, none⟩ (.int .u64 (rec0.l.E : Int))).setCell ⟨ga, 4, none⟩ (.slice (B 0) (m 0) (d 0))).setCell ⟨ga, 5, none⟩ (.slice (B 1) (m 1) (d 1))).setCell ⟨ga, 6, none⟩ (.slice (B 2) (m 2) (d 2))) from ((((((((laid0 ga _).set 0 (.slice B0 m0 d0)).set 1 (.int .u64 rec0.e)).set 2 (.slice Bs ms ds)).set 3 (.int .u64 (rec0.l.E : Int))).set 4 (.slice (B 0) (m 0) (d 0))).set 5 (.slice (B 1) (m 1) (d 1))).set 6 (.slice (B 2) (m 2) (d 2))))
      have HX1 := hide (HX.out.trans (HLD.out.below.mono HGA.out))
      have HRB2 := hide (show RowAt _ gb 41 #[.int .i64 0, .int .u64 0] from (HLD.out.block gb (fun e => by have h1 := HRB.out; rw [e] at h1; exact absurd (row_typ h1 hra) (by decide))).trans HRB.out)
      clear hra yl y0 yf0 y1 yf1 y2 yf2 y3 yf3 y4 yf4 y5 yf5 y6 yf6
      generalize (((((((wo3.setCell ⟨ga, 0, none⟩ (.slice B0 m0 d0)).setCell ⟨ga, 1, none⟩ (.int .u64 rec0.e)).setCell ⟨ga, 2, none⟩ (.slice Bs ms ds)).setCell ⟨ga, 3, none⟩ (.int .u64 (rec0.l.E : Int))).setCell ⟨ga, 4, none⟩ (.slice (B 0) (m 0) (d 0))).setCell ⟨ga, 5, none⟩ (.slice (B 1) (m 1) (d 1))).setCell ⟨ga, 6, none⟩ (.slice (B 2) (m 2) (d 2))) = wp at *
      refine hK45.out _ _ (HSX.out _ HX1.out) (fun _ => ?_)
      clear hK45 K45
      (try simp only [Act.put, List.getElem_toArray, List.getElem_cons_succ, List.getElem_cons_zero, List.setIfInBounds_toArray, List.set_cons_zero, List.set_cons_succ])
      refine wpAnyH_ready (rs := [11]) (by kernel_rfl) (by simp) ?_
      refine (AllReadyH.cons rfl (fun K46 hK46 => ?_) AllReadyH.nil)
      have u0 := row20 HRB2.out
      have u1 := row21 HRB2.out
      have ul := HRB2.out.lt
      have uf0 := HRB2.out.frozen 0
      have uf1 := HRB2.out.frozen 1
      go_simp
      have HL2 := hide (show LaidF gb wp ((wp.setCell ⟨gb, 0, none⟩ (.int .i64 0)).setCell ⟨gb, 1, none⟩ (.int .u64 0)) from (((laid0 gb _).set 0 (.int .i64 0)).set 1 (.int .u64 0)))
      have HX3 := hide (HX1.out.trans (HL2.out.below.mono HGB.out))
      clear u0 u1 ul uf0 uf1
      generalize ((wp.setCell ⟨gb, 0, none⟩ (.int .i64 0)).setCell ⟨gb, 1, none⟩ (.int .u64 0)) = wq at *
      refine hK46.out _ _ (HSX.out _ HX3.out) (fun _ => ?_)
      clear hK46 K46
      (try simp only [Act.put, List.getElem_toArray, List.getElem_cons_succ, List.getElem_cons_zero, List.setIfInBounds_toArray, List.set_cons_zero, List.set_cons_succ])
      refine wpAnyH_ready (rs := [12]) (by kernel_rfl) (by simp) ?_
      refine (AllReadyH.cons rfl (fun K47 hK47 => ?_) AllReadyH.nil)
      go_simp
      refine hK47.out _ _ (HSX.out _ HX3.out) (fun _ => ?_)
      clear hK47 K47
      (try simp only [Act.put, List.getElem_toArray, List.getElem_cons_succ, List.getElem_cons_zero, List.setIfInBounds_toArray, List.set_cons_zero, List.set_cons_succ])
      refine wpAnyH_done (by kernel_rfl) ?_ _
      go_wp2_with fail
      go_meet
      case rel => exact ⟨rfl, HX3.out⟩
    ·
     go_simp
     have hb : Below wa0.heap.size wa0 (wa0.alloc (.cells #[.int .i64 0, .int .u64 0] 41)) := (Below.refl _ _).alloc (Nat.le_refl _) _
     have hre := RowAt.new wa0 41 #[.int .i64 0, .int .u64 0]
     replace HRA := hide (HRA.out.below hb)
     obtain ⟨gb, hge⟩ : ∃ g, wa0.heap.size = g := ⟨_, rfl⟩
     have HGB := hide (show wy.heap.size ≤ gb from by rw [← hge]; exact HX.out.size)
     have hX2 := HX.out.trans (hb.mono HX.out.size)
     replace HX := hide hX2
     rw [hge] at hre ⊢
     have HRB := hide hre
     clear hX2 hS0 hre hb hge
     have hS0 := HSX.out _ HX.out
     generalize (wa0.alloc (.cells #[.int .i64 0, .int .u64 0] 41)) = wa1 at *
     refine hK37.out _ _ (hS0) (fun _ => ?_)
     clear hK37 K37
     (try simp only [Act.put, List.getElem_toArray, List.getElem_cons_succ, List.getElem_cons_zero, List.setIfInBounds_toArray, List.set_cons_zero, List.set_cons_succ])
     refine wpAnyH_ready (rs := [2]) (by kernel_rfl) (by simp) ?_
     refine (AllReadyH.cons rfl (fun K48 hK48 => ?_) AllReadyH.nil)
     go_simp
     with_reducible refine (op_any 6 0 0 0 wa1).mono ?_
     rintro e wo2 ⟨rfl, hb⟩
     replace HRA := hide (HRA.out.below hb)
     replace HRB := hide (HRB.out.below hb)
     have hX2 := HX.out.trans (hb.mono HX.out.size)
     replace HX := hide hX2
     clear hX2 hS0 hb
     have hS0 := HSX.out _ HX.out
     refine hK48.out _ _ (hS0) (fun _ => ?_)
     clear hK48 K48
     (try simp only [Act.put, List.getElem_toArray, List.getElem_cons_succ, List.getElem_cons_zero, List.setIfInBounds_toArray, List.set_cons_zero, List.set_cons_succ])
     refine wpAnyH_ready (rs := [3]) (by kernel_rfl) (by simp) ?_
     refine (AllReadyH.cons rfl (fun K49 hK49 => ?_) AllReadyH.nil)
     go_simp
     with_reducible refine (vDo (HRC.out.below HX.out).val wkF5 ⟨6, 0, 0, (0, 0)⟩ (Int.le_refl _) u64z).mono ?_
     rintro e wo3 ⟨⟨v5, rfl, hv⟩, hb⟩
     rw [wkR6] at hv ⊢
     obtain ⟨B0, Bs, m0, d0, ms, ds, B, m, d, rfl, hr⟩ := hv
     clear hr
     replace HRA := hide (HRA.out.below hb)
     replace HRB := hide (HRB.out.below hb)
     have hX2 := HX.out.trans (hb.mono HX.out.size)
     replace HX := hide hX2
     clear hX2 hS0 hb
     have hS0 := HSX.out _ HX.out
     refine hK49.out _ _ (hS0) (fun _ => ?_)
     clear hK49 K49
     (try simp only [Act.put, List.getElem_toArray, List.getElem_cons_succ, List.getElem_cons_zero, List.setIfInBounds_toArray, List.set_cons_zero, List.set_cons_succ])
     (refine wpAnyH_take (i := 4) (v := ?_) rfl (by kernel_rfl) (by kernel_rfl) (by kernel_rfl) (fun _ _ _ h => h) (Or.inl ⟨by rfl, ?_⟩) (by assumption) ?_; rotate_left; (focus (intro w hSw; (try dsimp only at hSw); obtain ⟨kf0, kf1, kf2, kf3, kf4, kf5, kf6, kf7, kf8, kf9, kf10⟩ := hSw; go_simp; first | done | with_reducible rfl)); (try simp only [Act.put, List.getElem_toArray, List.getElem_cons_succ, List.getElem_cons_zero, List.setIfInBounds_toArray, List.set_cons_zero, List.set_cons_succ]))
     (refine wpAnyH_take (i := 5) (v := ?_) rfl (by kernel_rfl) (by kernel_rfl) (by kernel_rfl) (fun _ _ _ h => h) (Or.inl ⟨by rfl, ?_⟩) (by assumption) ?_; rotate_left; (focus (intro w hSw; (try dsimp only at hSw); obtain ⟨kf0, kf1, kf2, kf3, kf4, kf5, kf6, kf7, kf8, kf9, kf10⟩ := hSw; go_simp; first | done | with_reducible rfl)); (try simp only [Act.put, List.getElem_toArray, List.getElem_cons_succ, List.getElem_cons_zero, List.setIfInBounds_toArray, List.set_cons_zero, List.set_cons_succ]))
     (refine wpAnyH_take (i := 6) (v := ?_) rfl (by kernel_rfl) (by kernel_rfl) (by kernel_rfl) (fun _ _ _ h => h) (Or.inl ⟨by rfl, ?_⟩) (by assumption) ?_; rotate_left; (focus (intro w hSw; (try dsimp only at hSw); obtain ⟨kf0, kf1, kf2, kf3, kf4, kf5, kf6, kf7, kf8, kf9, kf10⟩ := hSw; go_simp; first | done | with_reducible rfl)); (try simp only [Act.put, List.getElem_toArray, List.getElem_cons_succ, List.getElem_cons_zero, List.setIfInBounds_toArray, List.set_cons_zero, List.set_cons_succ]))
     (refine wpAnyH_take (i := 7) (v := ?_) rfl (by kernel_rfl) (by kernel_rfl) (by kernel_rfl) (fun _ _ _ h => h) (Or.inl ⟨by rfl, ?_⟩) (by assumption) ?_; rotate_left; (focus (intro w hSw; (try dsimp only at hSw); obtain ⟨kf0, kf1, kf2, kf3, kf4, kf5, kf6, kf7, kf8, kf9, kf10⟩ := hSw; go_simp; first | done | with_reducible rfl)); (try simp only [Act.put, List.getElem_toArray, List.getElem_cons_succ, List.getElem_cons_zero, List.setIfInBounds_toArray, List.set_cons_zero, List.set_cons_succ]))
     refine wpAnyH_ready (rs := [10]) (by kernel_rfl) (by simp) ?_
     refine (AllReadyH.cons rfl (fun K50 hK50 => ?_) AllReadyH.nil)
     clear hS0
     have hra := HRA.out
     obtain ⟨y0, y1, y2, y3, y4, y5, y6⟩ := row7 hra
     have yl := hra.lt
     have yf0 := hra.frozen 0
     have yf1 := hra.frozen 1
     have yf2 := hra.frozen 2
     have yf3 := hra.frozen 3
     have yf4 := hra.frozen 4
     have yf5 := hra.frozen 5
     have yf6 := hra.frozen 6
     go_simp
     have HLD := hide (show LaidF ga wo3 (((((((wo3.setCell ⟨ga, 0, none⟩ (.slice B0 m0 d0)).setCell ⟨ga, 1, none⟩ (.int .u64 rec0.e)).setCell ⟨ga, 2, none⟩ (.slice Bs ms ds)).setCell ⟨ga, 3, none⟩ (.int .u64 (rec0.l.E : Int))).setCell ⟨ga, 4, none⟩ (.slice (B 0) (m 0) (d 0))).setCell ⟨ga, 5, none⟩ (.slice (B 1) (m 1) (d 1))).setCell ⟨ga, 6, none⟩ (.slice (B 2) (m 2) (d 2))) from ((((((((laid0 ga _).set 0 (.slice B0 m0 d0)).set 1 (.int .u64 rec0.e)).set 2 (.slice Bs ms ds)).set 3 (.int .u64 (rec0.l.E : Int))).set 4 (.slice (B 0) (m 0) (d 0))).set 5 (.slice (B 1) (m 1) (d 1))).set 6 (.slice (B 2) (m 2) (d 2))))
     have HX1 := hide (HX.out.trans (HLD.out.below.mono HGA.out))
     have HRB2 := hide (show RowAt _ gb 41 #[.int .i64 0, .int .u64 0] from (HLD.out.block gb (fun e => by have h1 := HRB.out; rw [e] at h1; exact absurd (row_typ h1 hra) (by decide))).trans HRB.out)
     clear hra yl y0 yf0 y1 yf1 y2 yf2 y3 yf3 y4 yf4 y5 yf5 y6 yf6
     generalize (((((((wo3.setCell ⟨ga, 0, none⟩ (.slice B0 m0 d0)).setCell ⟨ga, 1, none⟩ (.int .u64 rec0.e)).setCell ⟨ga, 2, none⟩ (.slice Bs ms ds)).setCell ⟨ga, 3, none⟩ (.int .u64 (rec0.l.E : Int))).setCell ⟨ga, 4, none⟩ (.slice (B 0) (m 0) (d 0))).setCell ⟨ga, 5, none⟩ (.slice (B 1) (m 1) (d 1))).setCell ⟨ga, 6, none⟩ (.slice (B 2) (m 2) (d 2))) = wp at *
     refine hK50.out _ _ (HSX.out _ HX1.out) (fun _ => ?_)
     clear hK50 K50
     (try simp only [Act.put, List.getElem_toArray, List.getElem_cons_succ, List.getElem_cons_zero, List.setIfInBounds_toArray, List.set_cons_zero, List.set_cons_succ])
     refine wpAnyH_ready (rs := [11]) (by kernel_rfl) (by simp) ?_
     refine (AllReadyH.cons rfl (fun K51 hK51 => ?_) AllReadyH.nil)
     have u0 := row20 HRB2.out
     have u1 := row21 HRB2.out
     have ul := HRB2.out.lt
     have uf0 := HRB2.out.frozen 0
     have uf1 := HRB2.out.frozen 1
     go_simp
     have HL2 := hide (show LaidF gb wp ((wp.setCell ⟨gb, 0, none⟩ (.int .i64 0)).setCell ⟨gb, 1, none⟩ (.int .u64 0)) from (((laid0 gb _).set 0 (.int .i64 0)).set 1 (.int .u64 0)))
     have HX3 := hide (HX1.out.trans (HL2.out.below.mono HGB.out))
     clear u0 u1 ul uf0 uf1
     generalize ((wp.setCell ⟨gb, 0, none⟩ (.int .i64 0)).setCell ⟨gb, 1, none⟩ (.int .u64 0)) = wq at *
     refine hK51.out _ _ (HSX.out _ HX3.out) (fun _ => ?_)
     clear hK51 K51
     (try simp only [Act.put, List.getElem_toArray, List.getElem_cons_succ, List.getElem_cons_zero, List.setIfInBounds_toArray, List.set_cons_zero, List.set_cons_succ])
     refine wpAnyH_ready (rs := [12]) (by kernel_rfl) (by simp) ?_
     refine (AllReadyH.cons rfl (fun K52 hK52 => ?_) AllReadyH.nil)
     go_simp
     refine hK52.out _ _ (HSX.out _ HX3.out) (fun _ => ?_)
     clear hK52 K52
     (try simp only [Act.put, List.getElem_toArray, List.getElem_cons_succ, List.getElem_cons_zero, List.setIfInBounds_toArray, List.set_cons_zero, List.set_cons_succ])
     refine wpAnyH_done (by kernel_rfl) ?_ _
     go_wp2_with fail
     go_meet
     case rel => exact ⟨rfl, HX3.out⟩
   ·
    go_simp
    have hb : Below wd.heap.size wd (wd.alloc (.cells #[.int .i64 0, .int .u64 0] 41)) := (Below.refl _ _).alloc (Nat.le_refl _) _
    have hre := RowAt.new wd 41 #[.int .i64 0, .int .u64 0]
    obtain ⟨gb, hge⟩ : ∃ g, wd.heap.size = g := ⟨_, rfl⟩
    have HGB := hide (show wy.heap.size ≤ gb from by rw [← hge]; exact HX.out.size)
    have hX2 := HX.out.trans (hb.mono HX.out.size)
    replace HX := hide hX2
    rw [hge] at hre ⊢
    have HRB := hide hre
    clear hX2 hS0 hre hb hge
    have hS0 := HSX.out _ HX.out
    generalize (wd.alloc (.cells #[.int .i64 0, .int .u64 0] 41)) = wa0 at *
    refine hK2.out _ _ (hS0) (fun _ => ?_)
    clear hK2 K2
    (try simp only [Act.put, List.getElem_toArray, List.getElem_cons_succ, List.getElem_cons_zero, List.setIfInBounds_toArray, List.set_cons_zero, List.set_cons_succ])
    refine wpAnyH_ready (rs := [2, 8]) (by kernel_rfl) (by simp) ?_
    refine (AllReadyH.cons rfl (fun K53 hK53 => ?_) (AllReadyH.cons rfl (fun K54 hK54 => ?_) AllReadyH.nil))
    ·
     go_simp
     with_reducible refine (op_any 6 0 0 0 wa0).mono ?_
     rintro e wo1 ⟨rfl, hb⟩
     replace HRB := hide (HRB.out.below hb)
     have hX2 := HX.out.trans (hb.mono HX.out.size)
     replace HX := hide hX2
     clear hX2 hS0 hb
     have hS0 := HSX.out _ HX.out
     refine hK53.out _ _ (hS0) (fun _ => ?_)
     clear hK53 K53
     (try simp only [Act.put, List.getElem_toArray, List.getElem_cons_succ, List.getElem_cons_zero, List.setIfInBounds_toArray, List.set_cons_zero, List.set_cons_succ])
     refine wpAnyH_ready (rs := [3, 8]) (by kernel_rfl) (by simp) ?_
     refine (AllReadyH.cons rfl (fun K55 hK55 => ?_) (AllReadyH.cons rfl (fun K56 hK56 => ?_) AllReadyH.nil))
     ·
      go_simp
      with_reducible refine (vDo (HRC.out.below HX.out).val wkF5 ⟨6, 0, 0, (0, 0)⟩ (Int.le_refl _) u64z).mono ?_
      rintro e wo2 ⟨⟨v5, rfl, hv⟩, hb⟩
      rw [wkR6] at hv ⊢
      obtain ⟨B0, Bs, m0, d0, ms, ds, B, m, d, rfl, hr⟩ := hv
      clear hr
      replace HRB := hide (HRB.out.below hb)
      have hX2 := HX.out.trans (hb.mono HX.out.size)
      replace HX := hide hX2
      clear hX2 hS0 hb
      have hS0 := HSX.out _ HX.out
      refine hK55.out _ _ (hS0) (fun _ => ?_)
      clear hK55 K55
      (try simp only [Act.put, List.getElem_toArray, List.getElem_cons_succ, List.getElem_cons_zero, List.setIfInBounds_toArray, List.set_cons_zero, List.set_cons_succ])
      (refine wpAnyH_take (i := 4) (v := ?_) rfl (by kernel_rfl) (by kernel_rfl) (by kernel_rfl) (fun _ _ _ h => h) (Or.inl ⟨by rfl, ?_⟩) (by assumption) ?_; rotate_left; (focus (intro w hSw; (try dsimp only at hSw); obtain ⟨kf0, kf1, kf2, kf3, kf4, kf5, kf6, kf7, kf8, kf9, kf10⟩ := hSw; go_simp; first | done | with_reducible rfl)); (try simp only [Act.put, List.getElem_toArray, List.getElem_cons_succ, List.getElem_cons_zero, List.setIfInBounds_toArray, List.set_cons_zero, List.set_cons_succ]))
      (refine wpAnyH_take (i := 5) (v := ?_) rfl (by kernel_rfl) (by kernel_rfl) (by kernel_rfl) (fun _ _ _ h => h) (Or.inl ⟨by rfl, ?_⟩) (by assumption) ?_; rotate_left; (focus (intro w hSw; (try dsimp only at hSw); obtain ⟨kf0, kf1, kf2, kf3, kf4, kf5, kf6, kf7, kf8, kf9, kf10⟩ := hSw; go_simp; first | done | with_reducible rfl)); (try simp only [Act.put, List.getElem_toArray, List.getElem_cons_succ, List.getElem_cons_zero, List.setIfInBounds_toArray, List.set_cons_zero, List.set_cons_succ]))
      (refine wpAnyH_take (i := 6) (v := ?_) rfl (by kernel_rfl) (by kernel_rfl) (by kernel_rfl) (fun _ _ _ h => h) (Or.inl ⟨by rfl, ?_⟩) (by assumption) ?_; rotate_left; (focus (intro w hSw; (try dsimp only at hSw); obtain ⟨kf0, kf1, kf2, kf3, kf4, kf5, kf6, kf7, kf8, kf9, kf10⟩ := hSw; go_simp; first | done | with_reducible rfl)); (try simp only [Act.put, List.getElem_toArray, List.getElem_cons_succ, List.getElem_cons_zero, List.setIfInBounds_toArray, List.set_cons_zero, List.set_cons_succ]))
      (refine wpAnyH_take (i := 7) (v := ?_) rfl (by kernel_rfl) (by kernel_rfl) (by kernel_rfl) (fun _ _ _ h => h) (Or.inl ⟨by rfl, ?_⟩) (by assumption) ?_; rotate_left; (focus (intro w hSw; (try dsimp only at hSw); obtain ⟨kf0, kf1, kf2, kf3, kf4, kf5, kf6, kf7, kf8, kf9, kf10⟩ := hSw; go_simp; first | done | with_reducible rfl)); (try simp only [Act.put, List.getElem_toArray, List.getElem_cons_succ, List.getElem_cons_zero, List.setIfInBounds_toArray, List.set_cons_zero, List.set_cons_succ]))
      refine wpAnyH_ready (rs := [8]) (by kernel_rfl) (by simp) ?_
      refine (AllReadyH.cons rfl (fun K57 hK57 => ?_) AllReadyH.nil)
      go_simp
      have hb : Below wo2.heap.size wo2 (wo2.alloc (.cells #[.slice none 0 0, .int .u64 0, .slice none 0 0, .int .u64 0, .slice none 0 0, .slice none 0 0, .slice none 0 0] 34)) := (Below.refl _ _).alloc (Nat.le_refl _) _
      have hre := RowAt.new wo2 34 #[.slice none 0 0, .int .u64 0, .slice none 0 0, .int .u64 0, .slice none 0 0, .slice none 0 0, .slice none 0 0]
      replace HRB := hide (HRB.out.below hb)
      obtain ⟨ga, hge⟩ : ∃ g, wo2.heap.size = g := ⟨_, rfl⟩
      have HGA := hide (show wy.heap.size ≤ ga from by rw [← hge]; exact HX.out.size)
      have hX2 := HX.out.trans (hb.mono HX.out.size)
      replace HX := hide hX2
      rw [hge] at hre ⊢
      have HRA := hide hre
      clear hX2 hS0 hre hb hge
      have hS0 := HSX.out _ HX.out
      generalize (wo2.alloc (.cells #[.slice none 0 0, .int .u64 0, .slice none 0 0, .int .u64 0, .slice none 0 0, .slice none 0 0, .slice none 0 0] 34)) = wa3 at *
      refine hK57.out _ _ (hS0) (fun _ => ?_)
      clear hK57 K57
      (try simp only [Act.put, List.getElem_toArray, List.getElem_cons_succ, List.getElem_cons_zero, List.setIfInBounds_toArray, List.set_cons_zero, List.set_cons_succ])
      refine wpAnyH_ready (rs := [10]) (by kernel_rfl) (by simp) ?_
      refine (AllReadyH.cons rfl (fun K58 hK58 => ?_) AllReadyH.nil)
      clear hS0
      have hra := HRA.out
      obtain ⟨y0, y1, y2, y3, y4, y5, y6⟩ := row7 hra
      have yl := hra.lt
      have yf0 := hra.frozen 0
      have yf1 := hra.frozen 1
      have yf2 := hra.frozen 2
      have yf3 := hra.frozen 3
      have yf4 := hra.frozen 4
      have yf5 := hra.frozen 5
      have yf6 := hra.frozen 6
      go_simp
      have HLD := hide (show LaidF ga wa3 (((((((wa3.setCell ⟨ga, 0, none⟩ (.slice B0 m0 d0)).setCell ⟨ga, 1, none⟩ (.int .u64 rec0.e)).setCell ⟨ga, 2, none⟩ (.slice Bs ms ds)).setCell ⟨ga, 3, none⟩ (.int .u64 (rec0.l.E : Int))).setCell ⟨ga, 4, none⟩ (.slice (B 0) (m 0) (d 0))).setCell ⟨ga, 5, none⟩ (.slice (B 1) (m 1) (d 1))).setCell ⟨ga, 6, none⟩ (.slice (B 2) (m 2) (d 2))) from ((((((((laid0 ga _).set 0 (.slice B0 m0 d0)).set 1 (.int .u64 rec0.e)).set 2 (.slice Bs ms ds)).set 3 (.int .u64 (rec0.l.E : Int))).set 4 (.slice (B 0) (m 0) (d 0))).set 5 (.slice (B 1) (m 1) (d 1))).set 6 (.slice (B 2) (m 2) (d 2))))
      have HX1 := hide (HX.out.trans (HLD.out.below.mono HGA.out))
      have HRB2 := hide (show RowAt _ gb 41 #[.int .i64 0, .int .u64 0] from (HLD.out.block gb (fun e => by have h1 := HRB.out; rw [e] at h1; exact absurd (row_typ h1 hra) (by decide))).trans HRB.out)
      clear hra yl y0 yf0 y1 yf1 y2 yf2 y3 yf3 y4 yf4 y5 yf5 y6 yf6
      generalize (((((((wa3.setCell ⟨ga, 0, none⟩ (.slice B0 m0 d0)).setCell ⟨ga, 1, none⟩ (.int .u64 rec0.e)).setCell ⟨ga, 2, none⟩ (.slice Bs ms ds)).setCell ⟨ga, 3, none⟩ (.int .u64 (rec0.l.E : Int))).setCell ⟨ga, 4, none⟩ (.slice (B 0) (m 0) (d 0))).setCell ⟨ga, 5, none⟩ (.slice (B 1) (m 1) (d 1))).setCell ⟨ga, 6, none⟩ (.slice (B 2) (m 2) (d 2))) = wp at *
      refine hK58.out _ _ (HSX.out _ HX1.out) (fun _ => ?_)
      clear hK58 K58
      (try simp only [Act.put, List.getElem_toArray, List.getElem_cons_succ, List.getElem_cons_zero, List.setIfInBounds_toArray, List.set_cons_zero, List.set_cons_succ])
      refine wpAnyH_ready (rs := [11]) (by kernel_rfl) (by simp) ?_
      refine (AllReadyH.cons rfl (fun K59 hK59 => ?_) AllReadyH.nil)
      have u0 := row20 HRB2.out
      have u1 := row21 HRB2.out
      have ul := HRB2.out.lt
      have uf0 := HRB2.out.frozen 0
      have uf1 := HRB2.out.frozen 1
      go_simp
      have HL2 := hide (show LaidF gb wp ((wp.setCell ⟨gb, 0, none⟩ (.int .i64 0)).setCell ⟨gb, 1, none⟩ (.int .u64 0)) from (((laid0 gb _).set 0 (.int .i64 0)).set 1 (.int .u64 0)))
      have HX3 := hide (HX1.out.trans (HL2.out.below.mono HGB.out))
      clear u0 u1 ul uf0 uf1
      generalize ((wp.setCell ⟨gb, 0, none⟩ (.int .i64 0)).setCell ⟨gb, 1, none⟩ (.int .u64 0)) = wq at *
      refine hK59.out _ _ (HSX.out _ HX3.out) (fun _ => ?_)
      clear hK59 K59
      (try simp only [Act.put, List.getElem_toArray, List.getElem_cons_succ, List.getElem_cons_zero, List.setIfInBounds_toArray, List.set_cons_zero, List.set_cons_succ])
      refine wpAnyH_ready (rs := [12]) (by kernel_rfl) (by simp) ?_
      refine (AllReadyH.cons rfl (fun K60 hK60 => ?_) AllReadyH.nil)
      go_simp
      refine hK60.out _ _ (HSX.out _ HX3.out) (fun _ => ?_)
      clear hK60 K60
      (try simp only [Act.put, List.getElem_toArray, List.getElem_cons_succ, List.getElem_cons_zero, List.setIfInBounds_toArray, List.set_cons_zero, List.set_cons_succ])
      refine wpAnyH_done (by kernel_rfl) ?_ _
      go_wp2_with fail
      go_meet
      case rel => exact ⟨rfl, HX3.out⟩
     ·
      go_simp
      have hb : Below wo1.heap.size wo1 (wo1.alloc (.cells #[.slice none 0 0, .int .u64 0, .slice none 0 0, .int .u64 0, .slice none 0 0, .slice none 0 0, .slice none 0 0] 34)) := (Below.refl _ _).alloc (Nat.le_refl _) _
      have hre := RowAt.new wo1 34 #[.slice none 0 0, .int .u64 0, .slice none 0 0, .int .u64 0, .slice none 0 0, .slice none 0 0, .slice none 0 0]
      replace HRB := hide (HRB.out.below hb)
      obtain ⟨ga, hge⟩ : ∃ g, wo1.heap.size = g := ⟨_, rfl⟩
      have HGA := hide (show wy.heap.size ≤ ga from by rw [← hge]; exact HX.out.size)
      have hX2 := HX.out.trans (hb.mono HX.out.size)
      replace HX := hide hX2
      rw [hge] at hre ⊢
      have HRA := hide hre
      clear hX2 hS0 hre hb hge
      have hS0 := HSX.out _ HX.out
      generalize (wo1.alloc (.cells #[.slice none 0 0, .int .u64 0, .slice none 0 0, .int .u64 0, .slice none 0 0, .slice none 0 0, .slice none 0 0] 34)) = wa2 at *
      refine hK56.out _ _ (hS0) (fun _ => ?_)
      clear hK56 K56
      (try simp only [Act.put, List.getElem_toArray, List.getElem_cons_succ, List.getElem_cons_zero, List.setIfInBounds_toArray, List.set_cons_zero, List.set_cons_succ])
      refine wpAnyH_ready (rs := [3]) (by kernel_rfl) (by simp) ?_
      refine (AllReadyH.cons rfl (fun K61 hK61 => ?_) AllReadyH.nil)
      go_simp
      with_reducible refine (vDo (HRC.out.below HX.out).val wkF5 ⟨6, 0, 0, (0, 0)⟩ (Int.le_refl _) u64z).mono ?_
      rintro e wo3 ⟨⟨v5, rfl, hv⟩, hb⟩
      rw [wkR6] at hv ⊢
      obtain ⟨B0, Bs, m0, d0, ms, ds, B, m, d, rfl, hr⟩ := hv
      clear hr
      replace HRA := hide (HRA.out.below hb)
      replace HRB := hide (HRB.out.below hb)
      have hX2 := HX.out.trans (hb.mono HX.out.size)
      replace HX := hide hX2
      clear hX2 hS0 hb
      have hS0 := HSX.out _ HX.out
      refine hK61.out _ _ (hS0) (fun _ => ?_)
      clear hK61 K61
      (try simp only [Act.put, List.getElem_toArray, List.getElem_cons_succ, List.getElem_cons_zero, List.setIfInBounds_toArray, List.set_cons_zero, List.set_cons_succ])
      (refine wpAnyH_take (i := 4) (v := ?_) rfl (by kernel_rfl) (by kernel_rfl) (by kernel_rfl) (fun _ _ _ h => h) (Or.inl ⟨by rfl, ?_⟩) (by assumption) ?_; rotate_left; (focus (intro w hSw; (try dsimp only at hSw); obtain ⟨kf0, kf1, kf2, kf3, kf4, kf5, kf6, kf7, kf8, kf9, kf10⟩ := hSw; go_simp; first | done | with_reducible rfl)); (try simp only [Act.put, List.getElem_toArray, List.getElem_cons_succ, List.getElem_cons_zero, List.setIfInBounds_toArray, List.set_cons_zero, List.set_cons_succ]))
      (refine wpAnyH_take (i := 5) (v := ?_) rfl (by kernel_rfl) (by kernel_rfl) (by kernel_rfl) (fun _ _ _ h => h) (Or.inl ⟨by rfl, ?_⟩) (by assumption) ?_; rotate_left; (focus (intro w hSw; (try dsimp only at hSw); obtain ⟨kf0, kf1, kf2, kf3, kf4, kf5, kf6, kf7, kf8, kf9, kf10⟩ := hSw; go_simp; first | done | with_reducible rfl)); (try simp only [Act.put, List.getElem_toArray, List.getElem_cons_succ, List.getElem_cons_zero, List.setIfInBounds_toArray, List.set_cons_zero, List.set_cons_succ]))
      (refine wpAnyH_take (i := 6) (v := ?_) rfl (by kernel_rfl) (by kernel_rfl) (by kernel_rfl) (fun _ _ _ h => h) (Or.inl ⟨by rfl, ?_⟩) (by assumption) ?_; rotate_left; (focus (intro w hSw; (try dsimp only at hSw); obtain ⟨kf0, kf1, kf2, kf3, kf4, kf5, kf6, kf7, kf8, kf9, kf10⟩ := hSw; go_simp; first | done | with_reducible rfl)); (try simp only [Act.put, List.getElem_toArray, List.getElem_cons_succ, List.getElem_cons_zero, List.setIfInBounds_toArray, List.set_cons_zero, List.set_cons_succ]))
      (refine wpAnyH_take (i := 7) (v := ?_) rfl (by kernel_rfl) (by kernel_rfl) (by kernel_rfl) (fun _ _ _ h => h) (Or.inl ⟨by rfl, ?_⟩) (by assumption) ?_; rotate_left; (focus (intro w hSw; (try dsimp only at hSw); obtain ⟨kf0, kf1, kf2, kf3, kf4, kf5, kf6, kf7, kf8, kf9, kf10⟩ := hSw; go_simp; first | done | with_reducible rfl)); (try simp only [Act.put, List.getElem_toArray, List.getElem_cons_succ, List.getElem_cons_zero, List.setIfInBounds_toArray, List.set_cons_zero, List.set_cons_succ]))
      refine wpAnyH_ready (rs := [10]) (by kernel_rfl) (by simp) ?_
      refine (AllReadyH.cons rfl (fun K62 hK62 => ?_) AllReadyH.nil)
      clear hS0
      have hra := HRA.out
      obtain ⟨y0, y1, y2, y3, y4, y5, y6⟩ := row7 hra
      have yl := hra.lt
      have yf0 := hra.frozen 0
      have yf1 := hra.frozen 1
      have yf2 := hra.frozen 2
      have yf3 := hra.frozen 3
      have yf4 := hra.frozen 4
      have yf5 := hra.frozen 5
      have yf6 := hra.frozen 6
      go_simp
      have HLD := hide (show LaidF ga wo3 (((((((wo3.setCell ⟨ga, 0, none⟩ (.slice B0 m0 d0)).setCell ⟨ga, 1, none⟩ (.int .u64 rec0.e)).setCell ⟨ga, 2, none⟩ (.slice Bs ms ds)).setCell ⟨ga, 3, none⟩ (.int .u64 (rec0.l.E : Int))).setCell ⟨ga, 4, none⟩ (.slice (B 0) (m 0) (d 0))).setCell ⟨ga, 5, none⟩ (.slice (B 1) (m 1) (d 1))).setCell ⟨ga, 6, none⟩ (.slice (B 2) (m 2) (d 2))) from ((((((((laid0 ga _).set 0 (.slice B0 m0 d0)).set 1 (.int .u64 rec0.e)).set 2 (.slice Bs ms ds)).set 3 (.int .u64 (rec0.l.E : Int))).set 4 (.slice (B 0) (m 0) (d 0))).set 5 (.slice (B 1) (m 1) (d 1))).set 6 (.slice (B 2) (m 2) (d 2))))
      have HX1 := hide (HX.out.trans (HLD.out.below.mono HGA.out))
      have HRB2 := hide (show RowAt _ gb 41 #[.int .i64 0, .int .u64 0] from (HLD.out.block gb (fun e => by have h1 := HRB.out; rw [e] at h1; exact absurd (row_typ h1 hra) (by decide))).trans HRB.out)
      clear hra yl y0 yf0 y1 yf1 y2 yf2 y3 yf3 y4 yf4 y5 yf5 y6 yf6
      generalize (((((((wo3.setCell ⟨ga, 0, none⟩ (.slice B0 m0 d0)).setCell ⟨ga, 1, none⟩ (.int .u64 rec0.e)).setCell ⟨ga, 2, none⟩ (.slice Bs ms ds)).setCell ⟨ga, 3, none⟩ (.int .u64 (rec0.l.E : Int))).setCell ⟨ga, 4, none⟩ (.slice (B 0) (m 0) (d 0))).setCell ⟨ga, 5, none⟩ (.slice (B 1) (m 1) (d 1))).setCell ⟨ga, 6, none⟩ (.slice (B 2) (m 2) (d 2))) = wp at *
      refine hK62.out _ _ (HSX.out _ HX1.out) (fun _ => ?_)
      clear hK62 K62
      (try simp only [Act.put, List.getElem_toArray, List.getElem_cons_succ, List.getElem_cons_zero, List.setIfInBounds_toArray, List.set_cons_zero, List.set_cons_succ])
      refine wpAnyH_ready (rs := [11]) (by kernel_rfl) (by simp) ?_
      refine (AllReadyH.cons rfl (fun K63 hK63 => ?_) AllReadyH.nil)
      have u0 := row20 HRB2.out
      have u1 := row21 HRB2.out
      have ul := HRB2.out.lt
      have uf0 := HRB2.out.frozen 0
      have uf1 := HRB2.out.frozen 1
      go_simp
      have HL2 := hide (show LaidF gb wp ((wp.setCell ⟨gb, 0, none⟩ (.int .i64 0)).setCell ⟨gb, 1, none⟩ (.int .u64 0)) from (((laid0 gb _).set 0 (.int .i64 0)).set 1 (.int .u64 0)))
      have HX3 := hide (HX1.out.trans (HL2.out.below.mono HGB.out))
      clear u0 u1 ul uf0 uf1
      generalize ((wp.setCell ⟨gb, 0, none⟩ (.int .i64 0)).setCell ⟨gb, 1, none⟩ (.int .u64 0)) = wq at *
      refine hK63.out _ _ (HSX.out _ HX3.out) (fun _ => ?_)
      clear hK63 K63
      (try simp only [Act.put, List.getElem_toArray, List.getElem_cons_succ, List.getElem_cons_zero, List.setIfInBounds_toArray, List.set_cons_zero, List.set_cons_succ])
      refine wpAnyH_ready (rs := [12]) (by kernel_rfl) (by simp) ?_
      refine (AllReadyH.cons rfl (fun K64 hK64 => ?_) AllReadyH.nil)
      go_simp
      refine hK64.out _ _ (HSX.out _ HX3.out) (fun _ => ?_)
      clear hK64 K64
      (try simp only [Act.put, List.getElem_toArray, List.getElem_cons_succ, List.getElem_cons_zero, List.setIfInBounds_toArray, List.set_cons_zero, List.set_cons_succ])
      refine wpAnyH_done (by kernel_rfl) ?_ _
      go_wp2_with fail
      go_meet
      case rel => exact ⟨rfl, HX3.out⟩
    ·
     go_simp
     have hb : Below wa0.heap.size wa0 (wa0.alloc (.cells #[.slice none 0 0, .int .u64 0, .slice none 0 0, .int .u64 0, .slice none 0 0, .slice none 0 0, .slice none 0 0] 34)) := (Below.refl _ _).alloc (Nat.le_refl _) _
     have hre := RowAt.new wa0 34 #[.slice none 0 0, .int .u64 0, .slice none 0 0, .int .u64 0, .slice none 0 0, .slice none 0 0, .slice none 0 0]
     replace HRB := hide (HRB.out.below hb)
     obtain ⟨ga, hge⟩ : ∃ g, wa0.heap.size = g := ⟨_, rfl⟩
     have HGA := hide (show wy.heap.size ≤ ga from by rw [← hge]; exact HX.out.size)
     have hX2 := HX.out.trans (hb.mono HX.out.size)
     replace HX := hide hX2
     rw [hge] at hre ⊢
     have HRA := hide hre
     clear hX2 hS0 hre hb hge
     have hS0 := HSX.out _ HX.out
     generalize (wa0.alloc (.cells #[.slice none 0 0, .int .u64 0, .slice none 0 0, .int .u64 0, .slice none 0 0, .slice none 0 0, .slice none 0 0] 34)) = wa1 at *
     refine hK54.out _ _ (hS0) (fun _ => ?_)
     clear hK54 K54
     (try simp only [Act.put, List.getElem_toArray, List.getElem_cons_succ, List.getElem_cons_zero, List.setIfInBounds_toArray, List.set_cons_zero, List.set_cons_succ])
     refine wpAnyH_ready (rs := [2]) (by kernel_rfl) (by simp) ?_
     refine (AllReadyH.cons rfl (fun K65 hK65 => ?_) AllReadyH.nil)
     go_simp
     with_reducible refine (op_any 6 0 0 0 wa1).mono ?_
     rintro e wo2 ⟨rfl, hb⟩
     replace HRA := hide (HRA.out.below hb)
     replace HRB := hide (HRB.out.below hb)
     have hX2 := HX.out.trans (hb.mono HX.out.size)
     replace HX := hide hX2
     clear hX2 hS0 hb
     have hS0 := HSX.out _ HX.out
     refine hK65.out _ _ (hS0) (fun _ => ?_)
     clear hK65 K65
     (try simp only [Act.put, List.getElem_toArray, List.getElem_cons_succ, List.getElem_cons_zero, List.setIfInBounds_toArray, List.set_cons_zero, List.set_cons_succ])
     refine wpAnyH_ready (rs := [3]) (by kernel_rfl) (by simp) ?_
     refine (AllReadyH.cons rfl (fun K66 hK66 => ?_) AllReadyH.nil)
     go_simp
     with_reducible refine (vDo (HRC.out.below HX.out).val wkF5 ⟨6, 0, 0, (0, 0)⟩ (Int.le_refl _) u64z).mono ?_
     rintro e wo3 ⟨⟨v5, rfl, hv⟩, hb⟩
     rw [wkR6] at hv ⊢
     obtain ⟨B0, Bs, m0, d0, ms, ds, B, m, d, rfl, hr⟩ := hv
     clear hr
     replace HRA := hide (HRA.out.below hb)
     replace HRB := hide (HRB.out.below hb)
     have hX2 := HX.out.trans (hb.mono HX.out.size)
     replace HX := hide hX2
     clear hX2 hS0 hb
     have hS0 := HSX.out _ HX.out
     refine hK66.out _ _ (hS0) (fun _ => ?_)
     clear hK66 K66
     (try simp only [Act.put, List.getElem_toArray, List.getElem_cons_succ, List.getElem_cons_zero, List.setIfInBounds_toArray, List.set_cons_zero, List.set_cons_succ])
     (refine wpAnyH_take (i := 4) (v := ?_) rfl (by kernel_rfl) (by kernel_rfl) (by kernel_rfl) (fun _ _ _ h => h) (Or.inl ⟨by rfl, ?_⟩) (by assumption) ?_; rotate_left; (focus (intro w hSw; (try dsimp only at hSw); obtain ⟨kf0, kf1, kf2, kf3, kf4, kf5, kf6, kf7, kf8, kf9, kf10⟩ := hSw; go_simp; first | done | with_reducible rfl)); (try simp only [Act.put, List.getElem_toArray, List.getElem_cons_succ, List.getElem_cons_zero, List.setIfInBounds_toArray, List.set_cons_zero, List.set_cons_succ]))
     (refine wpAnyH_take (i := 5) (v := ?_) rfl (by kernel_rfl) (by kernel_rfl) (by kernel_rfl) (fun _ _ _ h => h) (Or.inl ⟨by rfl, ?_⟩) (by assumption) ?_; rotate_left; (focus (intro w hSw; (try dsimp only at hSw); obtain ⟨kf0, kf1, kf2, kf3, kf4, kf5, kf6, kf7, kf8, kf9, kf10⟩ := hSw; go_simp; first | done | with_reducible rfl)); (try simp only [Act.put, List.getElem_toArray, List.getElem_cons_succ, List.getElem_cons_zero, List.setIfInBounds_toArray, List.set_cons_zero, List.set_cons_succ]))
     (refine wpAnyH_take (i := 6) (v := ?_) rfl (by kernel_rfl) (by kernel_rfl) (by kernel_rfl) (fun _ _ _ h => h) (Or.inl ⟨by rfl, ?_⟩) (by assumption) ?_; rotate_left; (focus (intro w hSw; (try dsimp only at hSw); obtain ⟨kf0, kf1, kf2, kf3, kf4, kf5, kf6, kf7, kf8, kf9, kf10⟩ := hSw; go_simp; first | done | with_reducible rfl)); (try simp only [Act.put, List.getElem_toArray, List.getElem_cons_succ, List.getElem_cons_zero, List.setIfInBounds_toArray, List.set_cons_zero, List.set_cons_succ]))
     (refine wpAnyH_take (i := 7) (v := ?_) rfl (by kernel_rfl) (by kernel_rfl) (by kernel_rfl) (fun _ _ _ h => h) (Or.inl ⟨by rfl, ?_⟩) (by assumption) ?_; rotate_left; (focus (intro w hSw; (try dsimp only at hSw); obtain ⟨kf0, kf1, kf2, kf3, kf4, kf5, kf6, kf7, kf8, kf9, kf10⟩ := hSw; go_simp; first | done | with_reducible rfl)); (try simp only [Act.put, List.getElem_toArray, List.getElem_cons_succ, List.getElem_cons_zero, List.setIfInBounds_toArray, List.set_cons_zero, List.set_cons_succ]))
     refine wpAnyH_ready (rs := [10]) (by kernel_rfl) (by simp) ?_
     refine (AllReadyH.cons rfl (fun K67 hK67 => ?_) AllReadyH.nil)
     clear hS0
     have hra := HRA.out
     obtain ⟨y0, y1, y2, y3, y4, y5, y6⟩ := row7 hra
     have yl := hra.lt
     have yf0 := hra.frozen 0
     have yf1 := hra.frozen 1
     have yf2 := hra.frozen 2
     have yf3 := hra.frozen 3
     have yf4 := hra.frozen 4
     have yf5 := hra.frozen 5
     have yf6 := hra.frozen 6
     go_simp
     have HLD := hide (show LaidF ga wo3 (((((((wo3.setCell ⟨ga, 0, none⟩ (.slice B0 m0 d0)).setCell ⟨ga, 1, none⟩ (.int .u64 rec0.e)).setCell ⟨ga, 2, none⟩ (.slice Bs ms ds)).setCell ⟨ga, 3, none⟩ (.int .u64 (rec0.l.E : Int))).setCell ⟨ga, 4, none⟩ (.slice (B 0) (m 0) (d 0))).setCell ⟨ga, 5, none⟩ (.slice (B 1) (m 1) (d 1))).setCell ⟨ga, 6, none⟩ (.slice (B 2) (m 2) (d 2))) from ((((((((laid0 ga _).set 0 (.slice B0 m0 d0)).set 1 (.int .u64 rec0.e)).set 2 (.slice Bs ms ds)).set 3 (.int .u64 (rec0.l.E : Int))).set 4 (.slice (B 0) (m 0) (d 0))).set 5 (.slice (B 1) (m 1) (d 1))).set 6 (.slice (B 2) (m 2) (d 2))))
     have HX1 := hide (HX.out.trans (HLD.out.below.mono HGA.out))
     have HRB2 := hide (show RowAt _ gb 41 #[.int .i64 0, .int .u64 0] from (HLD.out.block gb (fun e => by have h1 := HRB.out; rw [e] at h1; exact absurd (row_typ h1 hra) (by decide))).trans HRB.out)
     clear hra yl y0 yf0 y1 yf1 y2 yf2 y3 yf3 y4 yf4 y5 yf5 y6 yf6
     generalize (((((((wo3.setCell ⟨ga, 0, none⟩ (.slice B0 m0 d0)).setCell ⟨ga, 1, none⟩ (.int .u64 rec0.e)).setCell ⟨ga, 2, none⟩ (.slice Bs ms ds)).setCell ⟨ga, 3, none⟩ (.int .u64 (rec0.l.E : Int))).setCell ⟨ga, 4, none⟩ (.slice (B 0) (m 0) (d 0))).setCell ⟨ga, 5, none⟩ (.slice (B 1) (m 1) (d 1))).setCell ⟨ga, 6, none⟩ (.slice (B 2) (m 2) (d 2))) = wp at *
     refine hK67.out _ _ (HSX.out _ HX1.out) (fun _ => ?_)
     clear hK67 K67
     (try simp only [Act.put, List.getElem_toArray, List.getElem_cons_succ, List.getElem_cons_zero, List.setIfInBounds_toArray, List.set_cons_zero, List.set_cons_succ])
     refine wpAnyH_ready (rs := [11]) (by kernel_rfl) (by simp) ?_
     refine (AllReadyH.cons rfl (fun K68 hK68 => ?_) AllReadyH.nil)
     have u0 := row20 HRB2.out
     have u1 := row21 HRB2.out
     have ul := HRB2.out.lt
     have uf0 := HRB2.out.frozen 0
     have uf1 := HRB2.out.frozen 1
     go_simp
     have HL2 := hide (show LaidF gb wp ((wp.setCell ⟨gb, 0, none⟩ (.int .i64 0)).setCell ⟨gb, 1, none⟩ (.int .u64 0)) from (((laid0 gb _).set 0 (.int .i64 0)).set 1 (.int .u64 0)))
     have HX3 := hide (HX1.out.trans (HL2.out.below.mono HGB.out))
     clear u0 u1 ul uf0 uf1
     generalize ((wp.setCell ⟨gb, 0, none⟩ (.int .i64 0)).setCell ⟨gb, 1, none⟩ (.int .u64 0)) = wq at *
     refine hK68.out _ _ (HSX.out _ HX3.out) (fun _ => ?_)
     clear hK68 K68
     (try simp only [Act.put, List.getElem_toArray, List.getElem_cons_succ, List.getElem_cons_zero, List.setIfInBounds_toArray, List.set_cons_zero, List.set_cons_succ])
     refine wpAnyH_ready (rs := [12]) (by kernel_rfl) (by simp) ?_
     refine (AllReadyH.cons rfl (fun K69 hK69 => ?_) AllReadyH.nil)
     go_simp
     refine hK69.out _ _ (HSX.out _ HX3.out) (fun _ => ?_)
     clear hK69 K69
     (try simp only [Act.put, List.getElem_toArray, List.getElem_cons_succ, List.getElem_cons_zero, List.setIfInBounds_toArray, List.set_cons_zero, List.set_cons_succ])
     refine wpAnyH_done (by kernel_rfl) ?_ _
     go_wp2_with fail
     go_meet
     case rel => exact ⟨rfl, HX3.out⟩
  case rest =>
   rename_i K hK
   refine hK _ _ ?_
   clear hK K
   obtain ⟨wz, hwz⟩ : ∃ w, w = wc := ⟨_, rfl⟩
   subst hwz
   obtain ⟨rfl, hbz⟩ := hcut
   replace HO := hide (own_keepB HO.out hbz)
   replace HO8 := hide (own_keepB HO8.out hbz)
   have HBF := hide (HK.out.below.trans (hbz.mono HK.out.below.size))
   clear hbz HK
   go_wp2_with fail
   have hb : Below wz.heap.size wz (wz.alloc (.cells #[.int .i64 0, .int .u64 0, .int .i64 1, .int .u64 0] 41)) := (Below.refl _ _).alloc (Nat.le_refl _) _
   have hS := hide (show Rd (wz.alloc (.cells #[.int .i64 0, .int .u64 0, .int .i64 1, .int .u64 0] 41)) (wz.alloc (.cells #[.int .i64 0, .int .u64 0, .int .i64 1, .int .u64 0] 41)).heap.size 2 (some ⟨wz.heap.size, 0, none⟩) 2 (Cs encE [(0, 0), (1, 0)]) from (Rd.new wz #[.int .i64 0, .int .u64 0, .int .i64 1, .int .u64 0] 41 2 2 rfl).more (by simp))
   replace HO := hide (own_keepB HO.out hb)
   replace HO8 := hide (own_keepB HO8.out hb)
   replace HBF := hide (HBF.out.trans (hb.mono HBF.out.size))
   clear hb
   generalize (wz.alloc (.cells #[.int .i64 0, .int .u64 0, .int .i64 1, .int .u64 0] 41)) = wp2 at *
   (try generalize wz.heap.size = g20 at *)
   with_reducible refine (eqEz At (some ⟨_, 0, none⟩) ct 2 2 2 [(0, 0), (1, 0)] [(0, 0), (1, 0)] wp2 (Rd.of_own HO.out) hS.out rfl rfl (by omega) (by omega) true rfl).mono ?_
   rintro e wq2 ⟨rfl, hb⟩
   replace HO8 := hide (own_keepB HO8.out hb)
   replace HBF := hide (HBF.out.trans (hb.mono HBF.out.size))
   clear hb hS
   go_wp2_with fail
   have hb : Below wq2.heap.size wq2 (wq2.alloc (.cells #[.int .i64 0, .int .u64 0] 41)) := (Below.refl _ _).alloc (Nat.le_refl _) _
   have hS := hide (show Rd (wq2.alloc (.cells #[.int .i64 0, .int .u64 0] 41)) (wq2.alloc (.cells #[.int .i64 0, .int .u64 0] 41)).heap.size 2 (some ⟨wq2.heap.size, 0, none⟩) 1 (Cs encE [(0, 0)]) from (Rd.new wq2 #[.int .i64 0, .int .u64 0] 41 2 1 rfl).more (by simp))
   replace HO8 := hide (own_keepB HO8.out hb)
   replace HBF := hide (HBF.out.trans (hb.mono HBF.out.size))
   clear hb
   generalize (wq2.alloc (.cells #[.int .i64 0, .int .u64 0] 41)) = wp1 at *
   (try generalize wq2.heap.size = g10 at *)
   with_reducible refine (eqEz A8 (some ⟨_, 0, none⟩) k8 1 1 1 [(0, 0)] [(0, 0)] wp1 (Rd.of_own HO8.out) hS.out rfl rfl (by omega) (by omega) true rfl).mono ?_
   rintro e wq1 ⟨rfl, hb⟩
   replace HBF := hide (HBF.out.trans (hb.mono HBF.out.size))
   clear hb hS
   go_wp2_with fail
   go_ret
   exact ⟨rfl, HBF.out⟩
end Go.Proofs.YtkicidopjihjmaaGreat
set_option linter.unusedSimpArgs false
set_option linter.unusedVariables false
namespace Go.Proofs.YtkicidopjihjmaaGreat
open Go Go.RowKit
theorem frees_S {r : Rec} {t : List Ent} (h : WfR r) : (freesR r t).1.S = r.S ∧ (freesR r t).1.e = r.e :=
 (frees_ind (P := fun r1 _ => r1.S = r.S ∧ r1.e = r.e) (fun r1 t1 r' t' hw hp hs => by
  obtain ⟨_, l, x, hl, _, _, h1, h2⟩ := wf_free hw hs
  rw [h2]; exact hp) _ r t h rfl ⟨rfl, rfl⟩).1
theorem tries_goes {r : Rec} {t : List Ent} (h : WfR r) (hg : (triesR r t).2.2 = true) : Pn.backL r.e r.S = [] ∧ (triesR r t).1.e = r.e + 1 := by
 unfold triesR at hg ⊢
 cases hgo : goR (freesR r t).1 (freesR r t).2 oGo with
 | error k => rw [hgo] at hg; exact absurd hg (by simp)
 | ok x =>
  have hw := frees_wf (t := t) h
  obtain ⟨s1, s2⟩ := frees_S (t := t) h
  obtain ⟨_, _, h2, _, l, _, h3⟩ := go_parts hw (r' := x.1) (t' := x.2) hgo
  rw [s1, s2] at h2
  refine ⟨Pn.backL_nil.2 h2, ?_⟩
  show (freesR x.1 x.2).1.e = _
  rw [(frees_S (t := x.2) (wf_go hw (r' := x.1) (t' := x.2) hgo)).2, h3, ← s2]
theorem tries_stays {r : Rec} {t : List Ent} (h : WfR r) (hg : (triesR r t).2.2 = false) : (triesR r t).1.e = r.e := by
 unfold triesR at hg ⊢
 cases hgo : goR (freesR r t).1 (freesR r t).2 oGo with
 | error k => exact (frees_S (t := t) h).2
 | ok x => rw [hgo] at hg; exact absurd hg (by simp)
theorem tries_wf {r : Rec} {t : List Ent} (h : WfR r) : WfR (triesR r t).1 := (tries_ind (P := fun _ _ => True) (fun _ _ _ _ _ _ _ => trivial) (fun _ _ _ _ _ _ _ => trivial) h (t := t) trivial).2
theorem WfR.e0 {r : Rec} (h : WfR r) : 0 ≤ r.e ∧ r.e ≤ 4611686018427387904 := by
 have h1 := h.ok.ep
 have h2 : r.l.E ≤ Li.LAST := (Li.ok_out h.ok.lm).1
 have h3 : Li.LAST = 4611686018427387904 := rfl
 omega
end Go.Proofs.YtkicidopjihjmaaGreat
set_option linter.unusedSimpArgs false
set_option linter.unusedVariables false
namespace Go.Proofs.YtkicidopjihjmaaGreat
open Go Go.RowKit
theorem tryAs {F : Nat → Prop} {w : World} {v : Value} {r : Rec} (h : RecOut F w v r) (hf : FitV r) {r2 : Rec} {l : List Ent} {b : Bool} {k : Int} (hT : tryR r = (r2, l, b, k)) : Calls Tryz.prog 24 #[v] w fun e w' =>
  (∃ v At nt ct, e = .returned (.tuple #[v, .slice At nt ct, .bool b, .int .i64 k]) ∧ RecOut (From w.heap.size) w' v r2 ∧ w'.ownsRow w.heap.size 41 2 (.slice At nt ct) nt (Cs encE l) ∧ l.length = nt) ∧ Below w.heap.size w w' := by
 have h2 := vTry h hf
 unfold TryRes at h2
 rw [hT] at h2
 exact h2
theorem doAs {F : Nat → Prop} {w : World} {v : Value} {r : Rec} (h : RecOut F w v r) (hf : FitV r) (ok og ob x1 x2 : Int) (hb : 0 ≤ ob) (hx : U64 x2) {r2 : Rec} {y : Ent} {k : Int} (hT : doR r ⟨ok, og, ob, (x1, x2)⟩ = (r2, y, k)) : Calls Tryz.prog 13 #[v, .agg #[.int .i64 ok, .int .i64 og, .int .u64 ob, .int .i64 x1, .int .u64 x2]] w fun e w' =>
  (∃ v, e = .returned (.tuple #[v, .agg #[.int .i64 y.1, .int .u64 y.2], .int .i64 k]) ∧ RecOut (From w.heap.size) w' v r2) ∧ Below w.heap.size w w' := by
 have h2 := vDo h hf ⟨ok, og, ob, (x1, x2)⟩ hb hx
 unfold DoRes at h2
 rw [hT] at h2
 exact h2
end Go.Proofs.YtkicidopjihjmaaGreat
set_option linter.unusedSimpArgs false
set_option linter.unusedVariables false
namespace Go.Proofs.YtkicidopjihjmaaGreat
open Go Go.RowKit
structure OffP (a r : Rec) (k : Nat) : Prop where
 wf : WfR r
 sl : r.sl = a.sl
 l : r.l = a.l
 e : r.e = a.e
 len : r.S.length = a.S.length
 off : ∀ j, j < k → r.S.getD j 0 = 0
theorem OffP.step {a r : Rec} {k : Nat} (h : OffP a r k) (hk : k < a.S.length) {r' : Rec} {y : Ent} {z : Int} (hs : doR r ⟨2, (k : Int), 0, (0, 0)⟩ = (r', y, z)) : (z = 0 → OffP a r' (k + 1)) ∧ (z ≠ 0 → OffP a r (k + 1)) := by
 have ho := ok_iff.2 h.wf.ok
 unfold doR at hs
 rw [if_pos ho] at hs
 have hst : stepR r [] ⟨2, (k : Int), 0, (0, 0)⟩ = pinR r [] ⟨2, (k : Int), 0, (0, 0)⟩ 2 := rfl
 rw [hst] at hs
 have hdE : Pn.doE r.e r.S 2 (k : Int) 0 = if r.S.getD k 0 = 0 then 4 else 0 := by
  unfold Pn.doE
  rw [if_pos h.wf.ok.pn]
  unfold Pn.dE
  rw [if_neg (by have := h.len; omega), if_neg (by omega), if_neg (by omega)]
  simp
 cases hp : pinR r [] ⟨2, (k : Int), 0, (0, 0)⟩ 2 with
 | error c =>
  rw [hp] at hs
  simp only [Prod.mk.injEq] at hs
  obtain ⟨rfl, rfl, rfl⟩ := hs
  have hne := pin_ne hp
  refine ⟨fun hz => absurd hz hne, fun _ => ⟨h.wf, h.sl, h.l, h.e, h.len, fun j hj => ?_⟩⟩
  rcases Nat.lt_or_ge j k with h1 | h1
  ·
   exact h.off j h1
  ·
   obtain rfl : j = k := by omega
   unfold pinR at hp
   split at hp
   ·
    cases hp
   ·
    rename_i h2
    have h2 : ¬ Pn.doE r.e r.S 2 (j : Int) 0 = 0 := h2
    rw [hdE] at h2
    by_cases h3 : r.S.getD j 0 = 0
    ·
     exact h3
    ·
     rw [if_neg h3] at h2; exact absurd rfl h2
 | ok x =>
  have hw := wf_pin h.wf (.inr rfl) (Int.le_refl _) (r' := x.1) (t' := x.2) hp
  rw [hp] at hs
  simp only [Prod.mk.injEq] at hs
  obtain ⟨h1, _, rfl⟩ := hs
  refine ⟨fun _ => ?_, fun hz => absurd rfl hz⟩
  have h1 : x.1 = r' := h1
  unfold pinR at hp
  split at hp
  ·
   rename_i h0
   injection hp with hp
   have hx : x.1 = ⟨r.sl, Pn.doX r.e r.S 2 (k : Int) 0, Pn.doS r.e r.S 2 (k : Int) 0, r.l⟩ := by rw [← hp]
   have h0 : Pn.doE r.e r.S 2 (k : Int) 0 = 0 := h0
   have e1 : Pn.doX r.e r.S 2 (k : Int) 0 = r.e := by unfold Pn.doX; rw [if_pos h0]; rfl
   have e2 : Pn.doS r.e r.S 2 (k : Int) 0 = r.S.set k 0 := by unfold Pn.doS; rw [if_pos h0]; unfold Pn.dS; rw [if_neg (by omega), if_neg (by omega)]; simp
   rw [e1, e2] at hx
   rw [← h1]
   refine ⟨hw.1, by rw [hx]; exact h.sl, by rw [hx]; exact h.l, by rw [hx]; exact h.e, by rw [hx]; show (r.S.set k 0).length = _; rw [List.length_set]; exact h.len, fun j hj => ?_⟩
   rw [hx]
   show (r.S.set k 0).getD j 0 = 0
   rw [List.getD_eq_getElem?_getD, List.getElem?_set]
   split
   ·
    split <;> rfl
   ·
    rw [← List.getD_eq_getElem?_getD]
    exact h.off j (by omega)
  ·
   cases hp
theorem OffP.free {a r : Rec} (h : OffP a r a.S.length) : r.S.any (Pn.heldB r.e) = false := by
 rw [List.any_eq_false]
 intro s hs
 obtain ⟨j, hj, rfl⟩ := List.getElem_of_mem hs
 have h1 := h.off j (by have := h.len; omega)
 rw [List.getD_eq_getElem?_getD, List.getElem?_eq_getElem hj] at h1
 have h1 : r.S[j] = 0 := h1
 rw [h1]
 simp [Pn.heldB]
theorem tries_held {r : Rec} {t : List Ent} (h : WfR r) : (triesR r t).2.1 ++ (triesR r t).1.l.held = t ++ r.l.held :=
 (tries_ind (P := fun r1 t1 => t1 ++ r1.l.held = t ++ r.l.held) (fun r1 t1 r' t' hw hp hs => by
  obtain ⟨_, l, x, hl, _, _, h1, h2⟩ := wf_free hw hs
  rw [Li.held_take hl] at hp
  rw [h1, h2]
  simpa using hp) (fun r1 t1 r' t' hw hp hs => by
  obtain ⟨h1, h2, _⟩ := go_held hw hs
  rw [h1, h2]; exact hp) h rfl).1
theorem tries_mono {r : Rec} {t : List Ent} (h : WfR r) : r.e ≤ (triesR r t).1.e := by
 rcases Bool.eq_false_or_eq_true (triesR r t).2.2 with hg | hg
 ·
  rw [(tries_goes h hg).2]; omega
 ·
  rw [tries_stays h hg]; omega
theorem free_no {r : Rec} {t : List Ent} {k : Int} (h : WfR r) (hs : freeR r t = .error k) (hg : ∀ x ∈ r.l.held, x.2 < 1099511627775) : r.l.at 2 = [] := by
 cases h2 : r.l.at 2 with
 | nil => rfl
 | cons x rest =>
  exfalso
  have hd : Li.doTake r.l = .ok (⟨r.l.E, Li.upd r.l.r (Li.rowN r.l.E 2) rest⟩, x) := by unfold Li.doTake; rw [h2]
  have ht : Li.takR r.l = .ok (⟨r.l.E, Li.upd r.l.r (Li.rowN r.l.E 2) rest⟩, x) := by unfold Li.takR; rw [if_pos h.ok.lm]; exact hd
  unfold freeR at hs
  rw [ht] at hs
  have hx : x ∈ r.l.held := by unfold Li.Lim.held; rw [h2]; simp
  have h3 := h.ok.sub x hx
  obtain ⟨m1, m2⟩ := ents_iff.1 h3
  have hmem := ents_mem h3
  have hgv : gvE r.sl [x] = 0 := by
   unfold gvE
   rw [if_pos h.ok.ar]
   simp only [givS]
   have e1 : meantB r.sl x = true := by
    have h5 := List.getElem?_eq_some_iff.1 m2
    obtain ⟨h6, h7⟩ := h5
    unfold meantB
    simp
    refine ⟨⟨m1, by omega⟩, ?_⟩
    simp [List.getElem?_eq_getElem h6, h7]
   have e2 : tagOf r.sl x = 2 := by
    unfold tagOf
    rw [List.getD_eq_getElem?_getD, m2]; rfl
   rw [if_pos ⟨e1, by rw [e2]; omega⟩, if_pos (hg x hx)]
  dsimp only at hs
  rw [if_pos hgv] at hs
  cases hs
theorem frees_done {r : Rec} {t : List Ent} (h : WfR r) (hg : ∀ x ∈ r.l.held, x.2 < 1099511627775) : (freesR r t).1.l.at 2 = [] ∧ (∀ p ∈ (freesR r t).1.l.each, p ∈ r.l.each) ∧ (∀ x ∈ (freesR r t).1.l.held, x ∈ r.l.held) := by
 obtain ⟨⟨h1, h2⟩, hw, k, hk⟩ := frees_ind (P := fun r1 _ => (∀ p ∈ r1.l.each, p ∈ r.l.each) ∧ (∀ x ∈ r1.l.held, x ∈ r.l.held)) (fun r1 t1 r' t' hw hp hs => by
  obtain ⟨_, l, x, hl, _, _, _, h2⟩ := wf_free hw hs
  rw [h2]
  refine ⟨fun p hq => hp.1 p ?_, fun y hy => hp.2 y ?_⟩
  ·
   rw [(Li.each_take hl).1]; exact List.mem_cons_of_mem _ hq
  ·
   rw [Li.held_take hl]; exact List.mem_cons_of_mem _ hy) _ r t h rfl ⟨fun _ h => h, fun _ h => h⟩
 exact ⟨free_no hw hk (fun x hx => hg x (h2 x hx)), h1, h2⟩
theorem go_yes {r : Rec} {t : List Ent} (h : WfR r) (h2 : r.l.at 2 = []) (hp : r.S.any (Pn.heldB r.e) = false) (he : r.e < 4611686018427387904) : ∃ x, goR r t oGo = .ok x := by
 unfold goR
 rw [if_pos (by rw [if_pos h.ok.lm, h2]; rfl)]
 have hd : Pn.doE r.e r.S 3 oGo.g oGo.b = 0 := by
  unfold Pn.doE
  rw [if_pos h.ok.pn]
  unfold Pn.dE
  rw [if_neg (by omega), if_pos rfl, if_neg (by rw [hp]; decide), if_neg (by omega)]
 have hpin : pinR r t oGo 3 = .ok (⟨r.sl, Pn.doX r.e r.S 3 oGo.g oGo.b, Pn.doS r.e r.S 3 oGo.g oGo.b, r.l⟩, t) := by unfold pinR; rw [if_pos hd]
 rw [hpin]
 dsimp only
 have ha : Li.advR r.l = .ok ⟨r.l.E + 1, r.l.r⟩ := by
  unfold Li.advR
  rw [if_pos h.ok.lm]
  unfold Li.doAdv
  rw [if_neg (by rw [h2]; simp), if_pos (by have := h.ok.ep; have h3 : Li.LAST = 4611686018427387904 := rfl; omega)]
 rw [ha]
 exact ⟨_, rfl⟩
theorem each_low {l : Li.Lim} (h : l.at 2 = []) : ∀ p ∈ l.each, p.1 ≤ 1 := by
 intro p hp
 unfold Li.Lim.each at hp
 rw [h] at hp
 simp only [Li.tag, List.map_nil, List.nil_append, List.mem_append, List.mem_map] at hp
 rcases hp with ⟨_, _, rfl⟩ | ⟨_, _, rfl⟩
 ·
  exact Nat.le_refl _
 ·
  exact Nat.zero_le _
theorem tries_up {r : Rec} {t : List Ent} {k : Nat} (h : WfR r) (hp : r.S.any (Pn.heldB r.e) = false) (he : r.e < 4611686018427387904) (hg : ∀ x ∈ r.l.held, x.2 < 1099511627775) (hk : ∀ p ∈ r.l.each, k ≤ p.1) :
  (∀ p ∈ (triesR r t).1.l.each, k + 1 ≤ p.1 ∧ p.1 ≤ 1) ∧ (triesR r t).1.e = r.e + 1 ∧ (triesR r t).1.S = r.S ∧ (∀ x ∈ (triesR r t).1.l.held, x ∈ r.l.held) := by
 have hw := frees_wf (t := t) h
 obtain ⟨s1, s2⟩ := frees_S (t := t) h
 obtain ⟨f1, f2, f3⟩ := frees_done (t := t) h hg
 obtain ⟨x, hx⟩ := go_yes (r := (freesR r t).1) (t := (freesR r t).2) hw f1 (by rw [s1, s2]; exact hp) (by rw [s2]; exact he)
 have hw2 := wf_go hw (r' := x.1) (t' := x.2) hx
 obtain ⟨_, _, _, _, l, hl, h3⟩ := go_parts hw (r' := x.1) (t' := x.2) hx
 obtain ⟨g1, _⟩ := go_held hw (r' := x.1) (t' := x.2) hx
 obtain ⟨q1, q2⟩ := frees_S (t := x.2) hw2
 obtain ⟨u1, u2, u3⟩ := frees_done (t := x.2) hw2 (fun y hy => hg y (f3 y (by rw [← g1]; exact hy)))
 unfold triesR
 rw [hx]
 dsimp only
 refine ⟨fun p hp2 => ⟨?_, each_low u1 p hp2⟩, by rw [q2, h3, s2], by rw [q1, h3, s1], fun y hy => f3 y (by rw [← g1]; exact u3 y hy)⟩
 have h4 := u2 p hp2
 rw [h3, (Li.each_adv hl).1] at h4
 obtain ⟨p0, hp0, rfl⟩ := List.mem_map.1 h4
 have := hk p0 (f2 p0 hp0)
 show k + 1 ≤ p0.1 + 1
 omega
def three (r : Rec) : Rec × List Ent := ((triesR (triesR (triesR r []).1 []).1 []).1, (triesR r []).2.1 ++ (triesR (triesR r []).1 []).2.1 ++ (triesR (triesR (triesR r []).1 []).1 []).2.1)
def manyT (r : Rec) : Nat → Rec × List Ent
 | 0 => (r, [])
 | n + 1 => ((triesR (manyT r n).1 []).1, (manyT r n).2 ++ (triesR (manyT r n).1 []).2.1)
theorem many_succ (r : Rec) (n : Nat) : manyT r (n + 1) = ((triesR (manyT r n).1 []).1, (manyT r n).2 ++ (triesR (manyT r n).1 []).2.1) := rfl
theorem many_zero (r : Rec) : manyT r 0 = (r, []) := rfl
theorem many_wf {r : Rec} (h : WfR r) : ∀ n, WfR (manyT r n).1
 | 0 => h
 | n + 1 => tries_wf (many_wf h n)
theorem many_held {r : Rec} (h : WfR r) : ∀ n, (manyT r n).2 ++ (manyT r n).1.l.held = r.l.held
 | 0 => rfl
 | n + 1 => by
  show ((manyT r n).2 ++ (triesR (manyT r n).1 []).2.1) ++ (triesR (manyT r n).1 []).1.l.held = _
  rw [List.append_assoc, tries_held (many_wf h n), List.nil_append, many_held h n]
theorem many_none {r : Rec} (h : WfR r) (hp : r.S.any (Pn.heldB r.e) = false) (hz : ∀ s ∈ r.S, s = 0) (hg : ∀ x ∈ r.l.held, x.2 < 1099511627775) (he : (manyT r 3).1.e ≤ 4611686018427387901) : (manyT r 3).1.l.held = [] := by
 have m1 := tries_mono (t := []) h
 have m2 := tries_mono (t := []) (many_wf h 1)
 have m3 := tries_mono (t := []) (many_wf h 2)
 have e1 : (manyT r 1).1 = (triesR r []).1 := by rw [many_succ, many_zero]
 have e2 : (manyT r 2).1 = (triesR (triesR r []).1 []).1 := by rw [many_succ, e1]
 have e3 : (manyT r 3).1 = (triesR (triesR (triesR r []).1 []).1 []).1 := by rw [many_succ, e2]
 rw [e3] at he
 rw [e1] at m2
 rw [e2] at m3
 obtain ⟨a1, a2, a3, a4⟩ := tries_up (t := []) (k := 0) h hp (by omega) hg (fun _ _ => Nat.zero_le _)
 have hw1 := many_wf h 1
 rw [e1] at hw1
 obtain ⟨b1, b2, b3, b4⟩ := tries_up (t := []) (k := 1) hw1 (by
  rw [a3, List.any_eq_false]
  intro s hs
  rw [hz s hs]; simp [Pn.heldB]) (by omega) (fun x hx => hg x (a4 x hx)) (fun p hp => (a1 p hp).1)
 have he0 : (triesR (triesR r []).1 []).1.l.each = [] := by
  rw [List.eq_nil_iff_forall_not_mem]
  intro p hp
  have := b1 p hp
  omega
 have hh : (triesR (triesR r []).1 []).1.l.held = [] := by rw [← Li.each_held, he0]; rfl
 have hw2 := many_wf h 2
 rw [e2] at hw2
 have := (tries_E (t := []) hw2).1
 rw [hh] at this
 rw [e3]
 apply List.eq_nil_of_length_eq_zero
 simp only [List.length_nil, Nat.add_zero] at this
 omega
theorem held_nodup {r : Rec} (h : WfR r) : r.l.held.Nodup := by
 have h1 := Li.okP_nodup (Li.ok_out h.ok.lm).2
 have h2 : (r.l.held.map (·.1)).Nodup := by rw [← Li.each_held, List.map_map]; exact h1
 exact List.Pairwise.of_map (·.1) (fun a b hab e => hab (by rw [e])) h2
structure AllOk (a r : Rec) (n : Nat) : Prop where
 sub : ∀ x ∈ (manyT r n).2, x ∈ ents r.sl 2
 nodup : (manyT r n).2.Nodup
theorem all_ok {r : Rec} (h : WfR r) (n : Nat) : AllOk r r n := by
 have hh := many_held h n
 have hn := held_nodup h
 rw [← hh] at hn
 refine ⟨fun x hx => h.ok.sub x (by rw [← hh]; exact List.mem_append_left _ hx), (List.nodup_append.1 hn).1⟩
theorem all_end {r : Rec} (h : WfR r) (hp : ∀ s ∈ r.S, s = 0) (hg : ∀ x ∈ ents r.sl 2, x.2 ≠ 1099511627775) (he : (manyT r 3).1.e ≤ 4611686018427387901) : (manyT r 3).2.length = (ents r.sl 2).length ∧ waitsR (manyT r 3).1 = 0 := by
 have hg2 : ∀ x ∈ r.l.held, x.2 < 1099511627775 := fun x hx => by
  have h1 := h.ok.sub x hx
  have h2 := hg x h1
  obtain ⟨_, _, h3⟩ := ents_mem h1
  have h4 := slabOk_out ((arOk_out h.ok.ar).2.2 _ (List.mem_of_getElem? h3))
  have h5 := h4.2.2
  dsimp only at h5
  omega
 have h0 : r.S.any (Pn.heldB r.e) = false := by
  rw [List.any_eq_false]
  intro s hs
  rw [hp s hs]; simp [Pn.heldB]
 have hn := many_none h h0 hp hg2 he
 have hh := many_held h 3
 rw [hn, List.append_nil] at hh
 refine ⟨by rw [hh]; exact h.ok.len, ?_⟩
 unfold waitsR
 rw [hn]
 split <;> rfl
theorem OffP.zero {a r : Rec} (h : OffP a r a.S.length) : ∀ s ∈ r.S, s = 0 := by
 intro s hs
 obtain ⟨j, hj, rfl⟩ := List.getElem_of_mem hs
 have h1 := h.off j (by have := h.len; omega)
 rw [List.getD_eq_getElem?_getD, List.getElem?_eq_getElem hj] at h1
 exact h1
end Go.Proofs.YtkicidopjihjmaaGreat
set_option linter.unusedSimpArgs false
set_option linter.unusedVariables false
namespace Go.Proofs.YtkicidopjihjmaaGreat
open Go Go.RowKit
structure HoldI (E0 : Int) (L0 : List Ent) (g : Int) (r : Rec) : Prop where
 wf : WfR r
 lo : E0 ≤ r.e ∧ r.e ≤ E0 + 1
 g0 : 0 ≤ g
 pin : r.S[g.toNat]? = some (E0 + 1)
 e0 : 0 ≤ E0
 live : ∀ x ∈ L0, 0 ≤ x.1 ∧ (r.sl[x.1.toNat]? = some (1, x.2) ∨ (r.sl[x.1.toNat]? = some (2, x.2) ∧ ∃ a, (a, x) ∈ r.l.each ∧ (a : Int) ≤ r.e - E0))
theorem HoldI.tag {E0 : Int} {L0 : List Ent} {g : Int} {r : Rec} (h : HoldI E0 L0 g r) {x : Ent} (hx : x ∈ L0) : (arOk r.sl && meantB r.sl x) = true ∧ tagOf r.sl x ≠ 0 := by
 obtain ⟨x1, x2⟩ := h.live x hx
 obtain ⟨u, hu, hu2⟩ : ∃ u : Int, r.sl[x.1.toNat]? = some (u, x.2) ∧ u ≠ 0 := by
  rcases x2 with x2 | ⟨x2, _⟩
  ·
   exact ⟨1, x2, by omega⟩
  ·
   exact ⟨2, x2, by omega⟩
 obtain ⟨h6, h7⟩ := List.getElem?_eq_some_iff.1 hu
 constructor
 ·
  rw [h.wf.ok.ar]
  unfold meantB
  simp
  refine ⟨⟨x1, by omega⟩, ?_⟩
  simp [List.getElem?_eq_getElem h6, h7]
 ·
  unfold tagOf
  rw [List.getD_eq_getElem?_getD, hu]
  exact hu2
end Go.Proofs.YtkicidopjihjmaaGreat
set_option linter.unusedSimpArgs false
set_option linter.unusedVariables false
namespace Go.Proofs.YtkicidopjihjmaaGreat
open Go Go.RowKit
attribute [local go_sem] via_cell via_frozen
theorem rec_apart {w : World} {B n g : Nat} {A : Option Addr} {xs : List Ent} {e : Int} {E : Nat} {A0 As : Option Addr} {n0 c0 ns cs : Nat} {A2 : Nat → Option Addr} {n2 c2 : Nat → Nat} {t : TypeId} (h : Rd w B 2 A n (Cs encE xs)) (hx : xs.length = n) (hg : RowAt w g t (recC e E A0 As n0 c0 ns cs A2 n2 c2)) : 0 < n → ∀ p, A = some p → p.block ≠ g := by
 intro hn q hq he
 obtain ⟨b, o, e1, hb, hc⟩ := h.2 hn
 rw [hq] at e1
 injection e1 with e1
 subst e1
 cases xs with
 | nil => simp at hx; omega
 | cons x xs =>
  have h0 := hc 0 (.int .i64 x.1) rfl
  have e2 : b = g := he
  subst e2
  rw [hg.cell] at h0
  match o with
  | 0 => simp at h0
  | 1 => simp at h0
  | 2 => simp at h0
  | 3 => simp at h0
  | 4 => simp at h0
  | 5 => simp at h0
  | 6 => simp at h0
  | o + 7 => simp at h0
theorem BoxR.lt {w : World} {g : Nat} {r : Rec} (h : BoxR w g r) : g < w.heap.size := by
 obtain ⟨_, _, _, _, _, _, _, _, _, h, _⟩ := h
 exact h.lt
structure HoldW (W w : World) (g m : Nat) (A : Option Addr) (E0 : Int) (L0 : List Ent) (goer : Int) (r : Rec) : Prop where
 box : BoxR w g r
 inv : HoldI E0 L0 goer r
 live : Rd w w.heap.size 2 A m (Cs encE L0)
 lm : L0.length = m
 below : Below W.heap.size W w
 lo : W.heap.size ≤ g
theorem HoldW.keep {W w w' : World} {g m : Nat} {A : Option Addr} {E0 : Int} {L0 : List Ent} {goer : Int} {r : Rec} (h : HoldW W w g m A E0 L0 goer r) (hb : Below w.heap.size w w') : HoldW W w' g m A E0 L0 goer r :=
 ⟨h.box.below hb, h.inv, (h.live.below hb).more hb.size, h.lm, h.below.trans (hb.mono h.below.size), h.lo⟩
theorem HoldW.put {W w ww : World} {g m : Nat} {A : Option Addr} {E0 : Int} {L0 : List Ent} {goer : Int} {r r' : Rec} {A0 As : Option Addr} {n0 c0 ns cs : Nat} {A2 : Nat → Option Addr} {n2 c2 : Nat → Nat} {F : Nat → Prop} (h : HoldW W w g m A E0 L0 goer r) (hl : LaidF g w ww) (hrow : RowAt ww g 34 (recC r'.e r'.l.E A0 As n0 c0 ns cs A2 n2 c2)) (hr : RecF F w A0 As n0 c0 ns cs A2 n2 c2 r') (hF : ∀ j, F j → j ≠ g) (hi : HoldI E0 L0 goer r') : HoldW W ww g m A E0 L0 goer r' := by
 refine ⟨⟨A0, As, n0, c0, ns, cs, A2, n2, c2, hrow, (hr.stay (hl.stay (fun h => hF g h rfl))).up (fun j hj _ => hF j hj)⟩, hi, ?_, h.lm, h.below.trans (hl.below.mono h.lo), h.lo⟩
 obtain ⟨_, _, _, _, _, _, _, _, _, hrw, _⟩ := h.box
 exact h.live.stayF (F := fun j => j ≠ g) (fun hn p hp => rec_apart h.live h.lm hrw hn p hp) (hl.stay (fun h => h rfl))
theorem containsAs {w : World} {A : Option Addr} {m c : Nat} {L : List Ent} (h : Rd w w.heap.size 2 A m (Cs encE L)) (hm : L.length = m) (hl : m ≤ 4096) (s g : Int) {b : Bool} (hb : L.any (fun y => decide (y = (s, g))) = b) :
  Calls Tryz.prog 25 #[.slice A m c, .agg #[.int .i64 s, .int .u64 g]] w fun e w' => e = .returned (.bool b) ∧ Below w.heap.size w w' := by
 subst hm
 exact ContainsEE _ A c s g L w h (Nat.le_refl _) hl b hb
end Go.Proofs.YtkicidopjihjmaaGreat
