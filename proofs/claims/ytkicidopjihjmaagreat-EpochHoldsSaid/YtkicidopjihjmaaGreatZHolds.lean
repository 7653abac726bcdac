/-
  EpochHolds answers true for every reclaim, number, and row of ops, and leaves its arguments as they were. No condition.
-/
import Derived.Test.YtkicidopjihjmaaGreatZHoldsE
set_option linter.unusedSimpArgs false
set_option linter.unusedVariables false
set_option linter.unusedSimpArgs false
set_option linter.unusedVariables false
namespace Go.Proofs.YtkicidopjihjmaaGreat
open Go Go.RowKit
attribute [local go_sem] via_cell via_frozen
structure WkB (W w : World) (g1 g3 : Nat) (r : Rec) : Prop where
  box : BoxR w g1 r
  ent : RowAt w g3 41 #[.int .i64 0, .int .u64 0]
  lo : W.heap.size ≤ g1 ∧ g1 < g3
  below : Below W.heap.size W w
theorem WkB.keep {W w w' : World} {g1 g3 : Nat} {r : Rec} (h : WkB W w g1 g3 r) (hb : Below w.heap.size w w') : WkB W w' g1 g3 r := ⟨h.box.below hb, h.ent.below hb, h.lo, h.below.trans (hb.mono h.below.size)⟩
theorem WkB.put {W w ww : World} {g1 g3 base : Nat} {r0 r : Rec} {A0 As : Option Addr} {n0 c0 ns cs : Nat} {A : Nat → Option Addr} {n c : Nat → Nat} (h : WkB W w g1 g3 r0) (hl : LaidF g1 w ww) (hrow : RowAt ww g1 34 (recC r.e r.l.E A0 As n0 c0 ns cs A n c)) (hr : RecF (From base) w A0 As n0 c0 ns cs A n c r) (hg : g1 < base) : WkB W ww g1 g3 r :=
  ⟨⟨A0, As, n0, c0, ns, cs, A, n, c, hrow, (hr.stay (hl.stay (fun (h : base ≤ g1) => by omega))).up (fun j (hj : base ≤ j) _ => by show j ≠ g1; omega)⟩, (hl.block _ (by have := h.lo; omega)).trans h.ent, h.lo, h.below.trans (hl.below.mono h.lo.1)⟩
theorem WkB.put2 {W w w' w2 : World} {g1 g3 ge base : Nat} {r0 r : Rec} {A0 As : Option Addr} {n0 c0 ns cs : Nat} {A : Nat → Option Addr} {n c : Nat → Nat} (h : WkB W w g1 g3 r0) (hl : LaidF g1 w w') (hl2 : LaidF ge w' w2) (hrow : RowAt w' g1 34 (recC r.e r.l.E A0 As n0 c0 ns cs A n c)) (hr : RecF (fun j => base ≤ j ∧ j ≠ ge) w A0 As n0 c0 ns cs A n c r) (hg : g1 < base) (h1 : ge ≠ g1) (h3 : ge ≠ g3) (hW : W.heap.size ≤ ge) : WkB W w2 g1 g3 r :=
  ⟨⟨A0, As, n0, c0, ns, cs, A, n, c, (hl2.block _ (Ne.symm h1)).trans hrow, (((hr.stay (hl.stay (fun h => by have h5 : base ≤ g1 := h.1; omega))).stay (hl2.stay (fun h => h.2 rfl))).up (fun j hj _ => by have h5 : base ≤ j := hj.1; show j ≠ g1; omega))⟩, (hl2.block _ (Ne.symm h3)).trans ((hl.block _ (by have := h.lo; omega)).trans h.ent), h.lo, (h.below.trans (hl.below.mono h.lo.1)).trans (hl2.below.mono hW)⟩
theorem own_up {w ww : World} {ge base n c : Nat} {At : Option Addr} {xs : List Value} (h : w.ownsRow base 41 2 (.slice At n c) n xs) (hl : LaidF ge w ww) (hlt : ∀ q, At = some q → q.block < ge) : ww.ownsRow base 41 2 (.slice At n c) n xs :=
  own_kept h (fun j hj _ => hl.block j (fun e => by
    rw [own_block] at hj
    cases At with
    | none => cases hj
    | some q => (injection hj with hj; have hj : q.block = j := hj; have := hlt q rfl; omega)))
theorem u64z : U64 0 := by unfold U64; omega
theorem RecF.val {F : Nat → Prop} {w : World} {A0 As : Option Addr} {n0 c0 ns cs : Nat} {A : Nat → Option Addr} {n c : Nat → Nat} {r : Rec} (h : RecF F w A0 As n0 c0 ns cs A n c r) : RecOut F w (.agg (recC r.e r.l.E A0 As n0 c0 ns cs A n c)) r := by
  refine ⟨A0, As, n0, c0, ns, cs, A, n, c, rfl, h⟩
theorem own_laid {w ww : World} {g base n : Nat} {v : Value} {xs : List Value} {C : Array Value} (h : w.ownsRow base 41 2 v n xs) (hrow : RowAt w g 34 C) (hl : LaidF g w ww) : ww.ownsRow base 41 2 v n xs :=
  own_kept h (fun j hj _ => hl.block j (fun e => by
    obtain ⟨_, cs, h2⟩ := own_typ h hj
    rw [e] at h2
    exact absurd (row_typ h2 hrow) (by decide)))
theorem eqEz (A1 A2 : Option Addr) (c1 c2 n1 n2 : Nat) (xs ys : List (Int × Int)) (W : World) (h1 : Rd W W.heap.size 2 A1 n1 (Cs encE xs)) (h2 : Rd W W.heap.size 2 A2 n2 (Cs encE ys)) (hx : xs.length = n1) (hy : ys.length = n2) (hl1 : n1 ≤ 4096) (hl2 : n2 ≤ 4096) (r : Bool) (hr : decide (xs = ys) = r) :
    Calls Tryz.prog 19 #[.slice A1 n1 c1, .slice A2 n2 c2] W fun e W' => e = .returned (.bool r) ∧ Below W.heap.size W W' := by
  subst hx; subst hy
  exact EqualE _ _ A1 A2 c1 c2 xs ys W h1 h2 (Nat.le_refl _) (Nat.le_refl _) hl1 hl2 r hr
set_option maxRecDepth 100000 in
set_option maxHeartbeats 16000000 in
theorem wakes_any (W : World) : Calls Tryz.prog 9 #[] W fun e W' => e = .returned (.bool true) ∧ Below W.heap.size W W' := by
  have HC := hide (New_any 2 3 W)
  go_enter Tryz.func9, Tryz.ntmps9
  go_wp2_with fail
  with_reducible refine HC.out.mono ?_
  rintro e w1 ⟨⟨v, rfl, hv⟩, hb⟩
  have hv : RecOut (fun _ => True) w1 v wk0 := hv
  obtain ⟨B0, Bs, m0, d0, ms, ds, B, m, d, rfl, hr⟩ := hv
  have HV := hide hr
  have HB1 := hide hb
  have ke : NewK 2 3 = 0 := rfl
  rw [ke]
  clear hr hb HC ke
  go_upto_region 2 with (fail)
  have hbA : Below w1.heap.size w1 (w1.alloc (.cells (recC wk0.e wk0.l.E B0 Bs m0 d0 ms ds B m d) 34)) := (Below.refl _ _).alloc (Nat.le_refl _) _
  have hbE : Below (w1.alloc (.cells (recC wk0.e wk0.l.E B0 Bs m0 d0 ms ds B m d) 34)).heap.size (w1.alloc (.cells (recC wk0.e wk0.l.E B0 Bs m0 d0 ms ds B m d) 34)) ((w1.alloc (.cells (recC wk0.e wk0.l.E B0 Bs m0 d0 ms ds B m d) 34)).alloc (.cells #[.int .i64 0, .int .u64 0] 41)) := (Below.refl _ _).alloc (Nat.le_refl _) _
  have hsA : (w1.alloc (.cells (recC wk0.e wk0.l.E B0 Bs m0 d0 ms ds B m d) 34)).heap.size = w1.heap.size + 1 := by rw [World.size_alloc]
  have HK := hide (show WkB W ((w1.alloc (.cells (recC wk0.e wk0.l.E B0 Bs m0 d0 ms ds B m d) 34)).alloc (.cells #[.int .i64 0, .int .u64 0] 41)) w1.heap.size (w1.heap.size + 1) wk0 from ⟨⟨B0, Bs, m0, d0, ms, ds, B, m, d, (RowAt.new w1 34 (recC wk0.e wk0.l.E B0 Bs m0 d0 ms ds B m d)).below hbE, ((HV.out.up (G := fun j => j ≠ w1.heap.size) (fun j _ hl => by show j ≠ _; omega)).below hbA).below hbE⟩, by have h := RowAt.new (w1.alloc (.cells (recC wk0.e wk0.l.E B0 Bs m0 d0 ms ds B m d) 34)) 41 #[.int .i64 0, .int .u64 0]; rw [hsA] at h; exact h, ⟨HB1.out.size, by omega⟩, (HB1.out.trans (hbA.mono HB1.out.size)).trans (hbE.mono (by have := HB1.out.size; omega))⟩)
  clear hbA hbE hsA
  go_upto_region 3 with (fail)
  skip
  obtain ⟨w3, hw3⟩ : ∃ w3, ((w1.alloc (.cells (recC wk0.e wk0.l.E B0 Bs m0 d0 ms ds B m d) 34)).alloc (.cells #[.int .i64 0, .int .u64 0] 41)) = w3 := ⟨_, rfl⟩
  rw [hw3] at HK
  rw [hw3]
  clear hw3 HV HB1
  generalize w1.heap.size + 1 = g3 at *
  generalize w1.heap.size = g1 at *
  obtain ⟨C0, Cs0, p0, f0, ps, fs, C, q, f, hrow, hrec⟩ := HK.out.box
  have HRW := hide hrow
  have HRC := hide hrec
  clear hrow hrec
  have HSX := hide (fun (wX : World) (hgX : Below w3.heap.size w3 wX) => show wX.cell? ⟨g1, 0, none⟩ = some (.slice C0 p0 f0) ∧ wX.cell? ⟨g1, 1, none⟩ = some (.int .u64 wk0.e) ∧ wX.cell? ⟨g1, 2, none⟩ = some (.slice Cs0 ps fs) ∧ wX.cell? ⟨g1, 3, none⟩ = some (.int .u64 (wk0.l.E : Int)) ∧ wX.cell? ⟨g1, 4, none⟩ = some (.slice (C 0) (q 0) (f 0)) ∧ wX.cell? ⟨g1, 5, none⟩ = some (.slice (C 1) (q 1) (f 1)) ∧ wX.cell? ⟨g1, 6, none⟩ = some (.slice (C 2) (q 2) (f 2)) ∧ wX.cell? ⟨g3, 0, none⟩ = some (.int .i64 0) ∧ wX.cell? ⟨g3, 1, none⟩ = some (.int .u64 0) ∧ g1 < wX.heap.size ∧ g3 < wX.heap.size from by
    obtain ⟨z0, z1, z2, z3, z4, z5, z6⟩ := row7 HRW.out
    exact ⟨kept hgX z0, kept hgX z1, kept hgX z2, kept hgX z3, kept hgX z4, kept hgX z5, kept hgX z6, kept hgX (row20 HK.out.ent), kept hgX (row21 HK.out.ent), Nat.lt_of_lt_of_le HRW.out.lt hgX.size, Nat.lt_of_lt_of_le HK.out.ent.lt hgX.size⟩)
  have HX := hide ((Below.refl w3.heap.size w3).drew)
  refine wp_region_Z (fun wX => wX.cell? ⟨g1, 0, none⟩ = some (.slice C0 p0 f0) ∧ wX.cell? ⟨g1, 1, none⟩ = some (.int .u64 wk0.e) ∧ wX.cell? ⟨g1, 2, none⟩ = some (.slice Cs0 ps fs) ∧ wX.cell? ⟨g1, 3, none⟩ = some (.int .u64 (wk0.l.E : Int)) ∧ wX.cell? ⟨g1, 4, none⟩ = some (.slice (C 0) (q 0) (f 0)) ∧ wX.cell? ⟨g1, 5, none⟩ = some (.slice (C 1) (q 1) (f 1)) ∧ wX.cell? ⟨g1, 6, none⟩ = some (.slice (C 2) (q 2) (f 2)) ∧ wX.cell? ⟨g3, 0, none⟩ = some (.int .i64 0) ∧ wX.cell? ⟨g3, 1, none⟩ = some (.int .u64 0) ∧ g1 < wX.heap.size ∧ g3 < wX.heap.size) 16 (by kernel_rfl) (HSX.out _ HX.out) (fun hHeld => ?_)
  clear hHeld
  have hS0 := HSX.out _ HX.out
  generalize w3.drew = wd at *
  (refine wpAnyZ_take (i := 0) (v := ?_) rfl (by kernel_rfl) (by kernel_rfl) (by kernel_rfl) (by kernel_rfl) (by kernel_rfl) (fun _ _ _ h => h) (Or.inl ⟨by rfl, ?_⟩) (by assumption) ?_; rotate_left; (focus (intro w hSw; (try dsimp only at hSw); obtain ⟨kf0, kf1, kf2, kf3, kf4, kf5, kf6, kf7, kf8, kf9, kf10⟩ := hSw; go_simp; first | done | with_reducible rfl)); (try simp only [Act.put, List.getElem_toArray, List.getElem_cons_succ, List.getElem_cons_zero, List.setIfInBounds_toArray, List.set_cons_zero, List.set_cons_succ]))
  (refine wpAnyZ_take (i := 1) (v := ?_) rfl (by kernel_rfl) (by kernel_rfl) (by kernel_rfl) (by kernel_rfl) (by kernel_rfl) (fun _ _ _ h => h) (Or.inl ⟨by rfl, ?_⟩) (by assumption) ?_; rotate_left; (focus (intro w hSw; (try dsimp only at hSw); obtain ⟨kf0, kf1, kf2, kf3, kf4, kf5, kf6, kf7, kf8, kf9, kf10⟩ := hSw; go_simp; first | done | with_reducible rfl)); (try simp only [Act.put, List.getElem_toArray, List.getElem_cons_succ, List.getElem_cons_zero, List.setIfInBounds_toArray, List.set_cons_zero, List.set_cons_succ]))
  (refine wpAnyZ_take (i := 3) (v := ?_) rfl (by kernel_rfl) (by kernel_rfl) (by kernel_rfl) (by kernel_rfl) (by kernel_rfl) (fun _ _ _ h => h) (Or.inl ⟨by rfl, ?_⟩) (by assumption) ?_; rotate_left; (focus (intro w hSw; (try dsimp only at hSw); obtain ⟨kf0, kf1, kf2, kf3, kf4, kf5, kf6, kf7, kf8, kf9, kf10⟩ := hSw; go_simp; first | done | with_reducible rfl)); (try simp only [Act.put, List.getElem_toArray, List.getElem_cons_succ, List.getElem_cons_zero, List.setIfInBounds_toArray, List.set_cons_zero, List.set_cons_succ]))
  (refine wpAnyZ_take (i := 5) (v := ?_) rfl (by kernel_rfl) (by kernel_rfl) (by kernel_rfl) (by kernel_rfl) (by kernel_rfl) (fun _ _ _ h => h) (Or.inl ⟨by rfl, ?_⟩) (by assumption) ?_; rotate_left; (focus (intro w hSw; (try dsimp only at hSw); obtain ⟨kf0, kf1, kf2, kf3, kf4, kf5, kf6, kf7, kf8, kf9, kf10⟩ := hSw; go_simp; first | done | with_reducible rfl)); (try simp only [Act.put, List.getElem_toArray, List.getElem_cons_succ, List.getElem_cons_zero, List.setIfInBounds_toArray, List.set_cons_zero, List.set_cons_succ]))
  (refine wpAnyZ_take (i := 7) (v := ?_) rfl (by kernel_rfl) (by kernel_rfl) (by kernel_rfl) (by kernel_rfl) (by kernel_rfl) (fun _ _ _ h => h) (Or.inl ⟨by rfl, ?_⟩) (by assumption) ?_; rotate_left; (focus (intro w hSw; (try dsimp only at hSw); obtain ⟨kf0, kf1, kf2, kf3, kf4, kf5, kf6, kf7, kf8, kf9, kf10⟩ := hSw; go_simp; first | done | with_reducible rfl)); (try simp only [Act.put, List.getElem_toArray, List.getElem_cons_succ, List.getElem_cons_zero, List.setIfInBounds_toArray, List.set_cons_zero, List.set_cons_succ]))
  refine wpAnyZ_one (i := 2) rfl (by kernel_rfl) (fun K0 hK0 => ?_)
  go_simp
  with_reducible refine (op_any 3 0 0 0 wd).mono ?_
  rintro e wo0 ⟨rfl, hb⟩
  have hX2 := HX.out.trans (hb.mono HX.out.size)
  replace HX := hide hX2
  clear hX2 hS0 hb
  have hS0 := HSX.out _ HX.out
  refine hK0.out _ _ (fun _ _ => hS0) ?_
  clear hK0 K0
  (try simp only [Act.put, List.getElem_toArray, List.getElem_cons_succ, List.getElem_cons_zero, List.setIfInBounds_toArray, List.set_cons_zero, List.set_cons_succ])
  refine wpAnyZ_one (i := 4) rfl (by kernel_rfl) (fun K1 hK1 => ?_)
  go_simp
  with_reducible refine (op_any 3 0 0 0 wo0).mono ?_
  rintro e wo1 ⟨rfl, hb⟩
  have hX2 := HX.out.trans (hb.mono HX.out.size)
  replace HX := hide hX2
  clear hX2 hS0 hb
  have hS0 := HSX.out _ HX.out
  refine hK1.out _ _ (fun _ _ => hS0) ?_
  clear hK1 K1
  (try simp only [Act.put, List.getElem_toArray, List.getElem_cons_succ, List.getElem_cons_zero, List.setIfInBounds_toArray, List.set_cons_zero, List.set_cons_succ])
  refine wpAnyZ_one (i := 6) rfl (by kernel_rfl) (fun K2 hK2 => ?_)
  go_simp
  with_reducible refine (op_any 1 0 0 0 wo1).mono ?_
  rintro e wo2 ⟨rfl, hb⟩
  have hX2 := HX.out.trans (hb.mono HX.out.size)
  replace HX := hide hX2
  clear hX2 hS0 hb
  have hS0 := HSX.out _ HX.out
  refine hK2.out _ _ (fun _ _ => hS0) ?_
  clear hK2 K2
  (try simp only [Act.put, List.getElem_toArray, List.getElem_cons_succ, List.getElem_cons_zero, List.setIfInBounds_toArray, List.set_cons_zero, List.set_cons_succ])
  refine wpAnyZ_one (i := 8) rfl (by kernel_rfl) (fun K3 hK3 => ?_)
  go_simp
  with_reducible refine (op_any 5 0 0 0 wo2).mono ?_
  rintro e wo3 ⟨rfl, hb⟩
  have hX2 := HX.out.trans (hb.mono HX.out.size)
  replace HX := hide hX2
  clear hX2 hS0 hb
  have hS0 := HSX.out _ HX.out
  refine hK3.out _ _ (fun _ _ => hS0) ?_
  clear hK3 K3
  (try simp only [Act.put, List.getElem_toArray, List.getElem_cons_succ, List.getElem_cons_zero, List.setIfInBounds_toArray, List.set_cons_zero, List.set_cons_succ])
  refine wpAnyZ_one (i := 9) rfl (by kernel_rfl) (fun K4 hK4 => ?_)
  go_simp
  have hb : Below wo3.heap.size wo3 (wo3.alloc (.cells #[.int .i64 3, .int .i64 0, .int .u64 0, .int .i64 0, .int .u64 0, .int .i64 3, .int .i64 0, .int .u64 0, .int .i64 0, .int .u64 0, .int .i64 1, .int .i64 0, .int .u64 0, .int .i64 0, .int .u64 0, .int .i64 5, .int .i64 0, .int .u64 0, .int .i64 0, .int .u64 0] 43)) := (Below.refl _ _).alloc (Nat.le_refl _) _
  have HSL := hide (show Rd (wo3.alloc (.cells #[.int .i64 3, .int .i64 0, .int .u64 0, .int .i64 0, .int .u64 0, .int .i64 3, .int .i64 0, .int .u64 0, .int .i64 0, .int .u64 0, .int .i64 1, .int .i64 0, .int .u64 0, .int .i64 0, .int .u64 0, .int .i64 5, .int .i64 0, .int .u64 0, .int .i64 0, .int .u64 0] 43)) (wo3.alloc (.cells #[.int .i64 3, .int .i64 0, .int .u64 0, .int .i64 0, .int .u64 0, .int .i64 3, .int .i64 0, .int .u64 0, .int .i64 0, .int .u64 0, .int .i64 1, .int .i64 0, .int .u64 0, .int .i64 0, .int .u64 0, .int .i64 5, .int .i64 0, .int .u64 0, .int .i64 0, .int .u64 0] 43)).heap.size 5 (some ⟨wo3.heap.size, 0, none⟩) 4 (Cs encP wkO) from (Rd.new wo3 #[.int .i64 3, .int .i64 0, .int .u64 0, .int .i64 0, .int .u64 0, .int .i64 3, .int .i64 0, .int .u64 0, .int .i64 0, .int .u64 0, .int .i64 1, .int .i64 0, .int .u64 0, .int .i64 0, .int .u64 0, .int .i64 5, .int .i64 0, .int .u64 0, .int .i64 0, .int .u64 0] 43 5 4 rfl).more (by simp))
  have hX2 := HX.out.trans (hb.mono HX.out.size)
  replace HX := hide hX2
  clear hX2 hS0 hb
  have hS0 := HSX.out _ HX.out
  refine hK4.out _ _ (fun _ _ => hS0) ?_
  clear hK4 K4
  (try simp only [Act.put, List.getElem_toArray, List.getElem_cons_succ, List.getElem_cons_zero, List.setIfInBounds_toArray, List.set_cons_zero, List.set_cons_succ])
  generalize (wo3.alloc (.cells #[.int .i64 3, .int .i64 0, .int .u64 0, .int .i64 0, .int .u64 0, .int .i64 3, .int .i64 0, .int .u64 0, .int .i64 0, .int .u64 0, .int .i64 1, .int .i64 0, .int .u64 0, .int .i64 0, .int .u64 0, .int .i64 5, .int .i64 0, .int .u64 0, .int .i64 0, .int .u64 0] 43)) = wb at *
  refine wpAnyZ_one (i := 10) rfl (by kernel_rfl) (fun K5 hK5 => ?_)
  go_simp
  with_reducible refine (vRun (F := fun j => j ≠ g1) (r := wk0) (HRC.out.below HX.out).val wkF0 _ 4 4 wkO HSL.out rfl (by omega) wkOu).mono ?_
  rintro e w5 ⟨⟨v5, At, nt, ct, rfl, hv, ho, hn⟩, hb⟩
  rw [wkR1] at hv ho hn ⊢
  obtain ⟨B0, Bs, m0, d0, ms, ds, B, m, d, rfl, hr⟩ := hv
  have HV := hide (show RecF (From wb.heap.size) w5 B0 Bs m0 d0 ms ds B m d wk1 from hr)
  have hn : 2 = nt := hn
  subst hn
  have HO := hide (show w5.ownsRow wb.heap.size 41 2 (.slice At 2 ct) 2 (Cs encE [(0, 0), (1, 0)]) from ho)
  have HW5 := hide (show g1 < wb.heap.size from Nat.lt_of_lt_of_le HRW.out.lt HX.out.size)
  have HHB := hide hb
  clear hr ho
  have hX2 := HX.out.trans (hb.mono HX.out.size)
  replace HX := hide hX2
  clear hX2 hS0 hb
  have hS0 := HSX.out _ HX.out
  refine hK5.out _ _ (fun _ _ => hS0) ?_
  clear hK5 K5
  (try simp only [Act.put, List.getElem_toArray, List.getElem_cons_succ, List.getElem_cons_zero, List.setIfInBounds_toArray, List.set_cons_zero, List.set_cons_succ])
  (refine wpAnyZ_takeF (i := 11) (v := ?_) rfl (by kernel_rfl) (by kernel_rfl) (by kernel_rfl) (by kernel_rfl) (fun _ _ _ h => h) (Or.inl ⟨by rfl, ?_⟩) (fun _ => hS0) ?_; rotate_left; (focus (intro w hSw; go_simp; first | done | with_reducible rfl)); (try simp only [Act.put, List.getElem_toArray, List.getElem_cons_succ, List.getElem_cons_zero, List.setIfInBounds_toArray, List.set_cons_zero, List.set_cons_succ]))
  (refine wpAnyZ_takeF (i := 12) (v := ?_) rfl (by kernel_rfl) (by kernel_rfl) (by kernel_rfl) (by kernel_rfl) (fun _ _ _ h => h) (Or.inl ⟨by rfl, ?_⟩) (fun _ => hS0) ?_; rotate_left; (focus (intro w hSw; go_simp; first | done | with_reducible rfl)); (try simp only [Act.put, List.getElem_toArray, List.getElem_cons_succ, List.getElem_cons_zero, List.setIfInBounds_toArray, List.set_cons_zero, List.set_cons_succ]))
  (refine wpAnyZ_takeF (i := 13) (v := ?_) rfl (by kernel_rfl) (by kernel_rfl) (by kernel_rfl) (by kernel_rfl) (fun _ _ _ h => h) (Or.inl ⟨by rfl, ?_⟩) (fun _ => hS0) ?_; rotate_left; (focus (intro w hSw; go_simp; first | done | with_reducible rfl)); (try simp only [Act.put, List.getElem_toArray, List.getElem_cons_succ, List.getElem_cons_zero, List.setIfInBounds_toArray, List.set_cons_zero, List.set_cons_succ]))
  (refine wpAnyZ_takeF (i := 14) (v := ?_) rfl (by kernel_rfl) (by kernel_rfl) (by kernel_rfl) (by kernel_rfl) (fun _ _ _ h => h) (Or.inl ⟨by rfl, ?_⟩) (fun _ => hS0) ?_; rotate_left; (focus (intro w hSw; go_simp; first | done | with_reducible rfl)); (try simp only [Act.put, List.getElem_toArray, List.getElem_cons_succ, List.getElem_cons_zero, List.setIfInBounds_toArray, List.set_cons_zero, List.set_cons_succ]))
  (refine wpAnyZ_takeF (i := 15) (v := ?_) rfl (by kernel_rfl) (by kernel_rfl) (by kernel_rfl) (by kernel_rfl) (fun _ _ _ h => h) (Or.inl ⟨by rfl, ?_⟩) (fun _ => hS0) ?_; rotate_left; (focus (intro w hSw; go_simp; first | done | with_reducible rfl)); (try simp only [Act.put, List.getElem_toArray, List.getElem_cons_succ, List.getElem_cons_zero, List.setIfInBounds_toArray, List.set_cons_zero, List.set_cons_succ]))
  refine wpAnyZ_one (i := 16) rfl (by kernel_rfl) (fun K6 hK6 => ?_)
  clear hS0
  have hrw := HRW.out.below HX.out
  obtain ⟨y0, y1, y2, y3, y4, y5, y6⟩ := row7 hrw
  have yl := hrw.lt
  have yf0 := hrw.frozen 0
  have yf1 := hrw.frozen 1
  have yf2 := hrw.frozen 2
  have yf3 := hrw.frozen 3
  have yf4 := hrw.frozen 4
  have yf5 := hrw.frozen 5
  have yf6 := hrw.frozen 6
  go_simp
  have HLD := hide (show LaidF g1 w5 (((((((w5.setCell ⟨g1, 0, none⟩ (.slice B0 m0 d0)).setCell ⟨g1, 1, none⟩ (.int .u64 wk1.e)).setCell ⟨g1, 2, none⟩ (.slice Bs ms ds)).setCell ⟨g1, 3, none⟩ (.int .u64 (wk1.l.E : Int))).setCell ⟨g1, 4, none⟩ (.slice (B 0) (m 0) (d 0))).setCell ⟨g1, 5, none⟩ (.slice (B 1) (m 1) (d 1))).setCell ⟨g1, 6, none⟩ (.slice (B 2) (m 2) (d 2))) from ((((((((laid0 g1 _).set 0 (.slice B0 m0 d0)).set 1 (.int .u64 wk1.e)).set 2 (.slice Bs ms ds)).set 3 (.int .u64 (wk1.l.E : Int))).set 4 (.slice (B 0) (m 0) (d 0))).set 5 (.slice (B 1) (m 1) (d 1))).set 6 (.slice (B 2) (m 2) (d 2))))
  have HRN := hide (show RowAt (((((((w5.setCell ⟨g1, 0, none⟩ (.slice B0 m0 d0)).setCell ⟨g1, 1, none⟩ (.int .u64 wk1.e)).setCell ⟨g1, 2, none⟩ (.slice Bs ms ds)).setCell ⟨g1, 3, none⟩ (.int .u64 (wk1.l.E : Int))).setCell ⟨g1, 4, none⟩ (.slice (B 0) (m 0) (d 0))).setCell ⟨g1, 5, none⟩ (.slice (B 1) (m 1) (d 1))).setCell ⟨g1, 6, none⟩ (.slice (B 2) (m 2) (d 2))) g1 34 (recC wk1.e wk1.l.E B0 Bs m0 d0 ms ds B m d) from by have h := (((((((hrw.set 0 (.slice B0 m0 d0)).set 1 (.int .u64 wk1.e)).set 2 (.slice Bs ms ds)).set 3 (.int .u64 (wk1.l.E : Int))).set 4 (.slice (B 0) (m 0) (d 0))).set 5 (.slice (B 1) (m 1) (d 1))).set 6 (.slice (B 2) (m 2) (d 2))); simpa using h)
  have HK6 := hide ((HK.out.keep HX.out).put HLD.out HRN.out HV.out HW5.out)
  have HO6 := hide (own_laid HO.out hrw HLD.out)
  clear hrw yl y0 yf0 y1 yf1 y2 yf2 y3 yf3 y4 yf4 y5 yf5 y6 yf6
  generalize (((((((w5.setCell ⟨g1, 0, none⟩ (.slice B0 m0 d0)).setCell ⟨g1, 1, none⟩ (.int .u64 wk1.e)).setCell ⟨g1, 2, none⟩ (.slice Bs ms ds)).setCell ⟨g1, 3, none⟩ (.int .u64 (wk1.l.E : Int))).setCell ⟨g1, 4, none⟩ (.slice (B 0) (m 0) (d 0))).setCell ⟨g1, 5, none⟩ (.slice (B 1) (m 1) (d 1))).setCell ⟨g1, 6, none⟩ (.slice (B 2) (m 2) (d 2))) = w6 at *
  refine hK6.out _ _ (fun h _ => absurd rfl h) ?_
  clear hK6 K6
  (try simp only [Act.put, List.getElem_toArray, List.getElem_cons_succ, List.getElem_cons_zero, List.setIfInBounds_toArray, List.set_cons_zero, List.set_cons_succ])
  refine wpAnyZ_one (i := 17) rfl (by kernel_rfl) (fun K7 hK7 => ?_)
  go_simp
  refine hK7.out _ _ (fun _ h => Bool.noConfusion (show true = false from h)) ?_
  clear hK7 K7
  (try simp only [Act.put, List.getElem_toArray, List.getElem_cons_succ, List.getElem_cons_zero, List.setIfInBounds_toArray, List.set_cons_zero, List.set_cons_succ])
  refine wpAnyZ_one (i := 18) rfl (by kernel_rfl) (fun K8 hK8 => ?_)
  go_simp
  refine hK8.out _ _ (fun _ h => Bool.noConfusion (show true = false from h)) ?_
  clear hK8 K8
  (try simp only [Act.put, List.getElem_toArray, List.getElem_cons_succ, List.getElem_cons_zero, List.setIfInBounds_toArray, List.set_cons_zero, List.set_cons_succ])
  refine wpAnyZ_one (i := 19) rfl (by kernel_rfl) (fun K9 hK9 => ?_)
  go_simp
  refine hK9.out _ _ (fun _ h => Bool.noConfusion (show true = false from h)) ?_
  clear hK9 K9
  (try simp only [Act.put, List.getElem_toArray, List.getElem_cons_succ, List.getElem_cons_zero, List.setIfInBounds_toArray, List.set_cons_zero, List.set_cons_succ])
  refine wpAnyZ_done (by kernel_rfl) ?_ _
  clear HLD HRN HV HO HK HX HSX HRW HRC HSL HHB HW5
  replace HO := HO6
  clear HO6
  have HK := HK6
  clear HK6
  obtain ⟨C0, Cs0, p0, f0, ps, fs, C, q, f, hrow, hrec⟩ := HK.out.box
  have HRW := hide hrow
  have HRC := hide hrec
  obtain ⟨z0, z1, z2, z3, z4, z5, z6⟩ := row7 hrow
  have zl := hrow.lt
  clear hrow hrec
  go_upto_region 4 with (fail)
  go_wp2_with fail
  with_reducible refine (vTry HRC.out.val wkF1).mono ?_
  rintro e wt ⟨⟨v5, A4, nt, k4, rfl, hv, ho, hn⟩, hb⟩
  rw [wkR2] at hv ho hn ⊢
  obtain ⟨B0, Bs, m0, d0, ms, ds, B, m, d, rfl, hr⟩ := hv
  have HV := hide (show RecF (From w6.heap.size) wt B0 Bs m0 d0 ms ds B m d wk2 from hr)
  have hn : 0 = nt := hn
  subst hn
  have HON := hide (show wt.ownsRow w6.heap.size 41 2 (.slice A4 0 k4) 0 (Cs encE []) from ho)
  have HW5 := hide (show g1 < w6.heap.size from HRW.out.lt)
  have HKt := hide (HK.out.keep hb)
  have HOt := hide (own_keepB HO.out hb)
  clear HK HO hr ho z0 z1 z2 z3 z4 z5 z6 zl
  have hrw := HRW.out.below hb
  clear hb
  obtain ⟨y0, y1, y2, y3, y4, y5, y6⟩ := row7 hrw
  have yl := hrw.lt
  have yf0 := hrw.frozen 0
  have yf1 := hrw.frozen 1
  have yf2 := hrw.frozen 2
  have yf3 := hrw.frozen 3
  have yf4 := hrw.frozen 4
  have yf5 := hrw.frozen 5
  have yf6 := hrw.frozen 6
  go_upto_region 5 with (fail)
  have HLD := hide (show LaidF g1 wt (((((((wt.setCell ⟨g1, 0, none⟩ (.slice B0 m0 d0)).setCell ⟨g1, 1, none⟩ (.int .u64 wk2.e)).setCell ⟨g1, 2, none⟩ (.slice Bs ms ds)).setCell ⟨g1, 3, none⟩ (.int .u64 (wk2.l.E : Int))).setCell ⟨g1, 4, none⟩ (.slice (B 0) (m 0) (d 0))).setCell ⟨g1, 5, none⟩ (.slice (B 1) (m 1) (d 1))).setCell ⟨g1, 6, none⟩ (.slice (B 2) (m 2) (d 2))) from ((((((((laid0 g1 _).set 0 (.slice B0 m0 d0)).set 1 (.int .u64 wk2.e)).set 2 (.slice Bs ms ds)).set 3 (.int .u64 (wk2.l.E : Int))).set 4 (.slice (B 0) (m 0) (d 0))).set 5 (.slice (B 1) (m 1) (d 1))).set 6 (.slice (B 2) (m 2) (d 2))))
  have HRN := hide (show RowAt (((((((wt.setCell ⟨g1, 0, none⟩ (.slice B0 m0 d0)).setCell ⟨g1, 1, none⟩ (.int .u64 wk2.e)).setCell ⟨g1, 2, none⟩ (.slice Bs ms ds)).setCell ⟨g1, 3, none⟩ (.int .u64 (wk2.l.E : Int))).setCell ⟨g1, 4, none⟩ (.slice (B 0) (m 0) (d 0))).setCell ⟨g1, 5, none⟩ (.slice (B 1) (m 1) (d 1))).setCell ⟨g1, 6, none⟩ (.slice (B 2) (m 2) (d 2))) g1 34 (recC wk2.e wk2.l.E B0 Bs m0 d0 ms ds B m d) from by have h := (((((((hrw.set 0 (.slice B0 m0 d0)).set 1 (.int .u64 wk2.e)).set 2 (.slice Bs ms ds)).set 3 (.int .u64 (wk2.l.E : Int))).set 4 (.slice (B 0) (m 0) (d 0))).set 5 (.slice (B 1) (m 1) (d 1))).set 6 (.slice (B 2) (m 2) (d 2))); simpa using h)
  have HK := hide (HKt.out.put HLD.out HRN.out HV.out HW5.out)
  have HO := hide (own_laid HOt.out hrw HLD.out)
  have HO4 := hide (own_laid HON.out hrw HLD.out)
  clear hrw yl y0 yf0 y1 yf1 y2 yf2 y3 yf3 y4 yf4 y5 yf5 y6 yf6
  generalize (((((((wt.setCell ⟨g1, 0, none⟩ (.slice B0 m0 d0)).setCell ⟨g1, 1, none⟩ (.int .u64 wk2.e)).setCell ⟨g1, 2, none⟩ (.slice Bs ms ds)).setCell ⟨g1, 3, none⟩ (.int .u64 (wk2.l.E : Int))).setCell ⟨g1, 4, none⟩ (.slice (B 0) (m 0) (d 0))).setCell ⟨g1, 5, none⟩ (.slice (B 1) (m 1) (d 1))).setCell ⟨g1, 6, none⟩ (.slice (B 2) (m 2) (d 2))) = w7 at *
  clear HLD HRN HV HKt HON HRW HRC HW5 HOt
  obtain ⟨C0, Cs0, p0, f0, ps, fs, C, q, f, hrow, hrec⟩ := HK.out.box
  have HRW := hide hrow
  have HRC := hide hrec
  obtain ⟨z0, z1, z2, z3, z4, z5, z6⟩ := row7 hrow
  have zl := hrow.lt
  clear hrow hrec
  go_upto_region 5 with (fail)
  go_wp2_with fail
  with_reducible refine (vTry HRC.out.val wkF2).mono ?_
  rintro e wt ⟨⟨v5, A5, nt, k5, rfl, hv, ho, hn⟩, hb⟩
  rw [wkR3] at hv ho hn ⊢
  obtain ⟨B0, Bs, m0, d0, ms, ds, B, m, d, rfl, hr⟩ := hv
  have HV := hide (show RecF (From w7.heap.size) wt B0 Bs m0 d0 ms ds B m d wk3 from hr)
  have hn : 0 = nt := hn
  subst hn
  have HON := hide (show wt.ownsRow w7.heap.size 41 2 (.slice A5 0 k5) 0 (Cs encE []) from ho)
  have HW5 := hide (show g1 < w7.heap.size from HRW.out.lt)
  have HKt := hide (HK.out.keep hb)
  have HOt := hide (own_keepB HO.out hb)
  clear HK HO hr ho z0 z1 z2 z3 z4 z5 z6 zl
  have hrw := HRW.out.below hb
  clear hb
  obtain ⟨y0, y1, y2, y3, y4, y5, y6⟩ := row7 hrw
  have yl := hrw.lt
  have yf0 := hrw.frozen 0
  have yf1 := hrw.frozen 1
  have yf2 := hrw.frozen 2
  have yf3 := hrw.frozen 3
  have yf4 := hrw.frozen 4
  have yf5 := hrw.frozen 5
  have yf6 := hrw.frozen 6
  go_upto_region 6 with (fail)
  have HLD := hide (show LaidF g1 wt (((((((wt.setCell ⟨g1, 0, none⟩ (.slice B0 m0 d0)).setCell ⟨g1, 1, none⟩ (.int .u64 wk3.e)).setCell ⟨g1, 2, none⟩ (.slice Bs ms ds)).setCell ⟨g1, 3, none⟩ (.int .u64 (wk3.l.E : Int))).setCell ⟨g1, 4, none⟩ (.slice (B 0) (m 0) (d 0))).setCell ⟨g1, 5, none⟩ (.slice (B 1) (m 1) (d 1))).setCell ⟨g1, 6, none⟩ (.slice (B 2) (m 2) (d 2))) from ((((((((laid0 g1 _).set 0 (.slice B0 m0 d0)).set 1 (.int .u64 wk3.e)).set 2 (.slice Bs ms ds)).set 3 (.int .u64 (wk3.l.E : Int))).set 4 (.slice (B 0) (m 0) (d 0))).set 5 (.slice (B 1) (m 1) (d 1))).set 6 (.slice (B 2) (m 2) (d 2))))
  have HRN := hide (show RowAt (((((((wt.setCell ⟨g1, 0, none⟩ (.slice B0 m0 d0)).setCell ⟨g1, 1, none⟩ (.int .u64 wk3.e)).setCell ⟨g1, 2, none⟩ (.slice Bs ms ds)).setCell ⟨g1, 3, none⟩ (.int .u64 (wk3.l.E : Int))).setCell ⟨g1, 4, none⟩ (.slice (B 0) (m 0) (d 0))).setCell ⟨g1, 5, none⟩ (.slice (B 1) (m 1) (d 1))).setCell ⟨g1, 6, none⟩ (.slice (B 2) (m 2) (d 2))) g1 34 (recC wk3.e wk3.l.E B0 Bs m0 d0 ms ds B m d) from by have h := (((((((hrw.set 0 (.slice B0 m0 d0)).set 1 (.int .u64 wk3.e)).set 2 (.slice Bs ms ds)).set 3 (.int .u64 (wk3.l.E : Int))).set 4 (.slice (B 0) (m 0) (d 0))).set 5 (.slice (B 1) (m 1) (d 1))).set 6 (.slice (B 2) (m 2) (d 2))); simpa using h)
  have HK := hide (HKt.out.put HLD.out HRN.out HV.out HW5.out)
  have HO := hide (own_laid HOt.out hrw HLD.out)
  have HO5 := hide (own_laid HON.out hrw HLD.out)
  clear hrw yl y0 yf0 y1 yf1 y2 yf2 y3 yf3 y4 yf4 y5 yf5 y6 yf6
  generalize (((((((wt.setCell ⟨g1, 0, none⟩ (.slice B0 m0 d0)).setCell ⟨g1, 1, none⟩ (.int .u64 wk3.e)).setCell ⟨g1, 2, none⟩ (.slice Bs ms ds)).setCell ⟨g1, 3, none⟩ (.int .u64 (wk3.l.E : Int))).setCell ⟨g1, 4, none⟩ (.slice (B 0) (m 0) (d 0))).setCell ⟨g1, 5, none⟩ (.slice (B 1) (m 1) (d 1))).setCell ⟨g1, 6, none⟩ (.slice (B 2) (m 2) (d 2))) = w8 at *
  clear HLD HRN HV HKt HON HRW HRC HW5 HOt
  obtain ⟨C0, Cs0, p0, f0, ps, fs, C, q, f, hrow, hrec⟩ := HK.out.box
  have HRC := hide hrec
  obtain ⟨z0, z1, z2, z3, z4, z5, z6⟩ := row7 hrow
  have zl := hrow.lt
  clear hrow hrec
  go_upto_region 6 with (fail)
  go_wp2_with fail
  with_reducible refine (vWaits HRC.out.val wkF3.fit 1 wkR3n).mono ?_
  rintro e w9 ⟨rfl, hb⟩
  replace HK := hide (HK.out.keep hb)
  replace HO := hide (own_keepB HO.out hb)
  clear hb HRC z0 z1 z2 z3 z4 z5 z6 zl HO4 HO5
  go_upto_region 7 with (fail)
  go_cut [15] from 59 to 66 (fun s15 wx => s15 = .int .i64 0 ∧ WkB W wx g1 g3 wk4 ∧ wx.ownsRow wb.heap.size 41 2 (.slice At 2 ct) 2 (Cs encE [(0, 0), (1, 0)]))
  case first =>
    obtain ⟨C0, Cs0, p0, f0, ps, fs, C, q, f, hrow, hrec⟩ := HK.out.box
    have HRW := hide hrow
    have HRC := hide hrec
    clear hrow hrec
    have HSX := hide (fun (wX : World) (hgX : Below w9.heap.size w9 wX) => show wX.cell? ⟨g1, 0, none⟩ = some (.slice C0 p0 f0) ∧ wX.cell? ⟨g1, 1, none⟩ = some (.int .u64 wk3.e) ∧ wX.cell? ⟨g1, 2, none⟩ = some (.slice Cs0 ps fs) ∧ wX.cell? ⟨g1, 3, none⟩ = some (.int .u64 (wk3.l.E : Int)) ∧ wX.cell? ⟨g1, 4, none⟩ = some (.slice (C 0) (q 0) (f 0)) ∧ wX.cell? ⟨g1, 5, none⟩ = some (.slice (C 1) (q 1) (f 1)) ∧ wX.cell? ⟨g1, 6, none⟩ = some (.slice (C 2) (q 2) (f 2)) ∧ wX.cell? ⟨g3, 0, none⟩ = some (.int .i64 0) ∧ wX.cell? ⟨g3, 1, none⟩ = some (.int .u64 0) ∧ g1 < wX.heap.size ∧ g3 < wX.heap.size from by
      obtain ⟨z0, z1, z2, z3, z4, z5, z6⟩ := row7 HRW.out
      exact ⟨kept hgX z0, kept hgX z1, kept hgX z2, kept hgX z3, kept hgX z4, kept hgX z5, kept hgX z6, kept hgX (row20 HK.out.ent), kept hgX (row21 HK.out.ent), Nat.lt_of_lt_of_le HRW.out.lt hgX.size, Nat.lt_of_lt_of_le HK.out.ent.lt hgX.size⟩)
    have HX := hide ((Below.refl w9.heap.size w9).drew)
    have HOL := hide (told_lt HO.out)
    refine wp_region_Z (fun wX => wX.cell? ⟨g1, 0, none⟩ = some (.slice C0 p0 f0) ∧ wX.cell? ⟨g1, 1, none⟩ = some (.int .u64 wk3.e) ∧ wX.cell? ⟨g1, 2, none⟩ = some (.slice Cs0 ps fs) ∧ wX.cell? ⟨g1, 3, none⟩ = some (.int .u64 (wk3.l.E : Int)) ∧ wX.cell? ⟨g1, 4, none⟩ = some (.slice (C 0) (q 0) (f 0)) ∧ wX.cell? ⟨g1, 5, none⟩ = some (.slice (C 1) (q 1) (f 1)) ∧ wX.cell? ⟨g1, 6, none⟩ = some (.slice (C 2) (q 2) (f 2)) ∧ wX.cell? ⟨g3, 0, none⟩ = some (.int .i64 0) ∧ wX.cell? ⟨g3, 1, none⟩ = some (.int .u64 0) ∧ g1 < wX.heap.size ∧ g3 < wX.heap.size) 9 (by kernel_rfl) (HSX.out _ HX.out) (fun hHeld => ?_)
    clear hHeld
    have hS0 := HSX.out _ HX.out
    generalize w9.drew = wd at *
    (refine wpAnyZ_take (i := 0) (v := ?_) rfl (by kernel_rfl) (by kernel_rfl) (by kernel_rfl) (by kernel_rfl) (by kernel_rfl) (fun _ _ _ h => h) (Or.inl ⟨by rfl, ?_⟩) (by assumption) ?_; rotate_left; (focus (intro w hSw; (try dsimp only at hSw); obtain ⟨kf0, kf1, kf2, kf3, kf4, kf5, kf6, kf7, kf8, kf9, kf10⟩ := hSw; go_simp; first | done | with_reducible rfl)); (try simp only [Act.put, List.getElem_toArray, List.getElem_cons_succ, List.getElem_cons_zero, List.setIfInBounds_toArray, List.set_cons_zero, List.set_cons_succ]))
    (refine wpAnyZ_take (i := 1) (v := ?_) rfl (by kernel_rfl) (by kernel_rfl) (by kernel_rfl) (by kernel_rfl) (by kernel_rfl) (fun _ _ _ h => h) (Or.inl ⟨by rfl, ?_⟩) (by assumption) ?_; rotate_left; (focus (intro w hSw; (try dsimp only at hSw); obtain ⟨kf0, kf1, kf2, kf3, kf4, kf5, kf6, kf7, kf8, kf9, kf10⟩ := hSw; go_simp; first | done | with_reducible rfl)); (try simp only [Act.put, List.getElem_toArray, List.getElem_cons_succ, List.getElem_cons_zero, List.setIfInBounds_toArray, List.set_cons_zero, List.set_cons_succ]))
    refine wpAnyZ_two (i := 2) (j := 8) rfl rfl (by kernel_rfl) (fun K0 hK0 => ?_) (fun K1 hK1 => ?_)
    ·
      go_simp
      with_reducible refine (op_any 2 0 0 0 wd).mono ?_
      rintro e wo0 ⟨rfl, hb⟩
      have hX2 := HX.out.trans (hb.mono HX.out.size)
      replace HX := hide hX2
      clear hX2 hS0 hb
      have hS0 := HSX.out _ HX.out
      refine hK0.out _ _ (fun _ _ => hS0) ?_
      clear hK0 K0
      (try simp only [Act.put, List.getElem_toArray, List.getElem_cons_succ, List.getElem_cons_zero, List.setIfInBounds_toArray, List.set_cons_zero, List.set_cons_succ])
      refine wpAnyZ_two (i := 3) (j := 8) rfl rfl (by kernel_rfl) (fun K2 hK2 => ?_) (fun K3 hK3 => ?_)
      ·
        go_simp
        with_reducible refine (vDo (HRC.out.below HX.out).val wkF3 ⟨2, 0, 0, (0, 0)⟩ (Int.le_refl _) u64z).mono ?_
        rintro e wc1 ⟨⟨v5, rfl, hv⟩, hb⟩
        rw [wkR4] at hv ⊢
        obtain ⟨B0, Bs, m0, d0, ms, ds, B, m, d, rfl, hr⟩ := hv
        obtain ⟨wcall, hwc⟩ : ∃ n, wo0.heap.size = n := ⟨_, rfl⟩
        have HV := hide (show RecF (fun j => wcall ≤ j) wc1 B0 Bs m0 d0 ms ds B m d wk4 from by rw [← hwc]; exact hr)
        have HGB := hide (show g1 < wcall from by rw [← hwc]; exact Nat.lt_of_lt_of_le HRW.out.lt HX.out.size)
        clear hr hwc
        have hX2 := HX.out.trans (hb.mono HX.out.size)
        replace HX := hide hX2
        clear hX2 hS0 hb
        have hS0 := HSX.out _ HX.out
        refine hK2.out _ _ (fun _ _ => hS0) ?_
        clear hK2 K2
        (try simp only [Act.put, List.getElem_toArray, List.getElem_cons_succ, List.getElem_cons_zero, List.setIfInBounds_toArray, List.set_cons_zero, List.set_cons_succ])
        (refine wpAnyZ_takeF (i := 4) (v := ?_) rfl (by kernel_rfl) (by kernel_rfl) (by kernel_rfl) (by kernel_rfl) (fun _ _ _ h => h) (Or.inl ⟨by rfl, ?_⟩) (fun _ => hS0) ?_; rotate_left; (focus (intro w hSw; go_simp; first | done | with_reducible rfl)); (try simp only [Act.put, List.getElem_toArray, List.getElem_cons_succ, List.getElem_cons_zero, List.setIfInBounds_toArray, List.set_cons_zero, List.set_cons_succ]))
        (refine wpAnyZ_takeF (i := 5) (v := ?_) rfl (by kernel_rfl) (by kernel_rfl) (by kernel_rfl) (by kernel_rfl) (fun _ _ _ h => h) (Or.inl ⟨by rfl, ?_⟩) (fun _ => hS0) ?_; rotate_left; (focus (intro w hSw; go_simp; first | done | with_reducible rfl)); (try simp only [Act.put, List.getElem_toArray, List.getElem_cons_succ, List.getElem_cons_zero, List.setIfInBounds_toArray, List.set_cons_zero, List.set_cons_succ]))
        (refine wpAnyZ_takeF (i := 6) (v := ?_) rfl (by kernel_rfl) (by kernel_rfl) (by kernel_rfl) (by kernel_rfl) (fun _ _ _ h => h) (Or.inl ⟨by rfl, ?_⟩) (fun _ => hS0) ?_; rotate_left; (focus (intro w hSw; go_simp; first | done | with_reducible rfl)); (try simp only [Act.put, List.getElem_toArray, List.getElem_cons_succ, List.getElem_cons_zero, List.setIfInBounds_toArray, List.set_cons_zero, List.set_cons_succ]))
        (refine wpAnyZ_takeF (i := 7) (v := ?_) rfl (by kernel_rfl) (by kernel_rfl) (by kernel_rfl) (by kernel_rfl) (fun _ _ _ h => h) (Or.inl ⟨by rfl, ?_⟩) (fun _ => hS0) ?_; rotate_left; (focus (intro w hSw; go_simp; first | done | with_reducible rfl)); (try simp only [Act.put, List.getElem_toArray, List.getElem_cons_succ, List.getElem_cons_zero, List.setIfInBounds_toArray, List.set_cons_zero, List.set_cons_succ]))
        refine wpAnyZ_one (i := 8) rfl (by kernel_rfl) (fun K4 hK4 => ?_)
        go_simp
        have hb : Below wc1.heap.size wc1 (wc1.alloc (.cells #[.int .i64 0, .int .u64 0] 41)) := (Below.refl _ _).alloc (Nat.le_refl _) _
        have hre := RowAt.new wc1 41 #[.int .i64 0, .int .u64 0]
        have HVG := hide ((HV.out.up (G := fun j => wcall ≤ j ∧ j ≠ wc1.heap.size) (fun j (hj : wcall ≤ j) hl => ⟨hj, by omega⟩)).below hb)
        obtain ⟨ge, hge⟩ : ∃ ge, wc1.heap.size = ge := ⟨_, rfl⟩
        have HGE := hide (show w9.heap.size ≤ ge from by rw [← hge]; exact HX.out.size)
        have HGW := hide (show ge < (wc1.alloc (.cells #[.int .i64 0, .int .u64 0] 41)).heap.size from by rw [World.size_alloc]; omega)
        have hX2 := HX.out.trans (hb.mono HX.out.size)
        replace HX := hide hX2
        rw [hge] at hre HVG ⊢
        have HRE := hide hre
        clear hX2 hS0 hre hb hge
        have hS0 := HSX.out _ HX.out
        generalize (wc1.alloc (.cells #[.int .i64 0, .int .u64 0] 41)) = wa2 at *
        refine hK4.out _ _ (fun _ _ => hS0) ?_
        clear hK4 K4
        (try simp only [Act.put, List.getElem_toArray, List.getElem_cons_succ, List.getElem_cons_zero, List.setIfInBounds_toArray, List.set_cons_zero, List.set_cons_succ])
        refine wpAnyZ_one (i := 9) rfl (by kernel_rfl) (fun K5 hK5 => ?_)
        clear hS0
        have hrw := HRW.out.below HX.out
        obtain ⟨y0, y1, y2, y3, y4, y5, y6⟩ := row7 hrw
        have yl := hrw.lt
        have yf0 := hrw.frozen 0
        have yf1 := hrw.frozen 1
        have yf2 := hrw.frozen 2
        have yf3 := hrw.frozen 3
        have yf4 := hrw.frozen 4
        have yf5 := hrw.frozen 5
        have yf6 := hrw.frozen 6
        go_simp
        have HLD := hide (show LaidF g1 wa2 (((((((wa2.setCell ⟨g1, 0, none⟩ (.slice B0 m0 d0)).setCell ⟨g1, 1, none⟩ (.int .u64 wk4.e)).setCell ⟨g1, 2, none⟩ (.slice Bs ms ds)).setCell ⟨g1, 3, none⟩ (.int .u64 (wk4.l.E : Int))).setCell ⟨g1, 4, none⟩ (.slice (B 0) (m 0) (d 0))).setCell ⟨g1, 5, none⟩ (.slice (B 1) (m 1) (d 1))).setCell ⟨g1, 6, none⟩ (.slice (B 2) (m 2) (d 2))) from ((((((((laid0 g1 _).set 0 (.slice B0 m0 d0)).set 1 (.int .u64 wk4.e)).set 2 (.slice Bs ms ds)).set 3 (.int .u64 (wk4.l.E : Int))).set 4 (.slice (B 0) (m 0) (d 0))).set 5 (.slice (B 1) (m 1) (d 1))).set 6 (.slice (B 2) (m 2) (d 2))))
        have HRN := hide (show RowAt (((((((wa2.setCell ⟨g1, 0, none⟩ (.slice B0 m0 d0)).setCell ⟨g1, 1, none⟩ (.int .u64 wk4.e)).setCell ⟨g1, 2, none⟩ (.slice Bs ms ds)).setCell ⟨g1, 3, none⟩ (.int .u64 (wk4.l.E : Int))).setCell ⟨g1, 4, none⟩ (.slice (B 0) (m 0) (d 0))).setCell ⟨g1, 5, none⟩ (.slice (B 1) (m 1) (d 1))).setCell ⟨g1, 6, none⟩ (.slice (B 2) (m 2) (d 2))) g1 34 (recC wk4.e wk4.l.E B0 Bs m0 d0 ms ds B m d) from by have h := (((((((hrw.set 0 (.slice B0 m0 d0)).set 1 (.int .u64 wk4.e)).set 2 (.slice Bs ms ds)).set 3 (.int .u64 (wk4.l.E : Int))).set 4 (.slice (B 0) (m 0) (d 0))).set 5 (.slice (B 1) (m 1) (d 1))).set 6 (.slice (B 2) (m 2) (d 2))); simpa using h)
        have HOw := hide (own_laid (own_keepB HO.out HX.out) hrw HLD.out)
        clear hrw yl y0 yf0 y1 yf1 y2 yf2 y3 yf3 y4 yf4 y5 yf5 y6 yf6
        generalize (((((((wa2.setCell ⟨g1, 0, none⟩ (.slice B0 m0 d0)).setCell ⟨g1, 1, none⟩ (.int .u64 wk4.e)).setCell ⟨g1, 2, none⟩ (.slice Bs ms ds)).setCell ⟨g1, 3, none⟩ (.int .u64 (wk4.l.E : Int))).setCell ⟨g1, 4, none⟩ (.slice (B 0) (m 0) (d 0))).setCell ⟨g1, 5, none⟩ (.slice (B 1) (m 1) (d 1))).setCell ⟨g1, 6, none⟩ (.slice (B 2) (m 2) (d 2))) = wp at *
        refine hK5.out _ _ (fun h _ => absurd rfl h) ?_
        clear hK5 K5
        (try simp only [Act.put, List.getElem_toArray, List.getElem_cons_succ, List.getElem_cons_zero, List.setIfInBounds_toArray, List.set_cons_zero, List.set_cons_succ])
        refine wpAnyZ_one (i := 10) rfl (by kernel_rfl) (fun K6 hK6 => ?_)
        have hre : RowAt wp ge 41 #[.int .i64 0, .int .u64 0] := (HLD.out.block _ (by have := HGE.out; have := HRW.out.lt; omega)).trans HRE.out
        have u0 := row20 hre
        have u1 := row21 hre
        have ul := hre.lt
        have uf0 := hre.frozen 0
        have uf1 := hre.frozen 1
        go_simp
        have HL2 := hide (show LaidF ge wp ((wp.setCell ⟨ge, 0, none⟩ (.int .i64 0)).setCell ⟨ge, 1, none⟩ (.int .u64 0)) from (((laid0 ge _).set 0 (.int .i64 0)).set 1 (.int .u64 0)))
        clear hre u0 u1 ul uf0 uf1
        generalize ((wp.setCell ⟨ge, 0, none⟩ (.int .i64 0)).setCell ⟨ge, 1, none⟩ (.int .u64 0)) = wq at *
        refine hK6.out _ _ (fun _ h => Bool.noConfusion (show true = false from h)) ?_
        clear hK6 K6
        (try simp only [Act.put, List.getElem_toArray, List.getElem_cons_succ, List.getElem_cons_zero, List.setIfInBounds_toArray, List.set_cons_zero, List.set_cons_succ])
        refine wpAnyZ_one (i := 11) rfl (by kernel_rfl) (fun K7 hK7 => ?_)
        go_simp
        refine hK7.out _ _ (fun _ h => Bool.noConfusion (show true = false from h)) ?_
        clear hK7 K7
        (try simp only [Act.put, List.getElem_toArray, List.getElem_cons_succ, List.getElem_cons_zero, List.setIfInBounds_toArray, List.set_cons_zero, List.set_cons_succ])
        refine wpAnyZ_done (by kernel_rfl) ?_ _
        go_wp2_with fail
        go_meet
        case rel => exact ⟨rfl, (HK.out.keep HX.out).put2 HLD.out HL2.out HRN.out HVG.out HGB.out (by have := HGE.out; have := HRW.out.lt; omega) (by have := HGE.out; have := HK.out.ent.lt; omega) (by have := HGE.out; have := HK.out.below.size; omega), own_up HOw.out HL2.out (fun q hq => by have := (HOL.out q hq).2; have := HGE.out; omega)⟩
      ·
        go_simp
        have hb : Below wo0.heap.size wo0 (wo0.alloc (.cells #[.int .i64 0, .int .u64 0] 41)) := (Below.refl _ _).alloc (Nat.le_refl _) _
        have hre := RowAt.new wo0 41 #[.int .i64 0, .int .u64 0]
        obtain ⟨ge, hge⟩ : ∃ ge, wo0.heap.size = ge := ⟨_, rfl⟩
        have HGE := hide (show w9.heap.size ≤ ge from by rw [← hge]; exact HX.out.size)
        have HGW := hide (show ge < (wo0.alloc (.cells #[.int .i64 0, .int .u64 0] 41)).heap.size from by rw [World.size_alloc]; omega)
        have hX2 := HX.out.trans (hb.mono HX.out.size)
        replace HX := hide hX2
        rw [hge] at hre  ⊢
        have HRE := hide hre
        clear hX2 hS0 hre hb hge
        have hS0 := HSX.out _ HX.out
        generalize (wo0.alloc (.cells #[.int .i64 0, .int .u64 0] 41)) = wa1 at *
        refine hK3.out _ _ (fun _ _ => hS0) ?_
        clear hK3 K3
        (try simp only [Act.put, List.getElem_toArray, List.getElem_cons_succ, List.getElem_cons_zero, List.setIfInBounds_toArray, List.set_cons_zero, List.set_cons_succ])
        refine wpAnyZ_one (i := 3) rfl (by kernel_rfl) (fun K8 hK8 => ?_)
        go_simp
        with_reducible refine (vDo (HRC.out.below HX.out).val wkF3 ⟨2, 0, 0, (0, 0)⟩ (Int.le_refl _) u64z).mono ?_
        rintro e wc2 ⟨⟨v5, rfl, hv⟩, hb⟩
        rw [wkR4] at hv ⊢
        obtain ⟨B0, Bs, m0, d0, ms, ds, B, m, d, rfl, hr⟩ := hv
        obtain ⟨wcall, hwc⟩ : ∃ n, wa1.heap.size = n := ⟨_, rfl⟩
        have HV := hide (show RecF (fun j => wcall ≤ j) wc2 B0 Bs m0 d0 ms ds B m d wk4 from by rw [← hwc]; exact hr)
        have HGB := hide (show g1 < wcall from by rw [← hwc]; exact Nat.lt_of_lt_of_le HRW.out.lt HX.out.size)
        have HVG := hide (HV.out.up (G := fun j => wcall ≤ j ∧ j ≠ ge) (fun j (hj : wcall ≤ j) _ => ⟨hj, by have := HGW.out; omega⟩))
        replace HRE := hide (HRE.out.below hb)
        clear hr hwc
        have hX2 := HX.out.trans (hb.mono HX.out.size)
        replace HX := hide hX2
        clear hX2 hS0 hb
        have hS0 := HSX.out _ HX.out
        refine hK8.out _ _ (fun _ _ => hS0) ?_
        clear hK8 K8
        (try simp only [Act.put, List.getElem_toArray, List.getElem_cons_succ, List.getElem_cons_zero, List.setIfInBounds_toArray, List.set_cons_zero, List.set_cons_succ])
        (refine wpAnyZ_takeF (i := 4) (v := ?_) rfl (by kernel_rfl) (by kernel_rfl) (by kernel_rfl) (by kernel_rfl) (fun _ _ _ h => h) (Or.inl ⟨by rfl, ?_⟩) (fun _ => hS0) ?_; rotate_left; (focus (intro w hSw; go_simp; first | done | with_reducible rfl)); (try simp only [Act.put, List.getElem_toArray, List.getElem_cons_succ, List.getElem_cons_zero, List.setIfInBounds_toArray, List.set_cons_zero, List.set_cons_succ]))
        (refine wpAnyZ_takeF (i := 5) (v := ?_) rfl (by kernel_rfl) (by kernel_rfl) (by kernel_rfl) (by kernel_rfl) (fun _ _ _ h => h) (Or.inl ⟨by rfl, ?_⟩) (fun _ => hS0) ?_; rotate_left; (focus (intro w hSw; go_simp; first | done | with_reducible rfl)); (try simp only [Act.put, List.getElem_toArray, List.getElem_cons_succ, List.getElem_cons_zero, List.setIfInBounds_toArray, List.set_cons_zero, List.set_cons_succ]))
        (refine wpAnyZ_takeF (i := 6) (v := ?_) rfl (by kernel_rfl) (by kernel_rfl) (by kernel_rfl) (by kernel_rfl) (fun _ _ _ h => h) (Or.inl ⟨by rfl, ?_⟩) (fun _ => hS0) ?_; rotate_left; (focus (intro w hSw; go_simp; first | done | with_reducible rfl)); (try simp only [Act.put, List.getElem_toArray, List.getElem_cons_succ, List.getElem_cons_zero, List.setIfInBounds_toArray, List.set_cons_zero, List.set_cons_succ]))
        (refine wpAnyZ_takeF (i := 7) (v := ?_) rfl (by kernel_rfl) (by kernel_rfl) (by kernel_rfl) (by kernel_rfl) (fun _ _ _ h => h) (Or.inl ⟨by rfl, ?_⟩) (fun _ => hS0) ?_; rotate_left; (focus (intro w hSw; go_simp; first | done | with_reducible rfl)); (try simp only [Act.put, List.getElem_toArray, List.getElem_cons_succ, List.getElem_cons_zero, List.setIfInBounds_toArray, List.set_cons_zero, List.set_cons_succ]))
        refine wpAnyZ_one (i := 9) rfl (by kernel_rfl) (fun K9 hK9 => ?_)
        clear hS0
        have hrw := HRW.out.below HX.out
        obtain ⟨y0, y1, y2, y3, y4, y5, y6⟩ := row7 hrw
        have yl := hrw.lt
        have yf0 := hrw.frozen 0
        have yf1 := hrw.frozen 1
        have yf2 := hrw.frozen 2
        have yf3 := hrw.frozen 3
        have yf4 := hrw.frozen 4
        have yf5 := hrw.frozen 5
        have yf6 := hrw.frozen 6
        go_simp
        have HLD := hide (show LaidF g1 wc2 (((((((wc2.setCell ⟨g1, 0, none⟩ (.slice B0 m0 d0)).setCell ⟨g1, 1, none⟩ (.int .u64 wk4.e)).setCell ⟨g1, 2, none⟩ (.slice Bs ms ds)).setCell ⟨g1, 3, none⟩ (.int .u64 (wk4.l.E : Int))).setCell ⟨g1, 4, none⟩ (.slice (B 0) (m 0) (d 0))).setCell ⟨g1, 5, none⟩ (.slice (B 1) (m 1) (d 1))).setCell ⟨g1, 6, none⟩ (.slice (B 2) (m 2) (d 2))) from ((((((((laid0 g1 _).set 0 (.slice B0 m0 d0)).set 1 (.int .u64 wk4.e)).set 2 (.slice Bs ms ds)).set 3 (.int .u64 (wk4.l.E : Int))).set 4 (.slice (B 0) (m 0) (d 0))).set 5 (.slice (B 1) (m 1) (d 1))).set 6 (.slice (B 2) (m 2) (d 2))))
        have HRN := hide (show RowAt (((((((wc2.setCell ⟨g1, 0, none⟩ (.slice B0 m0 d0)).setCell ⟨g1, 1, none⟩ (.int .u64 wk4.e)).setCell ⟨g1, 2, none⟩ (.slice Bs ms ds)).setCell ⟨g1, 3, none⟩ (.int .u64 (wk4.l.E : Int))).setCell ⟨g1, 4, none⟩ (.slice (B 0) (m 0) (d 0))).setCell ⟨g1, 5, none⟩ (.slice (B 1) (m 1) (d 1))).setCell ⟨g1, 6, none⟩ (.slice (B 2) (m 2) (d 2))) g1 34 (recC wk4.e wk4.l.E B0 Bs m0 d0 ms ds B m d) from by have h := (((((((hrw.set 0 (.slice B0 m0 d0)).set 1 (.int .u64 wk4.e)).set 2 (.slice Bs ms ds)).set 3 (.int .u64 (wk4.l.E : Int))).set 4 (.slice (B 0) (m 0) (d 0))).set 5 (.slice (B 1) (m 1) (d 1))).set 6 (.slice (B 2) (m 2) (d 2))); simpa using h)
        have HOw := hide (own_laid (own_keepB HO.out HX.out) hrw HLD.out)
        clear hrw yl y0 yf0 y1 yf1 y2 yf2 y3 yf3 y4 yf4 y5 yf5 y6 yf6
        generalize (((((((wc2.setCell ⟨g1, 0, none⟩ (.slice B0 m0 d0)).setCell ⟨g1, 1, none⟩ (.int .u64 wk4.e)).setCell ⟨g1, 2, none⟩ (.slice Bs ms ds)).setCell ⟨g1, 3, none⟩ (.int .u64 (wk4.l.E : Int))).setCell ⟨g1, 4, none⟩ (.slice (B 0) (m 0) (d 0))).setCell ⟨g1, 5, none⟩ (.slice (B 1) (m 1) (d 1))).setCell ⟨g1, 6, none⟩ (.slice (B 2) (m 2) (d 2))) = wp at *
        refine hK9.out _ _ (fun h _ => absurd rfl h) ?_
        clear hK9 K9
        (try simp only [Act.put, List.getElem_toArray, List.getElem_cons_succ, List.getElem_cons_zero, List.setIfInBounds_toArray, List.set_cons_zero, List.set_cons_succ])
        refine wpAnyZ_one (i := 10) rfl (by kernel_rfl) (fun K10 hK10 => ?_)
        have hre : RowAt wp ge 41 #[.int .i64 0, .int .u64 0] := (HLD.out.block _ (by have := HGE.out; have := HRW.out.lt; omega)).trans HRE.out
        have u0 := row20 hre
        have u1 := row21 hre
        have ul := hre.lt
        have uf0 := hre.frozen 0
        have uf1 := hre.frozen 1
        go_simp
        have HL2 := hide (show LaidF ge wp ((wp.setCell ⟨ge, 0, none⟩ (.int .i64 0)).setCell ⟨ge, 1, none⟩ (.int .u64 0)) from (((laid0 ge _).set 0 (.int .i64 0)).set 1 (.int .u64 0)))
        clear hre u0 u1 ul uf0 uf1
        generalize ((wp.setCell ⟨ge, 0, none⟩ (.int .i64 0)).setCell ⟨ge, 1, none⟩ (.int .u64 0)) = wq at *
        refine hK10.out _ _ (fun _ h => Bool.noConfusion (show true = false from h)) ?_
        clear hK10 K10
        (try simp only [Act.put, List.getElem_toArray, List.getElem_cons_succ, List.getElem_cons_zero, List.setIfInBounds_toArray, List.set_cons_zero, List.set_cons_succ])
        refine wpAnyZ_one (i := 11) rfl (by kernel_rfl) (fun K11 hK11 => ?_)
        go_simp
        refine hK11.out _ _ (fun _ h => Bool.noConfusion (show true = false from h)) ?_
        clear hK11 K11
        (try simp only [Act.put, List.getElem_toArray, List.getElem_cons_succ, List.getElem_cons_zero, List.setIfInBounds_toArray, List.set_cons_zero, List.set_cons_succ])
        refine wpAnyZ_done (by kernel_rfl) ?_ _
        go_wp2_with fail
        go_meet
        case rel => exact ⟨rfl, (HK.out.keep HX.out).put2 HLD.out HL2.out HRN.out HVG.out HGB.out (by have := HGE.out; have := HRW.out.lt; omega) (by have := HGE.out; have := HK.out.ent.lt; omega) (by have := HGE.out; have := HK.out.below.size; omega), own_up HOw.out HL2.out (fun q hq => by have := (HOL.out q hq).2; have := HGE.out; omega)⟩
    ·
      go_simp
      have hb : Below wd.heap.size wd (wd.alloc (.cells #[.int .i64 0, .int .u64 0] 41)) := (Below.refl _ _).alloc (Nat.le_refl _) _
      have hre := RowAt.new wd 41 #[.int .i64 0, .int .u64 0]
      obtain ⟨ge, hge⟩ : ∃ ge, wd.heap.size = ge := ⟨_, rfl⟩
      have HGE := hide (show w9.heap.size ≤ ge from by rw [← hge]; exact HX.out.size)
      have HGW := hide (show ge < (wd.alloc (.cells #[.int .i64 0, .int .u64 0] 41)).heap.size from by rw [World.size_alloc]; omega)
      have hX2 := HX.out.trans (hb.mono HX.out.size)
      replace HX := hide hX2
      rw [hge] at hre  ⊢
      have HRE := hide hre
      clear hX2 hS0 hre hb hge
      have hS0 := HSX.out _ HX.out
      generalize (wd.alloc (.cells #[.int .i64 0, .int .u64 0] 41)) = wa0 at *
      refine hK1.out _ _ (fun _ _ => hS0) ?_
      clear hK1 K1
      (try simp only [Act.put, List.getElem_toArray, List.getElem_cons_succ, List.getElem_cons_zero, List.setIfInBounds_toArray, List.set_cons_zero, List.set_cons_succ])
      refine wpAnyZ_one (i := 2) rfl (by kernel_rfl) (fun K12 hK12 => ?_)
      go_simp
      with_reducible refine (op_any 2 0 0 0 wa0).mono ?_
      rintro e wo1 ⟨rfl, hb⟩
      have HGW2 := hide (Nat.lt_of_lt_of_le HGW.out hb.size)
      replace HRE := hide (HRE.out.below hb)
      replace HGW := HGW2
      clear HGW2
      have hX2 := HX.out.trans (hb.mono HX.out.size)
      replace HX := hide hX2
      clear hX2 hS0 hb
      have hS0 := HSX.out _ HX.out
      refine hK12.out _ _ (fun _ _ => hS0) ?_
      clear hK12 K12
      (try simp only [Act.put, List.getElem_toArray, List.getElem_cons_succ, List.getElem_cons_zero, List.setIfInBounds_toArray, List.set_cons_zero, List.set_cons_succ])
      refine wpAnyZ_one (i := 3) rfl (by kernel_rfl) (fun K13 hK13 => ?_)
      go_simp
      with_reducible refine (vDo (HRC.out.below HX.out).val wkF3 ⟨2, 0, 0, (0, 0)⟩ (Int.le_refl _) u64z).mono ?_
      rintro e wc2 ⟨⟨v5, rfl, hv⟩, hb⟩
      rw [wkR4] at hv ⊢
      obtain ⟨B0, Bs, m0, d0, ms, ds, B, m, d, rfl, hr⟩ := hv
      obtain ⟨wcall, hwc⟩ : ∃ n, wo1.heap.size = n := ⟨_, rfl⟩
      have HV := hide (show RecF (fun j => wcall ≤ j) wc2 B0 Bs m0 d0 ms ds B m d wk4 from by rw [← hwc]; exact hr)
      have HGB := hide (show g1 < wcall from by rw [← hwc]; exact Nat.lt_of_lt_of_le HRW.out.lt HX.out.size)
      have HVG := hide (HV.out.up (G := fun j => wcall ≤ j ∧ j ≠ ge) (fun j (hj : wcall ≤ j) _ => ⟨hj, by have := HGW.out; omega⟩))
      replace HRE := hide (HRE.out.below hb)
      clear hr hwc
      have hX2 := HX.out.trans (hb.mono HX.out.size)
      replace HX := hide hX2
      clear hX2 hS0 hb
      have hS0 := HSX.out _ HX.out
      refine hK13.out _ _ (fun _ _ => hS0) ?_
      clear hK13 K13
      (try simp only [Act.put, List.getElem_toArray, List.getElem_cons_succ, List.getElem_cons_zero, List.setIfInBounds_toArray, List.set_cons_zero, List.set_cons_succ])
      (refine wpAnyZ_takeF (i := 4) (v := ?_) rfl (by kernel_rfl) (by kernel_rfl) (by kernel_rfl) (by kernel_rfl) (fun _ _ _ h => h) (Or.inl ⟨by rfl, ?_⟩) (fun _ => hS0) ?_; rotate_left; (focus (intro w hSw; go_simp; first | done | with_reducible rfl)); (try simp only [Act.put, List.getElem_toArray, List.getElem_cons_succ, List.getElem_cons_zero, List.setIfInBounds_toArray, List.set_cons_zero, List.set_cons_succ]))
      (refine wpAnyZ_takeF (i := 5) (v := ?_) rfl (by kernel_rfl) (by kernel_rfl) (by kernel_rfl) (by kernel_rfl) (fun _ _ _ h => h) (Or.inl ⟨by rfl, ?_⟩) (fun _ => hS0) ?_; rotate_left; (focus (intro w hSw; go_simp; first | done | with_reducible rfl)); (try simp only [Act.put, List.getElem_toArray, List.getElem_cons_succ, List.getElem_cons_zero, List.setIfInBounds_toArray, List.set_cons_zero, List.set_cons_succ]))
      (refine wpAnyZ_takeF (i := 6) (v := ?_) rfl (by kernel_rfl) (by kernel_rfl) (by kernel_rfl) (by kernel_rfl) (fun _ _ _ h => h) (Or.inl ⟨by rfl, ?_⟩) (fun _ => hS0) ?_; rotate_left; (focus (intro w hSw; go_simp; first | done | with_reducible rfl)); (try simp only [Act.put, List.getElem_toArray, List.getElem_cons_succ, List.getElem_cons_zero, List.setIfInBounds_toArray, List.set_cons_zero, List.set_cons_succ]))
      (refine wpAnyZ_takeF (i := 7) (v := ?_) rfl (by kernel_rfl) (by kernel_rfl) (by kernel_rfl) (by kernel_rfl) (fun _ _ _ h => h) (Or.inl ⟨by rfl, ?_⟩) (fun _ => hS0) ?_; rotate_left; (focus (intro w hSw; go_simp; first | done | with_reducible rfl)); (try simp only [Act.put, List.getElem_toArray, List.getElem_cons_succ, List.getElem_cons_zero, List.setIfInBounds_toArray, List.set_cons_zero, List.set_cons_succ]))
      refine wpAnyZ_one (i := 9) rfl (by kernel_rfl) (fun K14 hK14 => ?_)
      clear hS0
      have hrw := HRW.out.below HX.out
      obtain ⟨y0, y1, y2, y3, y4, y5, y6⟩ := row7 hrw
      have yl := hrw.lt
      have yf0 := hrw.frozen 0
      have yf1 := hrw.frozen 1
      have yf2 := hrw.frozen 2
      have yf3 := hrw.frozen 3
      have yf4 := hrw.frozen 4
      have yf5 := hrw.frozen 5
      have yf6 := hrw.frozen 6
      go_simp
      have HLD := hide (show LaidF g1 wc2 (((((((wc2.setCell ⟨g1, 0, none⟩ (.slice B0 m0 d0)).setCell ⟨g1, 1, none⟩ (.int .u64 wk4.e)).setCell ⟨g1, 2, none⟩ (.slice Bs ms ds)).setCell ⟨g1, 3, none⟩ (.int .u64 (wk4.l.E : Int))).setCell ⟨g1, 4, none⟩ (.slice (B 0) (m 0) (d 0))).setCell ⟨g1, 5, none⟩ (.slice (B 1) (m 1) (d 1))).setCell ⟨g1, 6, none⟩ (.slice (B 2) (m 2) (d 2))) from ((((((((laid0 g1 _).set 0 (.slice B0 m0 d0)).set 1 (.int .u64 wk4.e)).set 2 (.slice Bs ms ds)).set 3 (.int .u64 (wk4.l.E : Int))).set 4 (.slice (B 0) (m 0) (d 0))).set 5 (.slice (B 1) (m 1) (d 1))).set 6 (.slice (B 2) (m 2) (d 2))))
      have HRN := hide (show RowAt (((((((wc2.setCell ⟨g1, 0, none⟩ (.slice B0 m0 d0)).setCell ⟨g1, 1, none⟩ (.int .u64 wk4.e)).setCell ⟨g1, 2, none⟩ (.slice Bs ms ds)).setCell ⟨g1, 3, none⟩ (.int .u64 (wk4.l.E : Int))).setCell ⟨g1, 4, none⟩ (.slice (B 0) (m 0) (d 0))).setCell ⟨g1, 5, none⟩ (.slice (B 1) (m 1) (d 1))).setCell ⟨g1, 6, none⟩ (.slice (B 2) (m 2) (d 2))) g1 34 (recC wk4.e wk4.l.E B0 Bs m0 d0 ms ds B m d) from by have h := (((((((hrw.set 0 (.slice B0 m0 d0)).set 1 (.int .u64 wk4.e)).set 2 (.slice Bs ms ds)).set 3 (.int .u64 (wk4.l.E : Int))).set 4 (.slice (B 0) (m 0) (d 0))).set 5 (.slice (B 1) (m 1) (d 1))).set 6 (.slice (B 2) (m 2) (d 2))); simpa using h)
      have HOw := hide (own_laid (own_keepB HO.out HX.out) hrw HLD.out)
      clear hrw yl y0 yf0 y1 yf1 y2 yf2 y3 yf3 y4 yf4 y5 yf5 y6 yf6
      generalize (((((((wc2.setCell ⟨g1, 0, none⟩ (.slice B0 m0 d0)).setCell ⟨g1, 1, none⟩ (.int .u64 wk4.e)).setCell ⟨g1, 2, none⟩ (.slice Bs ms ds)).setCell ⟨g1, 3, none⟩ (.int .u64 (wk4.l.E : Int))).setCell ⟨g1, 4, none⟩ (.slice (B 0) (m 0) (d 0))).setCell ⟨g1, 5, none⟩ (.slice (B 1) (m 1) (d 1))).setCell ⟨g1, 6, none⟩ (.slice (B 2) (m 2) (d 2))) = wp at *
      refine hK14.out _ _ (fun h _ => absurd rfl h) ?_
      clear hK14 K14
      (try simp only [Act.put, List.getElem_toArray, List.getElem_cons_succ, List.getElem_cons_zero, List.setIfInBounds_toArray, List.set_cons_zero, List.set_cons_succ])
      refine wpAnyZ_one (i := 10) rfl (by kernel_rfl) (fun K15 hK15 => ?_)
      have hre : RowAt wp ge 41 #[.int .i64 0, .int .u64 0] := (HLD.out.block _ (by have := HGE.out; have := HRW.out.lt; omega)).trans HRE.out
      have u0 := row20 hre
      have u1 := row21 hre
      have ul := hre.lt
      have uf0 := hre.frozen 0
      have uf1 := hre.frozen 1
      go_simp
      have HL2 := hide (show LaidF ge wp ((wp.setCell ⟨ge, 0, none⟩ (.int .i64 0)).setCell ⟨ge, 1, none⟩ (.int .u64 0)) from (((laid0 ge _).set 0 (.int .i64 0)).set 1 (.int .u64 0)))
      clear hre u0 u1 ul uf0 uf1
      generalize ((wp.setCell ⟨ge, 0, none⟩ (.int .i64 0)).setCell ⟨ge, 1, none⟩ (.int .u64 0)) = wq at *
      refine hK15.out _ _ (fun _ h => Bool.noConfusion (show true = false from h)) ?_
      clear hK15 K15
      (try simp only [Act.put, List.getElem_toArray, List.getElem_cons_succ, List.getElem_cons_zero, List.setIfInBounds_toArray, List.set_cons_zero, List.set_cons_succ])
      refine wpAnyZ_one (i := 11) rfl (by kernel_rfl) (fun K16 hK16 => ?_)
      go_simp
      refine hK16.out _ _ (fun _ h => Bool.noConfusion (show true = false from h)) ?_
      clear hK16 K16
      (try simp only [Act.put, List.getElem_toArray, List.getElem_cons_succ, List.getElem_cons_zero, List.setIfInBounds_toArray, List.set_cons_zero, List.set_cons_succ])
      refine wpAnyZ_done (by kernel_rfl) ?_ _
      go_wp2_with fail
      go_meet
      case rel => exact ⟨rfl, (HK.out.keep HX.out).put2 HLD.out HL2.out HRN.out HVG.out HGB.out (by have := HGE.out; have := HRW.out.lt; omega) (by have := HGE.out; have := HK.out.ent.lt; omega) (by have := HGE.out; have := HK.out.below.size; omega), own_up HOw.out HL2.out (fun q hq => by have := (HOL.out q hq).2; have := HGE.out; omega)⟩
  case rest =>
    rename_i K hK
    refine hK _ _ ?_
    clear hK K
    obtain ⟨wx, hwx⟩ : ∃ w, w = wc := ⟨_, rfl⟩
    subst hwx
    obtain ⟨rfl, hk, ho⟩ := hcut
    clear HK HO
    have HK := hide hk
    have HO := hide ho
    clear hk ho
    skip
    obtain ⟨C0, Cs0, p0, f0, ps, fs, C, q, f, hrow, hrec⟩ := HK.out.box
    have HRW := hide hrow
    have HRC := hide hrec
    obtain ⟨z0, z1, z2, z3, z4, z5, z6⟩ := row7 hrow
    have zl := hrow.lt
    clear hrow hrec
    go_upto_region 8 with (fail)
    go_wp2_with fail
    with_reducible refine (vTry HRC.out.val wkF4).mono ?_
    rintro e wt ⟨⟨v5, A8, nt, k8, rfl, hv, ho, hn⟩, hb⟩
    rw [wkR5] at hv ho hn ⊢
    obtain ⟨B0, Bs, m0, d0, ms, ds, B, m, d, rfl, hr⟩ := hv
    have HV := hide (show RecF (From wx.heap.size) wt B0 Bs m0 d0 ms ds B m d wk5 from hr)
    have hn : 1 = nt := hn
    subst hn
    have HON := hide (show wt.ownsRow wx.heap.size 41 2 (.slice A8 1 k8) 1 (Cs encE [(0, 0)]) from ho)
    have HW5 := hide (show g1 < wx.heap.size from HRW.out.lt)
    have HKt := hide (HK.out.keep hb)
    have HOt := hide (own_keepB HO.out hb)
    clear HK HO hr ho z0 z1 z2 z3 z4 z5 z6 zl
    have hrw := HRW.out.below hb
    clear hb
    obtain ⟨y0, y1, y2, y3, y4, y5, y6⟩ := row7 hrw
    have yl := hrw.lt
    have yf0 := hrw.frozen 0
    have yf1 := hrw.frozen 1
    have yf2 := hrw.frozen 2
    have yf3 := hrw.frozen 3
    have yf4 := hrw.frozen 4
    have yf5 := hrw.frozen 5
    have yf6 := hrw.frozen 6
    go_upto_region 9 with (fail)
    have HLD := hide (show LaidF g1 wt (((((((wt.setCell ⟨g1, 0, none⟩ (.slice B0 m0 d0)).setCell ⟨g1, 1, none⟩ (.int .u64 wk5.e)).setCell ⟨g1, 2, none⟩ (.slice Bs ms ds)).setCell ⟨g1, 3, none⟩ (.int .u64 (wk5.l.E : Int))).setCell ⟨g1, 4, none⟩ (.slice (B 0) (m 0) (d 0))).setCell ⟨g1, 5, none⟩ (.slice (B 1) (m 1) (d 1))).setCell ⟨g1, 6, none⟩ (.slice (B 2) (m 2) (d 2))) from ((((((((laid0 g1 _).set 0 (.slice B0 m0 d0)).set 1 (.int .u64 wk5.e)).set 2 (.slice Bs ms ds)).set 3 (.int .u64 (wk5.l.E : Int))).set 4 (.slice (B 0) (m 0) (d 0))).set 5 (.slice (B 1) (m 1) (d 1))).set 6 (.slice (B 2) (m 2) (d 2))))
    have HRN := hide (show RowAt (((((((wt.setCell ⟨g1, 0, none⟩ (.slice B0 m0 d0)).setCell ⟨g1, 1, none⟩ (.int .u64 wk5.e)).setCell ⟨g1, 2, none⟩ (.slice Bs ms ds)).setCell ⟨g1, 3, none⟩ (.int .u64 (wk5.l.E : Int))).setCell ⟨g1, 4, none⟩ (.slice (B 0) (m 0) (d 0))).setCell ⟨g1, 5, none⟩ (.slice (B 1) (m 1) (d 1))).setCell ⟨g1, 6, none⟩ (.slice (B 2) (m 2) (d 2))) g1 34 (recC wk5.e wk5.l.E B0 Bs m0 d0 ms ds B m d) from by have h := (((((((hrw.set 0 (.slice B0 m0 d0)).set 1 (.int .u64 wk5.e)).set 2 (.slice Bs ms ds)).set 3 (.int .u64 (wk5.l.E : Int))).set 4 (.slice (B 0) (m 0) (d 0))).set 5 (.slice (B 1) (m 1) (d 1))).set 6 (.slice (B 2) (m 2) (d 2))); simpa using h)
    have HK := hide (HKt.out.put HLD.out HRN.out HV.out HW5.out)
    have HO := hide (own_laid HOt.out hrw HLD.out)
    have HO8 := hide (own_laid HON.out hrw HLD.out)
    clear hrw yl y0 yf0 y1 yf1 y2 yf2 y3 yf3 y4 yf4 y5 yf5 y6 yf6
    generalize (((((((wt.setCell ⟨g1, 0, none⟩ (.slice B0 m0 d0)).setCell ⟨g1, 1, none⟩ (.int .u64 wk5.e)).setCell ⟨g1, 2, none⟩ (.slice Bs ms ds)).setCell ⟨g1, 3, none⟩ (.int .u64 (wk5.l.E : Int))).setCell ⟨g1, 4, none⟩ (.slice (B 0) (m 0) (d 0))).setCell ⟨g1, 5, none⟩ (.slice (B 1) (m 1) (d 1))).setCell ⟨g1, 6, none⟩ (.slice (B 2) (m 2) (d 2))) = wy at *
    clear HLD HRN HV HKt HON HRW HRC HW5 HOt
    go_cut [21] from 74 to 81 (fun s21 wx => s21 = .int .i64 4 ∧ Below wy.heap.size wy wx)
    case first =>
      obtain ⟨C0, Cs0, p0, f0, ps, fs, C, q, f, hrow, hrec⟩ := HK.out.box
      have HRW := hide hrow
      have HRC := hide hrec
      clear hrow hrec
      have HSX := hide (fun (wX : World) (hgX : Below wy.heap.size wy wX) => show wX.cell? ⟨g1, 0, none⟩ = some (.slice C0 p0 f0) ∧ wX.cell? ⟨g1, 1, none⟩ = some (.int .u64 wk5.e) ∧ wX.cell? ⟨g1, 2, none⟩ = some (.slice Cs0 ps fs) ∧ wX.cell? ⟨g1, 3, none⟩ = some (.int .u64 (wk5.l.E : Int)) ∧ wX.cell? ⟨g1, 4, none⟩ = some (.slice (C 0) (q 0) (f 0)) ∧ wX.cell? ⟨g1, 5, none⟩ = some (.slice (C 1) (q 1) (f 1)) ∧ wX.cell? ⟨g1, 6, none⟩ = some (.slice (C 2) (q 2) (f 2)) ∧ wX.cell? ⟨g3, 0, none⟩ = some (.int .i64 0) ∧ wX.cell? ⟨g3, 1, none⟩ = some (.int .u64 0) ∧ g1 < wX.heap.size ∧ g3 < wX.heap.size from by
        obtain ⟨z0, z1, z2, z3, z4, z5, z6⟩ := row7 HRW.out
        exact ⟨kept hgX z0, kept hgX z1, kept hgX z2, kept hgX z3, kept hgX z4, kept hgX z5, kept hgX z6, kept hgX (row20 HK.out.ent), kept hgX (row21 HK.out.ent), Nat.lt_of_lt_of_le HRW.out.lt hgX.size, Nat.lt_of_lt_of_le HK.out.ent.lt hgX.size⟩)
      have HX := hide ((Below.refl wy.heap.size wy).drew)
      refine wp_region_held_drew (S := fun wX => wX.cell? ⟨g1, 0, none⟩ = some (.slice C0 p0 f0) ∧ wX.cell? ⟨g1, 1, none⟩ = some (.int .u64 wk5.e) ∧ wX.cell? ⟨g1, 2, none⟩ = some (.slice Cs0 ps fs) ∧ wX.cell? ⟨g1, 3, none⟩ = some (.int .u64 (wk5.l.E : Int)) ∧ wX.cell? ⟨g1, 4, none⟩ = some (.slice (C 0) (q 0) (f 0)) ∧ wX.cell? ⟨g1, 5, none⟩ = some (.slice (C 1) (q 1) (f 1)) ∧ wX.cell? ⟨g1, 6, none⟩ = some (.slice (C 2) (q 2) (f 2)) ∧ wX.cell? ⟨g3, 0, none⟩ = some (.int .i64 0) ∧ wX.cell? ⟨g3, 1, none⟩ = some (.int .u64 0) ∧ g1 < wX.heap.size ∧ g3 < wX.heap.size) (by kernel_rfl) (HSX.out _ HX.out) (fun hHeld => ?_)
      clear hHeld
      have hS0 := HSX.out _ HX.out
      generalize wy.drew = wd at *
      (refine wpAnyH_take (i := 0) (v := ?_) rfl (by kernel_rfl) (by kernel_rfl) (by kernel_rfl) (fun _ _ _ h => h) (Or.inl ⟨by rfl, ?_⟩) (by assumption) ?_; rotate_left; (focus (intro w hSw; (try dsimp only at hSw); obtain ⟨kf0, kf1, kf2, kf3, kf4, kf5, kf6, kf7, kf8, kf9, kf10⟩ := hSw; go_simp; first | done | with_reducible rfl)); (try simp only [Act.put, List.getElem_toArray, List.getElem_cons_succ, List.getElem_cons_zero, List.setIfInBounds_toArray, List.set_cons_zero, List.set_cons_succ]))
      (refine wpAnyH_take (i := 1) (v := ?_) rfl (by kernel_rfl) (by kernel_rfl) (by kernel_rfl) (fun _ _ _ h => h) (Or.inl ⟨by rfl, ?_⟩) (by assumption) ?_; rotate_left; (focus (intro w hSw; (try dsimp only at hSw); obtain ⟨kf0, kf1, kf2, kf3, kf4, kf5, kf6, kf7, kf8, kf9, kf10⟩ := hSw; go_simp; first | done | with_reducible rfl)); (try simp only [Act.put, List.getElem_toArray, List.getElem_cons_succ, List.getElem_cons_zero, List.setIfInBounds_toArray, List.set_cons_zero, List.set_cons_succ]))
      refine wpAnyH_ready (rs := [2, 8, 9]) (by kernel_rfl) (by simp) ?_
      refine (AllReadyH.cons rfl (fun K0 hK0 => ?_) (AllReadyH.cons rfl (fun K1 hK1 => ?_) (AllReadyH.cons rfl (fun K2 hK2 => ?_) AllReadyH.nil)))
      ·
        go_simp
        with_reducible refine (op_any 6 0 0 0 wd).mono ?_
        rintro e wo0 ⟨rfl, hb⟩
        have hX2 := HX.out.trans (hb.mono HX.out.size)
        replace HX := hide hX2
        clear hX2 hS0 hb
        have hS0 := HSX.out _ HX.out
        refine hK0.out _ _ (hS0) (fun _ => ?_)
        clear hK0 K0
        (try simp only [Act.put, List.getElem_toArray, List.getElem_cons_succ, List.getElem_cons_zero, List.setIfInBounds_toArray, List.set_cons_zero, List.set_cons_succ])
        refine wpAnyH_ready (rs := [3, 8, 9]) (by kernel_rfl) (by simp) ?_
        refine (AllReadyH.cons rfl (fun K3 hK3 => ?_) (AllReadyH.cons rfl (fun K4 hK4 => ?_) (AllReadyH.cons rfl (fun K5 hK5 => ?_) AllReadyH.nil)))
        ·
          go_simp
          with_reducible refine (vDo (HRC.out.below HX.out).val wkF5 ⟨6, 0, 0, (0, 0)⟩ (Int.le_refl _) u64z).mono ?_
          rintro e wo1 ⟨⟨v5, rfl, hv⟩, hb⟩
          rw [wkR6] at hv ⊢
          obtain ⟨B0, Bs, m0, d0, ms, ds, B, m, d, rfl, hr⟩ := hv
          clear hr
          have hX2 := HX.out.trans (hb.mono HX.out.size)
          replace HX := hide hX2
          clear hX2 hS0 hb
          have hS0 := HSX.out _ HX.out
          refine hK3.out _ _ (hS0) (fun _ => ?_)
          clear hK3 K3
          (try simp only [Act.put, List.getElem_toArray, List.getElem_cons_succ, List.getElem_cons_zero, List.setIfInBounds_toArray, List.set_cons_zero, List.set_cons_succ])
          (refine wpAnyH_take (i := 4) (v := ?_) rfl (by kernel_rfl) (by kernel_rfl) (by kernel_rfl) (fun _ _ _ h => h) (Or.inl ⟨by rfl, ?_⟩) (by assumption) ?_; rotate_left; (focus (intro w hSw; (try dsimp only at hSw); obtain ⟨kf0, kf1, kf2, kf3, kf4, kf5, kf6, kf7, kf8, kf9, kf10⟩ := hSw; go_simp; first | done | with_reducible rfl)); (try simp only [Act.put, List.getElem_toArray, List.getElem_cons_succ, List.getElem_cons_zero, List.setIfInBounds_toArray, List.set_cons_zero, List.set_cons_succ]))
          (refine wpAnyH_take (i := 5) (v := ?_) rfl (by kernel_rfl) (by kernel_rfl) (by kernel_rfl) (fun _ _ _ h => h) (Or.inl ⟨by rfl, ?_⟩) (by assumption) ?_; rotate_left; (focus (intro w hSw; (try dsimp only at hSw); obtain ⟨kf0, kf1, kf2, kf3, kf4, kf5, kf6, kf7, kf8, kf9, kf10⟩ := hSw; go_simp; first | done | with_reducible rfl)); (try simp only [Act.put, List.getElem_toArray, List.getElem_cons_succ, List.getElem_cons_zero, List.setIfInBounds_toArray, List.set_cons_zero, List.set_cons_succ]))
          (refine wpAnyH_take (i := 6) (v := ?_) rfl (by kernel_rfl) (by kernel_rfl) (by kernel_rfl) (fun _ _ _ h => h) (Or.inl ⟨by rfl, ?_⟩) (by assumption) ?_; rotate_left; (focus (intro w hSw; (try dsimp only at hSw); obtain ⟨kf0, kf1, kf2, kf3, kf4, kf5, kf6, kf7, kf8, kf9, kf10⟩ := hSw; go_simp; first | done | with_reducible rfl)); (try simp only [Act.put, List.getElem_toArray, List.getElem_cons_succ, List.getElem_cons_zero, List.setIfInBounds_toArray, List.set_cons_zero, List.set_cons_succ]))
          (refine wpAnyH_take (i := 7) (v := ?_) rfl (by kernel_rfl) (by kernel_rfl) (by kernel_rfl) (fun _ _ _ h => h) (Or.inl ⟨by rfl, ?_⟩) (by assumption) ?_; rotate_left; (focus (intro w hSw; (try dsimp only at hSw); obtain ⟨kf0, kf1, kf2, kf3, kf4, kf5, kf6, kf7, kf8, kf9, kf10⟩ := hSw; go_simp; first | done | with_reducible rfl)); (try simp only [Act.put, List.getElem_toArray, List.getElem_cons_succ, List.getElem_cons_zero, List.setIfInBounds_toArray, List.set_cons_zero, List.set_cons_succ]))
          refine wpAnyH_ready (rs := [8, 9]) (by kernel_rfl) (by simp) ?_
          refine (AllReadyH.cons rfl (fun K6 hK6 => ?_) (AllReadyH.cons rfl (fun K7 hK7 => ?_) AllReadyH.nil))
          ·
            go_simp
            have hb : Below wo1.heap.size wo1 (wo1.alloc (.cells #[.slice none 0 0, .int .u64 0, .slice none 0 0, .int .u64 0, .slice none 0 0, .slice none 0 0, .slice none 0 0] 34)) := (Below.refl _ _).alloc (Nat.le_refl _) _
            have hre := RowAt.new wo1 34 #[.slice none 0 0, .int .u64 0, .slice none 0 0, .int .u64 0, .slice none 0 0, .slice none 0 0, .slice none 0 0]
            obtain ⟨ga, hge⟩ : ∃ g, wo1.heap.size = g := ⟨_, rfl⟩
            have HGA := hide (show wy.heap.size ≤ ga from by rw [← hge]; exact HX.out.size)
            have hX2 := HX.out.trans (hb.mono HX.out.size)
            replace HX := hide hX2
            rw [hge] at hre ⊢
            have HRA := hide hre
            clear hX2 hS0 hre hb hge
            have hS0 := HSX.out _ HX.out
            generalize (wo1.alloc (.cells #[.slice none 0 0, .int .u64 0, .slice none 0 0, .int .u64 0, .slice none 0 0, .slice none 0 0, .slice none 0 0] 34)) = wa2 at *
            refine hK6.out _ _ (hS0) (fun _ => ?_)
            clear hK6 K6
            (try simp only [Act.put, List.getElem_toArray, List.getElem_cons_succ, List.getElem_cons_zero, List.setIfInBounds_toArray, List.set_cons_zero, List.set_cons_succ])
            refine wpAnyH_ready (rs := [9]) (by kernel_rfl) (by simp) ?_
            refine (AllReadyH.cons rfl (fun K8 hK8 => ?_) AllReadyH.nil)
            go_simp
            have hb : Below wa2.heap.size wa2 (wa2.alloc (.cells #[.int .i64 0, .int .u64 0] 41)) := (Below.refl _ _).alloc (Nat.le_refl _) _
            have hre := RowAt.new wa2 41 #[.int .i64 0, .int .u64 0]
            replace HRA := hide (HRA.out.below hb)
            obtain ⟨gb, hge⟩ : ∃ g, wa2.heap.size = g := ⟨_, rfl⟩
            have HGB := hide (show wy.heap.size ≤ gb from by rw [← hge]; exact HX.out.size)
            have hX2 := HX.out.trans (hb.mono HX.out.size)
            replace HX := hide hX2
            rw [hge] at hre ⊢
            have HRB := hide hre
            clear hX2 hS0 hre hb hge
            have hS0 := HSX.out _ HX.out
            generalize (wa2.alloc (.cells #[.int .i64 0, .int .u64 0] 41)) = wa3 at *
            refine hK8.out _ _ (hS0) (fun _ => ?_)
            clear hK8 K8
            (try simp only [Act.put, List.getElem_toArray, List.getElem_cons_succ, List.getElem_cons_zero, List.setIfInBounds_toArray, List.set_cons_zero, List.set_cons_succ])
            refine wpAnyH_ready (rs := [10]) (by kernel_rfl) (by simp) ?_
            refine (AllReadyH.cons rfl (fun K9 hK9 => ?_) AllReadyH.nil)
            clear hS0
            have hra := HRA.out
            obtain ⟨y0, y1, y2, y3, y4, y5, y6⟩ := row7 hra
            have yl := hra.lt
            have yf0 := hra.frozen 0
            have yf1 := hra.frozen 1
            have yf2 := hra.frozen 2
            have yf3 := hra.frozen 3
            have yf4 := hra.frozen 4
            have yf5 := hra.frozen 5
            have yf6 := hra.frozen 6
            go_simp
            have HLD := hide (show LaidF ga wa3 (((((((wa3.setCell ⟨ga, 0, none⟩ (.slice B0 m0 d0)).setCell ⟨ga, 1, none⟩ (.int .u64 rec0.e)).setCell ⟨ga, 2, none⟩ (.slice Bs ms ds)).setCell ⟨ga, 3, none⟩ (.int .u64 (rec0.l.E : Int))).setCell ⟨ga, 4, none⟩ (.slice (B 0) (m 0) (d 0))).setCell ⟨ga, 5, none⟩ (.slice (B 1) (m 1) (d 1))).setCell ⟨ga, 6, none⟩ (.slice (B 2) (m 2) (d 2))) from ((((((((laid0 ga _).set 0 (.slice B0 m0 d0)).set 1 (.int .u64 rec0.e)).set 2 (.slice Bs ms ds)).set 3 (.int .u64 (rec0.l.E : Int))).set 4 (.slice (B 0) (m 0) (d 0))).set 5 (.slice (B 1) (m 1) (d 1))).set 6 (.slice (B 2) (m 2) (d 2))))
            have HX1 := hide (HX.out.trans (HLD.out.below.mono HGA.out))
            have HRB2 := hide (show RowAt _ gb 41 #[.int .i64 0, .int .u64 0] from (HLD.out.block gb (fun e => by have h1 := HRB.out; rw [e] at h1; exact absurd (row_typ h1 hra) (by decide))).trans HRB.out)
            clear hra yl y0 yf0 y1 yf1 y2 yf2 y3 yf3 y4 yf4 y5 yf5 y6 yf6
            generalize (((((((wa3.setCell ⟨ga, 0, none⟩ (.slice B0 m0 d0)).setCell ⟨ga, 1, none⟩ (.int .u64 rec0.e)).setCell ⟨ga, 2, none⟩ (.slice Bs ms ds)).setCell ⟨ga, 3, none⟩ (.int .u64 (rec0.l.E : Int))).setCell ⟨ga, 4, none⟩ (.slice (B 0) (m 0) (d 0))).setCell ⟨ga, 5, none⟩ (.slice (B 1) (m 1) (d 1))).setCell ⟨ga, 6, none⟩ (.slice (B 2) (m 2) (d 2))) = wp at *
            refine hK9.out _ _ (HSX.out _ HX1.out) (fun _ => ?_)
            clear hK9 K9
            (try simp only [Act.put, List.getElem_toArray, List.getElem_cons_succ, List.getElem_cons_zero, List.setIfInBounds_toArray, List.set_cons_zero, List.set_cons_succ])
            refine wpAnyH_ready (rs := [11]) (by kernel_rfl) (by simp) ?_
            refine (AllReadyH.cons rfl (fun K10 hK10 => ?_) AllReadyH.nil)
            have u0 := row20 HRB2.out
            have u1 := row21 HRB2.out
            have ul := HRB2.out.lt
            have uf0 := HRB2.out.frozen 0
            have uf1 := HRB2.out.frozen 1
            go_simp
            have HL2 := hide (show LaidF gb wp ((wp.setCell ⟨gb, 0, none⟩ (.int .i64 0)).setCell ⟨gb, 1, none⟩ (.int .u64 0)) from (((laid0 gb _).set 0 (.int .i64 0)).set 1 (.int .u64 0)))
            have HX3 := hide (HX1.out.trans (HL2.out.below.mono HGB.out))
            clear u0 u1 ul uf0 uf1
            generalize ((wp.setCell ⟨gb, 0, none⟩ (.int .i64 0)).setCell ⟨gb, 1, none⟩ (.int .u64 0)) = wq at *
            refine hK10.out _ _ (HSX.out _ HX3.out) (fun _ => ?_)
            clear hK10 K10
            (try simp only [Act.put, List.getElem_toArray, List.getElem_cons_succ, List.getElem_cons_zero, List.setIfInBounds_toArray, List.set_cons_zero, List.set_cons_succ])
            refine wpAnyH_ready (rs := [12]) (by kernel_rfl) (by simp) ?_
            refine (AllReadyH.cons rfl (fun K11 hK11 => ?_) AllReadyH.nil)
            go_simp
            refine hK11.out _ _ (HSX.out _ HX3.out) (fun _ => ?_)
            clear hK11 K11
            (try simp only [Act.put, List.getElem_toArray, List.getElem_cons_succ, List.getElem_cons_zero, List.setIfInBounds_toArray, List.set_cons_zero, List.set_cons_succ])
            refine wpAnyH_done (by kernel_rfl) ?_ _
            go_wp2_with fail
            go_meet
            case rel => exact ⟨rfl, HX3.out⟩
          ·
            go_simp
            have hb : Below wo1.heap.size wo1 (wo1.alloc (.cells #[.int .i64 0, .int .u64 0] 41)) := (Below.refl _ _).alloc (Nat.le_refl _) _
            have hre := RowAt.new wo1 41 #[.int .i64 0, .int .u64 0]
            obtain ⟨gb, hge⟩ : ∃ g, wo1.heap.size = g := ⟨_, rfl⟩
            have HGB := hide (show wy.heap.size ≤ gb from by rw [← hge]; exact HX.out.size)
            have hX2 := HX.out.trans (hb.mono HX.out.size)
            replace HX := hide hX2
            rw [hge] at hre ⊢
            have HRB := hide hre
            clear hX2 hS0 hre hb hge
            have hS0 := HSX.out _ HX.out
            generalize (wo1.alloc (.cells #[.int .i64 0, .int .u64 0] 41)) = wa2 at *
            refine hK7.out _ _ (hS0) (fun _ => ?_)
            clear hK7 K7
            (try simp only [Act.put, List.getElem_toArray, List.getElem_cons_succ, List.getElem_cons_zero, List.setIfInBounds_toArray, List.set_cons_zero, List.set_cons_succ])
            refine wpAnyH_ready (rs := [8]) (by kernel_rfl) (by simp) ?_
            refine (AllReadyH.cons rfl (fun K12 hK12 => ?_) AllReadyH.nil)
            go_simp
            have hb : Below wa2.heap.size wa2 (wa2.alloc (.cells #[.slice none 0 0, .int .u64 0, .slice none 0 0, .int .u64 0, .slice none 0 0, .slice none 0 0, .slice none 0 0] 34)) := (Below.refl _ _).alloc (Nat.le_refl _) _
            have hre := RowAt.new wa2 34 #[.slice none 0 0, .int .u64 0, .slice none 0 0, .int .u64 0, .slice none 0 0, .slice none 0 0, .slice none 0 0]
            replace HRB := hide (HRB.out.below hb)
            obtain ⟨ga, hge⟩ : ∃ g, wa2.heap.size = g := ⟨_, rfl⟩
            have HGA := hide (show wy.heap.size ≤ ga from by rw [← hge]; exact HX.out.size)
            have hX2 := HX.out.trans (hb.mono HX.out.size)
            replace HX := hide hX2
            rw [hge] at hre ⊢
            have HRA := hide hre
            clear hX2 hS0 hre hb hge
            have hS0 := HSX.out _ HX.out
            generalize (wa2.alloc (.cells #[.slice none 0 0, .int .u64 0, .slice none 0 0, .int .u64 0, .slice none 0 0, .slice none 0 0, .slice none 0 0] 34)) = wa3 at *
            refine hK12.out _ _ (hS0) (fun _ => ?_)
            clear hK12 K12
            (try simp only [Act.put, List.getElem_toArray, List.getElem_cons_succ, List.getElem_cons_zero, List.setIfInBounds_toArray, List.set_cons_zero, List.set_cons_succ])
            refine wpAnyH_ready (rs := [10]) (by kernel_rfl) (by simp) ?_
            refine (AllReadyH.cons rfl (fun K13 hK13 => ?_) AllReadyH.nil)
            clear hS0
            have hra := HRA.out
            obtain ⟨y0, y1, y2, y3, y4, y5, y6⟩ := row7 hra
            have yl := hra.lt
            have yf0 := hra.frozen 0
            have yf1 := hra.frozen 1
            have yf2 := hra.frozen 2
            have yf3 := hra.frozen 3
            have yf4 := hra.frozen 4
            have yf5 := hra.frozen 5
            have yf6 := hra.frozen 6
            go_simp
            have HLD := hide (show LaidF ga wa3 (((((((wa3.setCell ⟨ga, 0, none⟩ (.slice B0 m0 d0)).setCell ⟨ga, 1, none⟩ (.int .u64 rec0.e)).setCell ⟨ga, 2, none⟩ (.slice Bs ms ds)).setCell ⟨ga, 3, none⟩ (.int .u64 (rec0.l.E : Int))).setCell ⟨ga, 4, none⟩ (.slice (B 0) (m 0) (d 0))).setCell ⟨ga, 5, none⟩ (.slice (B 1) (m 1) (d 1))).setCell ⟨ga, 6, none⟩ (.slice (B 2) (m 2) (d 2))) from ((((((((laid0 ga _).set 0 (.slice B0 m0 d0)).set 1 (.int .u64 rec0.e)).set 2 (.slice Bs ms ds)).set 3 (.int .u64 (rec0.l.E : Int))).set 4 (.slice (B 0) (m 0) (d 0))).set 5 (.slice (B 1) (m 1) (d 1))).set 6 (.slice (B 2) (m 2) (d 2))))
            have HX1 := hide (HX.out.trans (HLD.out.below.mono HGA.out))
            have HRB2 := hide (show RowAt _ gb 41 #[.int .i64 0, .int .u64 0] from (HLD.out.block gb (fun e => by have h1 := HRB.out; rw [e] at h1; exact absurd (row_typ h1 hra) (by decide))).trans HRB.out)
            clear hra yl y0 yf0 y1 yf1 y2 yf2 y3 yf3 y4 yf4 y5 yf5 y6 yf6
            generalize (((((((wa3.setCell ⟨ga, 0, none⟩ (.slice B0 m0 d0)).setCell ⟨ga, 1, none⟩ (.int .u64 rec0.e)).setCell ⟨ga, 2, none⟩ (.slice Bs ms ds)).setCell ⟨ga, 3, none⟩ (.int .u64 (rec0.l.E : Int))).setCell ⟨ga, 4, none⟩ (.slice (B 0) (m 0) (d 0))).setCell ⟨ga, 5, none⟩ (.slice (B 1) (m 1) (d 1))).setCell ⟨ga, 6, none⟩ (.slice (B 2) (m 2) (d 2))) = wp at *
            refine hK13.out _ _ (HSX.out _ HX1.out) (fun _ => ?_)
            clear hK13 K13
            (try simp only [Act.put, List.getElem_toArray, List.getElem_cons_succ, List.getElem_cons_zero, List.setIfInBounds_toArray, List.set_cons_zero, List.set_cons_succ])
            refine wpAnyH_ready (rs := [11]) (by kernel_rfl) (by simp) ?_
            refine (AllReadyH.cons rfl (fun K14 hK14 => ?_) AllReadyH.nil)
            have u0 := row20 HRB2.out
            have u1 := row21 HRB2.out
            have ul := HRB2.out.lt
            have uf0 := HRB2.out.frozen 0
            have uf1 := HRB2.out.frozen 1
            go_simp
            have HL2 := hide (show LaidF gb wp ((wp.setCell ⟨gb, 0, none⟩ (.int .i64 0)).setCell ⟨gb, 1, none⟩ (.int .u64 0)) from (((laid0 gb _).set 0 (.int .i64 0)).set 1 (.int .u64 0)))
            have HX3 := hide (HX1.out.trans (HL2.out.below.mono HGB.out))
            clear u0 u1 ul uf0 uf1
            generalize ((wp.setCell ⟨gb, 0, none⟩ (.int .i64 0)).setCell ⟨gb, 1, none⟩ (.int .u64 0)) = wq at *
            refine hK14.out _ _ (HSX.out _ HX3.out) (fun _ => ?_)
            clear hK14 K14
            (try simp only [Act.put, List.getElem_toArray, List.getElem_cons_succ, List.getElem_cons_zero, List.setIfInBounds_toArray, List.set_cons_zero, List.set_cons_succ])
            refine wpAnyH_ready (rs := [12]) (by kernel_rfl) (by simp) ?_
            refine (AllReadyH.cons rfl (fun K15 hK15 => ?_) AllReadyH.nil)
            go_simp
            refine hK15.out _ _ (HSX.out _ HX3.out) (fun _ => ?_)
            clear hK15 K15
            (try simp only [Act.put, List.getElem_toArray, List.getElem_cons_succ, List.getElem_cons_zero, List.setIfInBounds_toArray, List.set_cons_zero, List.set_cons_succ])
            refine wpAnyH_done (by kernel_rfl) ?_ _
            go_wp2_with fail
            go_meet
            case rel => exact ⟨rfl, HX3.out⟩
        ·
          go_simp
          have hb : Below wo0.heap.size wo0 (wo0.alloc (.cells #[.slice none 0 0, .int .u64 0, .slice none 0 0, .int .u64 0, .slice none 0 0, .slice none 0 0, .slice none 0 0] 34)) := (Below.refl _ _).alloc (Nat.le_refl _) _
          have hre := RowAt.new wo0 34 #[.slice none 0 0, .int .u64 0, .slice none 0 0, .int .u64 0, .slice none 0 0, .slice none 0 0, .slice none 0 0]
          obtain ⟨ga, hge⟩ : ∃ g, wo0.heap.size = g := ⟨_, rfl⟩
          have HGA := hide (show wy.heap.size ≤ ga from by rw [← hge]; exact HX.out.size)
          have hX2 := HX.out.trans (hb.mono HX.out.size)
          replace HX := hide hX2
          rw [hge] at hre ⊢
          have HRA := hide hre
          clear hX2 hS0 hre hb hge
          have hS0 := HSX.out _ HX.out
          generalize (wo0.alloc (.cells #[.slice none 0 0, .int .u64 0, .slice none 0 0, .int .u64 0, .slice none 0 0, .slice none 0 0, .slice none 0 0] 34)) = wa1 at *
          refine hK4.out _ _ (hS0) (fun _ => ?_)
          clear hK4 K4
          (try simp only [Act.put, List.getElem_toArray, List.getElem_cons_succ, List.getElem_cons_zero, List.setIfInBounds_toArray, List.set_cons_zero, List.set_cons_succ])
          refine wpAnyH_ready (rs := [3, 9]) (by kernel_rfl) (by simp) ?_
          refine (AllReadyH.cons rfl (fun K16 hK16 => ?_) (AllReadyH.cons rfl (fun K17 hK17 => ?_) AllReadyH.nil))
          ·
            go_simp
            with_reducible refine (vDo (HRC.out.below HX.out).val wkF5 ⟨6, 0, 0, (0, 0)⟩ (Int.le_refl _) u64z).mono ?_
            rintro e wo2 ⟨⟨v5, rfl, hv⟩, hb⟩
            rw [wkR6] at hv ⊢
            obtain ⟨B0, Bs, m0, d0, ms, ds, B, m, d, rfl, hr⟩ := hv
            clear hr
            replace HRA := hide (HRA.out.below hb)
            have hX2 := HX.out.trans (hb.mono HX.out.size)
            replace HX := hide hX2
            clear hX2 hS0 hb
            have hS0 := HSX.out _ HX.out
            refine hK16.out _ _ (hS0) (fun _ => ?_)
            clear hK16 K16
            (try simp only [Act.put, List.getElem_toArray, List.getElem_cons_succ, List.getElem_cons_zero, List.setIfInBounds_toArray, List.set_cons_zero, List.set_cons_succ])
            (refine wpAnyH_take (i := 4) (v := ?_) rfl (by kernel_rfl) (by kernel_rfl) (by kernel_rfl) (fun _ _ _ h => h) (Or.inl ⟨by rfl, ?_⟩) (by assumption) ?_; rotate_left; (focus (intro w hSw; (try dsimp only at hSw); obtain ⟨kf0, kf1, kf2, kf3, kf4, kf5, kf6, kf7, kf8, kf9, kf10⟩ := hSw; go_simp; first | done | with_reducible rfl)); (try simp only [Act.put, List.getElem_toArray, List.getElem_cons_succ, List.getElem_cons_zero, List.setIfInBounds_toArray, List.set_cons_zero, List.set_cons_succ]))
            (refine wpAnyH_take (i := 5) (v := ?_) rfl (by kernel_rfl) (by kernel_rfl) (by kernel_rfl) (fun _ _ _ h => h) (Or.inl ⟨by rfl, ?_⟩) (by assumption) ?_; rotate_left; (focus (intro w hSw; (try dsimp only at hSw); obtain ⟨kf0, kf1, kf2, kf3, kf4, kf5, kf6, kf7, kf8, kf9, kf10⟩ := hSw; go_simp; first | done | with_reducible rfl)); (try simp only [Act.put, List.getElem_toArray, List.getElem_cons_succ, List.getElem_cons_zero, List.setIfInBounds_toArray, List.set_cons_zero, List.set_cons_succ]))
            (refine wpAnyH_take (i := 6) (v := ?_) rfl (by kernel_rfl) (by kernel_rfl) (by kernel_rfl) (fun _ _ _ h => h) (Or.inl ⟨by rfl, ?_⟩) (by assumption) ?_; rotate_left; (focus (intro w hSw; (try dsimp only at hSw); obtain ⟨kf0, kf1, kf2, kf3, kf4, kf5, kf6, kf7, kf8, kf9, kf10⟩ := hSw; go_simp; first | done | with_reducible rfl)); (try simp only [Act.put, List.getElem_toArray, List.getElem_cons_succ, List.getElem_cons_zero, List.setIfInBounds_toArray, List.set_cons_zero, List.set_cons_succ]))
            (refine wpAnyH_take (i := 7) (v := ?_) rfl (by kernel_rfl) (by kernel_rfl) (by kernel_rfl) (fun _ _ _ h => h) (Or.inl ⟨by rfl, ?_⟩) (by assumption) ?_; rotate_left; (focus (intro w hSw; (try dsimp only at hSw); obtain ⟨kf0, kf1, kf2, kf3, kf4, kf5, kf6, kf7, kf8, kf9, kf10⟩ := hSw; go_simp; first | done | with_reducible rfl)); (try simp only [Act.put, List.getElem_toArray, List.getElem_cons_succ, List.getElem_cons_zero, List.setIfInBounds_toArray, List.set_cons_zero, List.set_cons_succ]))
            refine wpAnyH_ready (rs := [9]) (by kernel_rfl) (by simp) ?_
            refine (AllReadyH.cons rfl (fun K18 hK18 => ?_) AllReadyH.nil)
            go_simp
            have hb : Below wo2.heap.size wo2 (wo2.alloc (.cells #[.int .i64 0, .int .u64 0] 41)) := (Below.refl _ _).alloc (Nat.le_refl _) _
            have hre := RowAt.new wo2 41 #[.int .i64 0, .int .u64 0]
            replace HRA := hide (HRA.out.below hb)
            obtain ⟨gb, hge⟩ : ∃ g, wo2.heap.size = g := ⟨_, rfl⟩
            have HGB := hide (show wy.heap.size ≤ gb from by rw [← hge]; exact HX.out.size)
            have hX2 := HX.out.trans (hb.mono HX.out.size)
            replace HX := hide hX2
            rw [hge] at hre ⊢
            have HRB := hide hre
            clear hX2 hS0 hre hb hge
            have hS0 := HSX.out _ HX.out
            generalize (wo2.alloc (.cells #[.int .i64 0, .int .u64 0] 41)) = wa3 at *
            refine hK18.out _ _ (hS0) (fun _ => ?_)
            clear hK18 K18
            (try simp only [Act.put, List.getElem_toArray, List.getElem_cons_succ, List.getElem_cons_zero, List.setIfInBounds_toArray, List.set_cons_zero, List.set_cons_succ])
            refine wpAnyH_ready (rs := [10]) (by kernel_rfl) (by simp) ?_
            refine (AllReadyH.cons rfl (fun K19 hK19 => ?_) AllReadyH.nil)
            clear hS0
            have hra := HRA.out
            obtain ⟨y0, y1, y2, y3, y4, y5, y6⟩ := row7 hra
            have yl := hra.lt
            have yf0 := hra.frozen 0
            have yf1 := hra.frozen 1
            have yf2 := hra.frozen 2
            have yf3 := hra.frozen 3
            have yf4 := hra.frozen 4
            have yf5 := hra.frozen 5
            have yf6 := hra.frozen 6
            go_simp
            have HLD := hide (show LaidF ga wa3 (((((((wa3.setCell ⟨ga, 0, none⟩ (.slice B0 m0 d0)).setCell ⟨ga, 1, none⟩ (.int .u64 rec0.e)).setCell ⟨ga, 2, none⟩ (.slice Bs ms ds)).setCell ⟨ga, 3, none⟩ (.int .u64 (rec0.l.E : Int))).setCell ⟨ga, 4, none⟩ (.slice (B 0) (m 0) (d 0))).setCell ⟨ga, 5, none⟩ (.slice (B 1) (m 1) (d 1))).setCell ⟨ga, 6, none⟩ (.slice (B 2) (m 2) (d 2))) from ((((((((laid0 ga _).set 0 (.slice B0 m0 d0)).set 1 (.int .u64 rec0.e)).set 2 (.slice Bs ms ds)).set 3 (.int .u64 (rec0.l.E : Int))).set 4 (.slice (B 0) (m 0) (d 0))).set 5 (.slice (B 1) (m 1) (d 1))).set 6 (.slice (B 2) (m 2) (d 2))))
            have HX1 := hide (HX.out.trans (HLD.out.below.mono HGA.out))
            have HRB2 := hide (show RowAt _ gb 41 #[.int .i64 0, .int .u64 0] from (HLD.out.block gb (fun e => by have h1 := HRB.out; rw [e] at h1; exact absurd (row_typ h1 hra) (by decide))).trans HRB.out)
            clear hra yl y0 yf0 y1 yf1 y2 yf2 y3 yf3 y4 yf4 y5 yf5 y6 yf6
            generalize (((((((wa3.setCell ⟨ga, 0, none⟩ (.slice B0 m0 d0)).setCell ⟨ga, 1, none⟩ (.int .u64 rec0.e)).setCell ⟨ga, 2, none⟩ (.slice Bs ms ds)).setCell ⟨ga, 3, none⟩ (.int .u64 (rec0.l.E : Int))).setCell ⟨ga, 4, none⟩ (.slice (B 0) (m 0) (d 0))).setCell ⟨ga, 5, none⟩ (.slice (B 1) (m 1) (d 1))).setCell ⟨ga, 6, none⟩ (.slice (B 2) (m 2) (d 2))) = wp at *
            refine hK19.out _ _ (HSX.out _ HX1.out) (fun _ => ?_)
            clear hK19 K19
            (try simp only [Act.put, List.getElem_toArray, List.getElem_cons_succ, List.getElem_cons_zero, List.setIfInBounds_toArray, List.set_cons_zero, List.set_cons_succ])
            refine wpAnyH_ready (rs := [11]) (by kernel_rfl) (by simp) ?_
            refine (AllReadyH.cons rfl (fun K20 hK20 => ?_) AllReadyH.nil)
            have u0 := row20 HRB2.out
            have u1 := row21 HRB2.out
            have ul := HRB2.out.lt
            have uf0 := HRB2.out.frozen 0
            have uf1 := HRB2.out.frozen 1
            go_simp
            have HL2 := hide (show LaidF gb wp ((wp.setCell ⟨gb, 0, none⟩ (.int .i64 0)).setCell ⟨gb, 1, none⟩ (.int .u64 0)) from (((laid0 gb _).set 0 (.int .i64 0)).set 1 (.int .u64 0)))
            have HX3 := hide (HX1.out.trans (HL2.out.below.mono HGB.out))
            clear u0 u1 ul uf0 uf1
            generalize ((wp.setCell ⟨gb, 0, none⟩ (.int .i64 0)).setCell ⟨gb, 1, none⟩ (.int .u64 0)) = wq at *
            refine hK20.out _ _ (HSX.out _ HX3.out) (fun _ => ?_)
            clear hK20 K20
            (try simp only [Act.put, List.getElem_toArray, List.getElem_cons_succ, List.getElem_cons_zero, List.setIfInBounds_toArray, List.set_cons_zero, List.set_cons_succ])
            refine wpAnyH_ready (rs := [12]) (by kernel_rfl) (by simp) ?_
            refine (AllReadyH.cons rfl (fun K21 hK21 => ?_) AllReadyH.nil)
            go_simp
            refine hK21.out _ _ (HSX.out _ HX3.out) (fun _ => ?_)
            clear hK21 K21
            (try simp only [Act.put, List.getElem_toArray, List.getElem_cons_succ, List.getElem_cons_zero, List.setIfInBounds_toArray, List.set_cons_zero, List.set_cons_succ])
            refine wpAnyH_done (by kernel_rfl) ?_ _
            go_wp2_with fail
            go_meet
            case rel => exact ⟨rfl, HX3.out⟩
          ·
            go_simp
            have hb : Below wa1.heap.size wa1 (wa1.alloc (.cells #[.int .i64 0, .int .u64 0] 41)) := (Below.refl _ _).alloc (Nat.le_refl _) _
            have hre := RowAt.new wa1 41 #[.int .i64 0, .int .u64 0]
            replace HRA := hide (HRA.out.below hb)
            obtain ⟨gb, hge⟩ : ∃ g, wa1.heap.size = g := ⟨_, rfl⟩
            have HGB := hide (show wy.heap.size ≤ gb from by rw [← hge]; exact HX.out.size)
            have hX2 := HX.out.trans (hb.mono HX.out.size)
            replace HX := hide hX2
            rw [hge] at hre ⊢
            have HRB := hide hre
            clear hX2 hS0 hre hb hge
            have hS0 := HSX.out _ HX.out
            generalize (wa1.alloc (.cells #[.int .i64 0, .int .u64 0] 41)) = wa2 at *
            refine hK17.out _ _ (hS0) (fun _ => ?_)
            clear hK17 K17
            (try simp only [Act.put, List.getElem_toArray, List.getElem_cons_succ, List.getElem_cons_zero, List.setIfInBounds_toArray, List.set_cons_zero, List.set_cons_succ])
            refine wpAnyH_ready (rs := [3]) (by kernel_rfl) (by simp) ?_
            refine (AllReadyH.cons rfl (fun K22 hK22 => ?_) AllReadyH.nil)
            go_simp
            with_reducible refine (vDo (HRC.out.below HX.out).val wkF5 ⟨6, 0, 0, (0, 0)⟩ (Int.le_refl _) u64z).mono ?_
            rintro e wo3 ⟨⟨v5, rfl, hv⟩, hb⟩
            rw [wkR6] at hv ⊢
            obtain ⟨B0, Bs, m0, d0, ms, ds, B, m, d, rfl, hr⟩ := hv
            clear hr
            replace HRA := hide (HRA.out.below hb)
            replace HRB := hide (HRB.out.below hb)
            have hX2 := HX.out.trans (hb.mono HX.out.size)
            replace HX := hide hX2
            clear hX2 hS0 hb
            have hS0 := HSX.out _ HX.out
            refine hK22.out _ _ (hS0) (fun _ => ?_)
            clear hK22 K22
            (try simp only [Act.put, List.getElem_toArray, List.getElem_cons_succ, List.getElem_cons_zero, List.setIfInBounds_toArray, List.set_cons_zero, List.set_cons_succ])
            (refine wpAnyH_take (i := 4) (v := ?_) rfl (by kernel_rfl) (by kernel_rfl) (by kernel_rfl) (fun _ _ _ h => h) (Or.inl ⟨by rfl, ?_⟩) (by assumption) ?_; rotate_left; (focus (intro w hSw; (try dsimp only at hSw); obtain ⟨kf0, kf1, kf2, kf3, kf4, kf5, kf6, kf7, kf8, kf9, kf10⟩ := hSw; go_simp; first | done | with_reducible rfl)); (try simp only [Act.put, List.getElem_toArray, List.getElem_cons_succ, List.getElem_cons_zero, List.setIfInBounds_toArray, List.set_cons_zero, List.set_cons_succ]))
            (refine wpAnyH_take (i := 5) (v := ?_) rfl (by kernel_rfl) (by kernel_rfl) (by kernel_rfl) (fun _ _ _ h => h) (Or.inl ⟨by rfl, ?_⟩) (by assumption) ?_; rotate_left; (focus (intro w hSw; (try dsimp only at hSw); obtain ⟨kf0, kf1, kf2, kf3, kf4, kf5, kf6, kf7, kf8, kf9, kf10⟩ := hSw; go_simp; first | done | with_reducible rfl)); (try simp only [Act.put, List.getElem_toArray, List.getElem_cons_succ, List.getElem_cons_zero, List.setIfInBounds_toArray, List.set_cons_zero, List.set_cons_succ]))
            (refine wpAnyH_take (i := 6) (v := ?_) rfl (by kernel_rfl) (by kernel_rfl) (by kernel_rfl) (fun _ _ _ h => h) (Or.inl ⟨by rfl, ?_⟩) (by assumption) ?_; rotate_left; (focus (intro w hSw; (try dsimp only at hSw); obtain ⟨kf0, kf1, kf2, kf3, kf4, kf5, kf6, kf7, kf8, kf9, kf10⟩ := hSw; go_simp; first | done | with_reducible rfl)); (try simp only [Act.put, List.getElem_toArray, List.getElem_cons_succ, List.getElem_cons_zero, List.setIfInBounds_toArray, List.set_cons_zero, List.set_cons_succ]))
            (refine wpAnyH_take (i := 7) (v := ?_) rfl (by kernel_rfl) (by kernel_rfl) (by kernel_rfl) (fun _ _ _ h => h) (Or.inl ⟨by rfl, ?_⟩) (by assumption) ?_; rotate_left; (focus (intro w hSw; (try dsimp only at hSw); obtain ⟨kf0, kf1, kf2, kf3, kf4, kf5, kf6, kf7, kf8, kf9, kf10⟩ := hSw; go_simp; first | done | with_reducible rfl)); (try simp only [Act.put, List.getElem_toArray, List.getElem_cons_succ, List.getElem_cons_zero, List.setIfInBounds_toArray, List.set_cons_zero, List.set_cons_succ]))
            refine wpAnyH_ready (rs := [10]) (by kernel_rfl) (by simp) ?_
            refine (AllReadyH.cons rfl (fun K23 hK23 => ?_) AllReadyH.nil)
            clear hS0
            have hra := HRA.out
            obtain ⟨y0, y1, y2, y3, y4, y5, y6⟩ := row7 hra
            have yl := hra.lt
            have yf0 := hra.frozen 0
            have yf1 := hra.frozen 1
            have yf2 := hra.frozen 2
            have yf3 := hra.frozen 3
            have yf4 := hra.frozen 4
            have yf5 := hra.frozen 5
            have yf6 := hra.frozen 6
            go_simp
            have HLD := hide (show LaidF ga wo3 (((((((wo3.setCell ⟨ga, 0, none⟩ (.slice B0 m0 d0)).setCell ⟨ga, 1, none⟩ (.int .u64 rec0.e)).setCell ⟨ga, 2, none⟩ (.slice Bs ms ds)).setCell ⟨ga, 3, none⟩ (.int .u64 (rec0.l.E : Int))).setCell ⟨ga, 4, none⟩ (.slice (B 0) (m 0) (d 0))).setCell ⟨ga, 5, none⟩ (.slice (B 1) (m 1) (d 1))).setCell ⟨ga, 6, none⟩ (.slice (B 2) (m 2) (d 2))) from ((((((((laid0 ga _).set 0 (.slice B0 m0 d0)).set 1 (.int .u64 rec0.e)).set 2 (.slice Bs ms ds)).set 3 (.int .u64 (rec0.l.E : Int))).set 4 (.slice (B 0) (m 0) (d 0))).set 5 (.slice (B 1) (m 1) (d 1))).set 6 (.slice (B 2) (m 2) (d 2))))
            have HX1 := hide (HX.out.trans (HLD.out.below.mono HGA.out))
            have HRB2 := hide (show RowAt _ gb 41 #[.int .i64 0, .int .u64 0] from (HLD.out.block gb (fun e => by have h1 := HRB.out; rw [e] at h1; exact absurd (row_typ h1 hra) (by decide))).trans HRB.out)
            clear hra yl y0 yf0 y1 yf1 y2 yf2 y3 yf3 y4 yf4 y5 yf5 y6 yf6
            generalize (((((((wo3.setCell ⟨ga, 0, none⟩ (.slice B0 m0 d0)).setCell ⟨ga, 1, none⟩ (.int .u64 rec0.e)).setCell ⟨ga, 2, none⟩ (.slice Bs ms ds)).setCell ⟨ga, 3, none⟩ (.int .u64 (rec0.l.E : Int))).setCell ⟨ga, 4, none⟩ (.slice (B 0) (m 0) (d 0))).setCell ⟨ga, 5, none⟩ (.slice (B 1) (m 1) (d 1))).setCell ⟨ga, 6, none⟩ (.slice (B 2) (m 2) (d 2))) = wp at *
            refine hK23.out _ _ (HSX.out _ HX1.out) (fun _ => ?_)
            clear hK23 K23
            (try simp only [Act.put, List.getElem_toArray, List.getElem_cons_succ, List.getElem_cons_zero, List.setIfInBounds_toArray, List.set_cons_zero, List.set_cons_succ])
            refine wpAnyH_ready (rs := [11]) (by kernel_rfl) (by simp) ?_
            refine (AllReadyH.cons rfl (fun K24 hK24 => ?_) AllReadyH.nil)
            have u0 := row20 HRB2.out
            have u1 := row21 HRB2.out
            have ul := HRB2.out.lt
            have uf0 := HRB2.out.frozen 0
            have uf1 := HRB2.out.frozen 1
            go_simp
            have HL2 := hide (show LaidF gb wp ((wp.setCell ⟨gb, 0, none⟩ (.int .i64 0)).setCell ⟨gb, 1, none⟩ (.int .u64 0)) from (((laid0 gb _).set 0 (.int .i64 0)).set 1 (.int .u64 0)))
            have HX3 := hide (HX1.out.trans (HL2.out.below.mono HGB.out))
            clear u0 u1 ul uf0 uf1
            generalize ((wp.setCell ⟨gb, 0, none⟩ (.int .i64 0)).setCell ⟨gb, 1, none⟩ (.int .u64 0)) = wq at *
            refine hK24.out _ _ (HSX.out _ HX3.out) (fun _ => ?_)
            clear hK24 K24
            (try simp only [Act.put, List.getElem_toArray, List.getElem_cons_succ, List.getElem_cons_zero, List.setIfInBounds_toArray, List.set_cons_zero, List.set_cons_succ])
            refine wpAnyH_ready (rs := [12]) (by kernel_rfl) (by simp) ?_
            refine (AllReadyH.cons rfl (fun K25 hK25 => ?_) AllReadyH.nil)
            go_simp
            refine hK25.out _ _ (HSX.out _ HX3.out) (fun _ => ?_)
            clear hK25 K25
            (try simp only [Act.put, List.getElem_toArray, List.getElem_cons_succ, List.getElem_cons_zero, List.setIfInBounds_toArray, List.set_cons_zero, List.set_cons_succ])
            refine wpAnyH_done (by kernel_rfl) ?_ _
            go_wp2_with fail
            go_meet
            case rel => exact ⟨rfl, HX3.out⟩
        ·
          go_simp
          have hb : Below wo0.heap.size wo0 (wo0.alloc (.cells #[.int .i64 0, .int .u64 0] 41)) := (Below.refl _ _).alloc (Nat.le_refl _) _
          have hre := RowAt.new wo0 41 #[.int .i64 0, .int .u64 0]
          obtain ⟨gb, hge⟩ : ∃ g, wo0.heap.size = g := ⟨_, rfl⟩
          have HGB := hide (show wy.heap.size ≤ gb from by rw [← hge]; exact HX.out.size)
          have hX2 := HX.out.trans (hb.mono HX.out.size)
          replace HX := hide hX2
          rw [hge] at hre ⊢
          have HRB := hide hre
          clear hX2 hS0 hre hb hge
          have hS0 := HSX.out _ HX.out
          generalize (wo0.alloc (.cells #[.int .i64 0, .int .u64 0] 41)) = wa1 at *
          refine hK5.out _ _ (hS0) (fun _ => ?_)
          clear hK5 K5
          (try simp only [Act.put, List.getElem_toArray, List.getElem_cons_succ, List.getElem_cons_zero, List.setIfInBounds_toArray, List.set_cons_zero, List.set_cons_succ])
          refine wpAnyH_ready (rs := [3, 8]) (by kernel_rfl) (by simp) ?_
          refine (AllReadyH.cons rfl (fun K26 hK26 => ?_) (AllReadyH.cons rfl (fun K27 hK27 => ?_) AllReadyH.nil))
          ·
            go_simp
            with_reducible refine (vDo (HRC.out.below HX.out).val wkF5 ⟨6, 0, 0, (0, 0)⟩ (Int.le_refl _) u64z).mono ?_
            rintro e wo2 ⟨⟨v5, rfl, hv⟩, hb⟩
            rw [wkR6] at hv ⊢
            obtain ⟨B0, Bs, m0, d0, ms, ds, B, m, d, rfl, hr⟩ := hv
            clear hr
            replace HRB := hide (HRB.out.below hb)
            have hX2 := HX.out.trans (hb.mono HX.out.size)
            replace HX := hide hX2
            clear hX2 hS0 hb
            have hS0 := HSX.out _ HX.out
            refine hK26.out _ _ (hS0) (fun _ => ?_)
            clear hK26 K26
            (try simp only [Act.put, List.getElem_toArray, List.getElem_cons_succ, List.getElem_cons_zero, List.setIfInBounds_toArray, List.set_cons_zero, List.set_cons_succ])
            (refine wpAnyH_take (i := 4) (v := ?_) rfl (by kernel_rfl) (by kernel_rfl) (by kernel_rfl) (fun _ _ _ h => h) (Or.inl ⟨by rfl, ?_⟩) (by assumption) ?_; rotate_left; (focus (intro w hSw; (try dsimp only at hSw); obtain ⟨kf0, kf1, kf2, kf3, kf4, kf5, kf6, kf7, kf8, kf9, kf10⟩ := hSw; go_simp; first | done | with_reducible rfl)); (try simp only [Act.put, List.getElem_toArray, List.getElem_cons_succ, List.getElem_cons_zero, List.setIfInBounds_toArray, List.set_cons_zero, List.set_cons_succ]))
            (refine wpAnyH_take (i := 5) (v := ?_) rfl (by kernel_rfl) (by kernel_rfl) (by kernel_rfl) (fun _ _ _ h => h) (Or.inl ⟨by rfl, ?_⟩) (by assumption) ?_; rotate_left; (focus (intro w hSw; (try dsimp only at hSw); obtain ⟨kf0, kf1, kf2, kf3, kf4, kf5, kf6, kf7, kf8, kf9, kf10⟩ := hSw; go_simp; first | done | with_reducible rfl)); (try simp only [Act.put, List.getElem_toArray, List.getElem_cons_succ, List.getElem_cons_zero, List.setIfInBounds_toArray, List.set_cons_zero, List.set_cons_succ]))
            (refine wpAnyH_take (i := 6) (v := ?_) rfl (by kernel_rfl) (by kernel_rfl) (by kernel_rfl) (fun _ _ _ h => h) (Or.inl ⟨by rfl, ?_⟩) (by assumption) ?_; rotate_left; (focus (intro w hSw; (try dsimp only at hSw); obtain ⟨kf0, kf1, kf2, kf3, kf4, kf5, kf6, kf7, kf8, kf9, kf10⟩ := hSw; go_simp; first | done | with_reducible rfl)); (try simp only [Act.put, List.getElem_toArray, List.getElem_cons_succ, List.getElem_cons_zero, List.setIfInBounds_toArray, List.set_cons_zero, List.set_cons_succ]))
            (refine wpAnyH_take (i := 7) (v := ?_) rfl (by kernel_rfl) (by kernel_rfl) (by kernel_rfl) (fun _ _ _ h => h) (Or.inl ⟨by rfl, ?_⟩) (by assumption) ?_; rotate_left; (focus (intro w hSw; (try dsimp only at hSw); obtain ⟨kf0, kf1, kf2, kf3, kf4, kf5, kf6, kf7, kf8, kf9, kf10⟩ := hSw; go_simp; first | done | with_reducible rfl)); (try simp only [Act.put, List.getElem_toArray, List.getElem_cons_succ, List.getElem_cons_zero, List.setIfInBounds_toArray, List.set_cons_zero, List.set_cons_succ]))
            refine wpAnyH_ready (rs := [8]) (by kernel_rfl) (by simp) ?_
            refine (AllReadyH.cons rfl (fun K28 hK28 => ?_) AllReadyH.nil)
            go_simp
            have hb : Below wo2.heap.size wo2 (wo2.alloc (.cells #[.slice none 0 0, .int .u64 0, .slice none 0 0, .int .u64 0, .slice none 0 0, .slice none 0 0, .slice none 0 0] 34)) := (Below.refl _ _).alloc (Nat.le_refl _) _
            have hre := RowAt.new wo2 34 #[.slice none 0 0, .int .u64 0, .slice none 0 0, .int .u64 0, .slice none 0 0, .slice none 0 0, .slice none 0 0]
            replace HRB := hide (HRB.out.below hb)
            obtain ⟨ga, hge⟩ : ∃ g, wo2.heap.size = g := ⟨_, rfl⟩
            have HGA := hide (show wy.heap.size ≤ ga from by rw [← hge]; exact HX.out.size)
            have hX2 := HX.out.trans (hb.mono HX.out.size)
            replace HX := hide hX2
            rw [hge] at hre ⊢
            have HRA := hide hre
            clear hX2 hS0 hre hb hge
            have hS0 := HSX.out _ HX.out
            generalize (wo2.alloc (.cells #[.slice none 0 0, .int .u64 0, .slice none 0 0, .int .u64 0, .slice none 0 0, .slice none 0 0, .slice none 0 0] 34)) = wa3 at *
            refine hK28.out _ _ (hS0) (fun _ => ?_)
            clear hK28 K28
            (try simp only [Act.put, List.getElem_toArray, List.getElem_cons_succ, List.getElem_cons_zero, List.setIfInBounds_toArray, List.set_cons_zero, List.set_cons_succ])
            refine wpAnyH_ready (rs := [10]) (by kernel_rfl) (by simp) ?_
            refine (AllReadyH.cons rfl (fun K29 hK29 => ?_) AllReadyH.nil)
            clear hS0
            have hra := HRA.out
            obtain ⟨y0, y1, y2, y3, y4, y5, y6⟩ := row7 hra
            have yl := hra.lt
            have yf0 := hra.frozen 0
            have yf1 := hra.frozen 1
            have yf2 := hra.frozen 2
            have yf3 := hra.frozen 3
            have yf4 := hra.frozen 4
            have yf5 := hra.frozen 5
            have yf6 := hra.frozen 6
            go_simp
            have HLD := hide (show LaidF ga wa3 (((((((wa3.setCell ⟨ga, 0, none⟩ (.slice B0 m0 d0)).setCell ⟨ga, 1, none⟩ (.int .u64 rec0.e)).setCell ⟨ga, 2, none⟩ (.slice Bs ms ds)).setCell ⟨ga, 3, none⟩ (.int .u64 (rec0.l.E : Int))).setCell ⟨ga, 4, none⟩ (.slice (B 0) (m 0) (d 0))).setCell ⟨ga, 5, none⟩ (.slice (B 1) (m 1) (d 1))).setCell ⟨ga, 6, none⟩ (.slice (B 2) (m 2) (d 2))) from ((((((((laid0 ga _).set 0 (.slice B0 m0 d0)).set 1 (.int .u64 rec0.e)).set 2 (.slice Bs ms ds)).set 3 (.int .u64 (rec0.l.E : Int))).set 4 (.slice (B 0) (m 0) (d 0))).set 5 (.slice (B 1) (m 1) (d 1))).set 6 (.slice (B 2) (m 2) (d 2))))
            have HX1 := hide (HX.out.trans (HLD.out.below.mono HGA.out))
            have HRB2 := hide (show RowAt _ gb 41 #[.int .i64 0, .int .u64 0] from (HLD.out.block gb (fun e => by have h1 := HRB.out; rw [e] at h1; exact absurd (row_typ h1 hra) (by decide))).trans HRB.out)
            clear hra yl y0 yf0 y1 yf1 y2 yf2 y3 yf3 y4 yf4 y5 yf5 y6 yf6
            generalize (((((((wa3.setCell ⟨ga, 0, none⟩ (.slice B0 m0 d0)).setCell ⟨ga, 1, none⟩ (.int .u64 rec0.e)).setCell ⟨ga, 2, none⟩ (.slice Bs ms ds)).setCell ⟨ga, 3, none⟩ (.int .u64 (rec0.l.E : Int))).setCell ⟨ga, 4, none⟩ (.slice (B 0) (m 0) (d 0))).setCell ⟨ga, 5, none⟩ (.slice (B 1) (m 1) (d 1))).setCell ⟨ga, 6, none⟩ (.slice (B 2) (m 2) (d 2))) = wp at *
            refine hK29.out _ _ (HSX.out _ HX1.out) (fun _ => ?_)
            clear hK29 K29
            (try simp only [Act.put, List.getElem_toArray, List.getElem_cons_succ, List.getElem_cons_zero, List.setIfInBounds_toArray, List.set_cons_zero, List.set_cons_succ])
            refine wpAnyH_ready (rs := [11]) (by kernel_rfl) (by simp) ?_
            refine (AllReadyH.cons rfl (fun K30 hK30 => ?_) AllReadyH.nil)
            have u0 := row20 HRB2.out
            have u1 := row21 HRB2.out
            have ul := HRB2.out.lt
            have uf0 := HRB2.out.frozen 0
            have uf1 := HRB2.out.frozen 1
            go_simp
            have HL2 := hide (show LaidF gb wp ((wp.setCell ⟨gb, 0, none⟩ (.int .i64 0)).setCell ⟨gb, 1, none⟩ (.int .u64 0)) from (((laid0 gb _).set 0 (.int .i64 0)).set 1 (.int .u64 0)))
            have HX3 := hide (HX1.out.trans (HL2.out.below.mono HGB.out))
            clear u0 u1 ul uf0 uf1
            generalize ((wp.setCell ⟨gb, 0, none⟩ (.int .i64 0)).setCell ⟨gb, 1, none⟩ (.int .u64 0)) = wq at *
            refine hK30.out _ _ (HSX.out _ HX3.out) (fun _ => ?_)
            clear hK30 K30
            (try simp only [Act.put, List.getElem_toArray, List.getElem_cons_succ, List.getElem_cons_zero, List.setIfInBounds_toArray, List.set_cons_zero, List.set_cons_succ])
            refine wpAnyH_ready (rs := [12]) (by kernel_rfl) (by simp) ?_
            refine (AllReadyH.cons rfl (fun K31 hK31 => ?_) AllReadyH.nil)
            go_simp
            refine hK31.out _ _ (HSX.out _ HX3.out) (fun _ => ?_)
            clear hK31 K31
            (try simp only [Act.put, List.getElem_toArray, List.getElem_cons_succ, List.getElem_cons_zero, List.setIfInBounds_toArray, List.set_cons_zero, List.set_cons_succ])
            refine wpAnyH_done (by kernel_rfl) ?_ _
            go_wp2_with fail
            go_meet
            case rel => exact ⟨rfl, HX3.out⟩
          ·
            go_simp
            have hb : Below wa1.heap.size wa1 (wa1.alloc (.cells #[.slice none 0 0, .int .u64 0, .slice none 0 0, .int .u64 0, .slice none 0 0, .slice none 0 0, .slice none 0 0] 34)) := (Below.refl _ _).alloc (Nat.le_refl _) _
            have hre := RowAt.new wa1 34 #[.slice none 0 0, .int .u64 0, .slice none 0 0, .int .u64 0, .slice none 0 0, .slice none 0 0, .slice none 0 0]
            replace HRB := hide (HRB.out.below hb)
            obtain ⟨ga, hge⟩ : ∃ g, wa1.heap.size = g := ⟨_, rfl⟩
            have HGA := hide (show wy.heap.size ≤ ga from by rw [← hge]; exact HX.out.size)
            have hX2 := HX.out.trans (hb.mono HX.out.size)
            replace HX := hide hX2
            rw [hge] at hre ⊢
            have HRA := hide hre
            clear hX2 hS0 hre hb hge
            have hS0 := HSX.out _ HX.out
            generalize (wa1.alloc (.cells #[.slice none 0 0, .int .u64 0, .slice none 0 0, .int .u64 0, .slice none 0 0, .slice none 0 0, .slice none 0 0] 34)) = wa2 at *
            refine hK27.out _ _ (hS0) (fun _ => ?_)
            clear hK27 K27
            (try simp only [Act.put, List.getElem_toArray, List.getElem_cons_succ, List.getElem_cons_zero, List.setIfInBounds_toArray, List.set_cons_zero, List.set_cons_succ])
            refine wpAnyH_ready (rs := [3]) (by kernel_rfl) (by simp) ?_
            refine (AllReadyH.cons rfl (fun K32 hK32 => ?_) AllReadyH.nil)
            go_simp
            with_reducible refine (vDo (HRC.out.below HX.out).val wkF5 ⟨6, 0, 0, (0, 0)⟩ (Int.le_refl _) u64z).mono ?_
            rintro e wo3 ⟨⟨v5, rfl, hv⟩, hb⟩
            rw [wkR6] at hv ⊢
            obtain ⟨B0, Bs, m0, d0, ms, ds, B, m, d, rfl, hr⟩ := hv
            clear hr
            replace HRA := hide (HRA.out.below hb)
            replace HRB := hide (HRB.out.below hb)
            have hX2 := HX.out.trans (hb.mono HX.out.size)
            replace HX := hide hX2
            clear hX2 hS0 hb
            have hS0 := HSX.out _ HX.out
            refine hK32.out _ _ (hS0) (fun _ => ?_)
            clear hK32 K32
            (try simp only [Act.put, List.getElem_toArray, List.getElem_cons_succ, List.getElem_cons_zero, List.setIfInBounds_toArray, List.set_cons_zero, List.set_cons_succ])
            (refine wpAnyH_take (i := 4) (v := ?_) rfl (by kernel_rfl) (by kernel_rfl) (by kernel_rfl) (fun _ _ _ h => h) (Or.inl ⟨by rfl, ?_⟩) (by assumption) ?_; rotate_left; (focus (intro w hSw; (try dsimp only at hSw); obtain ⟨kf0, kf1, kf2, kf3, kf4, kf5, kf6, kf7, kf8, kf9, kf10⟩ := hSw; go_simp; first | done | with_reducible rfl)); (try simp only [Act.put, List.getElem_toArray, List.getElem_cons_succ, List.getElem_cons_zero, List.setIfInBounds_toArray, List.set_cons_zero, List.set_cons_succ]))
            (refine wpAnyH_take (i := 5) (v := ?_) rfl (by kernel_rfl) (by kernel_rfl) (by kernel_rfl) (fun _ _ _ h => h) (Or.inl ⟨by rfl, ?_⟩) (by assumption) ?_; rotate_left; (focus (intro w hSw; (try dsimp only at hSw); obtain ⟨kf0, kf1, kf2, kf3, kf4, kf5, kf6, kf7, kf8, kf9, kf10⟩ := hSw; go_simp; first | done | with_reducible rfl)); (try simp only [Act.put, List.getElem_toArray, List.getElem_cons_succ, List.getElem_cons_zero, List.setIfInBounds_toArray, List.set_cons_zero, List.set_cons_succ]))
            (refine wpAnyH_take (i := 6) (v := ?_) rfl (by kernel_rfl) (by kernel_rfl) (by kernel_rfl) (fun _ _ _ h => h) (Or.inl ⟨by rfl, ?_⟩) (by assumption) ?_; rotate_left; (focus (intro w hSw; (try dsimp only at hSw); obtain ⟨kf0, kf1, kf2, kf3, kf4, kf5, kf6, kf7, kf8, kf9, kf10⟩ := hSw; go_simp; first | done | with_reducible rfl)); (try simp only [Act.put, List.getElem_toArray, List.getElem_cons_succ, List.getElem_cons_zero, List.setIfInBounds_toArray, List.set_cons_zero, List.set_cons_succ]))
            (refine wpAnyH_take (i := 7) (v := ?_) rfl (by kernel_rfl) (by kernel_rfl) (by kernel_rfl) (fun _ _ _ h => h) (Or.inl ⟨by rfl, ?_⟩) (by assumption) ?_; rotate_left; (focus (intro w hSw; (try dsimp only at hSw); obtain ⟨kf0, kf1, kf2, kf3, kf4, kf5, kf6, kf7, kf8, kf9, kf10⟩ := hSw; go_simp; first | done | with_reducible rfl)); (try simp only [Act.put, List.getElem_toArray, List.getElem_cons_succ, List.getElem_cons_zero, List.setIfInBounds_toArray, List.set_cons_zero, List.set_cons_succ]))
            refine wpAnyH_ready (rs := [10]) (by kernel_rfl) (by simp) ?_
            refine (AllReadyH.cons rfl (fun K33 hK33 => ?_) AllReadyH.nil)
            clear hS0
            have hra := HRA.out
            obtain ⟨y0, y1, y2, y3, y4, y5, y6⟩ := row7 hra
            have yl := hra.lt
            have yf0 := hra.frozen 0
            have yf1 := hra.frozen 1
            have yf2 := hra.frozen 2
            have yf3 := hra.frozen 3
            have yf4 := hra.frozen 4
            have yf5 := hra.frozen 5
            have yf6 := hra.frozen 6
            go_simp
            have HLD := hide (show LaidF ga wo3 (((((((wo3.setCell ⟨ga, 0, none⟩ (.slice B0 m0 d0)).setCell ⟨ga, 1, none⟩ (.int .u64 rec0.e)).setCell ⟨ga, 2, none⟩ (.slice Bs ms ds)).setCell ⟨ga, 3, none⟩ (.int .u64 (rec0.l.E : Int))).setCell ⟨ga, 4, none⟩ (.slice (B 0) (m 0) (d 0))).setCell ⟨ga, 5, none⟩ (.slice (B 1) (m 1) (d 1))).setCell ⟨ga, 6, none⟩ (.slice (B 2) (m 2) (d 2))) from ((((((((laid0 ga _).set 0 (.slice B0 m0 d0)).set 1 (.int .u64 rec0.e)).set 2 (.slice Bs ms ds)).set 3 (.int .u64 (rec0.l.E : Int))).set 4 (.slice (B 0) (m 0) (d 0))).set 5 (.slice (B 1) (m 1) (d 1))).set 6 (.slice (B 2) (m 2) (d 2))))
            have HX1 := hide (HX.out.trans (HLD.out.below.mono HGA.out))
            have HRB2 := hide (show RowAt _ gb 41 #[.int .i64 0, .int .u64 0] from (HLD.out.block gb (fun e => by have h1 := HRB.out; rw [e] at h1; exact absurd (row_typ h1 hra) (by decide))).trans HRB.out)
            clear hra yl y0 yf0 y1 yf1 y2 yf2 y3 yf3 y4 yf4 y5 yf5 y6 yf6
            generalize (((((((wo3.setCell ⟨ga, 0, none⟩ (.slice B0 m0 d0)).setCell ⟨ga, 1, none⟩ (.int .u64 rec0.e)).setCell ⟨ga, 2, none⟩ (.slice Bs ms ds)).setCell ⟨ga, 3, none⟩ (.int .u64 (rec0.l.E : Int))).setCell ⟨ga, 4, none⟩ (.slice (B 0) (m 0) (d 0))).setCell ⟨ga, 5, none⟩ (.slice (B 1) (m 1) (d 1))).setCell ⟨ga, 6, none⟩ (.slice (B 2) (m 2) (d 2))) = wp at *
            refine hK33.out _ _ (HSX.out _ HX1.out) (fun _ => ?_)
            clear hK33 K33
            (try simp only [Act.put, List.getElem_toArray, List.getElem_cons_succ, List.getElem_cons_zero, List.setIfInBounds_toArray, List.set_cons_zero, List.set_cons_succ])
            refine wpAnyH_ready (rs := [11]) (by kernel_rfl) (by simp) ?_
            refine (AllReadyH.cons rfl (fun K34 hK34 => ?_) AllReadyH.nil)
            have u0 := row20 HRB2.out
            have u1 := row21 HRB2.out
            have ul := HRB2.out.lt
            have uf0 := HRB2.out.frozen 0
            have uf1 := HRB2.out.frozen 1
            go_simp
            have HL2 := hide (show LaidF gb wp ((wp.setCell ⟨gb, 0, none⟩ (.int .i64 0)).setCell ⟨gb, 1, none⟩ (.int .u64 0)) from (((laid0 gb _).set 0 (.int .i64 0)).set 1 (.int .u64 0)))
            have HX3 := hide (HX1.out.trans (HL2.out.below.mono HGB.out))
            clear u0 u1 ul uf0 uf1
            generalize ((wp.setCell ⟨gb, 0, none⟩ (.int .i64 0)).setCell ⟨gb, 1, none⟩ (.int .u64 0)) = wq at *
            refine hK34.out _ _ (HSX.out _ HX3.out) (fun _ => ?_)
            clear hK34 K34
            (try simp only [Act.put, List.getElem_toArray, List.getElem_cons_succ, List.getElem_cons_zero, List.setIfInBounds_toArray, List.set_cons_zero, List.set_cons_succ])
            refine wpAnyH_ready (rs := [12]) (by kernel_rfl) (by simp) ?_
            refine (AllReadyH.cons rfl (fun K35 hK35 => ?_) AllReadyH.nil)
            go_simp
            refine hK35.out _ _ (HSX.out _ HX3.out) (fun _ => ?_)
            clear hK35 K35
            (try simp only [Act.put, List.getElem_toArray, List.getElem_cons_succ, List.getElem_cons_zero, List.setIfInBounds_toArray, List.set_cons_zero, List.set_cons_succ])
            refine wpAnyH_done (by kernel_rfl) ?_ _
            go_wp2_with fail
            go_meet
            case rel => exact ⟨rfl, HX3.out⟩
      ·
        go_simp
        have hb : Below wd.heap.size wd (wd.alloc (.cells #[.slice none 0 0, .int .u64 0, .slice none 0 0, .int .u64 0, .slice none 0 0, .slice none 0 0, .slice none 0 0] 34)) := (Below.refl _ _).alloc (Nat.le_refl _) _
        have hre := RowAt.new wd 34 #[.slice none 0 0, .int .u64 0, .slice none 0 0, .int .u64 0, .slice none 0 0, .slice none 0 0, .slice none 0 0]
        obtain ⟨ga, hge⟩ : ∃ g, wd.heap.size = g := ⟨_, rfl⟩
        have HGA := hide (show wy.heap.size ≤ ga from by rw [← hge]; exact HX.out.size)
        have hX2 := HX.out.trans (hb.mono HX.out.size)
        replace HX := hide hX2
        rw [hge] at hre ⊢
        have HRA := hide hre
        clear hX2 hS0 hre hb hge
        have hS0 := HSX.out _ HX.out
        generalize (wd.alloc (.cells #[.slice none 0 0, .int .u64 0, .slice none 0 0, .int .u64 0, .slice none 0 0, .slice none 0 0, .slice none 0 0] 34)) = wa0 at *
        refine hK1.out _ _ (hS0) (fun _ => ?_)
        clear hK1 K1
        (try simp only [Act.put, List.getElem_toArray, List.getElem_cons_succ, List.getElem_cons_zero, List.setIfInBounds_toArray, List.set_cons_zero, List.set_cons_succ])
        refine wpAnyH_ready (rs := [2, 9]) (by kernel_rfl) (by simp) ?_
        refine (AllReadyH.cons rfl (fun K36 hK36 => ?_) (AllReadyH.cons rfl (fun K37 hK37 => ?_) AllReadyH.nil))
        ·
          go_simp
          with_reducible refine (op_any 6 0 0 0 wa0).mono ?_
          rintro e wo1 ⟨rfl, hb⟩
          replace HRA := hide (HRA.out.below hb)
          have hX2 := HX.out.trans (hb.mono HX.out.size)
          replace HX := hide hX2
          clear hX2 hS0 hb
          have hS0 := HSX.out _ HX.out
          refine hK36.out _ _ (hS0) (fun _ => ?_)
          clear hK36 K36
          (try simp only [Act.put, List.getElem_toArray, List.getElem_cons_succ, List.getElem_cons_zero, List.setIfInBounds_toArray, List.set_cons_zero, List.set_cons_succ])
          refine wpAnyH_ready (rs := [3, 9]) (by kernel_rfl) (by simp) ?_
          refine (AllReadyH.cons rfl (fun K38 hK38 => ?_) (AllReadyH.cons rfl (fun K39 hK39 => ?_) AllReadyH.nil))
          ·
            go_simp
            with_reducible refine (vDo (HRC.out.below HX.out).val wkF5 ⟨6, 0, 0, (0, 0)⟩ (Int.le_refl _) u64z).mono ?_
            rintro e wo2 ⟨⟨v5, rfl, hv⟩, hb⟩
            rw [wkR6] at hv ⊢
            obtain ⟨B0, Bs, m0, d0, ms, ds, B, m, d, rfl, hr⟩ := hv
            clear hr
            replace HRA := hide (HRA.out.below hb)
            have hX2 := HX.out.trans (hb.mono HX.out.size)
            replace HX := hide hX2
            clear hX2 hS0 hb
            have hS0 := HSX.out _ HX.out
            refine hK38.out _ _ (hS0) (fun _ => ?_)
            clear hK38 K38
            (try simp only [Act.put, List.getElem_toArray, List.getElem_cons_succ, List.getElem_cons_zero, List.setIfInBounds_toArray, List.set_cons_zero, List.set_cons_succ])
            (refine wpAnyH_take (i := 4) (v := ?_) rfl (by kernel_rfl) (by kernel_rfl) (by kernel_rfl) (fun _ _ _ h => h) (Or.inl ⟨by rfl, ?_⟩) (by assumption) ?_; rotate_left; (focus (intro w hSw; (try dsimp only at hSw); obtain ⟨kf0, kf1, kf2, kf3, kf4, kf5, kf6, kf7, kf8, kf9, kf10⟩ := hSw; go_simp; first | done | with_reducible rfl)); (try simp only [Act.put, List.getElem_toArray, List.getElem_cons_succ, List.getElem_cons_zero, List.setIfInBounds_toArray, List.set_cons_zero, List.set_cons_succ]))
            (refine wpAnyH_take (i := 5) (v := ?_) rfl (by kernel_rfl) (by kernel_rfl) (by kernel_rfl) (fun _ _ _ h => h) (Or.inl ⟨by rfl, ?_⟩) (by assumption) ?_; rotate_left; (focus (intro w hSw; (try dsimp only at hSw); obtain ⟨kf0, kf1, kf2, kf3, kf4, kf5, kf6, kf7, kf8, kf9, kf10⟩ := hSw; go_simp; first | done | with_reducible rfl)); (try simp only [Act.put, List.getElem_toArray, List.getElem_cons_succ, List.getElem_cons_zero, List.setIfInBounds_toArray, List.set_cons_zero, List.set_cons_succ]))
            (refine wpAnyH_take (i := 6) (v := ?_) rfl (by kernel_rfl) (by kernel_rfl) (by kernel_rfl) (fun _ _ _ h => h) (Or.inl ⟨by rfl, ?_⟩) (by assumption) ?_; rotate_left; (focus (intro w hSw; (try dsimp only at hSw); obtain ⟨kf0, kf1, kf2, kf3, kf4, kf5, kf6, kf7, kf8, kf9, kf10⟩ := hSw; go_simp; first | done | with_reducible rfl)); (try simp only [Act.put, List.getElem_toArray, List.getElem_cons_succ, List.getElem_cons_zero, List.setIfInBounds_toArray, List.set_cons_zero, List.set_cons_succ]))
            (refine wpAnyH_take (i := 7) (v := ?_) rfl (by kernel_rfl) (by kernel_rfl) (by kernel_rfl) (fun _ _ _ h => h) (Or.inl ⟨by rfl, ?_⟩) (by assumption) ?_; rotate_left; (focus (intro w hSw; (try dsimp only at hSw); obtain ⟨kf0, kf1, kf2, kf3, kf4, kf5, kf6, kf7, kf8, kf9, kf10⟩ := hSw; go_simp; first | done | with_reducible rfl)); (try simp only [Act.put, List.getElem_toArray, List.getElem_cons_succ, List.getElem_cons_zero, List.setIfInBounds_toArray, List.set_cons_zero, List.set_cons_succ]))
            refine wpAnyH_ready (rs := [9]) (by kernel_rfl) (by simp) ?_
            refine (AllReadyH.cons rfl (fun K40 hK40 => ?_) AllReadyH.nil)
            go_simp
            have hb : Below wo2.heap.size wo2 (wo2.alloc (.cells #[.int .i64 0, .int .u64 0] 41)) := (Below.refl _ _).alloc (Nat.le_refl _) _
            have hre := RowAt.new wo2 41 #[.int .i64 0, .int .u64 0]
            replace HRA := hide (HRA.out.below hb)
            obtain ⟨gb, hge⟩ : ∃ g, wo2.heap.size = g := ⟨_, rfl⟩
            have HGB := hide (show wy.heap.size ≤ gb from by rw [← hge]; exact HX.out.size)
            have hX2 := HX.out.trans (hb.mono HX.out.size)
            replace HX := hide hX2
            rw [hge] at hre ⊢
            have HRB := hide hre
            clear hX2 hS0 hre hb hge
            have hS0 := HSX.out _ HX.out
            generalize (wo2.alloc (.cells #[.int .i64 0, .int .u64 0] 41)) = wa3 at *
            refine hK40.out _ _ (hS0) (fun _ => ?_)
            clear hK40 K40
            (try simp only [Act.put, List.getElem_toArray, List.getElem_cons_succ, List.getElem_cons_zero, List.setIfInBounds_toArray, List.set_cons_zero, List.set_cons_succ])
            refine wpAnyH_ready (rs := [10]) (by kernel_rfl) (by simp) ?_
            refine (AllReadyH.cons rfl (fun K41 hK41 => ?_) AllReadyH.nil)
            clear hS0
            have hra := HRA.out
            obtain ⟨y0, y1, y2, y3, y4, y5, y6⟩ := row7 hra
            have yl := hra.lt
            have yf0 := hra.frozen 0
            have yf1 := hra.frozen 1
            have yf2 := hra.frozen 2
            have yf3 := hra.frozen 3
            have yf4 := hra.frozen 4
            have yf5 := hra.frozen 5
            have yf6 := hra.frozen 6
            go_simp
            have HLD := hide (show LaidF ga wa3 (((((((wa3.setCell ⟨ga, 0, none⟩ (.slice B0 m0 d0)).setCell ⟨ga, 1, none⟩ (.int .u64 rec0.e)).setCell ⟨ga, 2, none⟩ (.slice Bs ms ds)).setCell ⟨ga, 3, none⟩ (.int .u64 (rec0.l.E : Int))).setCell ⟨ga, 4, none⟩ (.slice (B 0) (m 0) (d 0))).setCell ⟨ga, 5, none⟩ (.slice (B 1) (m 1) (d 1))).setCell ⟨ga, 6, none⟩ (.slice (B 2) (m 2) (d 2))) from ((((((((laid0 ga _).set 0 (.slice B0 m0 d0)).set 1 (.int .u64 rec0.e)).set 2 (.slice Bs ms ds)).set 3 (.int .u64 (rec0.l.E : Int))).set 4 (.slice (B 0) (m 0) (d 0))).set 5 (.slice (B 1) (m 1) (d 1))).set 6 (.slice (B 2) (m 2) (d 2))))
            have HX1 := hide (HX.out.trans (HLD.out.below.mono HGA.out))
            have HRB2 := hide (show RowAt _ gb 41 #[.int .i64 0, .int .u64 0] from (HLD.out.block gb (fun e => by have h1 := HRB.out; rw [e] at h1; exact absurd (row_typ h1 hra) (by decide))).trans HRB.out)
            clear hra yl y0 yf0 y1 yf1 y2 yf2 y3 yf3 y4 yf4 y5 yf5 y6 yf6
            generalize (((((((wa3.setCell ⟨ga, 0, none⟩ (.slice B0 m0 d0)).setCell ⟨ga, 1, none⟩ (.int .u64 rec0.e)).setCell ⟨ga, 2, none⟩ (.slice Bs ms ds)).setCell ⟨ga, 3, none⟩ (.int .u64 (rec0.l.E : Int))).setCell ⟨ga, 4, none⟩ (.slice (B 0) (m 0) (d 0))).setCell ⟨ga, 5, none⟩ (.slice (B 1) (m 1) (d 1))).setCell ⟨ga, 6, none⟩ (.slice (B 2) (m 2) (d 2))) = wp at *
            refine hK41.out _ _ (HSX.out _ HX1.out) (fun _ => ?_)
            clear hK41 K41
            (try simp only [Act.put, List.getElem_toArray, List.getElem_cons_succ, List.getElem_cons_zero, List.setIfInBounds_toArray, List.set_cons_zero, List.set_cons_succ])
            refine wpAnyH_ready (rs := [11]) (by kernel_rfl) (by simp) ?_
            refine (AllReadyH.cons rfl (fun K42 hK42 => ?_) AllReadyH.nil)
            have u0 := row20 HRB2.out
            have u1 := row21 HRB2.out
            have ul := HRB2.out.lt
            have uf0 := HRB2.out.frozen 0
            have uf1 := HRB2.out.frozen 1
            go_simp
            have HL2 := hide (show LaidF gb wp ((wp.setCell ⟨gb, 0, none⟩ (.int .i64 0)).setCell ⟨gb, 1, none⟩ (.int .u64 0)) from (((laid0 gb _).set 0 (.int .i64 0)).set 1 (.int .u64 0)))
            have HX3 := hide (HX1.out.trans (HL2.out.below.mono HGB.out))
            clear u0 u1 ul uf0 uf1
            generalize ((wp.setCell ⟨gb, 0, none⟩ (.int .i64 0)).setCell ⟨gb, 1, none⟩ (.int .u64 0)) = wq at *
            refine hK42.out _ _ (HSX.out _ HX3.out) (fun _ => ?_)
            clear hK42 K42
            (try simp only [Act.put, List.getElem_toArray, List.getElem_cons_succ, List.getElem_cons_zero, List.setIfInBounds_toArray, List.set_cons_zero, List.set_cons_succ])
            refine wpAnyH_ready (rs := [12]) (by kernel_rfl) (by simp) ?_
            refine (AllReadyH.cons rfl (fun K43 hK43 => ?_) AllReadyH.nil)
            go_simp
            refine hK43.out _ _ (HSX.out _ HX3.out) (fun _ => ?_)
            clear hK43 K43
            (try simp only [Act.put, List.getElem_toArray, List.getElem_cons_succ, List.getElem_cons_zero, List.setIfInBounds_toArray, List.set_cons_zero, List.set_cons_succ])
            refine wpAnyH_done (by kernel_rfl) ?_ _
            go_wp2_with fail
            go_meet
            case rel => exact ⟨rfl, HX3.out⟩
          ·
            go_simp
            have hb : Below wo1.heap.size wo1 (wo1.alloc (.cells #[.int .i64 0, .int .u64 0] 41)) := (Below.refl _ _).alloc (Nat.le_refl _) _
            have hre := RowAt.new wo1 41 #[.int .i64 0, .int .u64 0]
            replace HRA := hide (HRA.out.below hb)
            obtain ⟨gb, hge⟩ : ∃ g, wo1.heap.size = g := ⟨_, rfl⟩
            have HGB := hide (show wy.heap.size ≤ gb from by rw [← hge]; exact HX.out.size)
            have hX2 := HX.out.trans (hb.mono HX.out.size)
            replace HX := hide hX2
            rw [hge] at hre ⊢
            have HRB := hide hre
            clear hX2 hS0 hre hb hge
            have hS0 := HSX.out _ HX.out
            generalize (wo1.alloc (.cells #[.int .i64 0, .int .u64 0] 41)) = wa2 at *
            refine hK39.out _ _ (hS0) (fun _ => ?_)
            clear hK39 K39
            (try simp only [Act.put, List.getElem_toArray, List.getElem_cons_succ, List.getElem_cons_zero, List.setIfInBounds_toArray, List.set_cons_zero, List.set_cons_succ])
            refine wpAnyH_ready (rs := [3]) (by kernel_rfl) (by simp) ?_
            refine (AllReadyH.cons rfl (fun K44 hK44 => ?_) AllReadyH.nil)
            go_simp
            with_reducible refine (vDo (HRC.out.below HX.out).val wkF5 ⟨6, 0, 0, (0, 0)⟩ (Int.le_refl _) u64z).mono ?_
            rintro e wo3 ⟨⟨v5, rfl, hv⟩, hb⟩
            rw [wkR6] at hv ⊢
            obtain ⟨B0, Bs, m0, d0, ms, ds, B, m, d, rfl, hr⟩ := hv
            clear hr
            replace HRA := hide (HRA.out.below hb)
            replace HRB := hide (HRB.out.below hb)
            have hX2 := HX.out.trans (hb.mono HX.out.size)
            replace HX := hide hX2
            clear hX2 hS0 hb
            have hS0 := HSX.out _ HX.out
            refine hK44.out _ _ (hS0) (fun _ => ?_)
            clear hK44 K44
            (try simp only [Act.put, List.getElem_toArray, List.getElem_cons_succ, List.getElem_cons_zero, List.setIfInBounds_toArray, List.set_cons_zero, List.set_cons_succ])
            (refine wpAnyH_take (i := 4) (v := ?_) rfl (by kernel_rfl) (by kernel_rfl) (by kernel_rfl) (fun _ _ _ h => h) (Or.inl ⟨by rfl, ?_⟩) (by assumption) ?_; rotate_left; (focus (intro w hSw; (try dsimp only at hSw); obtain ⟨kf0, kf1, kf2, kf3, kf4, kf5, kf6, kf7, kf8, kf9, kf10⟩ := hSw; go_simp; first | done | with_reducible rfl)); (try simp only [Act.put, List.getElem_toArray, List.getElem_cons_succ, List.getElem_cons_zero, List.setIfInBounds_toArray, List.set_cons_zero, List.set_cons_succ]))
            (refine wpAnyH_take (i := 5) (v := ?_) rfl (by kernel_rfl) (by kernel_rfl) (by kernel_rfl) (fun _ _ _ h => h) (Or.inl ⟨by rfl, ?_⟩) (by assumption) ?_; rotate_left; (focus (intro w hSw; (try dsimp only at hSw); obtain ⟨kf0, kf1, kf2, kf3, kf4, kf5, kf6, kf7, kf8, kf9, kf10⟩ := hSw; go_simp; first | done | with_reducible rfl)); (try simp only [Act.put, List.getElem_toArray, List.getElem_cons_succ, List.getElem_cons_zero, List.setIfInBounds_toArray, List.set_cons_zero, List.set_cons_succ]))
            (refine wpAnyH_take (i := 6) (v := ?_) rfl (by kernel_rfl) (by kernel_rfl) (by kernel_rfl) (fun _ _ _ h => h) (Or.inl ⟨by rfl, ?_⟩) (by assumption) ?_; rotate_left; (focus (intro w hSw; (try dsimp only at hSw); obtain ⟨kf0, kf1, kf2, kf3, kf4, kf5, kf6, kf7, kf8, kf9, kf10⟩ := hSw; go_simp; first | done | with_reducible rfl)); (try simp only [Act.put, List.getElem_toArray, List.getElem_cons_succ, List.getElem_cons_zero, List.setIfInBounds_toArray, List.set_cons_zero, List.set_cons_succ]))
            (refine wpAnyH_take (i := 7) (v := ?_) rfl (by kernel_rfl) (by kernel_rfl) (by kernel_rfl) (fun _ _ _ h => h) (Or.inl ⟨by rfl, ?_⟩) (by assumption) ?_; rotate_left; (focus (intro w hSw; (try dsimp only at hSw); obtain ⟨kf0, kf1, kf2, kf3, kf4, kf5, kf6, kf7, kf8, kf9, kf10⟩ := hSw; go_simp; first | done | with_reducible rfl)); (try simp only [Act.put, List.getElem_toArray, List.getElem_cons_succ, List.getElem_cons_zero, List.setIfInBounds_toArray, List.set_cons_zero, List.set_cons_succ]))
            refine wpAnyH_ready (rs := [10]) (by kernel_rfl) (by simp) ?_
            refine (AllReadyH.cons rfl (fun K45 hK45 => ?_) AllReadyH.nil)
            clear hS0
            have hra := HRA.out
            obtain ⟨y0, y1, y2, y3, y4, y5, y6⟩ := row7 hra
            have yl := hra.lt
            have yf0 := hra.frozen 0
            have yf1 := hra.frozen 1
            have yf2 := hra.frozen 2
            have yf3 := hra.frozen 3
            have yf4 := hra.frozen 4
            have yf5 := hra.frozen 5
            have yf6 := hra.frozen 6
            go_simp
            have HLD := hide (show LaidF ga wo3 (((((((wo3.setCell ⟨ga, 0, none⟩ (.slice B0 m0 d0)).setCell ⟨ga, 1, none⟩ (.int .u64 rec0.e)).setCell ⟨ga, 2, none⟩ (.slice Bs ms ds)).setCell ⟨ga, 3, none⟩ (.int .u64 (rec0.l.E : Int))).setCell ⟨ga, 4, none⟩ (.slice (B 0) (m 0) (d 0))).setCell ⟨ga, 5, none⟩ (.slice (B 1) (m 1) (d 1))).setCell ⟨ga, 6, none⟩ (.slice (B 2) (m 2) (d 2))) from ((((((((laid0 ga _).set 0 (.slice B0 m0 d0)).set 1 (.int .u64 rec0.e)).set 2 (.slice Bs ms ds)).set 3 (.int .u64 (rec0.l.E : Int))).set 4 (.slice (B 0) (m 0) (d 0))).set 5 (.slice (B 1) (m 1) (d 1))).set 6 (.slice (B 2) (m 2) (d 2))))
            have HX1 := hide (HX.out.trans (HLD.out.below.mono HGA.out))
            have HRB2 := hide (show RowAt _ gb 41 #[.int .i64 0, .int .u64 0] from (HLD.out.block gb (fun e => by have h1 := HRB.out; rw [e] at h1; exact absurd (row_typ h1 hra) (by decide))).trans HRB.out)
            clear hra yl y0 yf0 y1 yf1 y2 yf2 y3 yf3 y4 yf4 y5 yf5 y6 yf6
            generalize (((((((wo3.setCell ⟨ga, 0, none⟩ (.slice B0 m0 d0)).setCell ⟨ga, 1, none⟩ (.int .u64 rec0.e)).setCell ⟨ga, 2, none⟩ (.slice Bs ms ds)).setCell ⟨ga, 3, none⟩ (.int .u64 (rec0.l.E : Int))).setCell ⟨ga, 4, none⟩ (.slice (B 0) (m 0) (d 0))).setCell ⟨ga, 5, none⟩ (.slice (B 1) (m 1) (d 1))).setCell ⟨ga, 6, none⟩ (.slice (B 2) (m 2) (d 2))) = wp at *
            refine hK45.out _ _ (HSX.out _ HX1.out) (fun _ => ?_)
            clear hK45 K45
            (try simp only [Act.put, List.getElem_toArray, List.getElem_cons_succ, List.getElem_cons_zero, List.setIfInBounds_toArray, List.set_cons_zero, List.set_cons_succ])
            refine wpAnyH_ready (rs := [11]) (by kernel_rfl) (by simp) ?_
            refine (AllReadyH.cons rfl (fun K46 hK46 => ?_) AllReadyH.nil)
            have u0 := row20 HRB2.out
            have u1 := row21 HRB2.out
            have ul := HRB2.out.lt
            have uf0 := HRB2.out.frozen 0
            have uf1 := HRB2.out.frozen 1
            go_simp
            have HL2 := hide (show LaidF gb wp ((wp.setCell ⟨gb, 0, none⟩ (.int .i64 0)).setCell ⟨gb, 1, none⟩ (.int .u64 0)) from (((laid0 gb _).set 0 (.int .i64 0)).set 1 (.int .u64 0)))
            have HX3 := hide (HX1.out.trans (HL2.out.below.mono HGB.out))
            clear u0 u1 ul uf0 uf1
            generalize ((wp.setCell ⟨gb, 0, none⟩ (.int .i64 0)).setCell ⟨gb, 1, none⟩ (.int .u64 0)) = wq at *
            refine hK46.out _ _ (HSX.out _ HX3.out) (fun _ => ?_)
            clear hK46 K46
            (try simp only [Act.put, List.getElem_toArray, List.getElem_cons_succ, List.getElem_cons_zero, List.setIfInBounds_toArray, List.set_cons_zero, List.set_cons_succ])
            refine wpAnyH_ready (rs := [12]) (by kernel_rfl) (by simp) ?_
            refine (AllReadyH.cons rfl (fun K47 hK47 => ?_) AllReadyH.nil)
            go_simp
            refine hK47.out _ _ (HSX.out _ HX3.out) (fun _ => ?_)
            clear hK47 K47
            (try simp only [Act.put, List.getElem_toArray, List.getElem_cons_succ, List.getElem_cons_zero, List.setIfInBounds_toArray, List.set_cons_zero, List.set_cons_succ])
            refine wpAnyH_done (by kernel_rfl) ?_ _
            go_wp2_with fail
            go_meet
            case rel => exact ⟨rfl, HX3.out⟩
        ·
          go_simp
          have hb : Below wa0.heap.size wa0 (wa0.alloc (.cells #[.int .i64 0, .int .u64 0] 41)) := (Below.refl _ _).alloc (Nat.le_refl _) _
          have hre := RowAt.new wa0 41 #[.int .i64 0, .int .u64 0]
          replace HRA := hide (HRA.out.below hb)
          obtain ⟨gb, hge⟩ : ∃ g, wa0.heap.size = g := ⟨_, rfl⟩
          have HGB := hide (show wy.heap.size ≤ gb from by rw [← hge]; exact HX.out.size)
          have hX2 := HX.out.trans (hb.mono HX.out.size)
          replace HX := hide hX2
          rw [hge] at hre ⊢
          have HRB := hide hre
          clear hX2 hS0 hre hb hge
          have hS0 := HSX.out _ HX.out
          generalize (wa0.alloc (.cells #[.int .i64 0, .int .u64 0] 41)) = wa1 at *
          refine hK37.out _ _ (hS0) (fun _ => ?_)
          clear hK37 K37
          (try simp only [Act.put, List.getElem_toArray, List.getElem_cons_succ, List.getElem_cons_zero, List.setIfInBounds_toArray, List.set_cons_zero, List.set_cons_succ])
          refine wpAnyH_ready (rs := [2]) (by kernel_rfl) (by simp) ?_
          refine (AllReadyH.cons rfl (fun K48 hK48 => ?_) AllReadyH.nil)
          go_simp
          with_reducible refine (op_any 6 0 0 0 wa1).mono ?_
          rintro e wo2 ⟨rfl, hb⟩
          replace HRA := hide (HRA.out.below hb)
          replace HRB := hide (HRB.out.below hb)
          have hX2 := HX.out.trans (hb.mono HX.out.size)
          replace HX := hide hX2
          clear hX2 hS0 hb
          have hS0 := HSX.out _ HX.out
          refine hK48.out _ _ (hS0) (fun _ => ?_)
          clear hK48 K48
          (try simp only [Act.put, List.getElem_toArray, List.getElem_cons_succ, List.getElem_cons_zero, List.setIfInBounds_toArray, List.set_cons_zero, List.set_cons_succ])
          refine wpAnyH_ready (rs := [3]) (by kernel_rfl) (by simp) ?_
          refine (AllReadyH.cons rfl (fun K49 hK49 => ?_) AllReadyH.nil)
          go_simp
          with_reducible refine (vDo (HRC.out.below HX.out).val wkF5 ⟨6, 0, 0, (0, 0)⟩ (Int.le_refl _) u64z).mono ?_
          rintro e wo3 ⟨⟨v5, rfl, hv⟩, hb⟩
          rw [wkR6] at hv ⊢
          obtain ⟨B0, Bs, m0, d0, ms, ds, B, m, d, rfl, hr⟩ := hv
          clear hr
          replace HRA := hide (HRA.out.below hb)
          replace HRB := hide (HRB.out.below hb)
          have hX2 := HX.out.trans (hb.mono HX.out.size)
          replace HX := hide hX2
          clear hX2 hS0 hb
          have hS0 := HSX.out _ HX.out
          refine hK49.out _ _ (hS0) (fun _ => ?_)
          clear hK49 K49
          (try simp only [Act.put, List.getElem_toArray, List.getElem_cons_succ, List.getElem_cons_zero, List.setIfInBounds_toArray, List.set_cons_zero, List.set_cons_succ])
          (refine wpAnyH_take (i := 4) (v := ?_) rfl (by kernel_rfl) (by kernel_rfl) (by kernel_rfl) (fun _ _ _ h => h) (Or.inl ⟨by rfl, ?_⟩) (by assumption) ?_; rotate_left; (focus (intro w hSw; (try dsimp only at hSw); obtain ⟨kf0, kf1, kf2, kf3, kf4, kf5, kf6, kf7, kf8, kf9, kf10⟩ := hSw; go_simp; first | done | with_reducible rfl)); (try simp only [Act.put, List.getElem_toArray, List.getElem_cons_succ, List.getElem_cons_zero, List.setIfInBounds_toArray, List.set_cons_zero, List.set_cons_succ]))
          (refine wpAnyH_take (i := 5) (v := ?_) rfl (by kernel_rfl) (by kernel_rfl) (by kernel_rfl) (fun _ _ _ h => h) (Or.inl ⟨by rfl, ?_⟩) (by assumption) ?_; rotate_left; (focus (intro w hSw; (try dsimp only at hSw); obtain ⟨kf0, kf1, kf2, kf3, kf4, kf5, kf6, kf7, kf8, kf9, kf10⟩ := hSw; go_simp; first | done | with_reducible rfl)); (try simp only [Act.put, List.getElem_toArray, List.getElem_cons_succ, List.getElem_cons_zero, List.setIfInBounds_toArray, List.set_cons_zero, List.set_cons_succ]))
          (refine wpAnyH_take (i := 6) (v := ?_) rfl (by kernel_rfl) (by kernel_rfl) (by kernel_rfl) (fun _ _ _ h => h) (Or.inl ⟨by rfl, ?_⟩) (by assumption) ?_; rotate_left; (focus (intro w hSw; (try dsimp only at hSw); obtain ⟨kf0, kf1, kf2, kf3, kf4, kf5, kf6, kf7, kf8, kf9, kf10⟩ := hSw; go_simp; first | done | with_reducible rfl)); (try simp only [Act.put, List.getElem_toArray, List.getElem_cons_succ, List.getElem_cons_zero, List.setIfInBounds_toArray, List.set_cons_zero, List.set_cons_succ]))
          (refine wpAnyH_take (i := 7) (v := ?_) rfl (by kernel_rfl) (by kernel_rfl) (by kernel_rfl) (fun _ _ _ h => h) (Or.inl ⟨by rfl, ?_⟩) (by assumption) ?_; rotate_left; (focus (intro w hSw; (try dsimp only at hSw); obtain ⟨kf0, kf1, kf2, kf3, kf4, kf5, kf6, kf7, kf8, kf9, kf10⟩ := hSw; go_simp; first | done | with_reducible rfl)); (try simp only [Act.put, List.getElem_toArray, List.getElem_cons_succ, List.getElem_cons_zero, List.setIfInBounds_toArray, List.set_cons_zero, List.set_cons_succ]))
          refine wpAnyH_ready (rs := [10]) (by kernel_rfl) (by simp) ?_
          refine (AllReadyH.cons rfl (fun K50 hK50 => ?_) AllReadyH.nil)
          clear hS0
          have hra := HRA.out
          obtain ⟨y0, y1, y2, y3, y4, y5, y6⟩ := row7 hra
          have yl := hra.lt
          have yf0 := hra.frozen 0
          have yf1 := hra.frozen 1
          have yf2 := hra.frozen 2
          have yf3 := hra.frozen 3
          have yf4 := hra.frozen 4
          have yf5 := hra.frozen 5
          have yf6 := hra.frozen 6
          go_simp
          have HLD := hide (show LaidF ga wo3 (((((((wo3.setCell ⟨ga, 0, none⟩ (.slice B0 m0 d0)).setCell ⟨ga, 1, none⟩ (.int .u64 rec0.e)).setCell ⟨ga, 2, none⟩ (.slice Bs ms ds)).setCell ⟨ga, 3, none⟩ (.int .u64 (rec0.l.E : Int))).setCell ⟨ga, 4, none⟩ (.slice (B 0) (m 0) (d 0))).setCell ⟨ga, 5, none⟩ (.slice (B 1) (m 1) (d 1))).setCell ⟨ga, 6, none⟩ (.slice (B 2) (m 2) (d 2))) from ((((((((laid0 ga _).set 0 (.slice B0 m0 d0)).set 1 (.int .u64 rec0.e)).set 2 (.slice Bs ms ds)).set 3 (.int .u64 (rec0.l.E : Int))).set 4 (.slice (B 0) (m 0) (d 0))).set 5 (.slice (B 1) (m 1) (d 1))).set 6 (.slice (B 2) (m 2) (d 2))))
          have HX1 := hide (HX.out.trans (HLD.out.below.mono HGA.out))
          have HRB2 := hide (show RowAt _ gb 41 #[.int .i64 0, .int .u64 0] from (HLD.out.block gb (fun e => by have h1 := HRB.out; rw [e] at h1; exact absurd (row_typ h1 hra) (by decide))).trans HRB.out)
          clear hra yl y0 yf0 y1 yf1 y2 yf2 y3 yf3 y4 yf4 y5 yf5 y6 yf6
          generalize (((((((wo3.setCell ⟨ga, 0, none⟩ (.slice B0 m0 d0)).setCell ⟨ga, 1, none⟩ (.int .u64 rec0.e)).setCell ⟨ga, 2, none⟩ (.slice Bs ms ds)).setCell ⟨ga, 3, none⟩ (.int .u64 (rec0.l.E : Int))).setCell ⟨ga, 4, none⟩ (.slice (B 0) (m 0) (d 0))).setCell ⟨ga, 5, none⟩ (.slice (B 1) (m 1) (d 1))).setCell ⟨ga, 6, none⟩ (.slice (B 2) (m 2) (d 2))) = wp at *
          refine hK50.out _ _ (HSX.out _ HX1.out) (fun _ => ?_)
          clear hK50 K50
          (try simp only [Act.put, List.getElem_toArray, List.getElem_cons_succ, List.getElem_cons_zero, List.setIfInBounds_toArray, List.set_cons_zero, List.set_cons_succ])
          refine wpAnyH_ready (rs := [11]) (by kernel_rfl) (by simp) ?_
          refine (AllReadyH.cons rfl (fun K51 hK51 => ?_) AllReadyH.nil)
          have u0 := row20 HRB2.out
          have u1 := row21 HRB2.out
          have ul := HRB2.out.lt
          have uf0 := HRB2.out.frozen 0
          have uf1 := HRB2.out.frozen 1
          go_simp
          have HL2 := hide (show LaidF gb wp ((wp.setCell ⟨gb, 0, none⟩ (.int .i64 0)).setCell ⟨gb, 1, none⟩ (.int .u64 0)) from (((laid0 gb _).set 0 (.int .i64 0)).set 1 (.int .u64 0)))
          have HX3 := hide (HX1.out.trans (HL2.out.below.mono HGB.out))
          clear u0 u1 ul uf0 uf1
          generalize ((wp.setCell ⟨gb, 0, none⟩ (.int .i64 0)).setCell ⟨gb, 1, none⟩ (.int .u64 0)) = wq at *
          refine hK51.out _ _ (HSX.out _ HX3.out) (fun _ => ?_)
          clear hK51 K51
          (try simp only [Act.put, List.getElem_toArray, List.getElem_cons_succ, List.getElem_cons_zero, List.setIfInBounds_toArray, List.set_cons_zero, List.set_cons_succ])
          refine wpAnyH_ready (rs := [12]) (by kernel_rfl) (by simp) ?_
          refine (AllReadyH.cons rfl (fun K52 hK52 => ?_) AllReadyH.nil)
          go_simp
          refine hK52.out _ _ (HSX.out _ HX3.out) (fun _ => ?_)
          clear hK52 K52
          (try simp only [Act.put, List.getElem_toArray, List.getElem_cons_succ, List.getElem_cons_zero, List.setIfInBounds_toArray, List.set_cons_zero, List.set_cons_succ])
          refine wpAnyH_done (by kernel_rfl) ?_ _
          go_wp2_with fail
          go_meet
          case rel => exact ⟨rfl, HX3.out⟩
      ·
        go_simp
        have hb : Below wd.heap.size wd (wd.alloc (.cells #[.int .i64 0, .int .u64 0] 41)) := (Below.refl _ _).alloc (Nat.le_refl _) _
        have hre := RowAt.new wd 41 #[.int .i64 0, .int .u64 0]
        obtain ⟨gb, hge⟩ : ∃ g, wd.heap.size = g := ⟨_, rfl⟩
        have HGB := hide (show wy.heap.size ≤ gb from by rw [← hge]; exact HX.out.size)
        have hX2 := HX.out.trans (hb.mono HX.out.size)
        replace HX := hide hX2
        rw [hge] at hre ⊢
        have HRB := hide hre
        clear hX2 hS0 hre hb hge
        have hS0 := HSX.out _ HX.out
        generalize (wd.alloc (.cells #[.int .i64 0, .int .u64 0] 41)) = wa0 at *
        refine hK2.out _ _ (hS0) (fun _ => ?_)
        clear hK2 K2
        (try simp only [Act.put, List.getElem_toArray, List.getElem_cons_succ, List.getElem_cons_zero, List.setIfInBounds_toArray, List.set_cons_zero, List.set_cons_succ])
        refine wpAnyH_ready (rs := [2, 8]) (by kernel_rfl) (by simp) ?_
        refine (AllReadyH.cons rfl (fun K53 hK53 => ?_) (AllReadyH.cons rfl (fun K54 hK54 => ?_) AllReadyH.nil))
        ·
          go_simp
          with_reducible refine (op_any 6 0 0 0 wa0).mono ?_
          rintro e wo1 ⟨rfl, hb⟩
          replace HRB := hide (HRB.out.below hb)
          have hX2 := HX.out.trans (hb.mono HX.out.size)
          replace HX := hide hX2
          clear hX2 hS0 hb
          have hS0 := HSX.out _ HX.out
          refine hK53.out _ _ (hS0) (fun _ => ?_)
          clear hK53 K53
          (try simp only [Act.put, List.getElem_toArray, List.getElem_cons_succ, List.getElem_cons_zero, List.setIfInBounds_toArray, List.set_cons_zero, List.set_cons_succ])
          refine wpAnyH_ready (rs := [3, 8]) (by kernel_rfl) (by simp) ?_
          refine (AllReadyH.cons rfl (fun K55 hK55 => ?_) (AllReadyH.cons rfl (fun K56 hK56 => ?_) AllReadyH.nil))
          ·
            go_simp
            with_reducible refine (vDo (HRC.out.below HX.out).val wkF5 ⟨6, 0, 0, (0, 0)⟩ (Int.le_refl _) u64z).mono ?_
            rintro e wo2 ⟨⟨v5, rfl, hv⟩, hb⟩
            rw [wkR6] at hv ⊢
            obtain ⟨B0, Bs, m0, d0, ms, ds, B, m, d, rfl, hr⟩ := hv
            clear hr
            replace HRB := hide (HRB.out.below hb)
            have hX2 := HX.out.trans (hb.mono HX.out.size)
            replace HX := hide hX2
            clear hX2 hS0 hb
            have hS0 := HSX.out _ HX.out
            refine hK55.out _ _ (hS0) (fun _ => ?_)
            clear hK55 K55
            (try simp only [Act.put, List.getElem_toArray, List.getElem_cons_succ, List.getElem_cons_zero, List.setIfInBounds_toArray, List.set_cons_zero, List.set_cons_succ])
            (refine wpAnyH_take (i := 4) (v := ?_) rfl (by kernel_rfl) (by kernel_rfl) (by kernel_rfl) (fun _ _ _ h => h) (Or.inl ⟨by rfl, ?_⟩) (by assumption) ?_; rotate_left; (focus (intro w hSw; (try dsimp only at hSw); obtain ⟨kf0, kf1, kf2, kf3, kf4, kf5, kf6, kf7, kf8, kf9, kf10⟩ := hSw; go_simp; first | done | with_reducible rfl)); (try simp only [Act.put, List.getElem_toArray, List.getElem_cons_succ, List.getElem_cons_zero, List.setIfInBounds_toArray, List.set_cons_zero, List.set_cons_succ]))
            (refine wpAnyH_take (i := 5) (v := ?_) rfl (by kernel_rfl) (by kernel_rfl) (by kernel_rfl) (fun _ _ _ h => h) (Or.inl ⟨by rfl, ?_⟩) (by assumption) ?_; rotate_left; (focus (intro w hSw; (try dsimp only at hSw); obtain ⟨kf0, kf1, kf2, kf3, kf4, kf5, kf6, kf7, kf8, kf9, kf10⟩ := hSw; go_simp; first | done | with_reducible rfl)); (try simp only [Act.put, List.getElem_toArray, List.getElem_cons_succ, List.getElem_cons_zero, List.setIfInBounds_toArray, List.set_cons_zero, List.set_cons_succ]))
            (refine wpAnyH_take (i := 6) (v := ?_) rfl (by kernel_rfl) (by kernel_rfl) (by kernel_rfl) (fun _ _ _ h => h) (Or.inl ⟨by rfl, ?_⟩) (by assumption) ?_; rotate_left; (focus (intro w hSw; (try dsimp only at hSw); obtain ⟨kf0, kf1, kf2, kf3, kf4, kf5, kf6, kf7, kf8, kf9, kf10⟩ := hSw; go_simp; first | done | with_reducible rfl)); (try simp only [Act.put, List.getElem_toArray, List.getElem_cons_succ, List.getElem_cons_zero, List.setIfInBounds_toArray, List.set_cons_zero, List.set_cons_succ]))
            (refine wpAnyH_take (i := 7) (v := ?_) rfl (by kernel_rfl) (by kernel_rfl) (by kernel_rfl) (fun _ _ _ h => h) (Or.inl ⟨by rfl, ?_⟩) (by assumption) ?_; rotate_left; (focus (intro w hSw; (try dsimp only at hSw); obtain ⟨kf0, kf1, kf2, kf3, kf4, kf5, kf6, kf7, kf8, kf9, kf10⟩ := hSw; go_simp; first | done | with_reducible rfl)); (try simp only [Act.put, List.getElem_toArray, List.getElem_cons_succ, List.getElem_cons_zero, List.setIfInBounds_toArray, List.set_cons_zero, List.set_cons_succ]))
            refine wpAnyH_ready (rs := [8]) (by kernel_rfl) (by simp) ?_
            refine (AllReadyH.cons rfl (fun K57 hK57 => ?_) AllReadyH.nil)
            go_simp
            have hb : Below wo2.heap.size wo2 (wo2.alloc (.cells #[.slice none 0 0, .int .u64 0, .slice none 0 0, .int .u64 0, .slice none 0 0, .slice none 0 0, .slice none 0 0] 34)) := (Below.refl _ _).alloc (Nat.le_refl _) _
            have hre := RowAt.new wo2 34 #[.slice none 0 0, .int .u64 0, .slice none 0 0, .int .u64 0, .slice none 0 0, .slice none 0 0, .slice none 0 0]
            replace HRB := hide (HRB.out.below hb)
            obtain ⟨ga, hge⟩ : ∃ g, wo2.heap.size = g := ⟨_, rfl⟩
            have HGA := hide (show wy.heap.size ≤ ga from by rw [← hge]; exact HX.out.size)
            have hX2 := HX.out.trans (hb.mono HX.out.size)
            replace HX := hide hX2
            rw [hge] at hre ⊢
            have HRA := hide hre
            clear hX2 hS0 hre hb hge
            have hS0 := HSX.out _ HX.out
            generalize (wo2.alloc (.cells #[.slice none 0 0, .int .u64 0, .slice none 0 0, .int .u64 0, .slice none 0 0, .slice none 0 0, .slice none 0 0] 34)) = wa3 at *
            refine hK57.out _ _ (hS0) (fun _ => ?_)
            clear hK57 K57
            (try simp only [Act.put, List.getElem_toArray, List.getElem_cons_succ, List.getElem_cons_zero, List.setIfInBounds_toArray, List.set_cons_zero, List.set_cons_succ])
            refine wpAnyH_ready (rs := [10]) (by kernel_rfl) (by simp) ?_
            refine (AllReadyH.cons rfl (fun K58 hK58 => ?_) AllReadyH.nil)
            clear hS0
            have hra := HRA.out
            obtain ⟨y0, y1, y2, y3, y4, y5, y6⟩ := row7 hra
            have yl := hra.lt
            have yf0 := hra.frozen 0
            have yf1 := hra.frozen 1
            have yf2 := hra.frozen 2
            have yf3 := hra.frozen 3
            have yf4 := hra.frozen 4
            have yf5 := hra.frozen 5
            have yf6 := hra.frozen 6
            go_simp
            have HLD := hide (show LaidF ga wa3 (((((((wa3.setCell ⟨ga, 0, none⟩ (.slice B0 m0 d0)).setCell ⟨ga, 1, none⟩ (.int .u64 rec0.e)).setCell ⟨ga, 2, none⟩ (.slice Bs ms ds)).setCell ⟨ga, 3, none⟩ (.int .u64 (rec0.l.E : Int))).setCell ⟨ga, 4, none⟩ (.slice (B 0) (m 0) (d 0))).setCell ⟨ga, 5, none⟩ (.slice (B 1) (m 1) (d 1))).setCell ⟨ga, 6, none⟩ (.slice (B 2) (m 2) (d 2))) from ((((((((laid0 ga _).set 0 (.slice B0 m0 d0)).set 1 (.int .u64 rec0.e)).set 2 (.slice Bs ms ds)).set 3 (.int .u64 (rec0.l.E : Int))).set 4 (.slice (B 0) (m 0) (d 0))).set 5 (.slice (B 1) (m 1) (d 1))).set 6 (.slice (B 2) (m 2) (d 2))))
            have HX1 := hide (HX.out.trans (HLD.out.below.mono HGA.out))
            have HRB2 := hide (show RowAt _ gb 41 #[.int .i64 0, .int .u64 0] from (HLD.out.block gb (fun e => by have h1 := HRB.out; rw [e] at h1; exact absurd (row_typ h1 hra) (by decide))).trans HRB.out)
            clear hra yl y0 yf0 y1 yf1 y2 yf2 y3 yf3 y4 yf4 y5 yf5 y6 yf6
            generalize (((((((wa3.setCell ⟨ga, 0, none⟩ (.slice B0 m0 d0)).setCell ⟨ga, 1, none⟩ (.int .u64 rec0.e)).setCell ⟨ga, 2, none⟩ (.slice Bs ms ds)).setCell ⟨ga, 3, none⟩ (.int .u64 (rec0.l.E : Int))).setCell ⟨ga, 4, none⟩ (.slice (B 0) (m 0) (d 0))).setCell ⟨ga, 5, none⟩ (.slice (B 1) (m 1) (d 1))).setCell ⟨ga, 6, none⟩ (.slice (B 2) (m 2) (d 2))) = wp at *
            refine hK58.out _ _ (HSX.out _ HX1.out) (fun _ => ?_)
            clear hK58 K58
            (try simp only [Act.put, List.getElem_toArray, List.getElem_cons_succ, List.getElem_cons_zero, List.setIfInBounds_toArray, List.set_cons_zero, List.set_cons_succ])
            refine wpAnyH_ready (rs := [11]) (by kernel_rfl) (by simp) ?_
            refine (AllReadyH.cons rfl (fun K59 hK59 => ?_) AllReadyH.nil)
            have u0 := row20 HRB2.out
            have u1 := row21 HRB2.out
            have ul := HRB2.out.lt
            have uf0 := HRB2.out.frozen 0
            have uf1 := HRB2.out.frozen 1
            go_simp
            have HL2 := hide (show LaidF gb wp ((wp.setCell ⟨gb, 0, none⟩ (.int .i64 0)).setCell ⟨gb, 1, none⟩ (.int .u64 0)) from (((laid0 gb _).set 0 (.int .i64 0)).set 1 (.int .u64 0)))
            have HX3 := hide (HX1.out.trans (HL2.out.below.mono HGB.out))
            clear u0 u1 ul uf0 uf1
            generalize ((wp.setCell ⟨gb, 0, none⟩ (.int .i64 0)).setCell ⟨gb, 1, none⟩ (.int .u64 0)) = wq at *
            refine hK59.out _ _ (HSX.out _ HX3.out) (fun _ => ?_)
            clear hK59 K59
            (try simp only [Act.put, List.getElem_toArray, List.getElem_cons_succ, List.getElem_cons_zero, List.setIfInBounds_toArray, List.set_cons_zero, List.set_cons_succ])
            refine wpAnyH_ready (rs := [12]) (by kernel_rfl) (by simp) ?_
            refine (AllReadyH.cons rfl (fun K60 hK60 => ?_) AllReadyH.nil)
            go_simp
            refine hK60.out _ _ (HSX.out _ HX3.out) (fun _ => ?_)
            clear hK60 K60
            (try simp only [Act.put, List.getElem_toArray, List.getElem_cons_succ, List.getElem_cons_zero, List.setIfInBounds_toArray, List.set_cons_zero, List.set_cons_succ])
            refine wpAnyH_done (by kernel_rfl) ?_ _
            go_wp2_with fail
            go_meet
            case rel => exact ⟨rfl, HX3.out⟩
          ·
            go_simp
            have hb : Below wo1.heap.size wo1 (wo1.alloc (.cells #[.slice none 0 0, .int .u64 0, .slice none 0 0, .int .u64 0, .slice none 0 0, .slice none 0 0, .slice none 0 0] 34)) := (Below.refl _ _).alloc (Nat.le_refl _) _
            have hre := RowAt.new wo1 34 #[.slice none 0 0, .int .u64 0, .slice none 0 0, .int .u64 0, .slice none 0 0, .slice none 0 0, .slice none 0 0]
            replace HRB := hide (HRB.out.below hb)
            obtain ⟨ga, hge⟩ : ∃ g, wo1.heap.size = g := ⟨_, rfl⟩
            have HGA := hide (show wy.heap.size ≤ ga from by rw [← hge]; exact HX.out.size)
            have hX2 := HX.out.trans (hb.mono HX.out.size)
            replace HX := hide hX2
            rw [hge] at hre ⊢
            have HRA := hide hre
            clear hX2 hS0 hre hb hge
            have hS0 := HSX.out _ HX.out
            generalize (wo1.alloc (.cells #[.slice none 0 0, .int .u64 0, .slice none 0 0, .int .u64 0, .slice none 0 0, .slice none 0 0, .slice none 0 0] 34)) = wa2 at *
            refine hK56.out _ _ (hS0) (fun _ => ?_)
            clear hK56 K56
            (try simp only [Act.put, List.getElem_toArray, List.getElem_cons_succ, List.getElem_cons_zero, List.setIfInBounds_toArray, List.set_cons_zero, List.set_cons_succ])
            refine wpAnyH_ready (rs := [3]) (by kernel_rfl) (by simp) ?_
            refine (AllReadyH.cons rfl (fun K61 hK61 => ?_) AllReadyH.nil)
            go_simp
            with_reducible refine (vDo (HRC.out.below HX.out).val wkF5 ⟨6, 0, 0, (0, 0)⟩ (Int.le_refl _) u64z).mono ?_
            rintro e wo3 ⟨⟨v5, rfl, hv⟩, hb⟩
            rw [wkR6] at hv ⊢
            obtain ⟨B0, Bs, m0, d0, ms, ds, B, m, d, rfl, hr⟩ := hv
            clear hr
            replace HRA := hide (HRA.out.below hb)
            replace HRB := hide (HRB.out.below hb)
            have hX2 := HX.out.trans (hb.mono HX.out.size)
            replace HX := hide hX2
            clear hX2 hS0 hb
            have hS0 := HSX.out _ HX.out
            refine hK61.out _ _ (hS0) (fun _ => ?_)
            clear hK61 K61
            (try simp only [Act.put, List.getElem_toArray, List.getElem_cons_succ, List.getElem_cons_zero, List.setIfInBounds_toArray, List.set_cons_zero, List.set_cons_succ])
            (refine wpAnyH_take (i := 4) (v := ?_) rfl (by kernel_rfl) (by kernel_rfl) (by kernel_rfl) (fun _ _ _ h => h) (Or.inl ⟨by rfl, ?_⟩) (by assumption) ?_; rotate_left; (focus (intro w hSw; (try dsimp only at hSw); obtain ⟨kf0, kf1, kf2, kf3, kf4, kf5, kf6, kf7, kf8, kf9, kf10⟩ := hSw; go_simp; first | done | with_reducible rfl)); (try simp only [Act.put, List.getElem_toArray, List.getElem_cons_succ, List.getElem_cons_zero, List.setIfInBounds_toArray, List.set_cons_zero, List.set_cons_succ]))
            (refine wpAnyH_take (i := 5) (v := ?_) rfl (by kernel_rfl) (by kernel_rfl) (by kernel_rfl) (fun _ _ _ h => h) (Or.inl ⟨by rfl, ?_⟩) (by assumption) ?_; rotate_left; (focus (intro w hSw; (try dsimp only at hSw); obtain ⟨kf0, kf1, kf2, kf3, kf4, kf5, kf6, kf7, kf8, kf9, kf10⟩ := hSw; go_simp; first | done | with_reducible rfl)); (try simp only [Act.put, List.getElem_toArray, List.getElem_cons_succ, List.getElem_cons_zero, List.setIfInBounds_toArray, List.set_cons_zero, List.set_cons_succ]))
            (refine wpAnyH_take (i := 6) (v := ?_) rfl (by kernel_rfl) (by kernel_rfl) (by kernel_rfl) (fun _ _ _ h => h) (Or.inl ⟨by rfl, ?_⟩) (by assumption) ?_; rotate_left; (focus (intro w hSw; (try dsimp only at hSw); obtain ⟨kf0, kf1, kf2, kf3, kf4, kf5, kf6, kf7, kf8, kf9, kf10⟩ := hSw; go_simp; first | done | with_reducible rfl)); (try simp only [Act.put, List.getElem_toArray, List.getElem_cons_succ, List.getElem_cons_zero, List.setIfInBounds_toArray, List.set_cons_zero, List.set_cons_succ]))
            (refine wpAnyH_take (i := 7) (v := ?_) rfl (by kernel_rfl) (by kernel_rfl) (by kernel_rfl) (fun _ _ _ h => h) (Or.inl ⟨by rfl, ?_⟩) (by assumption) ?_; rotate_left; (focus (intro w hSw; (try dsimp only at hSw); obtain ⟨kf0, kf1, kf2, kf3, kf4, kf5, kf6, kf7, kf8, kf9, kf10⟩ := hSw; go_simp; first | done | with_reducible rfl)); (try simp only [Act.put, List.getElem_toArray, List.getElem_cons_succ, List.getElem_cons_zero, List.setIfInBounds_toArray, List.set_cons_zero, List.set_cons_succ]))
            refine wpAnyH_ready (rs := [10]) (by kernel_rfl) (by simp) ?_
            refine (AllReadyH.cons rfl (fun K62 hK62 => ?_) AllReadyH.nil)
            clear hS0
            have hra := HRA.out
            obtain ⟨y0, y1, y2, y3, y4, y5, y6⟩ := row7 hra
            have yl := hra.lt
            have yf0 := hra.frozen 0
            have yf1 := hra.frozen 1
            have yf2 := hra.frozen 2
            have yf3 := hra.frozen 3
            have yf4 := hra.frozen 4
            have yf5 := hra.frozen 5
            have yf6 := hra.frozen 6
            go_simp
            have HLD := hide (show LaidF ga wo3 (((((((wo3.setCell ⟨ga, 0, none⟩ (.slice B0 m0 d0)).setCell ⟨ga, 1, none⟩ (.int .u64 rec0.e)).setCell ⟨ga, 2, none⟩ (.slice Bs ms ds)).setCell ⟨ga, 3, none⟩ (.int .u64 (rec0.l.E : Int))).setCell ⟨ga, 4, none⟩ (.slice (B 0) (m 0) (d 0))).setCell ⟨ga, 5, none⟩ (.slice (B 1) (m 1) (d 1))).setCell ⟨ga, 6, none⟩ (.slice (B 2) (m 2) (d 2))) from ((((((((laid0 ga _).set 0 (.slice B0 m0 d0)).set 1 (.int .u64 rec0.e)).set 2 (.slice Bs ms ds)).set 3 (.int .u64 (rec0.l.E : Int))).set 4 (.slice (B 0) (m 0) (d 0))).set 5 (.slice (B 1) (m 1) (d 1))).set 6 (.slice (B 2) (m 2) (d 2))))
            have HX1 := hide (HX.out.trans (HLD.out.below.mono HGA.out))
            have HRB2 := hide (show RowAt _ gb 41 #[.int .i64 0, .int .u64 0] from (HLD.out.block gb (fun e => by have h1 := HRB.out; rw [e] at h1; exact absurd (row_typ h1 hra) (by decide))).trans HRB.out)
            clear hra yl y0 yf0 y1 yf1 y2 yf2 y3 yf3 y4 yf4 y5 yf5 y6 yf6
            generalize (((((((wo3.setCell ⟨ga, 0, none⟩ (.slice B0 m0 d0)).setCell ⟨ga, 1, none⟩ (.int .u64 rec0.e)).setCell ⟨ga, 2, none⟩ (.slice Bs ms ds)).setCell ⟨ga, 3, none⟩ (.int .u64 (rec0.l.E : Int))).setCell ⟨ga, 4, none⟩ (.slice (B 0) (m 0) (d 0))).setCell ⟨ga, 5, none⟩ (.slice (B 1) (m 1) (d 1))).setCell ⟨ga, 6, none⟩ (.slice (B 2) (m 2) (d 2))) = wp at *
            refine hK62.out _ _ (HSX.out _ HX1.out) (fun _ => ?_)
            clear hK62 K62
            (try simp only [Act.put, List.getElem_toArray, List.getElem_cons_succ, List.getElem_cons_zero, List.setIfInBounds_toArray, List.set_cons_zero, List.set_cons_succ])
            refine wpAnyH_ready (rs := [11]) (by kernel_rfl) (by simp) ?_
            refine (AllReadyH.cons rfl (fun K63 hK63 => ?_) AllReadyH.nil)
            have u0 := row20 HRB2.out
            have u1 := row21 HRB2.out
            have ul := HRB2.out.lt
            have uf0 := HRB2.out.frozen 0
            have uf1 := HRB2.out.frozen 1
            go_simp
            have HL2 := hide (show LaidF gb wp ((wp.setCell ⟨gb, 0, none⟩ (.int .i64 0)).setCell ⟨gb, 1, none⟩ (.int .u64 0)) from (((laid0 gb _).set 0 (.int .i64 0)).set 1 (.int .u64 0)))
            have HX3 := hide (HX1.out.trans (HL2.out.below.mono HGB.out))
            clear u0 u1 ul uf0 uf1
            generalize ((wp.setCell ⟨gb, 0, none⟩ (.int .i64 0)).setCell ⟨gb, 1, none⟩ (.int .u64 0)) = wq at *
            refine hK63.out _ _ (HSX.out _ HX3.out) (fun _ => ?_)
            clear hK63 K63
            (try simp only [Act.put, List.getElem_toArray, List.getElem_cons_succ, List.getElem_cons_zero, List.setIfInBounds_toArray, List.set_cons_zero, List.set_cons_succ])
            refine wpAnyH_ready (rs := [12]) (by kernel_rfl) (by simp) ?_
            refine (AllReadyH.cons rfl (fun K64 hK64 => ?_) AllReadyH.nil)
            go_simp
            refine hK64.out _ _ (HSX.out _ HX3.out) (fun _ => ?_)
            clear hK64 K64
            (try simp only [Act.put, List.getElem_toArray, List.getElem_cons_succ, List.getElem_cons_zero, List.setIfInBounds_toArray, List.set_cons_zero, List.set_cons_succ])
            refine wpAnyH_done (by kernel_rfl) ?_ _
            go_wp2_with fail
            go_meet
            case rel => exact ⟨rfl, HX3.out⟩
        ·
          go_simp
          have hb : Below wa0.heap.size wa0 (wa0.alloc (.cells #[.slice none 0 0, .int .u64 0, .slice none 0 0, .int .u64 0, .slice none 0 0, .slice none 0 0, .slice none 0 0] 34)) := (Below.refl _ _).alloc (Nat.le_refl _) _
          have hre := RowAt.new wa0 34 #[.slice none 0 0, .int .u64 0, .slice none 0 0, .int .u64 0, .slice none 0 0, .slice none 0 0, .slice none 0 0]
          replace HRB := hide (HRB.out.below hb)
          obtain ⟨ga, hge⟩ : ∃ g, wa0.heap.size = g := ⟨_, rfl⟩
          have HGA := hide (show wy.heap.size ≤ ga from by rw [← hge]; exact HX.out.size)
          have hX2 := HX.out.trans (hb.mono HX.out.size)
          replace HX := hide hX2
          rw [hge] at hre ⊢
          have HRA := hide hre
          clear hX2 hS0 hre hb hge
          have hS0 := HSX.out _ HX.out
          generalize (wa0.alloc (.cells #[.slice none 0 0, .int .u64 0, .slice none 0 0, .int .u64 0, .slice none 0 0, .slice none 0 0, .slice none 0 0] 34)) = wa1 at *
          refine hK54.out _ _ (hS0) (fun _ => ?_)
          clear hK54 K54
          (try simp only [Act.put, List.getElem_toArray, List.getElem_cons_succ, List.getElem_cons_zero, List.setIfInBounds_toArray, List.set_cons_zero, List.set_cons_succ])
          refine wpAnyH_ready (rs := [2]) (by kernel_rfl) (by simp) ?_
          refine (AllReadyH.cons rfl (fun K65 hK65 => ?_) AllReadyH.nil)
          go_simp
          with_reducible refine (op_any 6 0 0 0 wa1).mono ?_
          rintro e wo2 ⟨rfl, hb⟩
          replace HRA := hide (HRA.out.below hb)
          replace HRB := hide (HRB.out.below hb)
          have hX2 := HX.out.trans (hb.mono HX.out.size)
          replace HX := hide hX2
          clear hX2 hS0 hb
          have hS0 := HSX.out _ HX.out
          refine hK65.out _ _ (hS0) (fun _ => ?_)
          clear hK65 K65
          (try simp only [Act.put, List.getElem_toArray, List.getElem_cons_succ, List.getElem_cons_zero, List.setIfInBounds_toArray, List.set_cons_zero, List.set_cons_succ])
          refine wpAnyH_ready (rs := [3]) (by kernel_rfl) (by simp) ?_
          refine (AllReadyH.cons rfl (fun K66 hK66 => ?_) AllReadyH.nil)
          go_simp
          with_reducible refine (vDo (HRC.out.below HX.out).val wkF5 ⟨6, 0, 0, (0, 0)⟩ (Int.le_refl _) u64z).mono ?_
          rintro e wo3 ⟨⟨v5, rfl, hv⟩, hb⟩
          rw [wkR6] at hv ⊢
          obtain ⟨B0, Bs, m0, d0, ms, ds, B, m, d, rfl, hr⟩ := hv
          clear hr
          replace HRA := hide (HRA.out.below hb)
          replace HRB := hide (HRB.out.below hb)
          have hX2 := HX.out.trans (hb.mono HX.out.size)
          replace HX := hide hX2
          clear hX2 hS0 hb
          have hS0 := HSX.out _ HX.out
          refine hK66.out _ _ (hS0) (fun _ => ?_)
          clear hK66 K66
          (try simp only [Act.put, List.getElem_toArray, List.getElem_cons_succ, List.getElem_cons_zero, List.setIfInBounds_toArray, List.set_cons_zero, List.set_cons_succ])
          (refine wpAnyH_take (i := 4) (v := ?_) rfl (by kernel_rfl) (by kernel_rfl) (by kernel_rfl) (fun _ _ _ h => h) (Or.inl ⟨by rfl, ?_⟩) (by assumption) ?_; rotate_left; (focus (intro w hSw; (try dsimp only at hSw); obtain ⟨kf0, kf1, kf2, kf3, kf4, kf5, kf6, kf7, kf8, kf9, kf10⟩ := hSw; go_simp; first | done | with_reducible rfl)); (try simp only [Act.put, List.getElem_toArray, List.getElem_cons_succ, List.getElem_cons_zero, List.setIfInBounds_toArray, List.set_cons_zero, List.set_cons_succ]))
          (refine wpAnyH_take (i := 5) (v := ?_) rfl (by kernel_rfl) (by kernel_rfl) (by kernel_rfl) (fun _ _ _ h => h) (Or.inl ⟨by rfl, ?_⟩) (by assumption) ?_; rotate_left; (focus (intro w hSw; (try dsimp only at hSw); obtain ⟨kf0, kf1, kf2, kf3, kf4, kf5, kf6, kf7, kf8, kf9, kf10⟩ := hSw; go_simp; first | done | with_reducible rfl)); (try simp only [Act.put, List.getElem_toArray, List.getElem_cons_succ, List.getElem_cons_zero, List.setIfInBounds_toArray, List.set_cons_zero, List.set_cons_succ]))
          (refine wpAnyH_take (i := 6) (v := ?_) rfl (by kernel_rfl) (by kernel_rfl) (by kernel_rfl) (fun _ _ _ h => h) (Or.inl ⟨by rfl, ?_⟩) (by assumption) ?_; rotate_left; (focus (intro w hSw; (try dsimp only at hSw); obtain ⟨kf0, kf1, kf2, kf3, kf4, kf5, kf6, kf7, kf8, kf9, kf10⟩ := hSw; go_simp; first | done | with_reducible rfl)); (try simp only [Act.put, List.getElem_toArray, List.getElem_cons_succ, List.getElem_cons_zero, List.setIfInBounds_toArray, List.set_cons_zero, List.set_cons_succ]))
          (refine wpAnyH_take (i := 7) (v := ?_) rfl (by kernel_rfl) (by kernel_rfl) (by kernel_rfl) (fun _ _ _ h => h) (Or.inl ⟨by rfl, ?_⟩) (by assumption) ?_; rotate_left; (focus (intro w hSw; (try dsimp only at hSw); obtain ⟨kf0, kf1, kf2, kf3, kf4, kf5, kf6, kf7, kf8, kf9, kf10⟩ := hSw; go_simp; first | done | with_reducible rfl)); (try simp only [Act.put, List.getElem_toArray, List.getElem_cons_succ, List.getElem_cons_zero, List.setIfInBounds_toArray, List.set_cons_zero, List.set_cons_succ]))
          refine wpAnyH_ready (rs := [10]) (by kernel_rfl) (by simp) ?_
          refine (AllReadyH.cons rfl (fun K67 hK67 => ?_) AllReadyH.nil)
          clear hS0
          have hra := HRA.out
          obtain ⟨y0, y1, y2, y3, y4, y5, y6⟩ := row7 hra
          have yl := hra.lt
          have yf0 := hra.frozen 0
          have yf1 := hra.frozen 1
          have yf2 := hra.frozen 2
          have yf3 := hra.frozen 3
          have yf4 := hra.frozen 4
          have yf5 := hra.frozen 5
          have yf6 := hra.frozen 6
          go_simp
          have HLD := hide (show LaidF ga wo3 (((((((wo3.setCell ⟨ga, 0, none⟩ (.slice B0 m0 d0)).setCell ⟨ga, 1, none⟩ (.int .u64 rec0.e)).setCell ⟨ga, 2, none⟩ (.slice Bs ms ds)).setCell ⟨ga, 3, none⟩ (.int .u64 (rec0.l.E : Int))).setCell ⟨ga, 4, none⟩ (.slice (B 0) (m 0) (d 0))).setCell ⟨ga, 5, none⟩ (.slice (B 1) (m 1) (d 1))).setCell ⟨ga, 6, none⟩ (.slice (B 2) (m 2) (d 2))) from ((((((((laid0 ga _).set 0 (.slice B0 m0 d0)).set 1 (.int .u64 rec0.e)).set 2 (.slice Bs ms ds)).set 3 (.int .u64 (rec0.l.E : Int))).set 4 (.slice (B 0) (m 0) (d 0))).set 5 (.slice (B 1) (m 1) (d 1))).set 6 (.slice (B 2) (m 2) (d 2))))
          have HX1 := hide (HX.out.trans (HLD.out.below.mono HGA.out))
          have HRB2 := hide (show RowAt _ gb 41 #[.int .i64 0, .int .u64 0] from (HLD.out.block gb (fun e => by have h1 := HRB.out; rw [e] at h1; exact absurd (row_typ h1 hra) (by decide))).trans HRB.out)
          clear hra yl y0 yf0 y1 yf1 y2 yf2 y3 yf3 y4 yf4 y5 yf5 y6 yf6
          generalize (((((((wo3.setCell ⟨ga, 0, none⟩ (.slice B0 m0 d0)).setCell ⟨ga, 1, none⟩ (.int .u64 rec0.e)).setCell ⟨ga, 2, none⟩ (.slice Bs ms ds)).setCell ⟨ga, 3, none⟩ (.int .u64 (rec0.l.E : Int))).setCell ⟨ga, 4, none⟩ (.slice (B 0) (m 0) (d 0))).setCell ⟨ga, 5, none⟩ (.slice (B 1) (m 1) (d 1))).setCell ⟨ga, 6, none⟩ (.slice (B 2) (m 2) (d 2))) = wp at *
          refine hK67.out _ _ (HSX.out _ HX1.out) (fun _ => ?_)
          clear hK67 K67
          (try simp only [Act.put, List.getElem_toArray, List.getElem_cons_succ, List.getElem_cons_zero, List.setIfInBounds_toArray, List.set_cons_zero, List.set_cons_succ])
          refine wpAnyH_ready (rs := [11]) (by kernel_rfl) (by simp) ?_
          refine (AllReadyH.cons rfl (fun K68 hK68 => ?_) AllReadyH.nil)
          have u0 := row20 HRB2.out
          have u1 := row21 HRB2.out
          have ul := HRB2.out.lt
          have uf0 := HRB2.out.frozen 0
          have uf1 := HRB2.out.frozen 1
          go_simp
          have HL2 := hide (show LaidF gb wp ((wp.setCell ⟨gb, 0, none⟩ (.int .i64 0)).setCell ⟨gb, 1, none⟩ (.int .u64 0)) from (((laid0 gb _).set 0 (.int .i64 0)).set 1 (.int .u64 0)))
          have HX3 := hide (HX1.out.trans (HL2.out.below.mono HGB.out))
          clear u0 u1 ul uf0 uf1
          generalize ((wp.setCell ⟨gb, 0, none⟩ (.int .i64 0)).setCell ⟨gb, 1, none⟩ (.int .u64 0)) = wq at *
          refine hK68.out _ _ (HSX.out _ HX3.out) (fun _ => ?_)
          clear hK68 K68
          (try simp only [Act.put, List.getElem_toArray, List.getElem_cons_succ, List.getElem_cons_zero, List.setIfInBounds_toArray, List.set_cons_zero, List.set_cons_succ])
          refine wpAnyH_ready (rs := [12]) (by kernel_rfl) (by simp) ?_
          refine (AllReadyH.cons rfl (fun K69 hK69 => ?_) AllReadyH.nil)
          go_simp
          refine hK69.out _ _ (HSX.out _ HX3.out) (fun _ => ?_)
          clear hK69 K69
          (try simp only [Act.put, List.getElem_toArray, List.getElem_cons_succ, List.getElem_cons_zero, List.setIfInBounds_toArray, List.set_cons_zero, List.set_cons_succ])
          refine wpAnyH_done (by kernel_rfl) ?_ _
          go_wp2_with fail
          go_meet
          case rel => exact ⟨rfl, HX3.out⟩
    case rest =>
      rename_i K hK
      refine hK _ _ ?_
      clear hK K
      obtain ⟨wz, hwz⟩ : ∃ w, w = wc := ⟨_, rfl⟩
      subst hwz
      obtain ⟨rfl, hbz⟩ := hcut
      replace HO := hide (own_keepB HO.out hbz)
      replace HO8 := hide (own_keepB HO8.out hbz)
      have HBF := hide (HK.out.below.trans (hbz.mono HK.out.below.size))
      clear hbz HK
      go_wp2_with fail
      have hb : Below wz.heap.size wz (wz.alloc (.cells #[.int .i64 0, .int .u64 0, .int .i64 1, .int .u64 0] 41)) := (Below.refl _ _).alloc (Nat.le_refl _) _
      have hS := hide (show Rd (wz.alloc (.cells #[.int .i64 0, .int .u64 0, .int .i64 1, .int .u64 0] 41)) (wz.alloc (.cells #[.int .i64 0, .int .u64 0, .int .i64 1, .int .u64 0] 41)).heap.size 2 (some ⟨wz.heap.size, 0, none⟩) 2 (Cs encE [(0, 0), (1, 0)]) from (Rd.new wz #[.int .i64 0, .int .u64 0, .int .i64 1, .int .u64 0] 41 2 2 rfl).more (by simp))
      replace HO := hide (own_keepB HO.out hb)
      replace HO8 := hide (own_keepB HO8.out hb)
      replace HBF := hide (HBF.out.trans (hb.mono HBF.out.size))
      clear hb
      generalize (wz.alloc (.cells #[.int .i64 0, .int .u64 0, .int .i64 1, .int .u64 0] 41)) = wp2 at *
      (try generalize wz.heap.size = g20 at *)
      with_reducible refine (eqEz At (some ⟨_, 0, none⟩) ct 2 2 2 [(0, 0), (1, 0)] [(0, 0), (1, 0)] wp2 (Rd.of_own HO.out) hS.out rfl rfl (by omega) (by omega) true rfl).mono ?_
      rintro e wq2 ⟨rfl, hb⟩
      replace HO8 := hide (own_keepB HO8.out hb)
      replace HBF := hide (HBF.out.trans (hb.mono HBF.out.size))
      clear hb hS
      go_wp2_with fail
      have hb : Below wq2.heap.size wq2 (wq2.alloc (.cells #[.int .i64 0, .int .u64 0] 41)) := (Below.refl _ _).alloc (Nat.le_refl _) _
      have hS := hide (show Rd (wq2.alloc (.cells #[.int .i64 0, .int .u64 0] 41)) (wq2.alloc (.cells #[.int .i64 0, .int .u64 0] 41)).heap.size 2 (some ⟨wq2.heap.size, 0, none⟩) 1 (Cs encE [(0, 0)]) from (Rd.new wq2 #[.int .i64 0, .int .u64 0] 41 2 1 rfl).more (by simp))
      replace HO8 := hide (own_keepB HO8.out hb)
      replace HBF := hide (HBF.out.trans (hb.mono HBF.out.size))
      clear hb
      generalize (wq2.alloc (.cells #[.int .i64 0, .int .u64 0] 41)) = wp1 at *
      (try generalize wq2.heap.size = g10 at *)
      with_reducible refine (eqEz A8 (some ⟨_, 0, none⟩) k8 1 1 1 [(0, 0)] [(0, 0)] wp1 (Rd.of_own HO8.out) hS.out rfl rfl (by omega) (by omega) true rfl).mono ?_
      rintro e wq1 ⟨rfl, hb⟩
      replace HBF := hide (HBF.out.trans (hb.mono HBF.out.size))
      clear hb hS
      go_wp2_with fail
      go_ret
      exact ⟨rfl, HBF.out⟩
end Go.Proofs.YtkicidopjihjmaaGreat
set_option linter.unusedSimpArgs false
set_option linter.unusedVariables false
namespace Go.Proofs.YtkicidopjihjmaaGreat
open Go Go.RowKit
theorem WfR.e0 {r : Rec} (h : WfR r) : 0 ≤ r.e ∧ r.e ≤ 4611686018427387904 := by
  have h1 := h.ok.ep
  have h2 : r.l.E ≤ Li.LAST := (Li.ok_out h.ok.lm).1
  have h3 : Li.LAST = 4611686018427387904 := rfl
  omega
end Go.Proofs.YtkicidopjihjmaaGreat
set_option linter.unusedSimpArgs false
set_option linter.unusedVariables false
namespace Go.Proofs.YtkicidopjihjmaaGreat
open Go Go.RowKit
theorem doAs {F : Nat → Prop} {w : World} {v : Value} {r : Rec} (h : RecOut F w v r) (hf : FitV r) (ok og ob x1 x2 : Int) (hb : 0 ≤ ob) (hx : U64 x2) {r2 : Rec} {y : Ent} {k : Int} (hT : doR r ⟨ok, og, ob, (x1, x2)⟩ = (r2, y, k)) : Calls Tryz.prog 13 #[v, .agg #[.int .i64 ok, .int .i64 og, .int .u64 ob, .int .i64 x1, .int .u64 x2]] w fun e w' =>
    (∃ v, e = .returned (.tuple #[v, .agg #[.int .i64 y.1, .int .u64 y.2], .int .i64 k]) ∧ RecOut (From w.heap.size) w' v r2) ∧ Below w.heap.size w w' := by
  have h2 := vDo h hf ⟨ok, og, ob, (x1, x2)⟩ hb hx
  unfold DoRes at h2
  rw [hT] at h2
  exact h2
end Go.Proofs.YtkicidopjihjmaaGreat
set_option linter.unusedSimpArgs false
set_option linter.unusedVariables false
namespace Go.Proofs.YtkicidopjihjmaaGreat
open Go Go.RowKit
structure OffP (a r : Rec) (k : Nat) : Prop where
  wf : WfR r
  sl : r.sl = a.sl
  l : r.l = a.l
  e : r.e = a.e
  len : r.S.length = a.S.length
  off : ∀ j, j < k → r.S.getD j 0 = 0
theorem OffP.step {a r : Rec} {k : Nat} (h : OffP a r k) (hk : k < a.S.length) {r' : Rec} {y : Ent} {z : Int} (hs : doR r ⟨2, (k : Int), 0, (0, 0)⟩ = (r', y, z)) : (z = 0 → OffP a r' (k + 1)) ∧ (z ≠ 0 → OffP a r (k + 1)) := by
  have ho := ok_iff.2 h.wf.ok
  unfold doR at hs
  rw [if_pos ho] at hs
  have hst : stepR r [] ⟨2, (k : Int), 0, (0, 0)⟩ = pinR r [] ⟨2, (k : Int), 0, (0, 0)⟩ 2 := rfl
  rw [hst] at hs
  have hdE : Pn.doE r.e r.S 2 (k : Int) 0 = if r.S.getD k 0 = 0 then 4 else 0 := by
    unfold Pn.doE
    rw [if_pos h.wf.ok.pn]
    unfold Pn.dE
    rw [if_neg (by have := h.len; omega), if_neg (by omega), if_neg (by omega)]
    simp
  cases hp : pinR r [] ⟨2, (k : Int), 0, (0, 0)⟩ 2 with
  | error c =>
    rw [hp] at hs
    simp only [Prod.mk.injEq] at hs
    obtain ⟨rfl, rfl, rfl⟩ := hs
    have hne := pin_ne hp
    refine ⟨fun hz => absurd hz hne, fun _ => ⟨h.wf, h.sl, h.l, h.e, h.len, fun j hj => ?_⟩⟩
    rcases Nat.lt_or_ge j k with h1 | h1
    · exact h.off j h1
    · obtain rfl : j = k := by omega
      unfold pinR at hp
      split at hp
      · cases hp
      · rename_i h2
        have h2 : ¬ Pn.doE r.e r.S 2 (j : Int) 0 = 0 := h2
        rw [hdE] at h2
        by_cases h3 : r.S.getD j 0 = 0
        · exact h3
        · rw [if_neg h3] at h2; exact absurd rfl h2
  | ok x =>
    have hw := wf_pin h.wf (.inr rfl) (Int.le_refl _) (r' := x.1) (t' := x.2) hp
    rw [hp] at hs
    simp only [Prod.mk.injEq] at hs
    obtain ⟨h1, _, rfl⟩ := hs
    refine ⟨fun _ => ?_, fun hz => absurd rfl hz⟩
    have h1 : x.1 = r' := h1
    unfold pinR at hp
    split at hp
    · rename_i h0
      injection hp with hp
      have hx : x.1 = ⟨r.sl, Pn.doX r.e r.S 2 (k : Int) 0, Pn.doS r.e r.S 2 (k : Int) 0, r.l⟩ := by rw [← hp]
      have h0 : Pn.doE r.e r.S 2 (k : Int) 0 = 0 := h0
      have e1 : Pn.doX r.e r.S 2 (k : Int) 0 = r.e := by unfold Pn.doX; rw [if_pos h0]; rfl
      have e2 : Pn.doS r.e r.S 2 (k : Int) 0 = r.S.set k 0 := by unfold Pn.doS; rw [if_pos h0]; unfold Pn.dS; rw [if_neg (by omega), if_neg (by omega)]; simp
      rw [e1, e2] at hx
      rw [← h1]
      refine ⟨hw.1, by rw [hx]; exact h.sl, by rw [hx]; exact h.l, by rw [hx]; exact h.e, by rw [hx]; show (r.S.set k 0).length = _; rw [List.length_set]; exact h.len, fun j hj => ?_⟩
      rw [hx]
      show (r.S.set k 0).getD j 0 = 0
      rw [List.getD_eq_getElem?_getD, List.getElem?_set]
      split
      · split <;> rfl
      · rw [← List.getD_eq_getElem?_getD]
        exact h.off j (by omega)
    · cases hp
theorem OffP.free {a r : Rec} (h : OffP a r a.S.length) : r.S.any (Pn.heldB r.e) = false := by
  rw [List.any_eq_false]
  intro s hs
  obtain ⟨j, hj, rfl⟩ := List.getElem_of_mem hs
  have h1 := h.off j (by have := h.len; omega)
  rw [List.getD_eq_getElem?_getD, List.getElem?_eq_getElem hj] at h1
  have h1 : r.S[j] = 0 := h1
  rw [h1]
  simp [Pn.heldB]
def three (r : Rec) : Rec × List Ent := ((triesR (triesR (triesR r []).1 []).1 []).1, (triesR r []).2.1 ++ (triesR (triesR r []).1 []).2.1 ++ (triesR (triesR (triesR r []).1 []).1 []).2.1)
theorem OffP.zero {a r : Rec} (h : OffP a r a.S.length) : ∀ s ∈ r.S, s = 0 := by
  intro s hs
  obtain ⟨j, hj, rfl⟩ := List.getElem_of_mem hs
  have h1 := h.off j (by have := h.len; omega)
  rw [List.getD_eq_getElem?_getD, List.getElem?_eq_getElem hj] at h1
  exact h1
end Go.Proofs.YtkicidopjihjmaaGreat
set_option linter.unusedSimpArgs false
set_option linter.unusedVariables false
namespace Go.Proofs.YtkicidopjihjmaaGreat
open Go Go.RowKit
theorem pin_parts {r r' : Rec} {told t' : List Ent} {o : EOp} {k : Int} (h : WfR r) (hk : k = 1 ∨ k = 2) (hs : pinR r told o k = .ok (r', t')) :
    0 ≤ o.g ∧ o.g < r.S.length ∧ (k = 1 → o.b ≤ r.e) ∧ r' = ⟨r.sl, r.e, if k = 1 then r.S.set o.g.toNat (r.e + 1 - o.b) else r.S.set o.g.toNat 0, r.l⟩ := by
  unfold pinR at hs
  split at hs
  · rename_i h0
    injection hs with hs
    injection hs with hs1 hs2
    subst hs1
    have hd : Pn.dE r.e r.S k o.g o.b = 0 := by unfold Pn.doE at h0; rw [if_pos h.ok.pn] at h0; exact h0
    have hx : Pn.doX r.e r.S k o.g o.b = r.e := by unfold Pn.doX; rw [if_pos h0]; unfold Pn.dX; rw [if_neg (by omega)]
    have hS : Pn.doS r.e r.S k o.g o.b = if k = 1 then r.S.set o.g.toNat (r.e + 1 - o.b) else r.S.set o.g.toNat 0 := by unfold Pn.doS; rw [if_pos h0]; unfold Pn.dS; rw [if_neg (by omega)]
    rw [hx, hS]
    rcases Pn.dE_cases _ _ _ _ _ hd with ⟨h1, _⟩ | ⟨h1, h2, h3, _, h5⟩ | ⟨h1, h2, h3, _⟩
    · omega
    · exact ⟨h2, h3, fun _ => h5, rfl⟩
    · exact ⟨h2, h3, fun hk1 => by omega, rfl⟩
  · cases hs
structure HoldI (E0 : Int) (L0 : List Ent) (g : Int) (r : Rec) : Prop where
  wf : WfR r
  lo : E0 ≤ r.e ∧ r.e ≤ E0 + 1
  g0 : 0 ≤ g
  pin : r.S[g.toNat]? = some (E0 + 1)
  e0 : 0 ≤ E0
  live : ∀ x ∈ L0, 0 ≤ x.1 ∧ (r.sl[x.1.toNat]? = some (1, x.2) ∨ (r.sl[x.1.toNat]? = some (2, x.2) ∧ ∃ a, (a, x) ∈ r.l.each ∧ (a : Int) ≤ r.e - E0))
theorem do_step {r r' : Rec} {o : EOp} {y : Ent} (h : WfR r) (hs : doR r o = (r', y, 0)) : ∃ t, stepR r [] o = .ok (r', t) ∧ y = lastT t := by
  unfold doR at hs
  rw [if_pos (ok_iff.2 h.ok)] at hs
  cases hp : stepR r [] o with
  | error k =>
    rw [hp] at hs
    simp only [Prod.mk.injEq] at hs
    exact absurd hs.2.2 (step_ne hp)
  | ok x =>
    rw [hp] at hs
    simp only [Prod.mk.injEq] at hs
    exact ⟨x.2, by rw [← hs.1], hs.2.1.symm⟩
theorem hold_start {a r : Rec} {g : Int} {y : Ent} (h : WfR a) (hs : doR a ⟨1, g, 0, (0, 0)⟩ = (r, y, 0)) : HoldI r.e (ents r.sl 1) g r := by
  obtain ⟨t, hst, _⟩ := do_step h hs
  have hp : pinR a [] ⟨1, g, 0, (0, 0)⟩ 1 = .ok (r, t) := hst
  have hw := wf_pin h (.inl rfl) (Int.le_refl _) hp
  obtain ⟨h1, h2, _, h4⟩ := pin_parts h (.inl rfl) hp
  have h1 : 0 ≤ g := h1
  have h2 : g < a.S.length := h2
  refine ⟨hw.1, ⟨Int.le_refl _, by omega⟩, h1, ?_, hw.1.e0.1, fun x hx => ?_⟩
  · rw [h4]
    show (a.S.set g.toNat (a.e + 1 - 0))[g.toNat]? = some (a.e + 1)
    rw [List.getElem?_set, if_pos rfl, if_pos (by omega)]
    simp
  · obtain ⟨m1, m2⟩ := ents_iff.1 hx
    exact ⟨m1, .inl m2⟩
theorem set_off {ss : List Ent} {i k : Nat} {u v w : Ent} (h : ss[i]? = some u) (hk : ss[k]? = some v) (hne : u ≠ v) : (ss.set k w)[i]? = some u := by
  rw [List.getElem?_set]
  split
  · rename_i e
    rw [← e] at h
    rw [h] at hk
    injection hk with hk
    exact absurd hk hne
  · exact h
theorem each_one {l : Li.Lim} (h : l.ok = true) {a b : Nat} {x y : Ent} (h1 : (a, x) ∈ l.each) (h2 : (b, y) ∈ l.each) (he : x.1 = y.1) : a = b ∧ x = y := by
  have hn := Li.okP_nodup (Li.ok_out h).2
  obtain ⟨i, hi, e1⟩ := List.getElem_of_mem h1
  obtain ⟨j, hj, e2⟩ := List.getElem_of_mem h2
  have hij : i = j := by
    have hi' : i < (l.each.map (fun p => p.2.1)).length := by rw [List.length_map]; exact hi
    have hj' : j < (l.each.map (fun p => p.2.1)).length := by rw [List.length_map]; exact hj
    refine (List.getElem_inj (h₀ := hi') (h₁ := hj') hn).1 ?_
    rw [List.getElem_map, List.getElem_map, e1, e2]
    exact he
  subst hij
  rw [e1] at e2
  injection e2 with e3 e4
  exact ⟨e3, e4⟩
theorem HoldI.sl1 {E0 : Int} {L0 : List Ent} {g : Int} {r : Rec} (h : HoldI E0 L0 g r) {k : Nat} {v w : Ent} (hk : r.sl[k]? = some v) (hwf : WfR ⟨r.sl.set k w, r.e, r.S, r.l⟩) (hne : ∀ x ∈ L0, v ≠ (1, x.2) ∨ x.1.toNat ≠ k) (hn2 : ∀ x ∈ L0, v ≠ (2, x.2) ∨ x.1.toNat ≠ k) : HoldI E0 L0 g ⟨r.sl.set k w, r.e, r.S, r.l⟩ := by
  refine ⟨hwf, h.lo, h.g0, h.pin, h.e0, fun x hx => ?_⟩
  obtain ⟨x1, x2⟩ := h.live x hx
  refine ⟨x1, ?_⟩
  rcases x2 with x2 | ⟨x2, x3⟩
  · left
    show (r.sl.set k w)[x.1.toNat]? = _
    rw [List.getElem?_set]
    split
    · rename_i e
      rw [e, x2] at hk
      injection hk with hk
      rcases hne x hx with h1 | h1
      · exact absurd hk.symm h1
      · exact absurd e.symm h1
    · exact x2
  · right
    refine ⟨?_, x3⟩
    show (r.sl.set k w)[x.1.toNat]? = _
    rw [List.getElem?_set]
    split
    · rename_i e
      rw [e, x2] at hk
      injection hk with hk
      rcases hn2 x hx with h1 | h1
      · exact absurd hk.symm h1
      · exact absurd e.symm h1
    · exact x2
theorem ent_eq {x y : Ent} (h1 : 0 ≤ x.1) (h2 : 0 ≤ y.1) (h3 : x.1.toNat = y.1.toNat) (h4 : x.2 = y.2) : x = y := Prod.ext (by omega) h4
theorem hold_step {E0 : Int} {L0 : List Ent} {g : Int} {r r' : Rec} {o : EOp} {y : Ent} (h : HoldI E0 L0 g r) (hb : 0 ≤ o.b) (h1 : ¬ (o.k ≤ 2 ∧ o.g = g)) (h4 : ¬ (o.k = 4 ∧ o.x ∈ L0)) (hs : doR r o = (r', y, 0)) : HoldI E0 L0 g r' ∧ (o.k = 6 → y ∉ L0) := by
  obtain ⟨t, hst, hy⟩ := do_step h.wf hs
  have hwf := wf_step h.wf hb hst
  have hpin : ∀ k : Int, (k = 1 ∨ k = 2) → o.k = k → pinR r [] o k = .ok (r', t) → HoldI E0 L0 g r' := fun k hk hok hp => by
    obtain ⟨p1, p2, p3, p4⟩ := pin_parts h.wf hk hp
    have hne : o.g ≠ g := fun e => h1 ⟨by omega, e⟩
    have hg0 := h.g0
    have hS : ∀ z, (r.S.set o.g.toNat z)[g.toNat]? = some (E0 + 1) := fun z => by
      rw [List.getElem?_set, if_neg (by omega)]; exact h.pin
    refine ⟨hwf, by rw [p4]; exact h.lo, h.g0, ?_, h.e0, by rw [p4]; exact h.live⟩
    rw [p4]
    show (if k = 1 then _ else _)[g.toNat]? = _
    split
    · exact hS _
    · exact hS _
  unfold stepR at hst
  by_cases k1 : o.k = 1
  · rw [if_pos k1] at hst
    exact ⟨hpin 1 (.inl rfl) k1 hst, fun e => by omega⟩
  rw [if_neg k1] at hst
  by_cases k2 : o.k = 2
  · rw [if_pos k2] at hst
    exact ⟨hpin 2 (.inr rfl) k2 hst, fun e => by omega⟩
  rw [if_neg k2] at hst
  by_cases k3 : o.k = 3
  · rw [if_pos k3] at hst
    obtain ⟨_, e, he, _, hr⟩ := wf_take h.wf hst
    obtain ⟨m1, m2⟩ := ents_iff.1 he
    rw [hr] at hwf ⊢
    exact ⟨h.sl1 m2 hwf (fun x _ => .inl (fun e => by injection e with e; omega)) (fun x _ => .inl (fun e => by injection e with e; omega)), fun e => by omega⟩
  rw [if_neg k3] at hst
  by_cases k4 : o.k = 4
  · rw [if_pos k4] at hst
    obtain ⟨_, _, hm, ht, _, hr⟩ := wf_back h.wf hst
    obtain ⟨m1, m2⟩ := meant_at hm
    rw [ht] at m2
    rw [hr] at hwf ⊢
    refine ⟨h.sl1 m2 hwf (fun x hx => ?_) (fun x _ => .inl (fun e => by injection e with e; omega)), fun e => by omega⟩
    by_cases e1 : x.1.toNat = o.x.1.toNat
    · left
      intro e2
      injection e2 with _ e3
      exact h4 ⟨k4, by rw [ent_eq m1 (h.live x hx).1 e1.symm e3]; exact hx⟩
    · exact .inr e1
  rw [if_neg k4] at hst
  by_cases k5 : o.k = 5
  · rw [if_pos k5] at hst
    obtain ⟨_, _, hm, ht, l, hl, hr⟩ := wf_reti h.wf hst
    obtain ⟨m1, m2⟩ := meant_at hm
    rw [ht] at m2
    have hea := Li.each_ret hl
    rw [hr] at hwf ⊢
    refine ⟨⟨hwf, h.lo, h.g0, h.pin, h.e0, fun x hx => ?_⟩, fun e => by omega⟩
    obtain ⟨x1, x2⟩ := h.live x hx
    refine ⟨x1, ?_⟩
    show (r.sl.set o.x.1.toNat (2, o.x.2))[x.1.toNat]? = _ ∨ ((r.sl.set o.x.1.toNat (2, o.x.2))[x.1.toNat]? = _ ∧ ∃ a, (a, x) ∈ l.each ∧ (a : Int) ≤ r.e - E0)
    rcases x2 with x2 | ⟨x2, a, x3, x4⟩
    · by_cases e1 : x.1.toNat = o.x.1.toNat
      · right
        rw [e1, m2] at x2
        injection x2 with x2
        injection x2 with _ x2
        have hxe : o.x = x := ent_eq m1 x1 e1.symm x2
        refine ⟨?_, 0, ?_, by have := h.lo; omega⟩
        · rw [List.getElem?_set, if_pos e1.symm, if_pos (by have := (List.getElem?_eq_some_iff.1 m2).1; omega), hxe]
        · rw [hea.1, hxe]; simp
      · left
        rw [List.getElem?_set, if_neg (fun e => e1 e.symm)]; exact x2
    · right
      refine ⟨set_off x2 m2 (fun e => by injection e with e; omega), a, ?_, x4⟩
      rw [hea.1]; exact List.mem_append_left _ x3
  rw [if_neg k5] at hst
  by_cases k6 : o.k = 6
  · rw [if_pos k6] at hst
    obtain ⟨_, l, z, hl, hz, _, ht, hr⟩ := wf_free h.wf hst
    obtain ⟨m1, m2⟩ := ents_iff.1 hz
    obtain ⟨ea1, ea2, ea3⟩ := Li.each_take hl
    have hyz : y = z := by rw [hy, ht]; rfl
    have hz2 : (2, z) ∈ r.l.each := by rw [ea1]; simp
    have hlo := h.lo
    have hoff : ∀ x ∈ L0, x ≠ z ∧ (r.sl[x.1.toNat]? = some (2, x.2) → x.1 ≠ z.1) := fun x hx => by
      obtain ⟨x1, x2⟩ := h.live x hx
      have hno : ∀ a, (a, x) ∈ r.l.each → (a : Int) ≤ r.e - E0 → x.1 ≠ z.1 := fun a x3 x4 e => by
        have := (each_one h.wf.ok.lm x3 hz2 e).1
        omega
      rcases x2 with x2 | ⟨x2, a, x3, x4⟩
      · refine ⟨fun e => ?_, fun e2 => ?_⟩
        · rw [e, m2] at x2
          injection x2 with x2
          injection x2 with x2
          omega
        · rw [x2] at e2
          injection e2 with e2
          injection e2 with e2
          omega
      · exact ⟨fun e => hno a x3 x4 (by rw [e]), fun _ => hno a x3 x4⟩
    rw [hr] at hwf ⊢
    refine ⟨⟨hwf, h.lo, h.g0, h.pin, h.e0, fun x hx => ?_⟩, fun _ => by rw [hyz]; exact fun hm => (hoff z hm).1 rfl⟩
    obtain ⟨x1, x2⟩ := h.live x hx
    refine ⟨x1, ?_⟩
    show (r.sl.set z.1.toNat (0, z.2 + 1))[x.1.toNat]? = _ ∨ ((r.sl.set z.1.toNat (0, z.2 + 1))[x.1.toNat]? = _ ∧ ∃ a, (a, x) ∈ l.each ∧ (a : Int) ≤ r.e - E0)
    rcases x2 with x2 | ⟨x2, a, x3, x4⟩
    · left
      exact set_off x2 m2 (fun e => by injection e with e; omega)
    · right
      have hne := (hoff x hx).2 x2
      refine ⟨?_, a, ?_, x4⟩
      · rw [List.getElem?_set, if_neg (by omega)]; exact x2
      · rw [ea1] at x3
        rcases List.mem_cons.1 x3 with x3 | x3
        · injection x3 with _ x5
          exact absurd (by rw [x5]) hne
        · exact x3
  rw [if_neg k6] at hst
  by_cases k7 : o.k = 7
  · rw [if_pos k7] at hst
    obtain ⟨_, _, ha, _, l, hl, hr⟩ := go_parts h.wf hst
    have hE := h.lo
    have hlt : r.e = E0 := by
      rw [List.any_eq_false] at ha
      have h5 := ha _ (List.mem_of_getElem? h.pin)
      unfold Pn.heldB at h5
      simp only [Bool.and_eq_true, decide_eq_true_eq] at h5
      have := h.e0
      omega
    have hea := Li.each_adv hl
    rw [hr] at hwf ⊢
    refine ⟨⟨hwf, ⟨by show E0 ≤ r.e + 1; omega, by show r.e + 1 ≤ E0 + 1; omega⟩, h.g0, h.pin, h.e0, fun x hx => ?_⟩, fun e => by omega⟩
    obtain ⟨x1, x2⟩ := h.live x hx
    refine ⟨x1, ?_⟩
    rcases x2 with x2 | ⟨x2, a, x3, x4⟩
    · exact .inl x2
    · refine .inr ⟨x2, a + 1, ?_, ?_⟩
      · show (a + 1, x) ∈ l.each
        rw [hea.1]; exact List.mem_map.2 ⟨(a, x), x3, rfl⟩
      · show ((a + 1 : Nat) : Int) ≤ r.e + 1 - E0
        omega
  rw [if_neg k7] at hst
  cases hst
theorem HoldI.tag {E0 : Int} {L0 : List Ent} {g : Int} {r : Rec} (h : HoldI E0 L0 g r) {x : Ent} (hx : x ∈ L0) : (arOk r.sl && meantB r.sl x) = true ∧ tagOf r.sl x ≠ 0 := by
  obtain ⟨x1, x2⟩ := h.live x hx
  obtain ⟨u, hu, hu2⟩ : ∃ u : Int, r.sl[x.1.toNat]? = some (u, x.2) ∧ u ≠ 0 := by
    rcases x2 with x2 | ⟨x2, _⟩
    · exact ⟨1, x2, by omega⟩
    · exact ⟨2, x2, by omega⟩
  obtain ⟨h6, h7⟩ := List.getElem?_eq_some_iff.1 hu
  constructor
  · rw [h.wf.ok.ar]
    unfold meantB
    simp
    refine ⟨⟨x1, by omega⟩, ?_⟩
    simp [List.getElem?_eq_getElem h6, h7]
  · unfold tagOf
    rw [List.getD_eq_getElem?_getD, hu]
    exact hu2
theorem ents_all : ∀ (xs : List Ent) (i : Nat), (∀ s ∈ xs, slabOk s = true) → (entsF 0 i xs).length + (entsF 1 i xs).length + (entsF 2 i xs).length = xs.length
  | [], _, _ => rfl
  | s :: xs, i, h => by
    have ih := ents_all xs (i + 1) (fun x hx => h x (by simp [hx]))
    obtain ⟨h0, h2, _⟩ := slabOk_out (h s (by simp))
    simp only [entsF, List.length_cons]
    have : s.1 = 0 ∨ s.1 = 1 ∨ s.1 = 2 := by omega
    rcases this with h1 | h1 | h1 <;> simp [h1] <;> omega
theorem counts_sum {xs : List Ent} (h : arOk xs = true) : cn xs 0 + cn xs 1 + cn xs 2 = xs.length := by
  have := ents_all xs 0 (arOk_out h).2.2
  unfold cn ents
  rw [if_pos h, if_pos h, if_pos h]
  omega
theorem hold_waits {r : Rec} (h : WfR r) : waitsR r = ((ents r.sl 2).length : Int) := by
  unfold waitsR
  rw [if_pos (ok_iff.2 h.ok), h.ok.len]
end Go.Proofs.YtkicidopjihjmaaGreat
set_option linter.unusedSimpArgs false
set_option linter.unusedVariables false
namespace Go.Proofs.YtkicidopjihjmaaGreat
open Go Go.RowKit
attribute [local go_sem] via_cell via_frozen
theorem rec_apart {w : World} {B n g : Nat} {A : Option Addr} {xs : List Ent} {e : Int} {E : Nat} {A0 As : Option Addr} {n0 c0 ns cs : Nat} {A2 : Nat → Option Addr} {n2 c2 : Nat → Nat} {t : TypeId} (h : Rd w B 2 A n (Cs encE xs)) (hx : xs.length = n) (hg : RowAt w g t (recC e E A0 As n0 c0 ns cs A2 n2 c2)) : 0 < n → ∀ p, A = some p → p.block ≠ g := by
  intro hn q hq he
  obtain ⟨b, o, e1, hb, hc⟩ := h.2 hn
  rw [hq] at e1
  injection e1 with e1
  subst e1
  cases xs with
  | nil => simp at hx; omega
  | cons x xs =>
    have h0 := hc 0 (.int .i64 x.1) rfl
    have e2 : b = g := he
    subst e2
    rw [hg.cell] at h0
    match o with
    | 0 => simp at h0
    | 1 => simp at h0
    | 2 => simp at h0
    | 3 => simp at h0
    | 4 => simp at h0
    | 5 => simp at h0
    | 6 => simp at h0
    | o + 7 => simp at h0
theorem BoxR.lt {w : World} {g : Nat} {r : Rec} (h : BoxR w g r) : g < w.heap.size := by
  obtain ⟨_, _, _, _, _, _, _, _, _, h, _⟩ := h
  exact h.lt
structure HoldW (W w : World) (g m : Nat) (A : Option Addr) (E0 : Int) (L0 : List Ent) (goer : Int) (r : Rec) : Prop where
  box : BoxR w g r
  inv : HoldI E0 L0 goer r
  live : Rd w w.heap.size 2 A m (Cs encE L0)
  lm : L0.length = m
  below : Below W.heap.size W w
  lo : W.heap.size ≤ g
theorem HoldW.keep {W w w' : World} {g m : Nat} {A : Option Addr} {E0 : Int} {L0 : List Ent} {goer : Int} {r : Rec} (h : HoldW W w g m A E0 L0 goer r) (hb : Below w.heap.size w w') : HoldW W w' g m A E0 L0 goer r :=
  ⟨h.box.below hb, h.inv, (h.live.below hb).more hb.size, h.lm, h.below.trans (hb.mono h.below.size), h.lo⟩
theorem HoldW.put {W w ww : World} {g m : Nat} {A : Option Addr} {E0 : Int} {L0 : List Ent} {goer : Int} {r r' : Rec} {A0 As : Option Addr} {n0 c0 ns cs : Nat} {A2 : Nat → Option Addr} {n2 c2 : Nat → Nat} {F : Nat → Prop} (h : HoldW W w g m A E0 L0 goer r) (hl : LaidF g w ww) (hrow : RowAt ww g 34 (recC r'.e r'.l.E A0 As n0 c0 ns cs A2 n2 c2)) (hr : RecF F w A0 As n0 c0 ns cs A2 n2 c2 r') (hF : ∀ j, F j → j ≠ g) (hi : HoldI E0 L0 goer r') : HoldW W ww g m A E0 L0 goer r' := by
  refine ⟨⟨A0, As, n0, c0, ns, cs, A2, n2, c2, hrow, (hr.stay (hl.stay (fun h => hF g h rfl))).up (fun j hj _ => hF j hj)⟩, hi, ?_, h.lm, h.below.trans (hl.below.mono h.lo), h.lo⟩
  obtain ⟨_, _, _, _, _, _, _, _, _, hrw, _⟩ := h.box
  exact h.live.stayF (F := fun j => j ≠ g) (fun hn p hp => rec_apart h.live h.lm hrw hn p hp) (hl.stay (fun h => h rfl))
theorem containsAs {w : World} {A : Option Addr} {m c : Nat} {L : List Ent} (h : Rd w w.heap.size 2 A m (Cs encE L)) (hm : L.length = m) (hl : m ≤ 4096) (s g : Int) {b : Bool} (hb : L.any (fun y => decide (y = (s, g))) = b) :
    Calls Tryz.prog 25 #[.slice A m c, .agg #[.int .i64 s, .int .u64 g]] w fun e w' => e = .returned (.bool b) ∧ Below w.heap.size w w' := by
  subst hm
  exact ContainsEE _ A c s g L w h (Nat.le_refl _) hl b hb
set_option maxRecDepth 20000 in
set_option maxHeartbeats 16000000 in
theorem Holds_walk (v : Value) (x : Rec) (goer : Int) (Al : Option Addr) (ml cl : Nat) (l : List EOp) (W : World) (hv : RecOut (fun _ => True) W v x) (hu : NumR x) (hgo : I64 goer) (hl : Rd W W.heap.size 5 Al ml (Cs encP l)) (hm : l.length = ml) (hml : ml ≤ 9223372036854775807) (hU : ∀ o ∈ l, 0 ≤ o.b ∧ U64 o.x.2) : Calls Tryz.prog 5 #[v, .int .i64 goer, .slice Al ml cl] W fun e W' => e = .returned (.bool true) ∧ Below W.heap.size W W' := by
  have HFA := hide (FitV.mk hu.cut.1 hu.cut.2)
  obtain ⟨A0, S0, n0, c0, m0, d0, B0, p0, f0, rfl, hr⟩ := hv
  have R0 := hide hr
  have HB := hide (Below.refl W.heap.size W)
  have HL := hide hl
  have HM := hide hm
  have HU := hide hU
  have HML := hide hml
  clear hr hu hl hm hml hU hgo
  obtain ⟨a, ha⟩ : ∃ a, cutR x = a := ⟨_, rfl⟩
  rw [ha] at HFA
  go_enter Tryz.func5, Tryz.ntmps5
  go_wp2_with fail
  have hb : Below W.heap.size W (W.alloc (.cells #[.slice A0 n0 c0, .int .u64 x.e, .slice S0 m0 d0, .int .u64 (x.l.E : Int), .slice (B0 0) (p0 0) (f0 0), .slice (B0 1) (p0 1) (f0 1), .slice (B0 2) (p0 2) (f0 2)] 34)) := (Below.refl _ _).alloc (Nat.le_refl _) _
  have hk := RowAt.new W 34 #[.slice A0 n0 c0, .int .u64 x.e, .slice S0 m0 d0, .int .u64 (x.l.E : Int), .slice (B0 0) (p0 0) (f0 0), .slice (B0 1) (p0 1) (f0 1), .slice (B0 2) (p0 2) (f0 2)]
  have hGB : W.heap.size ≤ W.heap.size := Nat.le_refl _
  replace R0 := hide (R0.out.below hb)
  replace HB := hide (HB.out.trans (hb.mono HB.out.size))
  have K0 := hide hk
  have L0 := hide hGB
  clear hb hk hGB
  generalize (W.alloc (.cells #[.slice A0 n0 c0, .int .u64 x.e, .slice S0 m0 d0, .int .u64 (x.l.E : Int), .slice (B0 0) (p0 0) (f0 0), .slice (B0 1) (p0 1) (f0 1), .slice (B0 2) (p0 2) (f0 2)] 34)) = w1 at *
  with_reducible refine (wakes_any w1).mono ?_
  rintro e w2 ⟨rfl, hb⟩
  replace R0 := hide (R0.out.below hb)
  replace K0 := hide (K0.out.below hb)
  replace HB := hide (HB.out.trans (hb.mono HB.out.size))
  clear hb
  obtain ⟨K0y0, K0y1, K0y2, K0y3, K0y4, K0y5, K0y6⟩ := row7 K0.out
  have K0l := K0.out.lt
  go_wp2_with fail
  clear K0y0 K0y1 K0y2 K0y3 K0y4 K0y5 K0y6 K0l
  with_reducible refine (vOwn R0.out.val).mono ?_
  rintro e w3 ⟨⟨v, rfl, hv⟩, hb⟩
  replace R0 := hide (R0.out.below hb)
  replace K0 := hide (K0.out.below hb)
  replace HB := hide (HB.out.trans (hb.mono HB.out.size))
  obtain ⟨A1, S1, n1, c1, m1, d1, B1, p1, f1, rfl, hr⟩ := hv
  rw [ha] at hr ⊢
  have R1 := hide hr
  clear hb hr R0 K0 L0
  go_wp2_with fail
  with_reducible refine (op_any 1 goer 0 0 w3).mono ?_
  rintro e w4 ⟨rfl, hb⟩
  replace R1 := hide (R1.out.below hb)
  replace HB := hide (HB.out.trans (hb.mono HB.out.size))
  clear hb
  obtain ⟨r, y, k, hT⟩ : ∃ r y k, doR a ⟨1, goer, 0, (0, 0)⟩ = (r, y, k) := ⟨_, _, _, rfl⟩
  go_wp2_with fail
  with_reducible refine (doAs R1.out.val HFA.out 1 goer 0 0 0 (Int.le_refl _) u64z hT).mono ?_
  rintro e w5 ⟨⟨v, rfl, hv⟩, hb⟩
  replace R1 := hide (R1.out.below hb)
  replace HB := hide (HB.out.trans (hb.mono HB.out.size))
  obtain ⟨A2, S2, n2, c2, m2, d2, B2, p2, f2, rfl, hr⟩ := hv
  have R2 := hide hr
  clear hb hr R1
  go_upto_region 4 with (fail)
  have hb : Below w5.heap.size w5 ((w5.alloc (.cells #[.slice A2 n2 c2, .int .u64 r.e, .slice S2 m2 d2, .int .u64 (r.l.E : Int), .slice (B2 0) (p2 0) (f2 0), .slice (B2 1) (p2 1) (f2 1), .slice (B2 2) (p2 2) (f2 2)] 34)).alloc (.cells #[.int .i64 y.1, .int .u64 y.2] 41)) := ((Below.refl _ _).alloc (Nat.le_refl _) _).alloc (by simp) _
  have hk : RowAt ((w5.alloc (.cells #[.slice A2 n2 c2, .int .u64 r.e, .slice S2 m2 d2, .int .u64 (r.l.E : Int), .slice (B2 0) (p2 0) (f2 0), .slice (B2 1) (p2 1) (f2 1), .slice (B2 2) (p2 2) (f2 2)] 34)).alloc (.cells #[.int .i64 y.1, .int .u64 y.2] 41)) w5.heap.size 34 #[.slice A2 n2 c2, .int .u64 r.e, .slice S2 m2 d2, .int .u64 (r.l.E : Int), .slice (B2 0) (p2 0) (f2 0), .slice (B2 1) (p2 1) (f2 1), .slice (B2 2) (p2 2) (f2 2)] := row_alloc (RowAt.new w5 34 #[.slice A2 n2 c2, .int .u64 r.e, .slice S2 m2 d2, .int .u64 (r.l.E : Int), .slice (B2 0) (p2 0) (f2 0), .slice (B2 1) (p2 1) (f2 1), .slice (B2 2) (p2 2) (f2 2)]) _
  have hGB : W.heap.size ≤ w5.heap.size := HB.out.size
  have hR : RecF (fun j => j ≠ w5.heap.size) ((w5.alloc (.cells #[.slice A2 n2 c2, .int .u64 r.e, .slice S2 m2 d2, .int .u64 (r.l.E : Int), .slice (B2 0) (p2 0) (f2 0), .slice (B2 1) (p2 1) (f2 1), .slice (B2 2) (p2 2) (f2 2)] 34)).alloc (.cells #[.int .i64 y.1, .int .u64 y.2] 41)) A2 S2 n2 c2 m2 d2 B2 p2 f2 r := ((R2.out.up (G := fun j => j ≠ w5.heap.size) (fun j _ hl => by show j ≠ _; omega)).below hb)
  clear R2
  replace HB := hide (HB.out.trans (hb.mono HB.out.size))
  have K7 := hide hk
  have L7 := hide hGB
  have R7 := hide hR
  clear hk hGB hR hb
  generalize ((w5.alloc (.cells #[.slice A2 n2 c2, .int .u64 r.e, .slice S2 m2 d2, .int .u64 (r.l.E : Int), .slice (B2 0) (p2 0) (f2 0), .slice (B2 1) (p2 1) (f2 1), .slice (B2 2) (p2 2) (f2 2)] 34)).alloc (.cells #[.int .i64 y.1, .int .u64 y.2] 41)) = w9 at *
  generalize w5.heap.size = g7 at *
  by_cases hk : k = 0
  case neg =>
    have hr0 : r = rec0 := by
      have h2 := hT
      unfold doR at h2
      split at h2
      · split at h2
        · simp only [Prod.mk.injEq] at h2; exact absurd h2.2.2.symm hk
        · simp only [Prod.mk.injEq] at h2; exact h2.1.symm
      · simp only [Prod.mk.injEq] at h2; exact h2.1.symm
    have hn0 : 0 = n2 := by have h := R7.out.l0; rw [hr0] at h; exact h
    subst hn0
    have hkb : (k == 0) = false := by simpa using hk
    clear hk hr0
    obtain ⟨K7y0, K7y1, K7y2, K7y3, K7y4, K7y5, K7y6⟩ := row7 K7.out
    have K7l := K7.out.lt
    go_wp2_with fail
    clear K7y0 K7y1 K7y2 K7y3 K7y4 K7y5 K7y6 K7l
    go_ret
    exact ⟨rfl, HB.out⟩
  case pos =>
    subst hk
    have ho : a.ok = true := by
      have h2 := hT
      unfold doR at h2
      split at h2
      · assumption
      · simp at h2
    have HWA := hide (show WfR a from ⟨ok_iff.1 ho, fun s hs => (HFA.out.fit.s s hs).1, HFA.out.gn⟩)
    have HI := hide (hold_start HWA.out hT)
    clear ho hT HWA HFA
    obtain ⟨K7y0, K7y1, K7y2, K7y3, K7y4, K7y5, K7y6⟩ := row7 K7.out
    have K7l := K7.out.lt
    go_wp2_with fail
    clear K7y0 K7y1 K7y2 K7y3 K7y4 K7y5 K7y6 K7l
    obtain ⟨L0, hL0⟩ : ∃ L, ents r.sl 1 = L := ⟨_, rfl⟩
    rw [hL0] at HI
    obtain ⟨m10, hm10⟩ : ∃ m, L0.length = m := ⟨_, rfl⟩
    have HLN := hide (show m10 ≤ 4096 from by rw [← hm10, ← hL0]; exact Nat.le_trans (ents_length r.sl 1) HI.out.wf.fit.sl)
    with_reducible refine (entries_any A2 c2 n2 1 r.sl w9 R7.out.sl.rd R7.out.l0 (by have := R7.out.l0; have := HI.out.wf.fit.sl; omega) L0 (by rw [if_pos HI.out.wf.ok.ar]; exact hL0) m10 hm10).mono ?_
    rintro e w6 ⟨A10, c10, rfl, _, _, hrd, hb⟩
    replace R7 := hide (R7.out.below hb)
    replace K7 := hide (K7.out.below hb)
    replace HB := hide (HB.out.trans (hb.mono HB.out.size))
    have HJ := hide (show HoldW W w6 g7 m10 A10 r.e L0 goer r from ⟨⟨_, _, _, _, _, _, _, _, _, K7.out, R7.out⟩, HI.out, hrd, hm10, HB.out, L7.out⟩)
    clear hb hrd hm10 hL0
    have HLO := hide HB.out.size
    obtain ⟨E0, hE0⟩ : ∃ E, r.e = E := ⟨_, rfl⟩
    rw [hE0] at HJ
    clear R7 K7 HI hE0
    go_upto_region 8 with (fail)
    obtain ⟨wl, hwl⟩ : ∃ w, w = w6 := ⟨_, rfl⟩
    subst hwl
    go_loopw [47] (fun i wr => ∃ (k : Nat) (r1 : Rec), k ≤ ml ∧ k ≤ 40 ∧ i = .int .i64 k ∧ HoldW W wr g7 m10 A10 E0 L0 goer r1) (fun i _ => ml - (intOf i).toNat)
    case atStart => exact ⟨0, _, Nat.zero_le _, Nat.zero_le _, rfl, HJ.out⟩
    case round =>
      obtain ⟨k, r1, hk, hk40, rfl, hst⟩ := hrel
      have HST := hide hst
      clear hst HJ
      by_cases hlt : k < ml
      case neg =>
        have hkn : ml = k := by omega
        subst hkn
        have HBZ := hide HST.out.below
        go_wp2_with fail
        go_ret
        exact ⟨rfl, HBZ.out⟩
      case pos =>
        have hki : (k : Int) < (ml : Int) := by omega
        have hkl : k < l.length := by rw [HM.out]; exact hlt
        have HBL := hide HST.out.below
        obtain ⟨b, q, hAl, hbl, d0, d1, d2, d3, d4⟩ := Rd.op (HL.out.below HBL.out) HM.out hkl
        have hbl2 : b < wr.heap.size := Nat.lt_of_lt_of_le hbl HBL.out.size
        have HUX := hide (HU.out _ (List.getElem_mem hkl))
        skip
        generalize l[k] = x at *
        have HK := hide hlt
        clear hkl hk
        have hba : Below wr.heap.size wr (wr.alloc (.cells #[.int .i64 x.k, .int .i64 x.g, .int .u64 x.b, .int .i64 x.x.1, .int .u64 x.x.2] 43)) := (Below.refl _ _).alloc (Nat.le_refl _) _
        have ra := RowAt.new wr 43 #[.int .i64 x.k, .int .i64 x.g, .int .u64 x.b, .int .i64 x.x.1, .int .u64 x.x.2]
        have HSA := hide (HST.out.keep hba)
        have HG12 := hide HST.out.box.lt
        subst hAl
        go_upto_region 10 with (fail)
        have RO := hide ra
        clear ra hba d0 d1 d2 d3 d4 hbl hbl2 HST HBL
        generalize (wr.alloc (.cells #[.int .i64 x.k, .int .i64 x.g, .int .u64 x.b, .int .i64 x.x.1, .int .u64 x.x.2] 43)) = wa at *
        generalize wr.heap.size = g12 at *
        by_cases h40 : k = 40
        case pos =>
          subst h40
          have HBZ := hide HSA.out.below
          clear HSA RO
          go_wp2_with fail
          go_ret
          exact ⟨rfl, HBZ.out⟩
        case neg =>
          have h40b : ((k : Int) == 40) = false := by simp; omega
          have hk41 : k + 1 ≤ 40 := by omega
          clear h40
          skip
          go_upto_region 11 with (fail)
          obtain ⟨s62, hs62⟩ : ∃ b, (decide (x.k ≤ 2) && (x.g == goer)) = b := ⟨_, rfl⟩
          go_cut [62] from 54 to 62 (fun v wx => v = .bool s62 ∧ wx = wa)
          case first =>
            obtain ⟨y0, y1, y2, y3, y4⟩ := row5 RO.out
            have yl := RO.out.lt
            by_cases h1 : x.k ≤ 2
            · have e1 : decide (x.k ≤ 2) = true := by simpa using h1
              rw [e1, Bool.true_and] at hs62
              go_wp2_with fail
              go_meet
              case rel => exact ⟨by first | rfl | rw [hs62], rfl⟩
            · have e1 : decide (x.k ≤ 2) = false := by simpa using h1
              rw [e1, Bool.false_and] at hs62
              subst hs62
              go_wp2_with fail
              go_meet
              case rel => exact ⟨rfl, rfl⟩
          case rest =>
            rename_i K hK
            refine hK _ _ ?_
            clear hK K
            obtain ⟨rfl, hwe⟩ := hcut
            subst hwe
            obtain ⟨wa, hwa⟩ : ∃ w, w = wc := ⟨_, rfl⟩
            subst hwa
            cases hb62 : s62 with
            | true =>
              clear RO hs62
              go_wp2_with fail
              go_roundw
              case rel => exact ⟨k + 1, r1, HK.out, by omega, by have h1 := HK.out; have h3 := HML.out; go_num, HSA.out⟩
              case measure => have := HK.out; have h3 := HML.out; simp [intOf]; omega
            | false =>
              have h11 : ¬ (x.k ≤ 2 ∧ x.g = goer) := by
                intro h
                rw [hb62] at hs62
                simp [h.1, h.2] at hs62
              clear hs62 hb62 s62
              go_upto_region 12 with (fail)
              obtain ⟨s71, hs71⟩ : ∃ b, (decide (x.k = 4) && L0.any (fun y => decide (y = x.x))) = b := ⟨_, rfl⟩
              go_cut [71] from 63 to 71 (fun v wx => v = .bool s71 ∧ Below wa.heap.size wa wx)
              case first =>
                obtain ⟨y0, y1, y2, y3, y4⟩ := row5 RO.out
                have yl := RO.out.lt
                by_cases h1 : x.k = 4
                · have e1 : (x.k == 4) = true := by simpa using h1
                  have e2 : decide (x.k = 4) = true := by simpa using h1
                  rw [e2, Bool.true_and] at hs71
                  clear h1 e2
                  go_wp2_with fail
                  with_reducible refine (containsAs HSA.out.live HSA.out.lm HLN.out x.x.1 x.x.2 hs71).mono ?_
                  rintro e wb ⟨rfl, hb⟩
                  have HBX := hide hb
                  clear hb
                  go_wp2_with fail
                  go_meet
                  case rel => exact ⟨rfl, HBX.out⟩
                · have e1 : (x.k == 4) = false := by simpa using h1
                  have e2 : decide (x.k = 4) = false := by simpa using h1
                  rw [e2, Bool.false_and] at hs71
                  clear h1 e2
                  subst hs71
                  go_wp2_with fail
                  go_meet
                  case rel => exact ⟨rfl, Below.refl _ _⟩
              case rest =>
                rename_i K hK
                refine hK _ _ ?_
                clear hK K
                obtain ⟨wb, hwb⟩ : ∃ w, w = wc := ⟨_, rfl⟩
                subst hwb
                obtain ⟨rfl, hbb⟩ := hcut
                replace HSA := hide (HSA.out.keep hbb)
                replace RO := hide (RO.out.below hbb)
                clear hbb
                cases hb71 : s71 with
                | true =>
                  clear RO hs71
                  go_wp2_with fail
                  go_roundw
                  case rel => exact ⟨k + 1, r1, HK.out, by omega, by have h1 := HK.out; have h3 := HML.out; go_num, HSA.out⟩
                  case measure => have := HK.out; have h3 := HML.out; simp [intOf]; omega
                | false =>
                  have h12 : ¬ (x.k = 4 ∧ x.x ∈ L0) := by
                    intro h
                    rw [hb71] at hs71
                    simp [h.1] at hs71
                    first | exact hs71 h.2 | exact hs71 _ _ h.2 rfl | exact absurd h.2 (by simpa using hs71)
                  clear hs71 hb71 s71
                  obtain ⟨C0, Cs0, q0, f0, qs, fs, C, Cq, Cf, hrow, hrec⟩ := HSA.out.box
                  have K7 := hide hrow
                  have R7 := hide hrec
                  clear hrow hrec
                  obtain ⟨r2, y, k2, hT⟩ : ∃ r y k, doR r1 x = (r, y, k) := ⟨_, _, _, rfl⟩
                  have HFV := hide HSA.out.inv.wf.fitV
                  obtain ⟨z0, z1, z2, z3, z4, z5, z6⟩ := row7 K7.out
                  have zl := K7.out.lt
                  obtain ⟨y0, y1, y2, y3, y4⟩ := row5 RO.out
                  have yl := RO.out.lt
                  go_wp2_with fail
                  clear z0 z1 z2 z3 z4 z5 z6 zl y0 y1 y2 y3 y4 yl
                  with_reducible refine (doAs R7.out.val HFV.out x.k x.g x.b x.x.1 x.x.2 HUX.out.1 HUX.out.2 hT).mono ?_
                  rintro e wd ⟨⟨v, rfl, hv⟩, hb⟩
                  obtain ⟨A5, S5, n5, c5, m5, d5, B5, p5, f5, rfl, hr⟩ := hv
                  have R5 := hide hr
                  have HGB := hide (show g7 < wb.heap.size from K7.out.lt)
                  have HGD := hide (show wb.heap.size ≤ wd.heap.size from hb.size)
                  replace HSA := hide (HSA.out.keep hb)
                  replace RO := hide (RO.out.below hb)
                  clear hr hb K7 R7 HFV
                  go_upto_region 14 with (fail)
                  have hb : Below wd.heap.size wd ((wd.alloc (.cells #[.slice A5 n5 c5, .int .u64 r2.e, .slice S5 m5 d5, .int .u64 (r2.l.E : Int), .slice (B5 0) (p5 0) (f5 0), .slice (B5 1) (p5 1) (f5 1), .slice (B5 2) (p5 2) (f5 2)] 34)).alloc (.cells #[.int .i64 y.1, .int .u64 y.2] 41)) := ((Below.refl _ _).alloc (Nat.le_refl _) _).alloc (by simp) _
                  have hk : RowAt ((wd.alloc (.cells #[.slice A5 n5 c5, .int .u64 r2.e, .slice S5 m5 d5, .int .u64 (r2.l.E : Int), .slice (B5 0) (p5 0) (f5 0), .slice (B5 1) (p5 1) (f5 1), .slice (B5 2) (p5 2) (f5 2)] 34)).alloc (.cells #[.int .i64 y.1, .int .u64 y.2] 41)) wd.heap.size 34 #[.slice A5 n5 c5, .int .u64 r2.e, .slice S5 m5 d5, .int .u64 (r2.l.E : Int), .slice (B5 0) (p5 0) (f5 0), .slice (B5 1) (p5 1) (f5 1), .slice (B5 2) (p5 2) (f5 2)] := row_alloc (RowAt.new wd 34 #[.slice A5 n5 c5, .int .u64 r2.e, .slice S5 m5 d5, .int .u64 (r2.l.E : Int), .slice (B5 0) (p5 0) (f5 0), .slice (B5 1) (p5 1) (f5 1), .slice (B5 2) (p5 2) (f5 2)]) _
                  have hk2 : RowAt ((wd.alloc (.cells #[.slice A5 n5 c5, .int .u64 r2.e, .slice S5 m5 d5, .int .u64 (r2.l.E : Int), .slice (B5 0) (p5 0) (f5 0), .slice (B5 1) (p5 1) (f5 1), .slice (B5 2) (p5 2) (f5 2)] 34)).alloc (.cells #[.int .i64 y.1, .int .u64 y.2] 41)) (wd.heap.size + 1) 41 #[.int .i64 y.1, .int .u64 y.2] := by have h := RowAt.new (wd.alloc (.cells #[.slice A5 n5 c5, .int .u64 r2.e, .slice S5 m5 d5, .int .u64 (r2.l.E : Int), .slice (B5 0) (p5 0) (f5 0), .slice (B5 1) (p5 1) (f5 1), .slice (B5 2) (p5 2) (f5 2)] 34)) 41 #[.int .i64 y.1, .int .u64 y.2]; rw [World.size_alloc] at h; exact h
                  have K13 := hide hk
                  have K14 := hide hk2
                  have HG13 := hide (show g7 < wd.heap.size from Nat.lt_of_lt_of_le HGB.out HGD.out)
                  replace R5 := hide (R5.out.below hb)
                  replace HSA := hide (HSA.out.keep hb)
                  replace RO := hide (RO.out.below hb)
                  clear hk hk2 hb HGD
                  generalize ((wd.alloc (.cells #[.slice A5 n5 c5, .int .u64 r2.e, .slice S5 m5 d5, .int .u64 (r2.l.E : Int), .slice (B5 0) (p5 0) (f5 0), .slice (B5 1) (p5 1) (f5 1), .slice (B5 2) (p5 2) (f5 2)] 34)).alloc (.cells #[.int .i64 y.1, .int .u64 y.2] 41)) = we at *
                  generalize wd.heap.size = g13 at *
                  by_cases hk2 : k2 = 0
                  case neg =>
                    have e2 : (k2 == 0) = false := by simpa using hk2
                    clear hk2
                    go_wp2_with fail
                    go_roundw
                    case rel => exact ⟨k + 1, r1, HK.out, by omega, by have h1 := HK.out; have h3 := HML.out; go_num, HSA.out⟩
                    case measure => have := HK.out; have h3 := HML.out; simp [intOf]; omega
                  case pos =>
                    subst hk2
                    have hN := hold_step HSA.out.inv HUX.out.1 h11 h12 hT
                    have HN := hide hN
                    clear hN h11 h12 hT
                    go_upto_region 15 with (fail)
                    obtain ⟨C0, Cs0, q0, f0, qs, fs, C, Cq, Cf, hrow, hrec⟩ := HSA.out.box
                    obtain ⟨z0, z1, z2, z3, z4, z5, z6⟩ := row7 hrow
                    have zl := hrow.lt
                    have zf0 := hrow.frozen 0
                    have zf1 := hrow.frozen 1
                    have zf2 := hrow.frozen 2
                    have zf3 := hrow.frozen 3
                    have zf4 := hrow.frozen 4
                    have zf5 := hrow.frozen 5
                    have zf6 := hrow.frozen 6
                    obtain ⟨v0, v1, v2, v3, v4, v5, v6⟩ := row7 K13.out
                    have vl := K13.out.lt
                    have HLD := hide (show LaidF g7 we (((((((we.setCell ⟨g7, 0, none⟩ (.slice A5 n5 c5)).setCell ⟨g7, 1, none⟩ (.int .u64 r2.e)).setCell ⟨g7, 2, none⟩ (.slice S5 m5 d5)).setCell ⟨g7, 3, none⟩ (.int .u64 (r2.l.E : Int))).setCell ⟨g7, 4, none⟩ (.slice (B5 0) (p5 0) (f5 0))).setCell ⟨g7, 5, none⟩ (.slice (B5 1) (p5 1) (f5 1))).setCell ⟨g7, 6, none⟩ (.slice (B5 2) (p5 2) (f5 2))) from ((((((((laid0 g7 _).set 0 (.slice A5 n5 c5)).set 1 (.int .u64 r2.e)).set 2 (.slice S5 m5 d5)).set 3 (.int .u64 (r2.l.E : Int))).set 4 (.slice (B5 0) (p5 0) (f5 0))).set 5 (.slice (B5 1) (p5 1) (f5 1))).set 6 (.slice (B5 2) (p5 2) (f5 2))))
                    have HRN := hide (show RowAt (((((((we.setCell ⟨g7, 0, none⟩ (.slice A5 n5 c5)).setCell ⟨g7, 1, none⟩ (.int .u64 r2.e)).setCell ⟨g7, 2, none⟩ (.slice S5 m5 d5)).setCell ⟨g7, 3, none⟩ (.int .u64 (r2.l.E : Int))).setCell ⟨g7, 4, none⟩ (.slice (B5 0) (p5 0) (f5 0))).setCell ⟨g7, 5, none⟩ (.slice (B5 1) (p5 1) (f5 1))).setCell ⟨g7, 6, none⟩ (.slice (B5 2) (p5 2) (f5 2))) g7 34 #[.slice A5 n5 c5, .int .u64 r2.e, .slice S5 m5 d5, .int .u64 (r2.l.E : Int), .slice (B5 0) (p5 0) (f5 0), .slice (B5 1) (p5 1) (f5 1), .slice (B5 2) (p5 2) (f5 2)] from by have h := (((((((hrow.set 0 (.slice A5 n5 c5)).set 1 (.int .u64 r2.e)).set 2 (.slice S5 m5 d5)).set 3 (.int .u64 (r2.l.E : Int))).set 4 (.slice (B5 0) (p5 0) (f5 0))).set 5 (.slice (B5 1) (p5 1) (f5 1))).set 6 (.slice (B5 2) (p5 2) (f5 2))); simpa using h)
                    go_upto_region 16 with (fail)
                    clear z0 z1 z2 z3 z4 z5 z6 zl v0 v1 v2 v3 v4 v5 v6 vl hrow hrec zf0 zf1 zf2 zf3 zf4 zf5 zf6
                    replace RO := hide (show RowAt (((((((we.setCell ⟨g7, 0, none⟩ (.slice A5 n5 c5)).setCell ⟨g7, 1, none⟩ (.int .u64 r2.e)).setCell ⟨g7, 2, none⟩ (.slice S5 m5 d5)).setCell ⟨g7, 3, none⟩ (.int .u64 (r2.l.E : Int))).setCell ⟨g7, 4, none⟩ (.slice (B5 0) (p5 0) (f5 0))).setCell ⟨g7, 5, none⟩ (.slice (B5 1) (p5 1) (f5 1))).setCell ⟨g7, 6, none⟩ (.slice (B5 2) (p5 2) (f5 2))) g12 43 #[.int .i64 x.k, .int .i64 x.g, .int .u64 x.b, .int .i64 x.x.1, .int .u64 x.x.2] from (HLD.out.block g12 (by have := HG12.out; omega)).trans RO.out)
                    replace K14 := hide (show RowAt (((((((we.setCell ⟨g7, 0, none⟩ (.slice A5 n5 c5)).setCell ⟨g7, 1, none⟩ (.int .u64 r2.e)).setCell ⟨g7, 2, none⟩ (.slice S5 m5 d5)).setCell ⟨g7, 3, none⟩ (.int .u64 (r2.l.E : Int))).setCell ⟨g7, 4, none⟩ (.slice (B5 0) (p5 0) (f5 0))).setCell ⟨g7, 5, none⟩ (.slice (B5 1) (p5 1) (f5 1))).setCell ⟨g7, 6, none⟩ (.slice (B5 2) (p5 2) (f5 2))) (g13 + 1) 41 #[.int .i64 y.1, .int .u64 y.2] from (HLD.out.block (g13 + 1) (by have := HG13.out; omega)).trans K14.out)
                    have R7 := hide (show RecF (fun j => j ≠ g7) (((((((we.setCell ⟨g7, 0, none⟩ (.slice A5 n5 c5)).setCell ⟨g7, 1, none⟩ (.int .u64 r2.e)).setCell ⟨g7, 2, none⟩ (.slice S5 m5 d5)).setCell ⟨g7, 3, none⟩ (.int .u64 (r2.l.E : Int))).setCell ⟨g7, 4, none⟩ (.slice (B5 0) (p5 0) (f5 0))).setCell ⟨g7, 5, none⟩ (.slice (B5 1) (p5 1) (f5 1))).setCell ⟨g7, 6, none⟩ (.slice (B5 2) (p5 2) (f5 2))) A5 S5 n5 c5 m5 d5 B5 p5 f5 r2 from (R5.out.stay (HLD.out.stay (fun (h : wb.heap.size ≤ g7) => by have := HGB.out; omega))).up (fun j (hj : wb.heap.size ≤ j) _ => by have := HGB.out; show j ≠ g7; omega))
                    have HS2 := hide (HSA.out.put HLD.out HRN.out R5.out (fun j (hj : wb.heap.size ≤ j) => by have := HGB.out; omega) HN.out.1)
                    have K7 := HRN
                    have HNY := hide HN.out.2
                    clear HLD HRN R5 HSA HGB HN K13
                    generalize (((((((we.setCell ⟨g7, 0, none⟩ (.slice A5 n5 c5)).setCell ⟨g7, 1, none⟩ (.int .u64 r2.e)).setCell ⟨g7, 2, none⟩ (.slice S5 m5 d5)).setCell ⟨g7, 3, none⟩ (.int .u64 (r2.l.E : Int))).setCell ⟨g7, 4, none⟩ (.slice (B5 0) (p5 0) (f5 0))).setCell ⟨g7, 5, none⟩ (.slice (B5 1) (p5 1) (f5 1))).setCell ⟨g7, 6, none⟩ (.slice (B5 2) (p5 2) (f5 2))) = wf at *
                    go_cut [89] from 82 to 89 (fun v wx => v = .bool false ∧ Below wf.heap.size wf wx)
                    case first =>
                      obtain ⟨y0, y1, y2, y3, y4⟩ := row5 RO.out
                      have yl := RO.out.lt
                      have u0 := row20 K14.out
                      have u1 := row21 K14.out
                      have ul := K14.out.lt
                      by_cases h1 : x.k = 6
                      · have e1 : (x.k == 6) = true := by simpa using h1
                        have hny : L0.any (fun q => decide (q = (y.1, y.2))) = false := by
                          rw [List.any_eq_false]
                          intro q hq
                          simp only [decide_eq_true_eq]
                          intro e
                          exact HNY.out h1 (by rw [e] at hq; exact hq)
                        clear h1 HNY
                        go_wp2_with fail
                        with_reducible refine (containsAs HS2.out.live HS2.out.lm HLN.out y.1 y.2 hny).mono ?_
                        rintro e wq ⟨rfl, hb⟩
                        have HBX := hide hb
                        clear hb
                        go_wp2_with fail
                        go_meet
                        case rel => exact ⟨rfl, HBX.out⟩
                      · have e1 : (x.k == 6) = false := by simpa using h1
                        clear h1 HNY
                        go_wp2_with fail
                        go_meet
                        case rel => exact ⟨rfl, Below.refl _ _⟩
                    case rest =>
                      rename_i K hK
                      refine hK _ _ ?_
                      clear hK K
                      obtain ⟨wg, hwg⟩ : ∃ w, w = wc := ⟨_, rfl⟩
                      subst hwg
                      obtain ⟨rfl, hbb⟩ := hcut
                      replace K7 := hide (K7.out.below hbb)
                      replace K14 := hide (K14.out.below hbb)
                      replace RO := hide (RO.out.below hbb)
                      replace R7 := hide (R7.out.below hbb)
                      replace HS2 := hide (HS2.out.keep hbb)
                      clear hbb HNY
                      obtain ⟨z0, z1, z2, z3, z4, z5, z6⟩ := row7 K7.out
                      have zl := K7.out.lt
                      go_wp2_with fail
                      clear z0 z1 z2 z3 z4 z5 z6 zl
                      obtain ⟨c0, hc0⟩ : ∃ c, cn r2.sl 0 = c := ⟨_, rfl⟩
                      obtain ⟨c1, hc1⟩ : ∃ c, cn r2.sl 1 = c := ⟨_, rfl⟩
                      obtain ⟨c2, hc2⟩ : ∃ c, cn r2.sl 2 = c := ⟨_, rfl⟩
                      have HF2 := hide HS2.out.inv.wf.fitV
                      have hcs : c0 + c1 + c2 = (n5 : Int) := by rw [← hc0, ← hc1, ← hc2, counts_sum HS2.out.inv.wf.ok.ar, R7.out.l0]
                      have hn5 : n5 ≤ 4096 := by have := R7.out.l0; have := HF2.out.fit.sl; omega
                      have hp0 : 0 ≤ c0 := by rw [← hc0]; unfold cn; split <;> omega
                      have hp1 : 0 ≤ c1 := by rw [← hc1]; unfold cn; split <;> omega
                      have hp2 : 0 ≤ c2 := by rw [← hc2]; unfold cn; split <;> omega
                      have hwv : waitsR r2 = c2 := by rw [hold_waits HS2.out.inv.wf, ← hc2]; unfold cn; rw [if_pos HS2.out.inv.wf.ok.ar]
                      have HCS := hide hcs
                      clear hcs
                      with_reducible refine (counts_any A5 c5 n5 r2.sl wg R7.out.sl.rd R7.out.l0 hn5 c0 c1 c2 hc0 hc1 hc2).mono ?_
                      rintro e wh ⟨rfl, hb⟩
                      replace K7 := hide (K7.out.below hb)
                      replace K14 := hide (K14.out.below hb)
                      replace RO := hide (RO.out.below hb)
                      replace R7 := hide (R7.out.below hb)
                      replace HS2 := hide (HS2.out.keep hb)
                      clear hb
                      have HWV := hide hwv
                      clear hwv hc0 hc1 hc2
                      obtain ⟨z0, z1, z2, z3, z4, z5, z6⟩ := row7 K7.out
                      have zl := K7.out.lt
                      go_wp2_with fail
                      clear z0 z1 z2 z3 z4 z5 z6 zl
                      with_reducible refine (vCheck R7.out.val HF2.out.fit 0 (by simp [ok_iff.2 HS2.out.inv.wf.ok])).mono ?_
                      rintro e wi ⟨rfl, hb⟩
                      replace K7 := hide (K7.out.below hb)
                      replace K14 := hide (K14.out.below hb)
                      replace RO := hide (RO.out.below hb)
                      replace R7 := hide (R7.out.below hb)
                      replace HS2 := hide (HS2.out.keep hb)
                      clear hb
                      obtain ⟨z0, z1, z2, z3, z4, z5, z6⟩ := row7 K7.out
                      have zl := K7.out.lt
                      have hcs := HCS.out
                      have hb0 : c0 ≤ 4096 := by omega
                      have hb1 : c0 + c1 ≤ 4096 := by omega
                      have hb2 : c0 + c1 + c2 ≤ 4096 := by omega
                      go_wp2_with fail
                      clear z0 z1 z2 z3 z4 z5 z6 zl
                      clear hcs hb0 hb1 hb2
                      with_reducible refine (vWaits R7.out.val HF2.out.fit c2 HWV.out).mono ?_
                      rintro e wj ⟨rfl, hb⟩
                      replace K7 := hide (K7.out.below hb)
                      replace K14 := hide (K14.out.below hb)
                      replace RO := hide (RO.out.below hb)
                      replace R7 := hide (R7.out.below hb)
                      replace HS2 := hide (HS2.out.keep hb)
                      clear hb RO K14
                      go_upto_region 22 with (fail)
                      go_loopw [120] (fun i wr => ∃ j : Nat, j ≤ m10 ∧ i = .int .i64 j ∧ Below wj.heap.size wj wr) (fun i _ => m10 - (intOf i).toNat)
                      case atStart => exact ⟨0, Nat.zero_le _, rfl, Below.refl _ _⟩
                      case round =>
                        obtain ⟨j, hj, rfl, hbj⟩ := hrel
                        have HSJ := hide (HS2.out.keep hbj)
                        have K7J := hide (K7.out.below hbj)
                        have R7J := hide (R7.out.below hbj)
                        have HBJ := hide hbj
                        clear hbj
                        by_cases hj2 : j < m10
                        case neg =>
                          have hjm : m10 = j := by omega
                          subst hjm
                          clear hj hj2
                          go_wp2_with fail
                          go_roundw
                          case rel => exact ⟨k + 1, r2, HK.out, by omega, by have h1 := HK.out; have h3 := HML.out; go_num, HSJ.out⟩
                          case measure => have := HK.out; have h3 := HML.out; simp [intOf]; omega
                        case pos =>
                          have hji : (j : Int) < (m10 : Int) := by omega
                          obtain ⟨b2, o2, hA10, hbl, d0, d1⟩ := Rd.ent HSJ.out.live HSJ.out.lm hj2
                          have hbl2 : b2 < wr.heap.size := hbl
                          obtain ⟨e, hee⟩ : ∃ e, L0.getD j (0, 0) = e := ⟨_, rfl⟩
                          have hem : e ∈ L0 := by
                            have h := HSJ.out.lm
                            rw [← hee, List.getD_eq_getElem?_getD, List.getElem?_eq_getElem (by omega)]
                            exact List.getElem_mem _
                          rw [hee] at d0 d1
                          have HTG := hide (HSJ.out.inv.tag hem)
                          clear hee hem hbl
                          have HJ2 := hide hj2
                          have hba : Below wr.heap.size wr (wr.alloc (.cells #[.int .i64 e.1, .int .u64 e.2] 41)) := (Below.refl _ _).alloc (Nat.le_refl _) _
                          have hre := RowAt.new wr 41 #[.int .i64 e.1, .int .u64 e.2]
                          replace K7J := hide (K7J.out.below hba)
                          replace R7J := hide (R7J.out.below hba)
                          replace HBJ := hide (HBJ.out.trans (hba.mono HBJ.out.size))
                          have K20 := hide hre
                          clear hre hba HSJ
                          subst hA10
                          go_upto_region 24 with (fail)
                          clear d0 d1 hbl2
                          generalize (wr.alloc (.cells #[.int .i64 e.1, .int .u64 e.2] 41)) = wk at *
                          generalize wr.heap.size = g20 at *
                          obtain ⟨z0, z1, z2, z3, z4, z5, z6⟩ := row7 K7J.out
                          have zl := K7J.out.lt
                          have u0 := row20 K20.out
                          have u1 := row21 K20.out
                          have ul := K20.out.lt
                          go_wp2_with fail
                          clear z0 z1 z2 z3 z4 z5 z6 zl
                          clear u0 u1 ul
                          obtain ⟨tg, htg⟩ : ∃ v, tagOf r2.sl (e.1, e.2) = v := ⟨_, rfl⟩
                          have ht0 : (tg == 0) = false := by
                            have h := HTG.out.2
                            have h2 : tagOf r2.sl e = tg := htg
                            rw [h2] at h
                            simpa using h
                          with_reducible refine (tag_any A5 c5 n5 e.1 e.2 r2.sl wk R7J.out.sl.rd R7J.out.l0 hn5 true HTG.out.1 tg (by rw [if_pos rfl]; exact htg)).mono ?_
                          rintro e9 wm ⟨rfl, hb⟩
                          replace HBJ := hide (HBJ.out.trans (hb.mono HBJ.out.size))
                          clear hb htg
                          go_wp2_with fail
                          go_roundw
                          case rel => exact ⟨j + 1, HJ2.out, by have := HJ2.out; have := HLN.out; go_num, HBJ.out⟩
                          case measure => have := HJ2.out; have := HLN.out; simp [intOf]; omega
end Go.Proofs.YtkicidopjihjmaaGreat
namespace Go.Proofs.YtkicidopjihjmaaGreat
open Go Go.RowKit Go.WideShapes Go.ChangeShapes Go.ChangeAt Go.Joins
set_option linter.unusedVariables false
set_option linter.unusedSimpArgs false
set_option maxRecDepth 100000 in
theorem epochHolds_lifted (os : Os) (started : os.Started) (H : Type) (enc : TypeId × Value → H) :
    ReturnsInHanded {} Tryz.checked os 5 .any (Rows.epochHoldsSpec.pre6 enc Tryz.prog Tryz.f5 Rows.epochHoldsRow.domain false) (Rows.epochHoldsSpec.post enc Tryz.prog Tryz.f5 false true false false) := by
  refine returnsInHanded_of_change (C := Tryz.checked) own_knob started (by kernel_rfl) Tryz.func5
    (ChangeSpec.witness6 (enc := enc) (C := Tryz.checked) false ⟨#[], #[.agg #[.slice none 0 0, .int .u64 0, .slice none 0 0, .int .u64 0, .slice none 0 0, .slice none 0 0, .slice none 0 0], .int .i64 0, .slice none 0 0], []⟩ 8 (by kernel_rfl) (by kernel_rfl) (by kernel_rfl) (by kernel_rfl)) ?_
  intro W base args ds gs before hval0 hW hcnd _
  have hval : ∀ (j : Nat) t v, Tryz.f5.params[j]? = some t → args[j]? = some v → Value.okWide Tryz.prog W .any base t v := hval0
  have hW' := hW
  obtain ⟨p, q, hA0, hV, rfl, hfz, hnd⟩ := hW
  have hA : DataW.TrodAll enc Tryz.prog W 0 (fun _ => true) true Tryz.f5.params.toList args.toList ds p := hA0
  rw [Tryz.params5] at hA hval
  obtain ⟨v0, v1, v2, d0, d1, d2, p0, p1, p2, rfl, rfl, rfl, h0, h1, h2⟩ := trodAll_three hA
  obtain ⟨x0, hx0, hn0⟩ := open_rec (hval 0 34 v0 rfl rfl) h0
  obtain ⟨g1, rfl, hg1⟩ := open_num (hval 1 3 v1 rfl rfl) h1
  obtain ⟨A2, n2, c2, xs2, rfl, hn2, hm2, hl2, hr2, hu2⟩ := open_eops (hval 2 35 v2 rfl rfl) h2
  clear hA0 hval0
  refine (Holds_walk v0 x0 g1 A2 n2 c2 xs2 W hx0 hn0 hg1 hr2 hl2 (Nat.le_trans hn2 hm2) hu2).mono fun e W' ⟨he, hb⟩ => ?_
  subst he
  exact ⟨_, rfl, law_done laid_out hW' rfl (fun ds' h => by match ds', h with | [x, y, z], _ => rfl) rfl (by rw [Tryz.params5]; decide +kernel) hb (fun _ _ _ => trodAll_mk1 (shut_bool Tryz.underlying4 true)) (ok_one (by kernel_rfl) rfl (okWide_bool_mk Tryz.underlying4 true))⟩
theorem epochHolds_holds : Rows.EpochHoldsSaid :=
  OpenClaim.holds_of_wide 5 Tryz.f5 rfl rfl rfl rfl rfl rfl rfl ⟨rfl, rfl, rfl, rfl, rfl⟩ rfl rfl rfl rfl rfl (by kernel_rfl) Tryz.func5 (by kernel_rfl)
    (of_decide_eq_true (by kernel_rfl)) (by unfold Func.isWrapper; first | (rw [if_pos (by decide +kernel)]; kernel_rfl) | (rw [if_neg (by decide +kernel)]; exact ⟨rfl, rfl⟩))
    (fun os started H enc _ => epochHolds_lifted os started H enc)
end Go.Proofs.YtkicidopjihjmaaGreat
