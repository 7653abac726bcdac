/-
  EpochGoes answers true for every reclaim, and leaves its arguments as they were. No condition.
-/
import Derived.Test.YtkicidopjihjmaaGreatZGoesE
set_option linter.unusedSimpArgs false
set_option linter.unusedVariables false
set_option linter.unusedSimpArgs false
set_option linter.unusedVariables false
namespace Go.Proofs.YtkicidopjihjmaaGreat
open Go Go.RowKit
attribute [local go_sem] via_cell via_frozen
structure WkB (W w : World) (g1 g3 : Nat) (r : Rec) : Prop where
  box : BoxR w g1 r
  ent : RowAt w g3 41 #[.int .i64 0, .int .u64 0]
  lo : W.heap.size ≤ g1 ∧ g1 < g3
  below : Below W.heap.size W w
theorem WkB.keep {W w w' : World} {g1 g3 : Nat} {r : Rec} (h : WkB W w g1 g3 r) (hb : Below w.heap.size w w') : WkB W w' g1 g3 r := ⟨h.box.below hb, h.ent.below hb, h.lo, h.below.trans (hb.mono h.below.size)⟩
theorem WkB.put {W w ww : World} {g1 g3 base : Nat} {r0 r : Rec} {A0 As : Option Addr} {n0 c0 ns cs : Nat} {A : Nat → Option Addr} {n c : Nat → Nat} (h : WkB W w g1 g3 r0) (hl : LaidF g1 w ww) (hrow : RowAt ww g1 34 (recC r.e r.l.E A0 As n0 c0 ns cs A n c)) (hr : RecF (From base) w A0 As n0 c0 ns cs A n c r) (hg : g1 < base) : WkB W ww g1 g3 r :=
  ⟨⟨A0, As, n0, c0, ns, cs, A, n, c, hrow, (hr.stay (hl.stay (fun (h : base ≤ g1) => by omega))).up (fun j (hj : base ≤ j) _ => by show j ≠ g1; omega)⟩, (hl.block _ (by have := h.lo; omega)).trans h.ent, h.lo, h.below.trans (hl.below.mono h.lo.1)⟩
theorem WkB.put2 {W w w' w2 : World} {g1 g3 ge base : Nat} {r0 r : Rec} {A0 As : Option Addr} {n0 c0 ns cs : Nat} {A : Nat → Option Addr} {n c : Nat → Nat} (h : WkB W w g1 g3 r0) (hl : LaidF g1 w w') (hl2 : LaidF ge w' w2) (hrow : RowAt w' g1 34 (recC r.e r.l.E A0 As n0 c0 ns cs A n c)) (hr : RecF (fun j => base ≤ j ∧ j ≠ ge) w A0 As n0 c0 ns cs A n c r) (hg : g1 < base) (h1 : ge ≠ g1) (h3 : ge ≠ g3) (hW : W.heap.size ≤ ge) : WkB W w2 g1 g3 r :=
  ⟨⟨A0, As, n0, c0, ns, cs, A, n, c, (hl2.block _ (Ne.symm h1)).trans hrow, (((hr.stay (hl.stay (fun h => by have h5 : base ≤ g1 := h.1; omega))).stay (hl2.stay (fun h => h.2 rfl))).up (fun j hj _ => by have h5 : base ≤ j := hj.1; show j ≠ g1; omega))⟩, (hl2.block _ (Ne.symm h3)).trans ((hl.block _ (by have := h.lo; omega)).trans h.ent), h.lo, (h.below.trans (hl.below.mono h.lo.1)).trans (hl2.below.mono hW)⟩
theorem own_up {w ww : World} {ge base n c : Nat} {At : Option Addr} {xs : List Value} (h : w.ownsRow base 41 2 (.slice At n c) n xs) (hl : LaidF ge w ww) (hlt : ∀ q, At = some q → q.block < ge) : ww.ownsRow base 41 2 (.slice At n c) n xs :=
  own_kept h (fun j hj _ => hl.block j (fun e => by
    rw [own_block] at hj
    cases At with
    | none => cases hj
    | some q => (injection hj with hj; have hj : q.block = j := hj; have := hlt q rfl; omega)))
theorem u64z : U64 0 := by unfold U64; omega
theorem RecF.val {F : Nat → Prop} {w : World} {A0 As : Option Addr} {n0 c0 ns cs : Nat} {A : Nat → Option Addr} {n c : Nat → Nat} {r : Rec} (h : RecF F w A0 As n0 c0 ns cs A n c r) : RecOut F w (.agg (recC r.e r.l.E A0 As n0 c0 ns cs A n c)) r := by
  refine ⟨A0, As, n0, c0, ns, cs, A, n, c, rfl, h⟩
theorem own_laid {w ww : World} {g base n : Nat} {v : Value} {xs : List Value} {C : Array Value} (h : w.ownsRow base 41 2 v n xs) (hrow : RowAt w g 34 C) (hl : LaidF g w ww) : ww.ownsRow base 41 2 v n xs :=
  own_kept h (fun j hj _ => hl.block j (fun e => by
    obtain ⟨_, cs, h2⟩ := own_typ h hj
    rw [e] at h2
    exact absurd (row_typ h2 hrow) (by decide)))
theorem eqEz (A1 A2 : Option Addr) (c1 c2 n1 n2 : Nat) (xs ys : List (Int × Int)) (W : World) (h1 : Rd W W.heap.size 2 A1 n1 (Cs encE xs)) (h2 : Rd W W.heap.size 2 A2 n2 (Cs encE ys)) (hx : xs.length = n1) (hy : ys.length = n2) (hl1 : n1 ≤ 4096) (hl2 : n2 ≤ 4096) (r : Bool) (hr : decide (xs = ys) = r) :
    Calls Tryz.prog 19 #[.slice A1 n1 c1, .slice A2 n2 c2] W fun e W' => e = .returned (.bool r) ∧ Below W.heap.size W W' := by
  subst hx; subst hy
  exact EqualE _ _ A1 A2 c1 c2 xs ys W h1 h2 (Nat.le_refl _) (Nat.le_refl _) hl1 hl2 r hr
set_option maxRecDepth 100000 in
set_option maxHeartbeats 16000000 in
theorem wakes_any (W : World) : Calls Tryz.prog 9 #[] W fun e W' => e = .returned (.bool true) ∧ Below W.heap.size W W' := by
  have HC := hide (New_any 2 3 W)
  go_enter Tryz.func9, Tryz.ntmps9
  go_wp2_with fail
  with_reducible refine HC.out.mono ?_
  rintro e w1 ⟨⟨v, rfl, hv⟩, hb⟩
  have hv : RecOut (fun _ => True) w1 v wk0 := hv
  obtain ⟨B0, Bs, m0, d0, ms, ds, B, m, d, rfl, hr⟩ := hv
  have HV := hide hr
  have HB1 := hide hb
  have ke : NewK 2 3 = 0 := rfl
  rw [ke]
  clear hr hb HC ke
  go_upto_region 2 with (fail)
  have hbA : Below w1.heap.size w1 (w1.alloc (.cells (recC wk0.e wk0.l.E B0 Bs m0 d0 ms ds B m d) 34)) := (Below.refl _ _).alloc (Nat.le_refl _) _
  have hbE : Below (w1.alloc (.cells (recC wk0.e wk0.l.E B0 Bs m0 d0 ms ds B m d) 34)).heap.size (w1.alloc (.cells (recC wk0.e wk0.l.E B0 Bs m0 d0 ms ds B m d) 34)) ((w1.alloc (.cells (recC wk0.e wk0.l.E B0 Bs m0 d0 ms ds B m d) 34)).alloc (.cells #[.int .i64 0, .int .u64 0] 41)) := (Below.refl _ _).alloc (Nat.le_refl _) _
  have hsA : (w1.alloc (.cells (recC wk0.e wk0.l.E B0 Bs m0 d0 ms ds B m d) 34)).heap.size = w1.heap.size + 1 := by rw [World.size_alloc]
  have HK := hide (show WkB W ((w1.alloc (.cells (recC wk0.e wk0.l.E B0 Bs m0 d0 ms ds B m d) 34)).alloc (.cells #[.int .i64 0, .int .u64 0] 41)) w1.heap.size (w1.heap.size + 1) wk0 from ⟨⟨B0, Bs, m0, d0, ms, ds, B, m, d, (RowAt.new w1 34 (recC wk0.e wk0.l.E B0 Bs m0 d0 ms ds B m d)).below hbE, ((HV.out.up (G := fun j => j ≠ w1.heap.size) (fun j _ hl => by show j ≠ _; omega)).below hbA).below hbE⟩, by have h := RowAt.new (w1.alloc (.cells (recC wk0.e wk0.l.E B0 Bs m0 d0 ms ds B m d) 34)) 41 #[.int .i64 0, .int .u64 0]; rw [hsA] at h; exact h, ⟨HB1.out.size, by omega⟩, (HB1.out.trans (hbA.mono HB1.out.size)).trans (hbE.mono (by have := HB1.out.size; omega))⟩)
  clear hbA hbE hsA
  go_upto_region 3 with (fail)
  skip
  obtain ⟨w3, hw3⟩ : ∃ w3, ((w1.alloc (.cells (recC wk0.e wk0.l.E B0 Bs m0 d0 ms ds B m d) 34)).alloc (.cells #[.int .i64 0, .int .u64 0] 41)) = w3 := ⟨_, rfl⟩
  rw [hw3] at HK
  rw [hw3]
  clear hw3 HV HB1
  generalize w1.heap.size + 1 = g3 at *
  generalize w1.heap.size = g1 at *
  obtain ⟨C0, Cs0, p0, f0, ps, fs, C, q, f, hrow, hrec⟩ := HK.out.box
  have HRW := hide hrow
  have HRC := hide hrec
  clear hrow hrec
  have HSX := hide (fun (wX : World) (hgX : Below w3.heap.size w3 wX) => show wX.cell? ⟨g1, 0, none⟩ = some (.slice C0 p0 f0) ∧ wX.cell? ⟨g1, 1, none⟩ = some (.int .u64 wk0.e) ∧ wX.cell? ⟨g1, 2, none⟩ = some (.slice Cs0 ps fs) ∧ wX.cell? ⟨g1, 3, none⟩ = some (.int .u64 (wk0.l.E : Int)) ∧ wX.cell? ⟨g1, 4, none⟩ = some (.slice (C 0) (q 0) (f 0)) ∧ wX.cell? ⟨g1, 5, none⟩ = some (.slice (C 1) (q 1) (f 1)) ∧ wX.cell? ⟨g1, 6, none⟩ = some (.slice (C 2) (q 2) (f 2)) ∧ wX.cell? ⟨g3, 0, none⟩ = some (.int .i64 0) ∧ wX.cell? ⟨g3, 1, none⟩ = some (.int .u64 0) ∧ g1 < wX.heap.size ∧ g3 < wX.heap.size from by
    obtain ⟨z0, z1, z2, z3, z4, z5, z6⟩ := row7 HRW.out
    exact ⟨kept hgX z0, kept hgX z1, kept hgX z2, kept hgX z3, kept hgX z4, kept hgX z5, kept hgX z6, kept hgX (row20 HK.out.ent), kept hgX (row21 HK.out.ent), Nat.lt_of_lt_of_le HRW.out.lt hgX.size, Nat.lt_of_lt_of_le HK.out.ent.lt hgX.size⟩)
  have HX := hide ((Below.refl w3.heap.size w3).drew)
  refine wp_region_Z (fun wX => wX.cell? ⟨g1, 0, none⟩ = some (.slice C0 p0 f0) ∧ wX.cell? ⟨g1, 1, none⟩ = some (.int .u64 wk0.e) ∧ wX.cell? ⟨g1, 2, none⟩ = some (.slice Cs0 ps fs) ∧ wX.cell? ⟨g1, 3, none⟩ = some (.int .u64 (wk0.l.E : Int)) ∧ wX.cell? ⟨g1, 4, none⟩ = some (.slice (C 0) (q 0) (f 0)) ∧ wX.cell? ⟨g1, 5, none⟩ = some (.slice (C 1) (q 1) (f 1)) ∧ wX.cell? ⟨g1, 6, none⟩ = some (.slice (C 2) (q 2) (f 2)) ∧ wX.cell? ⟨g3, 0, none⟩ = some (.int .i64 0) ∧ wX.cell? ⟨g3, 1, none⟩ = some (.int .u64 0) ∧ g1 < wX.heap.size ∧ g3 < wX.heap.size) 16 (by kernel_rfl) (HSX.out _ HX.out) (fun hHeld => ?_)
  clear hHeld
  have hS0 := HSX.out _ HX.out
  generalize w3.drew = wd at *
  (refine wpAnyZ_take (i := 0) (v := ?_) rfl (by kernel_rfl) (by kernel_rfl) (by kernel_rfl) (by kernel_rfl) (by kernel_rfl) (fun _ _ _ h => h) (Or.inl ⟨by rfl, ?_⟩) (by assumption) ?_; rotate_left; (focus (intro w hSw; (try dsimp only at hSw); obtain ⟨kf0, kf1, kf2, kf3, kf4, kf5, kf6, kf7, kf8, kf9, kf10⟩ := hSw; go_simp; first | done | with_reducible rfl)); (try simp only [Act.put, List.getElem_toArray, List.getElem_cons_succ, List.getElem_cons_zero, List.setIfInBounds_toArray, List.set_cons_zero, List.set_cons_succ]))
  (refine wpAnyZ_take (i := 1) (v := ?_) rfl (by kernel_rfl) (by kernel_rfl) (by kernel_rfl) (by kernel_rfl) (by kernel_rfl) (fun _ _ _ h => h) (Or.inl ⟨by rfl, ?_⟩) (by assumption) ?_; rotate_left; (focus (intro w hSw; (try dsimp only at hSw); obtain ⟨kf0, kf1, kf2, kf3, kf4, kf5, kf6, kf7, kf8, kf9, kf10⟩ := hSw; go_simp; first | done | with_reducible rfl)); (try simp only [Act.put, List.getElem_toArray, List.getElem_cons_succ, List.getElem_cons_zero, List.setIfInBounds_toArray, List.set_cons_zero, List.set_cons_succ]))
  (refine wpAnyZ_take (i := 3) (v := ?_) rfl (by kernel_rfl) (by kernel_rfl) (by kernel_rfl) (by kernel_rfl) (by kernel_rfl) (fun _ _ _ h => h) (Or.inl ⟨by rfl, ?_⟩) (by assumption) ?_; rotate_left; (focus (intro w hSw; (try dsimp only at hSw); obtain ⟨kf0, kf1, kf2, kf3, kf4, kf5, kf6, kf7, kf8, kf9, kf10⟩ := hSw; go_simp; first | done | with_reducible rfl)); (try simp only [Act.put, List.getElem_toArray, List.getElem_cons_succ, List.getElem_cons_zero, List.setIfInBounds_toArray, List.set_cons_zero, List.set_cons_succ]))
  (refine wpAnyZ_take (i := 5) (v := ?_) rfl (by kernel_rfl) (by kernel_rfl) (by kernel_rfl) (by kernel_rfl) (by kernel_rfl) (fun _ _ _ h => h) (Or.inl ⟨by rfl, ?_⟩) (by assumption) ?_; rotate_left; (focus (intro w hSw; (try dsimp only at hSw); obtain ⟨kf0, kf1, kf2, kf3, kf4, kf5, kf6, kf7, kf8, kf9, kf10⟩ := hSw; go_simp; first | done | with_reducible rfl)); (try simp only [Act.put, List.getElem_toArray, List.getElem_cons_succ, List.getElem_cons_zero, List.setIfInBounds_toArray, List.set_cons_zero, List.set_cons_succ]))
  (refine wpAnyZ_take (i := 7) (v := ?_) rfl (by kernel_rfl) (by kernel_rfl) (by kernel_rfl) (by kernel_rfl) (by kernel_rfl) (fun _ _ _ h => h) (Or.inl ⟨by rfl, ?_⟩) (by assumption) ?_; rotate_left; (focus (intro w hSw; (try dsimp only at hSw); obtain ⟨kf0, kf1, kf2, kf3, kf4, kf5, kf6, kf7, kf8, kf9, kf10⟩ := hSw; go_simp; first | done | with_reducible rfl)); (try simp only [Act.put, List.getElem_toArray, List.getElem_cons_succ, List.getElem_cons_zero, List.setIfInBounds_toArray, List.set_cons_zero, List.set_cons_succ]))
  refine wpAnyZ_one (i := 2) rfl (by kernel_rfl) (fun K0 hK0 => ?_)
  go_simp
  with_reducible refine (op_any 3 0 0 0 wd).mono ?_
  rintro e wo0 ⟨rfl, hb⟩
  have hX2 := HX.out.trans (hb.mono HX.out.size)
  replace HX := hide hX2
  clear hX2 hS0 hb
  have hS0 := HSX.out _ HX.out
  refine hK0.out _ _ (fun _ _ => hS0) ?_
  clear hK0 K0
  (try simp only [Act.put, List.getElem_toArray, List.getElem_cons_succ, List.getElem_cons_zero, List.setIfInBounds_toArray, List.set_cons_zero, List.set_cons_succ])
  refine wpAnyZ_one (i := 4) rfl (by kernel_rfl) (fun K1 hK1 => ?_)
  go_simp
  with_reducible refine (op_any 3 0 0 0 wo0).mono ?_
  rintro e wo1 ⟨rfl, hb⟩
  have hX2 := HX.out.trans (hb.mono HX.out.size)
  replace HX := hide hX2
  clear hX2 hS0 hb
  have hS0 := HSX.out _ HX.out
  refine hK1.out _ _ (fun _ _ => hS0) ?_
  clear hK1 K1
  (try simp only [Act.put, List.getElem_toArray, List.getElem_cons_succ, List.getElem_cons_zero, List.setIfInBounds_toArray, List.set_cons_zero, List.set_cons_succ])
  refine wpAnyZ_one (i := 6) rfl (by kernel_rfl) (fun K2 hK2 => ?_)
  go_simp
  with_reducible refine (op_any 1 0 0 0 wo1).mono ?_
  rintro e wo2 ⟨rfl, hb⟩
  have hX2 := HX.out.trans (hb.mono HX.out.size)
  replace HX := hide hX2
  clear hX2 hS0 hb
  have hS0 := HSX.out _ HX.out
  refine hK2.out _ _ (fun _ _ => hS0) ?_
  clear hK2 K2
  (try simp only [Act.put, List.getElem_toArray, List.getElem_cons_succ, List.getElem_cons_zero, List.setIfInBounds_toArray, List.set_cons_zero, List.set_cons_succ])
  refine wpAnyZ_one (i := 8) rfl (by kernel_rfl) (fun K3 hK3 => ?_)
  go_simp
  with_reducible refine (op_any 5 0 0 0 wo2).mono ?_
  rintro e wo3 ⟨rfl, hb⟩
  have hX2 := HX.out.trans (hb.mono HX.out.size)
  replace HX := hide hX2
  clear hX2 hS0 hb
  have hS0 := HSX.out _ HX.out
  refine hK3.out _ _ (fun _ _ => hS0) ?_
  clear hK3 K3
  (try simp only [Act.put, List.getElem_toArray, List.getElem_cons_succ, List.getElem_cons_zero, List.setIfInBounds_toArray, List.set_cons_zero, List.set_cons_succ])
  refine wpAnyZ_one (i := 9) rfl (by kernel_rfl) (fun K4 hK4 => ?_)
  go_simp
  have hb : Below wo3.heap.size wo3 (wo3.alloc (.cells #[.int .i64 3, .int .i64 0, .int .u64 0, .int .i64 0, .int .u64 0, .int .i64 3, .int .i64 0, .int .u64 0, .int .i64 0, .int .u64 0, .int .i64 1, .int .i64 0, .int .u64 0, .int .i64 0, .int .u64 0, .int .i64 5, .int .i64 0, .int .u64 0, .int .i64 0, .int .u64 0] 43)) := (Below.refl _ _).alloc (Nat.le_refl _) _
  have HSL := hide (show Rd (wo3.alloc (.cells #[.int .i64 3, .int .i64 0, .int .u64 0, .int .i64 0, .int .u64 0, .int .i64 3, .int .i64 0, .int .u64 0, .int .i64 0, .int .u64 0, .int .i64 1, .int .i64 0, .int .u64 0, .int .i64 0, .int .u64 0, .int .i64 5, .int .i64 0, .int .u64 0, .int .i64 0, .int .u64 0] 43)) (wo3.alloc (.cells #[.int .i64 3, .int .i64 0, .int .u64 0, .int .i64 0, .int .u64 0, .int .i64 3, .int .i64 0, .int .u64 0, .int .i64 0, .int .u64 0, .int .i64 1, .int .i64 0, .int .u64 0, .int .i64 0, .int .u64 0, .int .i64 5, .int .i64 0, .int .u64 0, .int .i64 0, .int .u64 0] 43)).heap.size 5 (some ⟨wo3.heap.size, 0, none⟩) 4 (Cs encP wkO) from (Rd.new wo3 #[.int .i64 3, .int .i64 0, .int .u64 0, .int .i64 0, .int .u64 0, .int .i64 3, .int .i64 0, .int .u64 0, .int .i64 0, .int .u64 0, .int .i64 1, .int .i64 0, .int .u64 0, .int .i64 0, .int .u64 0, .int .i64 5, .int .i64 0, .int .u64 0, .int .i64 0, .int .u64 0] 43 5 4 rfl).more (by simp))
  have hX2 := HX.out.trans (hb.mono HX.out.size)
  replace HX := hide hX2
  clear hX2 hS0 hb
  have hS0 := HSX.out _ HX.out
  refine hK4.out _ _ (fun _ _ => hS0) ?_
  clear hK4 K4
  (try simp only [Act.put, List.getElem_toArray, List.getElem_cons_succ, List.getElem_cons_zero, List.setIfInBounds_toArray, List.set_cons_zero, List.set_cons_succ])
  generalize (wo3.alloc (.cells #[.int .i64 3, .int .i64 0, .int .u64 0, .int .i64 0, .int .u64 0, .int .i64 3, .int .i64 0, .int .u64 0, .int .i64 0, .int .u64 0, .int .i64 1, .int .i64 0, .int .u64 0, .int .i64 0, .int .u64 0, .int .i64 5, .int .i64 0, .int .u64 0, .int .i64 0, .int .u64 0] 43)) = wb at *
  refine wpAnyZ_one (i := 10) rfl (by kernel_rfl) (fun K5 hK5 => ?_)
  go_simp
  with_reducible refine (vRun (F := fun j => j ≠ g1) (r := wk0) (HRC.out.below HX.out).val wkF0 _ 4 4 wkO HSL.out rfl (by omega) wkOu).mono ?_
  rintro e w5 ⟨⟨v5, At, nt, ct, rfl, hv, ho, hn⟩, hb⟩
  rw [wkR1] at hv ho hn ⊢
  obtain ⟨B0, Bs, m0, d0, ms, ds, B, m, d, rfl, hr⟩ := hv
  have HV := hide (show RecF (From wb.heap.size) w5 B0 Bs m0 d0 ms ds B m d wk1 from hr)
  have hn : 2 = nt := hn
  subst hn
  have HO := hide (show w5.ownsRow wb.heap.size 41 2 (.slice At 2 ct) 2 (Cs encE [(0, 0), (1, 0)]) from ho)
  have HW5 := hide (show g1 < wb.heap.size from Nat.lt_of_lt_of_le HRW.out.lt HX.out.size)
  have HHB := hide hb
  clear hr ho
  have hX2 := HX.out.trans (hb.mono HX.out.size)
  replace HX := hide hX2
  clear hX2 hS0 hb
  have hS0 := HSX.out _ HX.out
  refine hK5.out _ _ (fun _ _ => hS0) ?_
  clear hK5 K5
  (try simp only [Act.put, List.getElem_toArray, List.getElem_cons_succ, List.getElem_cons_zero, List.setIfInBounds_toArray, List.set_cons_zero, List.set_cons_succ])
  (refine wpAnyZ_takeF (i := 11) (v := ?_) rfl (by kernel_rfl) (by kernel_rfl) (by kernel_rfl) (by kernel_rfl) (fun _ _ _ h => h) (Or.inl ⟨by rfl, ?_⟩) (fun _ => hS0) ?_; rotate_left; (focus (intro w hSw; go_simp; first | done | with_reducible rfl)); (try simp only [Act.put, List.getElem_toArray, List.getElem_cons_succ, List.getElem_cons_zero, List.setIfInBounds_toArray, List.set_cons_zero, List.set_cons_succ]))
  (refine wpAnyZ_takeF (i := 12) (v := ?_) rfl (by kernel_rfl) (by kernel_rfl) (by kernel_rfl) (by kernel_rfl) (fun _ _ _ h => h) (Or.inl ⟨by rfl, ?_⟩) (fun _ => hS0) ?_; rotate_left; (focus (intro w hSw; go_simp; first | done | with_reducible rfl)); (try simp only [Act.put, List.getElem_toArray, List.getElem_cons_succ, List.getElem_cons_zero, List.setIfInBounds_toArray, List.set_cons_zero, List.set_cons_succ]))
  (refine wpAnyZ_takeF (i := 13) (v := ?_) rfl (by kernel_rfl) (by kernel_rfl) (by kernel_rfl) (by kernel_rfl) (fun _ _ _ h => h) (Or.inl ⟨by rfl, ?_⟩) (fun _ => hS0) ?_; rotate_left; (focus (intro w hSw; go_simp; first | done | with_reducible rfl)); (try simp only [Act.put, List.getElem_toArray, List.getElem_cons_succ, List.getElem_cons_zero, List.setIfInBounds_toArray, List.set_cons_zero, List.set_cons_succ]))
  (refine wpAnyZ_takeF (i := 14) (v := ?_) rfl (by kernel_rfl) (by kernel_rfl) (by kernel_rfl) (by kernel_rfl) (fun _ _ _ h => h) (Or.inl ⟨by rfl, ?_⟩) (fun _ => hS0) ?_; rotate_left; (focus (intro w hSw; go_simp; first | done | with_reducible rfl)); (try simp only [Act.put, List.getElem_toArray, List.getElem_cons_succ, List.getElem_cons_zero, List.setIfInBounds_toArray, List.set_cons_zero, List.set_cons_succ]))
  (refine wpAnyZ_takeF (i := 15) (v := ?_) rfl (by kernel_rfl) (by kernel_rfl) (by kernel_rfl) (by kernel_rfl) (fun _ _ _ h => h) (Or.inl ⟨by rfl, ?_⟩) (fun _ => hS0) ?_; rotate_left; (focus (intro w hSw; go_simp; first | done | with_reducible rfl)); (try simp only [Act.put, List.getElem_toArray, List.getElem_cons_succ, List.getElem_cons_zero, List.setIfInBounds_toArray, List.set_cons_zero, List.set_cons_succ]))
  refine wpAnyZ_one (i := 16) rfl (by kernel_rfl) (fun K6 hK6 => ?_)
  clear hS0
  have hrw := HRW.out.below HX.out
  obtain ⟨y0, y1, y2, y3, y4, y5, y6⟩ := row7 hrw
  have yl := hrw.lt
  have yf0 := hrw.frozen 0
  have yf1 := hrw.frozen 1
  have yf2 := hrw.frozen 2
  have yf3 := hrw.frozen 3
  have yf4 := hrw.frozen 4
  have yf5 := hrw.frozen 5
  have yf6 := hrw.frozen 6
  go_simp
  have HLD := hide (show LaidF g1 w5 (((((((w5.setCell ⟨g1, 0, none⟩ (.slice B0 m0 d0)).setCell ⟨g1, 1, none⟩ (.int .u64 wk1.e)).setCell ⟨g1, 2, none⟩ (.slice Bs ms ds)).setCell ⟨g1, 3, none⟩ (.int .u64 (wk1.l.E : Int))).setCell ⟨g1, 4, none⟩ (.slice (B 0) (m 0) (d 0))).setCell ⟨g1, 5, none⟩ (.slice (B 1) (m 1) (d 1))).setCell ⟨g1, 6, none⟩ (.slice (B 2) (m 2) (d 2))) from ((((((((laid0 g1 _).set 0 (.slice B0 m0 d0)).set 1 (.int .u64 wk1.e)).set 2 (.slice Bs ms ds)).set 3 (.int .u64 (wk1.l.E : Int))).set 4 (.slice (B 0) (m 0) (d 0))).set 5 (.slice (B 1) (m 1) (d 1))).set 6 (.slice (B 2) (m 2) (d 2))))
  have HRN := hide (show RowAt (((((((w5.setCell ⟨g1, 0, none⟩ (.slice B0 m0 d0)).setCell ⟨g1, 1, none⟩ (.int .u64 wk1.e)).setCell ⟨g1, 2, none⟩ (.slice Bs ms ds)).setCell ⟨g1, 3, none⟩ (.int .u64 (wk1.l.E : Int))).setCell ⟨g1, 4, none⟩ (.slice (B 0) (m 0) (d 0))).setCell ⟨g1, 5, none⟩ (.slice (B 1) (m 1) (d 1))).setCell ⟨g1, 6, none⟩ (.slice (B 2) (m 2) (d 2))) g1 34 (recC wk1.e wk1.l.E B0 Bs m0 d0 ms ds B m d) from by have h := (((((((hrw.set 0 (.slice B0 m0 d0)).set 1 (.int .u64 wk1.e)).set 2 (.slice Bs ms ds)).set 3 (.int .u64 (wk1.l.E : Int))).set 4 (.slice (B 0) (m 0) (d 0))).set 5 (.slice (B 1) (m 1) (d 1))).set 6 (.slice (B 2) (m 2) (d 2))); simpa using h)
  have HK6 := hide ((HK.out.keep HX.out).put HLD.out HRN.out HV.out HW5.out)
  have HO6 := hide (own_laid HO.out hrw HLD.out)
  clear hrw yl y0 yf0 y1 yf1 y2 yf2 y3 yf3 y4 yf4 y5 yf5 y6 yf6
  generalize (((((((w5.setCell ⟨g1, 0, none⟩ (.slice B0 m0 d0)).setCell ⟨g1, 1, none⟩ (.int .u64 wk1.e)).setCell ⟨g1, 2, none⟩ (.slice Bs ms ds)).setCell ⟨g1, 3, none⟩ (.int .u64 (wk1.l.E : Int))).setCell ⟨g1, 4, none⟩ (.slice (B 0) (m 0) (d 0))).setCell ⟨g1, 5, none⟩ (.slice (B 1) (m 1) (d 1))).setCell ⟨g1, 6, none⟩ (.slice (B 2) (m 2) (d 2))) = w6 at *
  refine hK6.out _ _ (fun h _ => absurd rfl h) ?_
  clear hK6 K6
  (try simp only [Act.put, List.getElem_toArray, List.getElem_cons_succ, List.getElem_cons_zero, List.setIfInBounds_toArray, List.set_cons_zero, List.set_cons_succ])
  refine wpAnyZ_one (i := 17) rfl (by kernel_rfl) (fun K7 hK7 => ?_)
  go_simp
  refine hK7.out _ _ (fun _ h => Bool.noConfusion (show true = false from h)) ?_
  clear hK7 K7
  (try simp only [Act.put, List.getElem_toArray, List.getElem_cons_succ, List.getElem_cons_zero, List.setIfInBounds_toArray, List.set_cons_zero, List.set_cons_succ])
  refine wpAnyZ_one (i := 18) rfl (by kernel_rfl) (fun K8 hK8 => ?_)
  go_simp
  refine hK8.out _ _ (fun _ h => Bool.noConfusion (show true = false from h)) ?_
  clear hK8 K8
  (try simp only [Act.put, List.getElem_toArray, List.getElem_cons_succ, List.getElem_cons_zero, List.setIfInBounds_toArray, List.set_cons_zero, List.set_cons_succ])
  refine wpAnyZ_one (i := 19) rfl (by kernel_rfl) (fun K9 hK9 => ?_)
  go_simp
  refine hK9.out _ _ (fun _ h => Bool.noConfusion (show true = false from h)) ?_
  clear hK9 K9
  (try simp only [Act.put, List.getElem_toArray, List.getElem_cons_succ, List.getElem_cons_zero, List.setIfInBounds_toArray, List.set_cons_zero, List.set_cons_succ])
  refine wpAnyZ_done (by kernel_rfl) ?_ _
  clear HLD HRN HV HO HK HX HSX HRW HRC HSL HHB HW5
  replace HO := HO6
  clear HO6
  have HK := HK6
  clear HK6
  obtain ⟨C0, Cs0, p0, f0, ps, fs, C, q, f, hrow, hrec⟩ := HK.out.box
  have HRW := hide hrow
  have HRC := hide hrec
  obtain ⟨z0, z1, z2, z3, z4, z5, z6⟩ := row7 hrow
  have zl := hrow.lt
  clear hrow hrec
  go_upto_region 4 with (fail)
  go_wp2_with fail
  with_reducible refine (vTry HRC.out.val wkF1).mono ?_
  rintro e wt ⟨⟨v5, A4, nt, k4, rfl, hv, ho, hn⟩, hb⟩
  rw [wkR2] at hv ho hn ⊢
  obtain ⟨B0, Bs, m0, d0, ms, ds, B, m, d, rfl, hr⟩ := hv
  have HV := hide (show RecF (From w6.heap.size) wt B0 Bs m0 d0 ms ds B m d wk2 from hr)
  have hn : 0 = nt := hn
  subst hn
  have HON := hide (show wt.ownsRow w6.heap.size 41 2 (.slice A4 0 k4) 0 (Cs encE []) from ho)
  have HW5 := hide (show g1 < w6.heap.size from HRW.out.lt)
  have HKt := hide (HK.out.keep hb)
  have HOt := hide (own_keepB HO.out hb)
  clear HK HO hr ho z0 z1 z2 z3 z4 z5 z6 zl
  have hrw := HRW.out.below hb
  clear hb
  obtain ⟨y0, y1, y2, y3, y4, y5, y6⟩ := row7 hrw
  have yl := hrw.lt
  have yf0 := hrw.frozen 0
  have yf1 := hrw.frozen 1
  have yf2 := hrw.frozen 2
  have yf3 := hrw.frozen 3
  have yf4 := hrw.frozen 4
  have yf5 := hrw.frozen 5
  have yf6 := hrw.frozen 6
  go_upto_region 5 with (fail)
  have HLD := hide (show LaidF g1 wt (((((((wt.setCell ⟨g1, 0, none⟩ (.slice B0 m0 d0)).setCell ⟨g1, 1, none⟩ (.int .u64 wk2.e)).setCell ⟨g1, 2, none⟩ (.slice Bs ms ds)).setCell ⟨g1, 3, none⟩ (.int .u64 (wk2.l.E : Int))).setCell ⟨g1, 4, none⟩ (.slice (B 0) (m 0) (d 0))).setCell ⟨g1, 5, none⟩ (.slice (B 1) (m 1) (d 1))).setCell ⟨g1, 6, none⟩ (.slice (B 2) (m 2) (d 2))) from ((((((((laid0 g1 _).set 0 (.slice B0 m0 d0)).set 1 (.int .u64 wk2.e)).set 2 (.slice Bs ms ds)).set 3 (.int .u64 (wk2.l.E : Int))).set 4 (.slice (B 0) (m 0) (d 0))).set 5 (.slice (B 1) (m 1) (d 1))).set 6 (.slice (B 2) (m 2) (d 2))))
  have HRN := hide (show RowAt (((((((wt.setCell ⟨g1, 0, none⟩ (.slice B0 m0 d0)).setCell ⟨g1, 1, none⟩ (.int .u64 wk2.e)).setCell ⟨g1, 2, none⟩ (.slice Bs ms ds)).setCell ⟨g1, 3, none⟩ (.int .u64 (wk2.l.E : Int))).setCell ⟨g1, 4, none⟩ (.slice (B 0) (m 0) (d 0))).setCell ⟨g1, 5, none⟩ (.slice (B 1) (m 1) (d 1))).setCell ⟨g1, 6, none⟩ (.slice (B 2) (m 2) (d 2))) g1 34 (recC wk2.e wk2.l.E B0 Bs m0 d0 ms ds B m d) from by have h := (((((((hrw.set 0 (.slice B0 m0 d0)).set 1 (.int .u64 wk2.e)).set 2 (.slice Bs ms ds)).set 3 (.int .u64 (wk2.l.E : Int))).set 4 (.slice (B 0) (m 0) (d 0))).set 5 (.slice (B 1) (m 1) (d 1))).set 6 (.slice (B 2) (m 2) (d 2))); simpa using h)
  have HK := hide (HKt.out.put HLD.out HRN.out HV.out HW5.out)
  have HO := hide (own_laid HOt.out hrw HLD.out)
  have HO4 := hide (own_laid HON.out hrw HLD.out)
  clear hrw yl y0 yf0 y1 yf1 y2 yf2 y3 yf3 y4 yf4 y5 yf5 y6 yf6
  generalize (((((((wt.setCell ⟨g1, 0, none⟩ (.slice B0 m0 d0)).setCell ⟨g1, 1, none⟩ (.int .u64 wk2.e)).setCell ⟨g1, 2, none⟩ (.slice Bs ms ds)).setCell ⟨g1, 3, none⟩ (.int .u64 (wk2.l.E : Int))).setCell ⟨g1, 4, none⟩ (.slice (B 0) (m 0) (d 0))).setCell ⟨g1, 5, none⟩ (.slice (B 1) (m 1) (d 1))).setCell ⟨g1, 6, none⟩ (.slice (B 2) (m 2) (d 2))) = w7 at *
  clear HLD HRN HV HKt HON HRW HRC HW5 HOt
  obtain ⟨C0, Cs0, p0, f0, ps, fs, C, q, f, hrow, hrec⟩ := HK.out.box
  have HRW := hide hrow
  have HRC := hide hrec
  obtain ⟨z0, z1, z2, z3, z4, z5, z6⟩ := row7 hrow
  have zl := hrow.lt
  clear hrow hrec
  go_upto_region 5 with (fail)
  go_wp2_with fail
  with_reducible refine (vTry HRC.out.val wkF2).mono ?_
  rintro e wt ⟨⟨v5, A5, nt, k5, rfl, hv, ho, hn⟩, hb⟩
  rw [wkR3] at hv ho hn ⊢
  obtain ⟨B0, Bs, m0, d0, ms, ds, B, m, d, rfl, hr⟩ := hv
  have HV := hide (show RecF (From w7.heap.size) wt B0 Bs m0 d0 ms ds B m d wk3 from hr)
  have hn : 0 = nt := hn
  subst hn
  have HON := hide (show wt.ownsRow w7.heap.size 41 2 (.slice A5 0 k5) 0 (Cs encE []) from ho)
  have HW5 := hide (show g1 < w7.heap.size from HRW.out.lt)
  have HKt := hide (HK.out.keep hb)
  have HOt := hide (own_keepB HO.out hb)
  clear HK HO hr ho z0 z1 z2 z3 z4 z5 z6 zl
  have hrw := HRW.out.below hb
  clear hb
  obtain ⟨y0, y1, y2, y3, y4, y5, y6⟩ := row7 hrw
  have yl := hrw.lt
  have yf0 := hrw.frozen 0
  have yf1 := hrw.frozen 1
  have yf2 := hrw.frozen 2
  have yf3 := hrw.frozen 3
  have yf4 := hrw.frozen 4
  have yf5 := hrw.frozen 5
  have yf6 := hrw.frozen 6
  go_upto_region 6 with (fail)
  have HLD := hide (show LaidF g1 wt (((((((wt.setCell ⟨g1, 0, none⟩ (.slice B0 m0 d0)).setCell ⟨g1, 1, none⟩ (.int .u64 wk3.e)).setCell ⟨g1, 2, none⟩ (.slice Bs ms ds)).setCell ⟨g1, 3, none⟩ (.int .u64 (wk3.l.E : Int))).setCell ⟨g1, 4, none⟩ (.slice (B 0) (m 0) (d 0))).setCell ⟨g1, 5, none⟩ (.slice (B 1) (m 1) (d 1))).setCell ⟨g1, 6, none⟩ (.slice (B 2) (m 2) (d 2))) from ((((((((laid0 g1 _).set 0 (.slice B0 m0 d0)).set 1 (.int .u64 wk3.e)).set 2 (.slice Bs ms ds)).set 3 (.int .u64 (wk3.l.E : Int))).set 4 (.slice (B 0) (m 0) (d 0))).set 5 (.slice (B 1) (m 1) (d 1))).set 6 (.slice (B 2) (m 2) (d 2))))
  have HRN := hide (show RowAt (((((((wt.setCell ⟨g1, 0, none⟩ (.slice B0 m0 d0)).setCell ⟨g1, 1, none⟩ (.int .u64 wk3.e)).setCell ⟨g1, 2, none⟩ (.slice Bs ms ds)).setCell ⟨g1, 3, none⟩ (.int .u64 (wk3.l.E : Int))).setCell ⟨g1, 4, none⟩ (.slice (B 0) (m 0) (d 0))).setCell ⟨g1, 5, none⟩ (.slice (B 1) (m 1) (d 1))).setCell ⟨g1, 6, none⟩ (.slice (B 2) (m 2) (d 2))) g1 34 (recC wk3.e wk3.l.E B0 Bs m0 d0 ms ds B m d) from by have h := (((((((hrw.set 0 (.slice B0 m0 d0)).set 1 (.int .u64 wk3.e)).set 2 (.slice Bs ms ds)).set 3 (.int .u64 (wk3.l.E : Int))).set 4 (.slice (B 0) (m 0) (d 0))).set 5 (.slice (B 1) (m 1) (d 1))).set 6 (.slice (B 2) (m 2) (d 2))); simpa using h)
  have HK := hide (HKt.out.put HLD.out HRN.out HV.out HW5.out)
  have HO := hide (own_laid HOt.out hrw HLD.out)
  have HO5 := hide (own_laid HON.out hrw HLD.out)
  clear hrw yl y0 yf0 y1 yf1 y2 yf2 y3 yf3 y4 yf4 y5 yf5 y6 yf6
  generalize (((((((wt.setCell ⟨g1, 0, none⟩ (.slice B0 m0 d0)).setCell ⟨g1, 1, none⟩ (.int .u64 wk3.e)).setCell ⟨g1, 2, none⟩ (.slice Bs ms ds)).setCell ⟨g1, 3, none⟩ (.int .u64 (wk3.l.E : Int))).setCell ⟨g1, 4, none⟩ (.slice (B 0) (m 0) (d 0))).setCell ⟨g1, 5, none⟩ (.slice (B 1) (m 1) (d 1))).setCell ⟨g1, 6, none⟩ (.slice (B 2) (m 2) (d 2))) = w8 at *
  clear HLD HRN HV HKt HON HRW HRC HW5 HOt
  obtain ⟨C0, Cs0, p0, f0, ps, fs, C, q, f, hrow, hrec⟩ := HK.out.box
  have HRC := hide hrec
  obtain ⟨z0, z1, z2, z3, z4, z5, z6⟩ := row7 hrow
  have zl := hrow.lt
  clear hrow hrec
  go_upto_region 6 with (fail)
  go_wp2_with fail
  with_reducible refine (vWaits HRC.out.val wkF3.fit 1 wkR3n).mono ?_
  rintro e w9 ⟨rfl, hb⟩
  replace HK := hide (HK.out.keep hb)
  replace HO := hide (own_keepB HO.out hb)
  clear hb HRC z0 z1 z2 z3 z4 z5 z6 zl HO4 HO5
  go_upto_region 7 with (fail)
  go_cut [15] from 59 to 66 (fun s15 wx => s15 = .int .i64 0 ∧ WkB W wx g1 g3 wk4 ∧ wx.ownsRow wb.heap.size 41 2 (.slice At 2 ct) 2 (Cs encE [(0, 0), (1, 0)]))
  case first =>
    obtain ⟨C0, Cs0, p0, f0, ps, fs, C, q, f, hrow, hrec⟩ := HK.out.box
    have HRW := hide hrow
    have HRC := hide hrec
    clear hrow hrec
    have HSX := hide (fun (wX : World) (hgX : Below w9.heap.size w9 wX) => show wX.cell? ⟨g1, 0, none⟩ = some (.slice C0 p0 f0) ∧ wX.cell? ⟨g1, 1, none⟩ = some (.int .u64 wk3.e) ∧ wX.cell? ⟨g1, 2, none⟩ = some (.slice Cs0 ps fs) ∧ wX.cell? ⟨g1, 3, none⟩ = some (.int .u64 (wk3.l.E : Int)) ∧ wX.cell? ⟨g1, 4, none⟩ = some (.slice (C 0) (q 0) (f 0)) ∧ wX.cell? ⟨g1, 5, none⟩ = some (.slice (C 1) (q 1) (f 1)) ∧ wX.cell? ⟨g1, 6, none⟩ = some (.slice (C 2) (q 2) (f 2)) ∧ wX.cell? ⟨g3, 0, none⟩ = some (.int .i64 0) ∧ wX.cell? ⟨g3, 1, none⟩ = some (.int .u64 0) ∧ g1 < wX.heap.size ∧ g3 < wX.heap.size from by
      obtain ⟨z0, z1, z2, z3, z4, z5, z6⟩ := row7 HRW.out
      exact ⟨kept hgX z0, kept hgX z1, kept hgX z2, kept hgX z3, kept hgX z4, kept hgX z5, kept hgX z6, kept hgX (row20 HK.out.ent), kept hgX (row21 HK.out.ent), Nat.lt_of_lt_of_le HRW.out.lt hgX.size, Nat.lt_of_lt_of_le HK.out.ent.lt hgX.size⟩)
    have HX := hide ((Below.refl w9.heap.size w9).drew)
    have HOL := hide (told_lt HO.out)
    refine wp_region_Z (fun wX => wX.cell? ⟨g1, 0, none⟩ = some (.slice C0 p0 f0) ∧ wX.cell? ⟨g1, 1, none⟩ = some (.int .u64 wk3.e) ∧ wX.cell? ⟨g1, 2, none⟩ = some (.slice Cs0 ps fs) ∧ wX.cell? ⟨g1, 3, none⟩ = some (.int .u64 (wk3.l.E : Int)) ∧ wX.cell? ⟨g1, 4, none⟩ = some (.slice (C 0) (q 0) (f 0)) ∧ wX.cell? ⟨g1, 5, none⟩ = some (.slice (C 1) (q 1) (f 1)) ∧ wX.cell? ⟨g1, 6, none⟩ = some (.slice (C 2) (q 2) (f 2)) ∧ wX.cell? ⟨g3, 0, none⟩ = some (.int .i64 0) ∧ wX.cell? ⟨g3, 1, none⟩ = some (.int .u64 0) ∧ g1 < wX.heap.size ∧ g3 < wX.heap.size) 9 (by kernel_rfl) (HSX.out _ HX.out) (fun hHeld => ?_)
    clear hHeld
    have hS0 := HSX.out _ HX.out
    generalize w9.drew = wd at *
    (refine wpAnyZ_take (i := 0) (v := ?_) rfl (by kernel_rfl) (by kernel_rfl) (by kernel_rfl) (by kernel_rfl) (by kernel_rfl) (fun _ _ _ h => h) (Or.inl ⟨by rfl, ?_⟩) (by assumption) ?_; rotate_left; (focus (intro w hSw; (try dsimp only at hSw); obtain ⟨kf0, kf1, kf2, kf3, kf4, kf5, kf6, kf7, kf8, kf9, kf10⟩ := hSw; go_simp; first | done | with_reducible rfl)); (try simp only [Act.put, List.getElem_toArray, List.getElem_cons_succ, List.getElem_cons_zero, List.setIfInBounds_toArray, List.set_cons_zero, List.set_cons_succ]))
    (refine wpAnyZ_take (i := 1) (v := ?_) rfl (by kernel_rfl) (by kernel_rfl) (by kernel_rfl) (by kernel_rfl) (by kernel_rfl) (fun _ _ _ h => h) (Or.inl ⟨by rfl, ?_⟩) (by assumption) ?_; rotate_left; (focus (intro w hSw; (try dsimp only at hSw); obtain ⟨kf0, kf1, kf2, kf3, kf4, kf5, kf6, kf7, kf8, kf9, kf10⟩ := hSw; go_simp; first | done | with_reducible rfl)); (try simp only [Act.put, List.getElem_toArray, List.getElem_cons_succ, List.getElem_cons_zero, List.setIfInBounds_toArray, List.set_cons_zero, List.set_cons_succ]))
    refine wpAnyZ_two (i := 2) (j := 8) rfl rfl (by kernel_rfl) (fun K0 hK0 => ?_) (fun K1 hK1 => ?_)
    ·
      go_simp
      with_reducible refine (op_any 2 0 0 0 wd).mono ?_
      rintro e wo0 ⟨rfl, hb⟩
      have hX2 := HX.out.trans (hb.mono HX.out.size)
      replace HX := hide hX2
      clear hX2 hS0 hb
      have hS0 := HSX.out _ HX.out
      refine hK0.out _ _ (fun _ _ => hS0) ?_
      clear hK0 K0
      (try simp only [Act.put, List.getElem_toArray, List.getElem_cons_succ, List.getElem_cons_zero, List.setIfInBounds_toArray, List.set_cons_zero, List.set_cons_succ])
      refine wpAnyZ_two (i := 3) (j := 8) rfl rfl (by kernel_rfl) (fun K2 hK2 => ?_) (fun K3 hK3 => ?_)
      ·
        go_simp
        with_reducible refine (vDo (HRC.out.below HX.out).val wkF3 ⟨2, 0, 0, (0, 0)⟩ (Int.le_refl _) u64z).mono ?_
        rintro e wc1 ⟨⟨v5, rfl, hv⟩, hb⟩
        rw [wkR4] at hv ⊢
        obtain ⟨B0, Bs, m0, d0, ms, ds, B, m, d, rfl, hr⟩ := hv
        obtain ⟨wcall, hwc⟩ : ∃ n, wo0.heap.size = n := ⟨_, rfl⟩
        have HV := hide (show RecF (fun j => wcall ≤ j) wc1 B0 Bs m0 d0 ms ds B m d wk4 from by rw [← hwc]; exact hr)
        have HGB := hide (show g1 < wcall from by rw [← hwc]; exact Nat.lt_of_lt_of_le HRW.out.lt HX.out.size)
        clear hr hwc
        have hX2 := HX.out.trans (hb.mono HX.out.size)
        replace HX := hide hX2
        clear hX2 hS0 hb
        have hS0 := HSX.out _ HX.out
        refine hK2.out _ _ (fun _ _ => hS0) ?_
        clear hK2 K2
        (try simp only [Act.put, List.getElem_toArray, List.getElem_cons_succ, List.getElem_cons_zero, List.setIfInBounds_toArray, List.set_cons_zero, List.set_cons_succ])
        (refine wpAnyZ_takeF (i := 4) (v := ?_) rfl (by kernel_rfl) (by kernel_rfl) (by kernel_rfl) (by kernel_rfl) (fun _ _ _ h => h) (Or.inl ⟨by rfl, ?_⟩) (fun _ => hS0) ?_; rotate_left; (focus (intro w hSw; go_simp; first | done | with_reducible rfl)); (try simp only [Act.put, List.getElem_toArray, List.getElem_cons_succ, List.getElem_cons_zero, List.setIfInBounds_toArray, List.set_cons_zero, List.set_cons_succ]))
        (refine wpAnyZ_takeF (i := 5) (v := ?_) rfl (by kernel_rfl) (by kernel_rfl) (by kernel_rfl) (by kernel_rfl) (fun _ _ _ h => h) (Or.inl ⟨by rfl, ?_⟩) (fun _ => hS0) ?_; rotate_left; (focus (intro w hSw; go_simp; first | done | with_reducible rfl)); (try simp only [Act.put, List.getElem_toArray, List.getElem_cons_succ, List.getElem_cons_zero, List.setIfInBounds_toArray, List.set_cons_zero, List.set_cons_succ]))
        (refine wpAnyZ_takeF (i := 6) (v := ?_) rfl (by kernel_rfl) (by kernel_rfl) (by kernel_rfl) (by kernel_rfl) (fun _ _ _ h => h) (Or.inl ⟨by rfl, ?_⟩) (fun _ => hS0) ?_; rotate_left; (focus (intro w hSw; go_simp; first | done | with_reducible rfl)); (try simp only [Act.put, List.getElem_toArray, List.getElem_cons_succ, List.getElem_cons_zero, List.setIfInBounds_toArray, List.set_cons_zero, List.set_cons_succ]))
        (refine wpAnyZ_takeF (i := 7) (v := ?_) rfl (by kernel_rfl) (by kernel_rfl) (by kernel_rfl) (by kernel_rfl) (fun _ _ _ h => h) (Or.inl ⟨by rfl, ?_⟩) (fun _ => hS0) ?_; rotate_left; (focus (intro w hSw; go_simp; first | done | with_reducible rfl)); (try simp only [Act.put, List.getElem_toArray, List.getElem_cons_succ, List.getElem_cons_zero, List.setIfInBounds_toArray, List.set_cons_zero, List.set_cons_succ]))
        refine wpAnyZ_one (i := 8) rfl (by kernel_rfl) (fun K4 hK4 => ?_)
        go_simp
        have hb : Below wc1.heap.size wc1 (wc1.alloc (.cells #[.int .i64 0, .int .u64 0] 41)) := (Below.refl _ _).alloc (Nat.le_refl _) _
        have hre := RowAt.new wc1 41 #[.int .i64 0, .int .u64 0]
        have HVG := hide ((HV.out.up (G := fun j => wcall ≤ j ∧ j ≠ wc1.heap.size) (fun j (hj : wcall ≤ j) hl => ⟨hj, by omega⟩)).below hb)
        obtain ⟨ge, hge⟩ : ∃ ge, wc1.heap.size = ge := ⟨_, rfl⟩
        have HGE := hide (show w9.heap.size ≤ ge from by rw [← hge]; exact HX.out.size)
        have HGW := hide (show ge < (wc1.alloc (.cells #[.int .i64 0, .int .u64 0] 41)).heap.size from by rw [World.size_alloc]; omega)
        have hX2 := HX.out.trans (hb.mono HX.out.size)
        replace HX := hide hX2
        rw [hge] at hre HVG ⊢
        have HRE := hide hre
        clear hX2 hS0 hre hb hge
        have hS0 := HSX.out _ HX.out
        generalize (wc1.alloc (.cells #[.int .i64 0, .int .u64 0] 41)) = wa2 at *
        refine hK4.out _ _ (fun _ _ => hS0) ?_
        clear hK4 K4
        (try simp only [Act.put, List.getElem_toArray, List.getElem_cons_succ, List.getElem_cons_zero, List.setIfInBounds_toArray, List.set_cons_zero, List.set_cons_succ])
        refine wpAnyZ_one (i := 9) rfl (by kernel_rfl) (fun K5 hK5 => ?_)
        clear hS0
        have hrw := HRW.out.below HX.out
        obtain ⟨y0, y1, y2, y3, y4, y5, y6⟩ := row7 hrw
        have yl := hrw.lt
        have yf0 := hrw.frozen 0
        have yf1 := hrw.frozen 1
        have yf2 := hrw.frozen 2
        have yf3 := hrw.frozen 3
        have yf4 := hrw.frozen 4
        have yf5 := hrw.frozen 5
        have yf6 := hrw.frozen 6
        go_simp
        have HLD := hide (show LaidF g1 wa2 (((((((wa2.setCell ⟨g1, 0, none⟩ (.slice B0 m0 d0)).setCell ⟨g1, 1, none⟩ (.int .u64 wk4.e)).setCell ⟨g1, 2, none⟩ (.slice Bs ms ds)).setCell ⟨g1, 3, none⟩ (.int .u64 (wk4.l.E : Int))).setCell ⟨g1, 4, none⟩ (.slice (B 0) (m 0) (d 0))).setCell ⟨g1, 5, none⟩ (.slice (B 1) (m 1) (d 1))).setCell ⟨g1, 6, none⟩ (.slice (B 2) (m 2) (d 2))) from ((((((((laid0 g1 _).set 0 (.slice B0 m0 d0)).set 1 (.int .u64 wk4.e)).set 2 (.slice Bs ms ds)).set 3 (.int .u64 (wk4.l.E : Int))).set 4 (.slice (B 0) (m 0) (d 0))).set 5 (.slice (B 1) (m 1) (d 1))).set 6 (.slice (B 2) (m 2) (d 2))))
        have HRN := hide (show RowAt (((((((wa2.setCell ⟨g1, 0, none⟩ (.slice B0 m0 d0)).setCell ⟨g1, 1, none⟩ (.int .u64 wk4.e)).setCell ⟨g1, 2, none⟩ (.slice Bs ms ds)).setCell ⟨g1, 3, none⟩ (.int .u64 (wk4.l.E : Int))).setCell ⟨g1, 4, none⟩ (.slice (B 0) (m 0) (d 0))).setCell ⟨g1, 5, none⟩ (.slice (B 1) (m 1) (d 1))).setCell ⟨g1, 6, none⟩ (.slice (B 2) (m 2) (d 2))) g1 34 (recC wk4.e wk4.l.E B0 Bs m0 d0 ms ds B m d) from by have h := (((((((hrw.set 0 (.slice B0 m0 d0)).set 1 (.int .u64 wk4.e)).set 2 (.slice Bs ms ds)).set 3 (.int .u64 (wk4.l.E : Int))).set 4 (.slice (B 0) (m 0) (d 0))).set 5 (.slice (B 1) (m 1) (d 1))).set 6 (.slice (B 2) (m 2) (d 2))); simpa using h)
        have HOw := hide (own_laid (own_keepB HO.out HX.out) hrw HLD.out)
        clear hrw yl y0 yf0 y1 yf1 y2 yf2 y3 yf3 y4 yf4 y5 yf5 y6 yf6
        generalize (((((((wa2.setCell ⟨g1, 0, none⟩ (.slice B0 m0 d0)).setCell ⟨g1, 1, none⟩ (.int .u64 wk4.e)).setCell ⟨g1, 2, none⟩ (.slice Bs ms ds)).setCell ⟨g1, 3, none⟩ (.int .u64 (wk4.l.E : Int))).setCell ⟨g1, 4, none⟩ (.slice (B 0) (m 0) (d 0))).setCell ⟨g1, 5, none⟩ (.slice (B 1) (m 1) (d 1))).setCell ⟨g1, 6, none⟩ (.slice (B 2) (m 2) (d 2))) = wp at *
        refine hK5.out _ _ (fun h _ => absurd rfl h) ?_
        clear hK5 K5
        (try simp only [Act.put, List.getElem_toArray, List.getElem_cons_succ, List.getElem_cons_zero, List.setIfInBounds_toArray, List.set_cons_zero, List.set_cons_succ])
        refine wpAnyZ_one (i := 10) rfl (by kernel_rfl) (fun K6 hK6 => ?_)
        have hre : RowAt wp ge 41 #[.int .i64 0, .int .u64 0] := (HLD.out.block _ (by have := HGE.out; have := HRW.out.lt; omega)).trans HRE.out
        have u0 := row20 hre
        have u1 := row21 hre
        have ul := hre.lt
        have uf0 := hre.frozen 0
        have uf1 := hre.frozen 1
        go_simp
        have HL2 := hide (show LaidF ge wp ((wp.setCell ⟨ge, 0, none⟩ (.int .i64 0)).setCell ⟨ge, 1, none⟩ (.int .u64 0)) from (((laid0 ge _).set 0 (.int .i64 0)).set 1 (.int .u64 0)))
        clear hre u0 u1 ul uf0 uf1
        generalize ((wp.setCell ⟨ge, 0, none⟩ (.int .i64 0)).setCell ⟨ge, 1, none⟩ (.int .u64 0)) = wq at *
        refine hK6.out _ _ (fun _ h => Bool.noConfusion (show true = false from h)) ?_
        clear hK6 K6
        (try simp only [Act.put, List.getElem_toArray, List.getElem_cons_succ, List.getElem_cons_zero, List.setIfInBounds_toArray, List.set_cons_zero, List.set_cons_succ])
        refine wpAnyZ_one (i := 11) rfl (by kernel_rfl) (fun K7 hK7 => ?_)
        go_simp
        refine hK7.out _ _ (fun _ h => Bool.noConfusion (show true = false from h)) ?_
        clear hK7 K7
        (try simp only [Act.put, List.getElem_toArray, List.getElem_cons_succ, List.getElem_cons_zero, List.setIfInBounds_toArray, List.set_cons_zero, List.set_cons_succ])
        refine wpAnyZ_done (by kernel_rfl) ?_ _
        go_wp2_with fail
        go_meet
        case rel => exact ⟨rfl, (HK.out.keep HX.out).put2 HLD.out HL2.out HRN.out HVG.out HGB.out (by have := HGE.out; have := HRW.out.lt; omega) (by have := HGE.out; have := HK.out.ent.lt; omega) (by have := HGE.out; have := HK.out.below.size; omega), own_up HOw.out HL2.out (fun q hq => by have := (HOL.out q hq).2; have := HGE.out; omega)⟩
      ·
        go_simp
        have hb : Below wo0.heap.size wo0 (wo0.alloc (.cells #[.int .i64 0, .int .u64 0] 41)) := (Below.refl _ _).alloc (Nat.le_refl _) _
        have hre := RowAt.new wo0 41 #[.int .i64 0, .int .u64 0]
        obtain ⟨ge, hge⟩ : ∃ ge, wo0.heap.size = ge := ⟨_, rfl⟩
        have HGE := hide (show w9.heap.size ≤ ge from by rw [← hge]; exact HX.out.size)
        have HGW := hide (show ge < (wo0.alloc (.cells #[.int .i64 0, .int .u64 0] 41)).heap.size from by rw [World.size_alloc]; omega)
        have hX2 := HX.out.trans (hb.mono HX.out.size)
        replace HX := hide hX2
        rw [hge] at hre  ⊢
        have HRE := hide hre
        clear hX2 hS0 hre hb hge
        have hS0 := HSX.out _ HX.out
        generalize (wo0.alloc (.cells #[.int .i64 0, .int .u64 0] 41)) = wa1 at *
        refine hK3.out _ _ (fun _ _ => hS0) ?_
        clear hK3 K3
        (try simp only [Act.put, List.getElem_toArray, List.getElem_cons_succ, List.getElem_cons_zero, List.setIfInBounds_toArray, List.set_cons_zero, List.set_cons_succ])
        refine wpAnyZ_one (i := 3) rfl (by kernel_rfl) (fun K8 hK8 => ?_)
        go_simp
        with_reducible refine (vDo (HRC.out.below HX.out).val wkF3 ⟨2, 0, 0, (0, 0)⟩ (Int.le_refl _) u64z).mono ?_
        rintro e wc2 ⟨⟨v5, rfl, hv⟩, hb⟩
        rw [wkR4] at hv ⊢
        obtain ⟨B0, Bs, m0, d0, ms, ds, B, m, d, rfl, hr⟩ := hv
        obtain ⟨wcall, hwc⟩ : ∃ n, wa1.heap.size = n := ⟨_, rfl⟩
        have HV := hide (show RecF (fun j => wcall ≤ j) wc2 B0 Bs m0 d0 ms ds B m d wk4 from by rw [← hwc]; exact hr)
        have HGB := hide (show g1 < wcall from by rw [← hwc]; exact Nat.lt_of_lt_of_le HRW.out.lt HX.out.size)
        have HVG := hide (HV.out.up (G := fun j => wcall ≤ j ∧ j ≠ ge) (fun j (hj : wcall ≤ j) _ => ⟨hj, by have := HGW.out; omega⟩))
        replace HRE := hide (HRE.out.below hb)
        clear hr hwc
        have hX2 := HX.out.trans (hb.mono HX.out.size)
        replace HX := hide hX2
        clear hX2 hS0 hb
        have hS0 := HSX.out _ HX.out
        refine hK8.out _ _ (fun _ _ => hS0) ?_
        clear hK8 K8
        (try simp only [Act.put, List.getElem_toArray, List.getElem_cons_succ, List.getElem_cons_zero, List.setIfInBounds_toArray, List.set_cons_zero, List.set_cons_succ])
        (refine wpAnyZ_takeF (i := 4) (v := ?_) rfl (by kernel_rfl) (by kernel_rfl) (by kernel_rfl) (by kernel_rfl) (fun _ _ _ h => h) (Or.inl ⟨by rfl, ?_⟩) (fun _ => hS0) ?_; rotate_left; (focus (intro w hSw; go_simp; first | done | with_reducible rfl)); (try simp only [Act.put, List.getElem_toArray, List.getElem_cons_succ, List.getElem_cons_zero, List.setIfInBounds_toArray, List.set_cons_zero, List.set_cons_succ]))
        (refine wpAnyZ_takeF (i := 5) (v := ?_) rfl (by kernel_rfl) (by kernel_rfl) (by kernel_rfl) (by kernel_rfl) (fun _ _ _ h => h) (Or.inl ⟨by rfl, ?_⟩) (fun _ => hS0) ?_; rotate_left; (focus (intro w hSw; go_simp; first | done | with_reducible rfl)); (try simp only [Act.put, List.getElem_toArray, List.getElem_cons_succ, List.getElem_cons_zero, List.setIfInBounds_toArray, List.set_cons_zero, List.set_cons_succ]))
        (refine wpAnyZ_takeF (i := 6) (v := ?_) rfl (by kernel_rfl) (by kernel_rfl) (by kernel_rfl) (by kernel_rfl) (fun _ _ _ h => h) (Or.inl ⟨by rfl, ?_⟩) (fun _ => hS0) ?_; rotate_left; (focus (intro w hSw; go_simp; first | done | with_reducible rfl)); (try simp only [Act.put, List.getElem_toArray, List.getElem_cons_succ, List.getElem_cons_zero, List.setIfInBounds_toArray, List.set_cons_zero, List.set_cons_succ]))
        (refine wpAnyZ_takeF (i := 7) (v := ?_) rfl (by kernel_rfl) (by kernel_rfl) (by kernel_rfl) (by kernel_rfl) (fun _ _ _ h => h) (Or.inl ⟨by rfl, ?_⟩) (fun _ => hS0) ?_; rotate_left; (focus (intro w hSw; go_simp; first | done | with_reducible rfl)); (try simp only [Act.put, List.getElem_toArray, List.getElem_cons_succ, List.getElem_cons_zero, List.setIfInBounds_toArray, List.set_cons_zero, List.set_cons_succ]))
        refine wpAnyZ_one (i := 9) rfl (by kernel_rfl) (fun K9 hK9 => ?_)
        clear hS0
        have hrw := HRW.out.below HX.out
        obtain ⟨y0, y1, y2, y3, y4, y5, y6⟩ := row7 hrw
        have yl := hrw.lt
        have yf0 := hrw.frozen 0
        have yf1 := hrw.frozen 1
        have yf2 := hrw.frozen 2
        have yf3 := hrw.frozen 3
        have yf4 := hrw.frozen 4
        have yf5 := hrw.frozen 5
        have yf6 := hrw.frozen 6
        go_simp
        have HLD := hide (show LaidF g1 wc2 (((((((wc2.setCell ⟨g1, 0, none⟩ (.slice B0 m0 d0)).setCell ⟨g1, 1, none⟩ (.int .u64 wk4.e)).setCell ⟨g1, 2, none⟩ (.slice Bs ms ds)).setCell ⟨g1, 3, none⟩ (.int .u64 (wk4.l.E : Int))).setCell ⟨g1, 4, none⟩ (.slice (B 0) (m 0) (d 0))).setCell ⟨g1, 5, none⟩ (.slice (B 1) (m 1) (d 1))).setCell ⟨g1, 6, none⟩ (.slice (B 2) (m 2) (d 2))) from ((((((((laid0 g1 _).set 0 (.slice B0 m0 d0)).set 1 (.int .u64 wk4.e)).set 2 (.slice Bs ms ds)).set 3 (.int .u64 (wk4.l.E : Int))).set 4 (.slice (B 0) (m 0) (d 0))).set 5 (.slice (B 1) (m 1) (d 1))).set 6 (.slice (B 2) (m 2) (d 2))))
        have HRN := hide (show RowAt (((((((wc2.setCell ⟨g1, 0, none⟩ (.slice B0 m0 d0)).setCell ⟨g1, 1, none⟩ (.int .u64 wk4.e)).setCell ⟨g1, 2, none⟩ (.slice Bs ms ds)).setCell ⟨g1, 3, none⟩ (.int .u64 (wk4.l.E : Int))).setCell ⟨g1, 4, none⟩ (.slice (B 0) (m 0) (d 0))).setCell ⟨g1, 5, none⟩ (.slice (B 1) (m 1) (d 1))).setCell ⟨g1, 6, none⟩ (.slice (B 2) (m 2) (d 2))) g1 34 (recC wk4.e wk4.l.E B0 Bs m0 d0 ms ds B m d) from by have h := (((((((hrw.set 0 (.slice B0 m0 d0)).set 1 (.int .u64 wk4.e)).set 2 (.slice Bs ms ds)).set 3 (.int .u64 (wk4.l.E : Int))).set 4 (.slice (B 0) (m 0) (d 0))).set 5 (.slice (B 1) (m 1) (d 1))).set 6 (.slice (B 2) (m 2) (d 2))); simpa using h)
        have HOw := hide (own_laid (own_keepB HO.out HX.out) hrw HLD.out)
        clear hrw yl y0 yf0 y1 yf1 y2 yf2 y3 yf3 y4 yf4 y5 yf5 y6 yf6
        generalize (((((((wc2.setCell ⟨g1, 0, none⟩ (.slice B0 m0 d0)).setCell ⟨g1, 1, none⟩ (.int .u64 wk4.e)).setCell ⟨g1, 2, none⟩ (.slice Bs ms ds)).setCell ⟨g1, 3, none⟩ (.int .u64 (wk4.l.E : Int))).setCell ⟨g1, 4, none⟩ (.slice (B 0) (m 0) (d 0))).setCell ⟨g1, 5, none⟩ (.slice (B 1) (m 1) (d 1))).setCell ⟨g1, 6, none⟩ (.slice (B 2) (m 2) (d 2))) = wp at *
        refine hK9.out _ _ (fun h _ => absurd rfl h) ?_
        clear hK9 K9
        (try simp only [Act.put, List.getElem_toArray, List.getElem_cons_succ, List.getElem_cons_zero, List.setIfInBounds_toArray, List.set_cons_zero, List.set_cons_succ])
        refine wpAnyZ_one (i := 10) rfl (by kernel_rfl) (fun K10 hK10 => ?_)
        have hre : RowAt wp ge 41 #[.int .i64 0, .int .u64 0] := (HLD.out.block _ (by have := HGE.out; have := HRW.out.lt; omega)).trans HRE.out
        have u0 := row20 hre
        have u1 := row21 hre
        have ul := hre.lt
        have uf0 := hre.frozen 0
        have uf1 := hre.frozen 1
        go_simp
        have HL2 := hide (show LaidF ge wp ((wp.setCell ⟨ge, 0, none⟩ (.int .i64 0)).setCell ⟨ge, 1, none⟩ (.int .u64 0)) from (((laid0 ge _).set 0 (.int .i64 0)).set 1 (.int .u64 0)))
        clear hre u0 u1 ul uf0 uf1
        generalize ((wp.setCell ⟨ge, 0, none⟩ (.int .i64 0)).setCell ⟨ge, 1, none⟩ (.int .u64 0)) = wq at *
        refine hK10.out _ _ (fun _ h => Bool.noConfusion (show true = false from h)) ?_
        clear hK10 K10
        (try simp only [Act.put, List.getElem_toArray, List.getElem_cons_succ, List.getElem_cons_zero, List.setIfInBounds_toArray, List.set_cons_zero, List.set_cons_succ])
        refine wpAnyZ_one (i := 11) rfl (by kernel_rfl) (fun K11 hK11 => ?_)
        go_simp
        refine hK11.out _ _ (fun _ h => Bool.noConfusion (show true = false from h)) ?_
        clear hK11 K11
        (try simp only [Act.put, List.getElem_toArray, List.getElem_cons_succ, List.getElem_cons_zero, List.setIfInBounds_toArray, List.set_cons_zero, List.set_cons_succ])
        refine wpAnyZ_done (by kernel_rfl) ?_ _
        go_wp2_with fail
        go_meet
        case rel => exact ⟨rfl, (HK.out.keep HX.out).put2 HLD.out HL2.out HRN.out HVG.out HGB.out (by have := HGE.out; have := HRW.out.lt; omega) (by have := HGE.out; have := HK.out.ent.lt; omega) (by have := HGE.out; have := HK.out.below.size; omega), own_up HOw.out HL2.out (fun q hq => by have := (HOL.out q hq).2; have := HGE.out; omega)⟩
    ·
      go_simp
      have hb : Below wd.heap.size wd (wd.alloc (.cells #[.int .i64 0, .int .u64 0] 41)) := (Below.refl _ _).alloc (Nat.le_refl _) _
      have hre := RowAt.new wd 41 #[.int .i64 0, .int .u64 0]
      obtain ⟨ge, hge⟩ : ∃ ge, wd.heap.size = ge := ⟨_, rfl⟩
      have HGE := hide (show w9.heap.size ≤ ge from by rw [← hge]; exact HX.out.size)
      have HGW := hide (show ge < (wd.alloc (.cells #[.int .i64 0, .int .u64 0] 41)).heap.size from by rw [World.size_alloc]; omega)
      have hX2 := HX.out.trans (hb.mono HX.out.size)
      replace HX := hide hX2
      rw [hge] at hre  ⊢
      have HRE := hide hre
      clear hX2 hS0 hre hb hge
      have hS0 := HSX.out _ HX.out
      generalize (wd.alloc (.cells #[.int .i64 0, .int .u64 0] 41)) = wa0 at *
      refine hK1.out _ _ (fun _ _ => hS0) ?_
      clear hK1 K1
      (try simp only [Act.put, List.getElem_toArray, List.getElem_cons_succ, List.getElem_cons_zero, List.setIfInBounds_toArray, List.set_cons_zero, List.set_cons_succ])
      refine wpAnyZ_one (i := 2) rfl (by kernel_rfl) (fun K12 hK12 => ?_)
      go_simp
      with_reducible refine (op_any 2 0 0 0 wa0).mono ?_
      rintro e wo1 ⟨rfl, hb⟩
      have HGW2 := hide (Nat.lt_of_lt_of_le HGW.out hb.size)
      replace HRE := hide (HRE.out.below hb)
      replace HGW := HGW2
      clear HGW2
      have hX2 := HX.out.trans (hb.mono HX.out.size)
      replace HX := hide hX2
      clear hX2 hS0 hb
      have hS0 := HSX.out _ HX.out
      refine hK12.out _ _ (fun _ _ => hS0) ?_
      clear hK12 K12
      (try simp only [Act.put, List.getElem_toArray, List.getElem_cons_succ, List.getElem_cons_zero, List.setIfInBounds_toArray, List.set_cons_zero, List.set_cons_succ])
      refine wpAnyZ_one (i := 3) rfl (by kernel_rfl) (fun K13 hK13 => ?_)
      go_simp
      with_reducible refine (vDo (HRC.out.below HX.out).val wkF3 ⟨2, 0, 0, (0, 0)⟩ (Int.le_refl _) u64z).mono ?_
      rintro e wc2 ⟨⟨v5, rfl, hv⟩, hb⟩
      rw [wkR4] at hv ⊢
      obtain ⟨B0, Bs, m0, d0, ms, ds, B, m, d, rfl, hr⟩ := hv
      obtain ⟨wcall, hwc⟩ : ∃ n, wo1.heap.size = n := ⟨_, rfl⟩
      have HV := hide (show RecF (fun j => wcall ≤ j) wc2 B0 Bs m0 d0 ms ds B m d wk4 from by rw [← hwc]; exact hr)
      have HGB := hide (show g1 < wcall from by rw [← hwc]; exact Nat.lt_of_lt_of_le HRW.out.lt HX.out.size)
      have HVG := hide (HV.out.up (G := fun j => wcall ≤ j ∧ j ≠ ge) (fun j (hj : wcall ≤ j) _ => ⟨hj, by have := HGW.out; omega⟩))
      replace HRE := hide (HRE.out.below hb)
      clear hr hwc
      have hX2 := HX.out.trans (hb.mono HX.out.size)
      replace HX := hide hX2
      clear hX2 hS0 hb
      have hS0 := HSX.out _ HX.out
      refine hK13.out _ _ (fun _ _ => hS0) ?_
      clear hK13 K13
      (try simp only [Act.put, List.getElem_toArray, List.getElem_cons_succ, List.getElem_cons_zero, List.setIfInBounds_toArray, List.set_cons_zero, List.set_cons_succ])
      (refine wpAnyZ_takeF (i := 4) (v := ?_) rfl (by kernel_rfl) (by kernel_rfl) (by kernel_rfl) (by kernel_rfl) (fun _ _ _ h => h) (Or.inl ⟨by rfl, ?_⟩) (fun _ => hS0) ?_; rotate_left; (focus (intro w hSw; go_simp; first | done | with_reducible rfl)); (try simp only [Act.put, List.getElem_toArray, List.getElem_cons_succ, List.getElem_cons_zero, List.setIfInBounds_toArray, List.set_cons_zero, List.set_cons_succ]))
      (refine wpAnyZ_takeF (i := 5) (v := ?_) rfl (by kernel_rfl) (by kernel_rfl) (by kernel_rfl) (by kernel_rfl) (fun _ _ _ h => h) (Or.inl ⟨by rfl, ?_⟩) (fun _ => hS0) ?_; rotate_left; (focus (intro w hSw; go_simp; first | done | with_reducible rfl)); (try simp only [Act.put, List.getElem_toArray, List.getElem_cons_succ, List.getElem_cons_zero, List.setIfInBounds_toArray, List.set_cons_zero, List.set_cons_succ]))
      (refine wpAnyZ_takeF (i := 6) (v := ?_) rfl (by kernel_rfl) (by kernel_rfl) (by kernel_rfl) (by kernel_rfl) (fun _ _ _ h => h) (Or.inl ⟨by rfl, ?_⟩) (fun _ => hS0) ?_; rotate_left; (focus (intro w hSw; go_simp; first | done | with_reducible rfl)); (try simp only [Act.put, List.getElem_toArray, List.getElem_cons_succ, List.getElem_cons_zero, List.setIfInBounds_toArray, List.set_cons_zero, List.set_cons_succ]))
      (refine wpAnyZ_takeF (i := 7) (v := ?_) rfl (by kernel_rfl) (by kernel_rfl) (by kernel_rfl) (by kernel_rfl) (fun _ _ _ h => h) (Or.inl ⟨by rfl, ?_⟩) (fun _ => hS0) ?_; rotate_left; (focus (intro w hSw; go_simp; first | done | with_reducible rfl)); (try simp only [Act.put, List.getElem_toArray, List.getElem_cons_succ, List.getElem_cons_zero, List.setIfInBounds_toArray, List.set_cons_zero, List.set_cons_succ]))
      refine wpAnyZ_one (i := 9) rfl (by kernel_rfl) (fun K14 hK14 => ?_)
      clear hS0
      have hrw := HRW.out.below HX.out
      obtain ⟨y0, y1, y2, y3, y4, y5, y6⟩ := row7 hrw
      have yl := hrw.lt
      have yf0 := hrw.frozen 0
      have yf1 := hrw.frozen 1
      have yf2 := hrw.frozen 2
      have yf3 := hrw.frozen 3
      have yf4 := hrw.frozen 4
      have yf5 := hrw.frozen 5
      have yf6 := hrw.frozen 6
      go_simp
      have HLD := hide (show LaidF g1 wc2 (((((((wc2.setCell ⟨g1, 0, none⟩ (.slice B0 m0 d0)).setCell ⟨g1, 1, none⟩ (.int .u64 wk4.e)).setCell ⟨g1, 2, none⟩ (.slice Bs ms ds)).setCell ⟨g1, 3, none⟩ (.int .u64 (wk4.l.E : Int))).setCell ⟨g1, 4, none⟩ (.slice (B 0) (m 0) (d 0))).setCell ⟨g1, 5, none⟩ (.slice (B 1) (m 1) (d 1))).setCell ⟨g1, 6, none⟩ (.slice (B 2) (m 2) (d 2))) from ((((((((laid0 g1 _).set 0 (.slice B0 m0 d0)).set 1 (.int .u64 wk4.e)).set 2 (.slice Bs ms ds)).set 3 (.int .u64 (wk4.l.E : Int))).set 4 (.slice (B 0) (m 0) (d 0))).set 5 (.slice (B 1) (m 1) (d 1))).set 6 (.slice (B 2) (m 2) (d 2))))
      have HRN := hide (show RowAt (((((((wc2.setCell ⟨g1, 0, none⟩ (.slice B0 m0 d0)).setCell ⟨g1, 1, none⟩ (.int .u64 wk4.e)).setCell ⟨g1, 2, none⟩ (.slice Bs ms ds)).setCell ⟨g1, 3, none⟩ (.int .u64 (wk4.l.E : Int))).setCell ⟨g1, 4, none⟩ (.slice (B 0) (m 0) (d 0))).setCell ⟨g1, 5, none⟩ (.slice (B 1) (m 1) (d 1))).setCell ⟨g1, 6, none⟩ (.slice (B 2) (m 2) (d 2))) g1 34 (recC wk4.e wk4.l.E B0 Bs m0 d0 ms ds B m d) from by have h := (((((((hrw.set 0 (.slice B0 m0 d0)).set 1 (.int .u64 wk4.e)).set 2 (.slice Bs ms ds)).set 3 (.int .u64 (wk4.l.E : Int))).set 4 (.slice (B 0) (m 0) (d 0))).set 5 (.slice (B 1) (m 1) (d 1))).set 6 (.slice (B 2) (m 2) (d 2))); simpa using h)
      have HOw := hide (own_laid (own_keepB HO.out HX.out) hrw HLD.out)
      clear hrw yl y0 yf0 y1 yf1 y2 yf2 y3 yf3 y4 yf4 y5 yf5 y6 yf6
      generalize (((((((wc2.setCell ⟨g1, 0, none⟩ (.slice B0 m0 d0)).setCell ⟨g1, 1, none⟩ (.int .u64 wk4.e)).setCell ⟨g1, 2, none⟩ (.slice Bs ms ds)).setCell ⟨g1, 3, none⟩ (.int .u64 (wk4.l.E : Int))).setCell ⟨g1, 4, none⟩ (.slice (B 0) (m 0) (d 0))).setCell ⟨g1, 5, none⟩ (.slice (B 1) (m 1) (d 1))).setCell ⟨g1, 6, none⟩ (.slice (B 2) (m 2) (d 2))) = wp at *
      refine hK14.out _ _ (fun h _ => absurd rfl h) ?_
      clear hK14 K14
      (try simp only [Act.put, List.getElem_toArray, List.getElem_cons_succ, List.getElem_cons_zero, List.setIfInBounds_toArray, List.set_cons_zero, List.set_cons_succ])
      refine wpAnyZ_one (i := 10) rfl (by kernel_rfl) (fun K15 hK15 => ?_)
      have hre : RowAt wp ge 41 #[.int .i64 0, .int .u64 0] := (HLD.out.block _ (by have := HGE.out; have := HRW.out.lt; omega)).trans HRE.out
      have u0 := row20 hre
      have u1 := row21 hre
      have ul := hre.lt
      have uf0 := hre.frozen 0
      have uf1 := hre.frozen 1
      go_simp
      have HL2 := hide (show LaidF ge wp ((wp.setCell ⟨ge, 0, none⟩ (.int .i64 0)).setCell ⟨ge, 1, none⟩ (.int .u64 0)) from (((laid0 ge _).set 0 (.int .i64 0)).set 1 (.int .u64 0)))
      clear hre u0 u1 ul uf0 uf1
      generalize ((wp.setCell ⟨ge, 0, none⟩ (.int .i64 0)).setCell ⟨ge, 1, none⟩ (.int .u64 0)) = wq at *
      refine hK15.out _ _ (fun _ h => Bool.noConfusion (show true = false from h)) ?_
      clear hK15 K15
      (try simp only [Act.put, List.getElem_toArray, List.getElem_cons_succ, List.getElem_cons_zero, List.setIfInBounds_toArray, List.set_cons_zero, List.set_cons_succ])
      refine wpAnyZ_one (i := 11) rfl (by kernel_rfl) (fun K16 hK16 => ?_)
      go_simp
      refine hK16.out _ _ (fun _ h => Bool.noConfusion (show true = false from h)) ?_
      clear hK16 K16
      (try simp only [Act.put, List.getElem_toArray, List.getElem_cons_succ, List.getElem_cons_zero, List.setIfInBounds_toArray, List.set_cons_zero, List.set_cons_succ])
      refine wpAnyZ_done (by kernel_rfl) ?_ _
      go_wp2_with fail
      go_meet
      case rel => exact ⟨rfl, (HK.out.keep HX.out).put2 HLD.out HL2.out HRN.out HVG.out HGB.out (by have := HGE.out; have := HRW.out.lt; omega) (by have := HGE.out; have := HK.out.ent.lt; omega) (by have := HGE.out; have := HK.out.below.size; omega), own_up HOw.out HL2.out (fun q hq => by have := (HOL.out q hq).2; have := HGE.out; omega)⟩
  case rest =>
    rename_i K hK
    refine hK _ _ ?_
    clear hK K
    obtain ⟨wx, hwx⟩ : ∃ w, w = wc := ⟨_, rfl⟩
    subst hwx
    obtain ⟨rfl, hk, ho⟩ := hcut
    clear HK HO
    have HK := hide hk
    have HO := hide ho
    clear hk ho
    skip
    obtain ⟨C0, Cs0, p0, f0, ps, fs, C, q, f, hrow, hrec⟩ := HK.out.box
    have HRW := hide hrow
    have HRC := hide hrec
    obtain ⟨z0, z1, z2, z3, z4, z5, z6⟩ := row7 hrow
    have zl := hrow.lt
    clear hrow hrec
    go_upto_region 8 with (fail)
    go_wp2_with fail
    with_reducible refine (vTry HRC.out.val wkF4).mono ?_
    rintro e wt ⟨⟨v5, A8, nt, k8, rfl, hv, ho, hn⟩, hb⟩
    rw [wkR5] at hv ho hn ⊢
    obtain ⟨B0, Bs, m0, d0, ms, ds, B, m, d, rfl, hr⟩ := hv
    have HV := hide (show RecF (From wx.heap.size) wt B0 Bs m0 d0 ms ds B m d wk5 from hr)
    have hn : 1 = nt := hn
    subst hn
    have HON := hide (show wt.ownsRow wx.heap.size 41 2 (.slice A8 1 k8) 1 (Cs encE [(0, 0)]) from ho)
    have HW5 := hide (show g1 < wx.heap.size from HRW.out.lt)
    have HKt := hide (HK.out.keep hb)
    have HOt := hide (own_keepB HO.out hb)
    clear HK HO hr ho z0 z1 z2 z3 z4 z5 z6 zl
    have hrw := HRW.out.below hb
    clear hb
    obtain ⟨y0, y1, y2, y3, y4, y5, y6⟩ := row7 hrw
    have yl := hrw.lt
    have yf0 := hrw.frozen 0
    have yf1 := hrw.frozen 1
    have yf2 := hrw.frozen 2
    have yf3 := hrw.frozen 3
    have yf4 := hrw.frozen 4
    have yf5 := hrw.frozen 5
    have yf6 := hrw.frozen 6
    go_upto_region 9 with (fail)
    have HLD := hide (show LaidF g1 wt (((((((wt.setCell ⟨g1, 0, none⟩ (.slice B0 m0 d0)).setCell ⟨g1, 1, none⟩ (.int .u64 wk5.e)).setCell ⟨g1, 2, none⟩ (.slice Bs ms ds)).setCell ⟨g1, 3, none⟩ (.int .u64 (wk5.l.E : Int))).setCell ⟨g1, 4, none⟩ (.slice (B 0) (m 0) (d 0))).setCell ⟨g1, 5, none⟩ (.slice (B 1) (m 1) (d 1))).setCell ⟨g1, 6, none⟩ (.slice (B 2) (m 2) (d 2))) from ((((((((laid0 g1 _).set 0 (.slice B0 m0 d0)).set 1 (.int .u64 wk5.e)).set 2 (.slice Bs ms ds)).set 3 (.int .u64 (wk5.l.E : Int))).set 4 (.slice (B 0) (m 0) (d 0))).set 5 (.slice (B 1) (m 1) (d 1))).set 6 (.slice (B 2) (m 2) (d 2))))
    have HRN := hide (show RowAt (((((((wt.setCell ⟨g1, 0, none⟩ (.slice B0 m0 d0)).setCell ⟨g1, 1, none⟩ (.int .u64 wk5.e)).setCell ⟨g1, 2, none⟩ (.slice Bs ms ds)).setCell ⟨g1, 3, none⟩ (.int .u64 (wk5.l.E : Int))).setCell ⟨g1, 4, none⟩ (.slice (B 0) (m 0) (d 0))).setCell ⟨g1, 5, none⟩ (.slice (B 1) (m 1) (d 1))).setCell ⟨g1, 6, none⟩ (.slice (B 2) (m 2) (d 2))) g1 34 (recC wk5.e wk5.l.E B0 Bs m0 d0 ms ds B m d) from by have h := (((((((hrw.set 0 (.slice B0 m0 d0)).set 1 (.int .u64 wk5.e)).set 2 (.slice Bs ms ds)).set 3 (.int .u64 (wk5.l.E : Int))).set 4 (.slice (B 0) (m 0) (d 0))).set 5 (.slice (B 1) (m 1) (d 1))).set 6 (.slice (B 2) (m 2) (d 2))); simpa using h)
    have HK := hide (HKt.out.put HLD.out HRN.out HV.out HW5.out)
    have HO := hide (own_laid HOt.out hrw HLD.out)
    have HO8 := hide (own_laid HON.out hrw HLD.out)
    clear hrw yl y0 yf0 y1 yf1 y2 yf2 y3 yf3 y4 yf4 y5 yf5 y6 yf6
    generalize (((((((wt.setCell ⟨g1, 0, none⟩ (.slice B0 m0 d0)).setCell ⟨g1, 1, none⟩ (.int .u64 wk5.e)).setCell ⟨g1, 2, none⟩ (.slice Bs ms ds)).setCell ⟨g1, 3, none⟩ (.int .u64 (wk5.l.E : Int))).setCell ⟨g1, 4, none⟩ (.slice (B 0) (m 0) (d 0))).setCell ⟨g1, 5, none⟩ (.slice (B 1) (m 1) (d 1))).setCell ⟨g1, 6, none⟩ (.slice (B 2) (m 2) (d 2))) = wy at *
    clear HLD HRN HV HKt HON HRW HRC HW5 HOt
    go_cut [21] from 74 to 81 (fun s21 wx => s21 = .int .i64 4 ∧ Below wy.heap.size wy wx)
    case first =>
      obtain ⟨C0, Cs0, p0, f0, ps, fs, C, q, f, hrow, hrec⟩ := HK.out.box
      have HRW := hide hrow
      have HRC := hide hrec
      clear hrow hrec
      have HSX := hide (fun (wX : World) (hgX : Below wy.heap.size wy wX) => show wX.cell? ⟨g1, 0, none⟩ = some (.slice C0 p0 f0) ∧ wX.cell? ⟨g1, 1, none⟩ = some (.int .u64 wk5.e) ∧ wX.cell? ⟨g1, 2, none⟩ = some (.slice Cs0 ps fs) ∧ wX.cell? ⟨g1, 3, none⟩ = some (.int .u64 (wk5.l.E : Int)) ∧ wX.cell? ⟨g1, 4, none⟩ = some (.slice (C 0) (q 0) (f 0)) ∧ wX.cell? ⟨g1, 5, none⟩ = some (.slice (C 1) (q 1) (f 1)) ∧ wX.cell? ⟨g1, 6, none⟩ = some (.slice (C 2) (q 2) (f 2)) ∧ wX.cell? ⟨g3, 0, none⟩ = some (.int .i64 0) ∧ wX.cell? ⟨g3, 1, none⟩ = some (.int .u64 0) ∧ g1 < wX.heap.size ∧ g3 < wX.heap.size from by
        obtain ⟨z0, z1, z2, z3, z4, z5, z6⟩ := row7 HRW.out
        exact ⟨kept hgX z0, kept hgX z1, kept hgX z2, kept hgX z3, kept hgX z4, kept hgX z5, kept hgX z6, kept hgX (row20 HK.out.ent), kept hgX (row21 HK.out.ent), Nat.lt_of_lt_of_le HRW.out.lt hgX.size, Nat.lt_of_lt_of_le HK.out.ent.lt hgX.size⟩)
      have HX := hide ((Below.refl wy.heap.size wy).drew)
      refine wp_region_held_drew (S := fun wX => wX.cell? ⟨g1, 0, none⟩ = some (.slice C0 p0 f0) ∧ wX.cell? ⟨g1, 1, none⟩ = some (.int .u64 wk5.e) ∧ wX.cell? ⟨g1, 2, none⟩ = some (.slice Cs0 ps fs) ∧ wX.cell? ⟨g1, 3, none⟩ = some (.int .u64 (wk5.l.E : Int)) ∧ wX.cell? ⟨g1, 4, none⟩ = some (.slice (C 0) (q 0) (f 0)) ∧ wX.cell? ⟨g1, 5, none⟩ = some (.slice (C 1) (q 1) (f 1)) ∧ wX.cell? ⟨g1, 6, none⟩ = some (.slice (C 2) (q 2) (f 2)) ∧ wX.cell? ⟨g3, 0, none⟩ = some (.int .i64 0) ∧ wX.cell? ⟨g3, 1, none⟩ = some (.int .u64 0) ∧ g1 < wX.heap.size ∧ g3 < wX.heap.size) (by kernel_rfl) (HSX.out _ HX.out) (fun hHeld => ?_)
      clear hHeld
      have hS0 := HSX.out _ HX.out
      generalize wy.drew = wd at *
      (refine wpAnyH_take (i := 0) (v := ?_) rfl (by kernel_rfl) (by kernel_rfl) (by kernel_rfl) (fun _ _ _ h => h) (Or.inl ⟨by rfl, ?_⟩) (by assumption) ?_; rotate_left; (focus (intro w hSw; (try dsimp only at hSw); obtain ⟨kf0, kf1, kf2, kf3, kf4, kf5, kf6, kf7, kf8, kf9, kf10⟩ := hSw; go_simp; first | done | with_reducible rfl)); (try simp only [Act.put, List.getElem_toArray, List.getElem_cons_succ, List.getElem_cons_zero, List.setIfInBounds_toArray, List.set_cons_zero, List.set_cons_succ]))
      (refine wpAnyH_take (i := 1) (v := ?_) rfl (by kernel_rfl) (by kernel_rfl) (by kernel_rfl) (fun _ _ _ h => h) (Or.inl ⟨by rfl, ?_⟩) (by assumption) ?_; rotate_left; (focus (intro w hSw; (try dsimp only at hSw); obtain ⟨kf0, kf1, kf2, kf3, kf4, kf5, kf6, kf7, kf8, kf9, kf10⟩ := hSw; go_simp; first | done | with_reducible rfl)); (try simp only [Act.put, List.getElem_toArray, List.getElem_cons_succ, List.getElem_cons_zero, List.setIfInBounds_toArray, List.set_cons_zero, List.set_cons_succ]))
      refine wpAnyH_ready (rs := [2, 8, 9]) (by kernel_rfl) (by simp) ?_
      refine (AllReadyH.cons rfl (fun K0 hK0 => ?_) (AllReadyH.cons rfl (fun K1 hK1 => ?_) (AllReadyH.cons rfl (fun K2 hK2 => ?_) AllReadyH.nil)))
      ·
        go_simp
        with_reducible refine (op_any 6 0 0 0 wd).mono ?_
        rintro e wo0 ⟨rfl, hb⟩
        have hX2 := HX.out.trans (hb.mono HX.out.size)
        replace HX := hide hX2
        clear hX2 hS0 hb
        have hS0 := HSX.out _ HX.out
        refine hK0.out _ _ (hS0) (fun _ => ?_)
        clear hK0 K0
        (try simp only [Act.put, List.getElem_toArray, List.getElem_cons_succ, List.getElem_cons_zero, List.setIfInBounds_toArray, List.set_cons_zero, List.set_cons_succ])
        refine wpAnyH_ready (rs := [3, 8, 9]) (by kernel_rfl) (by simp) ?_
        refine (AllReadyH.cons rfl (fun K3 hK3 => ?_) (AllReadyH.cons rfl (fun K4 hK4 => ?_) (AllReadyH.cons rfl (fun K5 hK5 => ?_) AllReadyH.nil)))
        ·
          go_simp
          with_reducible refine (vDo (HRC.out.below HX.out).val wkF5 ⟨6, 0, 0, (0, 0)⟩ (Int.le_refl _) u64z).mono ?_
          rintro e wo1 ⟨⟨v5, rfl, hv⟩, hb⟩
          rw [wkR6] at hv ⊢
          obtain ⟨B0, Bs, m0, d0, ms, ds, B, m, d, rfl, hr⟩ := hv
          clear hr
          have hX2 := HX.out.trans (hb.mono HX.out.size)
          replace HX := hide hX2
          clear hX2 hS0 hb
          have hS0 := HSX.out _ HX.out
          refine hK3.out _ _ (hS0) (fun _ => ?_)
          clear hK3 K3
          (try simp only [Act.put, List.getElem_toArray, List.getElem_cons_succ, List.getElem_cons_zero, List.setIfInBounds_toArray, List.set_cons_zero, List.set_cons_succ])
          (refine wpAnyH_take (i := 4) (v := ?_) rfl (by kernel_rfl) (by kernel_rfl) (by kernel_rfl) (fun _ _ _ h => h) (Or.inl ⟨by rfl, ?_⟩) (by assumption) ?_; rotate_left; (focus (intro w hSw; (try dsimp only at hSw); obtain ⟨kf0, kf1, kf2, kf3, kf4, kf5, kf6, kf7, kf8, kf9, kf10⟩ := hSw; go_simp; first | done | with_reducible rfl)); (try simp only [Act.put, List.getElem_toArray, List.getElem_cons_succ, List.getElem_cons_zero, List.setIfInBounds_toArray, List.set_cons_zero, List.set_cons_succ]))
          (refine wpAnyH_take (i := 5) (v := ?_) rfl (by kernel_rfl) (by kernel_rfl) (by kernel_rfl) (fun _ _ _ h => h) (Or.inl ⟨by rfl, ?_⟩) (by assumption) ?_; rotate_left; (focus (intro w hSw; (try dsimp only at hSw); obtain ⟨kf0, kf1, kf2, kf3, kf4, kf5, kf6, kf7, kf8, kf9, kf10⟩ := hSw; go_simp; first | done | with_reducible rfl)); (try simp only [Act.put, List.getElem_toArray, List.getElem_cons_succ, List.getElem_cons_zero, List.setIfInBounds_toArray, List.set_cons_zero, List.set_cons_succ]))
          (refine wpAnyH_take (i := 6) (v := ?_) rfl (by kernel_rfl) (by kernel_rfl) (by kernel_rfl) (fun _ _ _ h => h) (Or.inl ⟨by rfl, ?_⟩) (by assumption) ?_; rotate_left; (focus (intro w hSw; (try dsimp only at hSw); obtain ⟨kf0, kf1, kf2, kf3, kf4, kf5, kf6, kf7, kf8, kf9, kf10⟩ := hSw; go_simp; first | done | with_reducible rfl)); (try simp only [Act.put, List.getElem_toArray, List.getElem_cons_succ, List.getElem_cons_zero, List.setIfInBounds_toArray, List.set_cons_zero, List.set_cons_succ]))
          (refine wpAnyH_take (i := 7) (v := ?_) rfl (by kernel_rfl) (by kernel_rfl) (by kernel_rfl) (fun _ _ _ h => h) (Or.inl ⟨by rfl, ?_⟩) (by assumption) ?_; rotate_left; (focus (intro w hSw; (try dsimp only at hSw); obtain ⟨kf0, kf1, kf2, kf3, kf4, kf5, kf6, kf7, kf8, kf9, kf10⟩ := hSw; go_simp; first | done | with_reducible rfl)); (try simp only [Act.put, List.getElem_toArray, List.getElem_cons_succ, List.getElem_cons_zero, List.setIfInBounds_toArray, List.set_cons_zero, List.set_cons_succ]))
          refine wpAnyH_ready (rs := [8, 9]) (by kernel_rfl) (by simp) ?_
          refine (AllReadyH.cons rfl (fun K6 hK6 => ?_) (AllReadyH.cons rfl (fun K7 hK7 => ?_) AllReadyH.nil))
          ·
            go_simp
            have hb : Below wo1.heap.size wo1 (wo1.alloc (.cells #[.slice none 0 0, .int .u64 0, .slice none 0 0, .int .u64 0, .slice none 0 0, .slice none 0 0, .slice none 0 0] 34)) := (Below.refl _ _).alloc (Nat.le_refl _) _
            have hre := RowAt.new wo1 34 #[.slice none 0 0, .int .u64 0, .slice none 0 0, .int .u64 0, .slice none 0 0, .slice none 0 0, .slice none 0 0]
            obtain ⟨ga, hge⟩ : ∃ g, wo1.heap.size = g := ⟨_, rfl⟩
            have HGA := hide (show wy.heap.size ≤ ga from by rw [← hge]; exact HX.out.size)
            have hX2 := HX.out.trans (hb.mono HX.out.size)
            replace HX := hide hX2
            rw [hge] at hre ⊢
            have HRA := hide hre
            clear hX2 hS0 hre hb hge
            have hS0 := HSX.out _ HX.out
            generalize (wo1.alloc (.cells #[.slice none 0 0, .int .u64 0, .slice none 0 0, .int .u64 0, .slice none 0 0, .slice none 0 0, .slice none 0 0] 34)) = wa2 at *
            refine hK6.out _ _ (hS0) (fun _ => ?_)
            clear hK6 K6
            (try simp only [Act.put, List.getElem_toArray, List.getElem_cons_succ, List.getElem_cons_zero, List.setIfInBounds_toArray, List.set_cons_zero, List.set_cons_succ])
            refine wpAnyH_ready (rs := [9]) (by kernel_rfl) (by simp) ?_
            refine (AllReadyH.cons rfl (fun K8 hK8 => ?_) AllReadyH.nil)
            go_simp
            have hb : Below wa2.heap.size wa2 (wa2.alloc (.cells #[.int .i64 0, .int .u64 0] 41)) := (Below.refl _ _).alloc (Nat.le_refl _) _
            have hre := RowAt.new wa2 41 #[.int .i64 0, .int .u64 0]
            replace HRA := hide (HRA.out.below hb)
            obtain ⟨gb, hge⟩ : ∃ g, wa2.heap.size = g := ⟨_, rfl⟩
            have HGB := hide (show wy.heap.size ≤ gb from by rw [← hge]; exact HX.out.size)
            have hX2 := HX.out.trans (hb.mono HX.out.size)
            replace HX := hide hX2
            rw [hge] at hre ⊢
            have HRB := hide hre
            clear hX2 hS0 hre hb hge
            have hS0 := HSX.out _ HX.out
            generalize (wa2.alloc (.cells #[.int .i64 0, .int .u64 0] 41)) = wa3 at *
            refine hK8.out _ _ (hS0) (fun _ => ?_)
            clear hK8 K8
            (try simp only [Act.put, List.getElem_toArray, List.getElem_cons_succ, List.getElem_cons_zero, List.setIfInBounds_toArray, List.set_cons_zero, List.set_cons_succ])
            refine wpAnyH_ready (rs := [10]) (by kernel_rfl) (by simp) ?_
            refine (AllReadyH.cons rfl (fun K9 hK9 => ?_) AllReadyH.nil)
            clear hS0
            have hra := HRA.out
            obtain ⟨y0, y1, y2, y3, y4, y5, y6⟩ := row7 hra
            have yl := hra.lt
            have yf0 := hra.frozen 0
            have yf1 := hra.frozen 1
            have yf2 := hra.frozen 2
            have yf3 := hra.frozen 3
            have yf4 := hra.frozen 4
            have yf5 := hra.frozen 5
            have yf6 := hra.frozen 6
            go_simp
            have HLD := hide (show LaidF ga wa3 (((((((wa3.setCell ⟨ga, 0, none⟩ (.slice B0 m0 d0)).setCell ⟨ga, 1, none⟩ (.int .u64 rec0.e)).setCell ⟨ga, 2, none⟩ (.slice Bs ms ds)).setCell ⟨ga, 3, none⟩ (.int .u64 (rec0.l.E : Int))).setCell ⟨ga, 4, none⟩ (.slice (B 0) (m 0) (d 0))).setCell ⟨ga, 5, none⟩ (.slice (B 1) (m 1) (d 1))).setCell ⟨ga, 6, none⟩ (.slice (B 2) (m 2) (d 2))) from ((((((((laid0 ga _).set 0 (.slice B0 m0 d0)).set 1 (.int .u64 rec0.e)).set 2 (.slice Bs ms ds)).set 3 (.int .u64 (rec0.l.E : Int))).set 4 (.slice (B 0) (m 0) (d 0))).set 5 (.slice (B 1) (m 1) (d 1))).set 6 (.slice (B 2) (m 2) (d 2))))
            have HX1 := hide (HX.out.trans (HLD.out.below.mono HGA.out))
            have HRB2 := hide (show RowAt _ gb 41 #[.int .i64 0, .int .u64 0] from (HLD.out.block gb (fun e => by have h1 := HRB.out; rw [e] at h1; exact absurd (row_typ h1 hra) (by decide))).trans HRB.out)
            clear hra yl y0 yf0 y1 yf1 y2 yf2 y3 yf3 y4 yf4 y5 yf5 y6 yf6
            generalize (((((((wa3.setCell ⟨ga, 0, none⟩ (.slice B0 m0 d0)).setCell ⟨ga, 1, none⟩ (.int .u64 rec0.e)).setCell ⟨ga, 2, none⟩ (.slice Bs ms ds)).setCell ⟨ga, 3, none⟩ (.int .u64 (rec0.l.E : Int))).setCell ⟨ga, 4, none⟩ (.slice (B 0) (m 0) (d 0))).setCell ⟨ga, 5, none⟩ (.slice (B 1) (m 1) (d 1))).setCell ⟨ga, 6, none⟩ (.slice (B 2) (m 2) (d 2))) = wp at *
            refine hK9.out _ _ (HSX.out _ HX1.out) (fun _ => ?_)
            clear hK9 K9
            (try simp only [Act.put, List.getElem_toArray, List.getElem_cons_succ, List.getElem_cons_zero, List.setIfInBounds_toArray, List.set_cons_zero, List.set_cons_succ])
            refine wpAnyH_ready (rs := [11]) (by kernel_rfl) (by simp) ?_
            refine (AllReadyH.cons rfl (fun K10 hK10 => ?_) AllReadyH.nil)
            have u0 := row20 HRB2.out
            have u1 := row21 HRB2.out
            have ul := HRB2.out.lt
            have uf0 := HRB2.out.frozen 0
            have uf1 := HRB2.out.frozen 1
            go_simp
            have HL2 := hide (show LaidF gb wp ((wp.setCell ⟨gb, 0, none⟩ (.int .i64 0)).setCell ⟨gb, 1, none⟩ (.int .u64 0)) from (((laid0 gb _).set 0 (.int .i64 0)).set 1 (.int .u64 0)))
            have HX3 := hide (HX1.out.trans (HL2.out.below.mono HGB.out))
            clear u0 u1 ul uf0 uf1
            generalize ((wp.setCell ⟨gb, 0, none⟩ (.int .i64 0)).setCell ⟨gb, 1, none⟩ (.int .u64 0)) = wq at *
            refine hK10.out _ _ (HSX.out _ HX3.out) (fun _ => ?_)
            clear hK10 K10
            (try simp only [Act.put, List.getElem_toArray, List.getElem_cons_succ, List.getElem_cons_zero, List.setIfInBounds_toArray, List.set_cons_zero, List.set_cons_succ])
            refine wpAnyH_ready (rs := [12]) (by kernel_rfl) (by simp) ?_
            refine (AllReadyH.cons rfl (fun K11 hK11 => ?_) AllReadyH.nil)
            go_simp
            refine hK11.out _ _ (HSX.out _ HX3.out) (fun _ => ?_)
            clear hK11 K11
            (try simp only [Act.put, List.getElem_toArray, List.getElem_cons_succ, List.getElem_cons_zero, List.setIfInBounds_toArray, List.set_cons_zero, List.set_cons_succ])
            refine wpAnyH_done (by kernel_rfl) ?_ _
            go_wp2_with fail
            go_meet
            case rel => exact ⟨rfl, HX3.out⟩
          ·
            go_simp
            have hb : Below wo1.heap.size wo1 (wo1.alloc (.cells #[.int .i64 0, .int .u64 0] 41)) := (Below.refl _ _).alloc (Nat.le_refl _) _
            have hre := RowAt.new wo1 41 #[.int .i64 0, .int .u64 0]
            obtain ⟨gb, hge⟩ : ∃ g, wo1.heap.size = g := ⟨_, rfl⟩
            have HGB := hide (show wy.heap.size ≤ gb from by rw [← hge]; exact HX.out.size)
            have hX2 := HX.out.trans (hb.mono HX.out.size)
            replace HX := hide hX2
            rw [hge] at hre ⊢
            have HRB := hide hre
            clear hX2 hS0 hre hb hge
            have hS0 := HSX.out _ HX.out
            generalize (wo1.alloc (.cells #[.int .i64 0, .int .u64 0] 41)) = wa2 at *
            refine hK7.out _ _ (hS0) (fun _ => ?_)
            clear hK7 K7
            (try simp only [Act.put, List.getElem_toArray, List.getElem_cons_succ, List.getElem_cons_zero, List.setIfInBounds_toArray, List.set_cons_zero, List.set_cons_succ])
            refine wpAnyH_ready (rs := [8]) (by kernel_rfl) (by simp) ?_
            refine (AllReadyH.cons rfl (fun K12 hK12 => ?_) AllReadyH.nil)
            go_simp
            have hb : Below wa2.heap.size wa2 (wa2.alloc (.cells #[.slice none 0 0, .int .u64 0, .slice none 0 0, .int .u64 0, .slice none 0 0, .slice none 0 0, .slice none 0 0] 34)) := (Below.refl _ _).alloc (Nat.le_refl _) _
            have hre := RowAt.new wa2 34 #[.slice none 0 0, .int .u64 0, .slice none 0 0, .int .u64 0, .slice none 0 0, .slice none 0 0, .slice none 0 0]
            replace HRB := hide (HRB.out.below hb)
            obtain ⟨ga, hge⟩ : ∃ g, wa2.heap.size = g := ⟨_, rfl⟩
            have HGA := hide (show wy.heap.size ≤ ga from by rw [← hge]; exact HX.out.size)
            have hX2 := HX.out.trans (hb.mono HX.out.size)
            replace HX := hide hX2
            rw [hge] at hre ⊢
            have HRA := hide hre
            clear hX2 hS0 hre hb hge
            have hS0 := HSX.out _ HX.out
            generalize (wa2.alloc (.cells #[.slice none 0 0, .int .u64 0, .slice none 0 0, .int .u64 0, .slice none 0 0, .slice none 0 0, .slice none 0 0] 34)) = wa3 at *
            refine hK12.out _ _ (hS0) (fun _ => ?_)
            clear hK12 K12
            (try simp only [Act.put, List.getElem_toArray, List.getElem_cons_succ, List.getElem_cons_zero, List.setIfInBounds_toArray, List.set_cons_zero, List.set_cons_succ])
            refine wpAnyH_ready (rs := [10]) (by kernel_rfl) (by simp) ?_
            refine (AllReadyH.cons rfl (fun K13 hK13 => ?_) AllReadyH.nil)
            clear hS0
            have hra := HRA.out
            obtain ⟨y0, y1, y2, y3, y4, y5, y6⟩ := row7 hra
            have yl := hra.lt
            have yf0 := hra.frozen 0
            have yf1 := hra.frozen 1
            have yf2 := hra.frozen 2
            have yf3 := hra.frozen 3
            have yf4 := hra.frozen 4
            have yf5 := hra.frozen 5
            have yf6 := hra.frozen 6
            go_simp
            have HLD := hide (show LaidF ga wa3 (((((((wa3.setCell ⟨ga, 0, none⟩ (.slice B0 m0 d0)).setCell ⟨ga, 1, none⟩ (.int .u64 rec0.e)).setCell ⟨ga, 2, none⟩ (.slice Bs ms ds)).setCell ⟨ga, 3, none⟩ (.int .u64 (rec0.l.E : Int))).setCell ⟨ga, 4, none⟩ (.slice (B 0) (m 0) (d 0))).setCell ⟨ga, 5, none⟩ (.slice (B 1) (m 1) (d 1))).setCell ⟨ga, 6, none⟩ (.slice (B 2) (m 2) (d 2))) from ((((((((laid0 ga _).set 0 (.slice B0 m0 d0)).set 1 (.int .u64 rec0.e)).set 2 (.slice Bs ms ds)).set 3 (.int .u64 (rec0.l.E : Int))).set 4 (.slice (B 0) (m 0) (d 0))).set 5 (.slice (B 1) (m 1) (d 1))).set 6 (.slice (B 2) (m 2) (d 2))))
            have HX1 := hide (HX.out.trans (HLD.out.below.mono HGA.out))
            have HRB2 := hide (show RowAt _ gb 41 #[.int .i64 0, .int .u64 0] from (HLD.out.block gb (fun e => by have h1 := HRB.out; rw [e] at h1; exact absurd (row_typ h1 hra) (by decide))).trans HRB.out)
            clear hra yl y0 yf0 y1 yf1 y2 yf2 y3 yf3 y4 yf4 y5 yf5 y6 yf6
            generalize (((((((wa3.setCell ⟨ga, 0, none⟩ (.slice B0 m0 d0)).setCell ⟨ga, 1, none⟩ (.int .u64 rec0.e)).setCell ⟨ga, 2, none⟩ (.slice Bs ms ds)).setCell ⟨ga, 3, none⟩ (.int .u64 (rec0.l.E : Int))).setCell ⟨ga, 4, none⟩ (.slice (B 0) (m 0) (d 0))).setCell ⟨ga, 5, none⟩ (.slice (B 1) (m 1) (d 1))).setCell ⟨ga, 6, none⟩ (.slice (B 2) (m 2) (d 2))) = wp at *
            refine hK13.out _ _ (HSX.out _ HX1.out) (fun _ => ?_)
            clear hK13 K13
            (try simp only [Act.put, List.getElem_toArray, List.getElem_cons_succ, List.getElem_cons_zero, List.setIfInBounds_toArray, List.set_cons_zero, List.set_cons_succ])
            refine wpAnyH_ready (rs := [11]) (by kernel_rfl) (by simp) ?_
            refine (AllReadyH.cons rfl (fun K14 hK14 => ?_) AllReadyH.nil)
            have u0 := row20 HRB2.out
            have u1 := row21 HRB2.out
            have ul := HRB2.out.lt
            have uf0 := HRB2.out.frozen 0
            have uf1 := HRB2.out.frozen 1
            go_simp
            have HL2 := hide (show LaidF gb wp ((wp.setCell ⟨gb, 0, none⟩ (.int .i64 0)).setCell ⟨gb, 1, none⟩ (.int .u64 0)) from (((laid0 gb _).set 0 (.int .i64 0)).set 1 (.int .u64 0)))
            have HX3 := hide (HX1.out.trans (HL2.out.below.mono HGB.out))
            clear u0 u1 ul uf0 uf1
            generalize ((wp.setCell ⟨gb, 0, none⟩ (.int .i64 0)).setCell ⟨gb, 1, none⟩ (.int .u64 0)) = wq at *
            refine hK14.out _ _ (HSX.out _ HX3.out) (fun _ => ?_)
            clear hK14 K14
            (try simp only [Act.put, List.getElem_toArray, List.getElem_cons_succ, List.getElem_cons_zero, List.setIfInBounds_toArray, List.set_cons_zero, List.set_cons_succ])
            refine wpAnyH_ready (rs := [12]) (by kernel_rfl) (by simp) ?_
            refine (AllReadyH.cons rfl (fun K15 hK15 => ?_) AllReadyH.nil)
            go_simp
            refine hK15.out _ _ (HSX.out _ HX3.out) (fun _ => ?_)
            clear hK15 K15
            (try simp only [Act.put, List.getElem_toArray, List.getElem_cons_succ, List.getElem_cons_zero, List.setIfInBounds_toArray, List.set_cons_zero, List.set_cons_succ])
            refine wpAnyH_done (by kernel_rfl) ?_ _
            go_wp2_with fail
            go_meet
            case rel => exact ⟨rfl, HX3.out⟩
        ·
          go_simp
          have hb : Below wo0.heap.size wo0 (wo0.alloc (.cells #[.slice none 0 0, .int .u64 0, .slice none 0 0, .int .u64 0, .slice none 0 0, .slice none 0 0, .slice none 0 0] 34)) := (Below.refl _ _).alloc (Nat.le_refl _) _
          have hre := RowAt.new wo0 34 #[.slice none 0 0, .int .u64 0, .slice none 0 0, .int .u64 0, .slice none 0 0, .slice none 0 0, .slice none 0 0]
          obtain ⟨ga, hge⟩ : ∃ g, wo0.heap.size = g := ⟨_, rfl⟩
          have HGA := hide (show wy.heap.size ≤ ga from by rw [← hge]; exact HX.out.size)
          have hX2 := HX.out.trans (hb.mono HX.out.size)
          replace HX := hide hX2
          rw [hge] at hre ⊢
          have HRA := hide hre
          clear hX2 hS0 hre hb hge
          have hS0 := HSX.out _ HX.out
          generalize (wo0.alloc (.cells #[.slice none 0 0, .int .u64 0, .slice none 0 0, .int .u64 0, .slice none 0 0, .slice none 0 0, .slice none 0 0] 34)) = wa1 at *
          refine hK4.out _ _ (hS0) (fun _ => ?_)
          clear hK4 K4
          (try simp only [Act.put, List.getElem_toArray, List.getElem_cons_succ, List.getElem_cons_zero, List.setIfInBounds_toArray, List.set_cons_zero, List.set_cons_succ])
          refine wpAnyH_ready (rs := [3, 9]) (by kernel_rfl) (by simp) ?_
          refine (AllReadyH.cons rfl (fun K16 hK16 => ?_) (AllReadyH.cons rfl (fun K17 hK17 => ?_) AllReadyH.nil))
          ·
            go_simp
            with_reducible refine (vDo (HRC.out.below HX.out).val wkF5 ⟨6, 0, 0, (0, 0)⟩ (Int.le_refl _) u64z).mono ?_
            rintro e wo2 ⟨⟨v5, rfl, hv⟩, hb⟩
            rw [wkR6] at hv ⊢
            obtain ⟨B0, Bs, m0, d0, ms, ds, B, m, d, rfl, hr⟩ := hv
            clear hr
            replace HRA := hide (HRA.out.below hb)
            have hX2 := HX.out.trans (hb.mono HX.out.size)
            replace HX := hide hX2
            clear hX2 hS0 hb
            have hS0 := HSX.out _ HX.out
            refine hK16.out _ _ (hS0) (fun _ => ?_)
            clear hK16 K16
            (try simp only [Act.put, List.getElem_toArray, List.getElem_cons_succ, List.getElem_cons_zero, List.setIfInBounds_toArray, List.set_cons_zero, List.set_cons_succ])
            (refine wpAnyH_take (i := 4) (v := ?_) rfl (by kernel_rfl) (by kernel_rfl) (by kernel_rfl) (fun _ _ _ h => h) (Or.inl ⟨by rfl, ?_⟩) (by assumption) ?_; rotate_left; (focus (intro w hSw; (try dsimp only at hSw); obtain ⟨kf0, kf1, kf2, kf3, kf4, kf5, kf6, kf7, kf8, kf9, kf10⟩ := hSw; go_simp; first | done | with_reducible rfl)); (try simp only [Act.put, List.getElem_toArray, List.getElem_cons_succ, List.getElem_cons_zero, List.setIfInBounds_toArray, List.set_cons_zero, List.set_cons_succ]))
            (refine wpAnyH_take (i := 5) (v := ?_) rfl (by kernel_rfl) (by kernel_rfl) (by kernel_rfl) (fun _ _ _ h => h) (Or.inl ⟨by rfl, ?_⟩) (by assumption) ?_; rotate_left; (focus (intro w hSw; (try dsimp only at hSw); obtain ⟨kf0, kf1, kf2, kf3, kf4, kf5, kf6, kf7, kf8, kf9, kf10⟩ := hSw; go_simp; first | done | with_reducible rfl)); (try simp only [Act.put, List.getElem_toArray, List.getElem_cons_succ, List.getElem_cons_zero, List.setIfInBounds_toArray, List.set_cons_zero, List.set_cons_succ]))
            (refine wpAnyH_take (i := 6) (v := ?_) rfl (by kernel_rfl) (by kernel_rfl) (by kernel_rfl) (fun _ _ _ h => h) (Or.inl ⟨by rfl, ?_⟩) (by assumption) ?_; rotate_left; (focus (intro w hSw; (try dsimp only at hSw); obtain ⟨kf0, kf1, kf2, kf3, kf4, kf5, kf6, kf7, kf8, kf9, kf10⟩ := hSw; go_simp; first | done | with_reducible rfl)); (try simp only [Act.put, List.getElem_toArray, List.getElem_cons_succ, List.getElem_cons_zero, List.setIfInBounds_toArray, List.set_cons_zero, List.set_cons_succ]))
            (refine wpAnyH_take (i := 7) (v := ?_) rfl (by kernel_rfl) (by kernel_rfl) (by kernel_rfl) (fun _ _ _ h => h) (Or.inl ⟨by rfl, ?_⟩) (by assumption) ?_; rotate_left; (focus (intro w hSw; (try dsimp only at hSw); obtain ⟨kf0, kf1, kf2, kf3, kf4, kf5, kf6, kf7, kf8, kf9, kf10⟩ := hSw; go_simp; first | done | with_reducible rfl)); (try simp only [Act.put, List.getElem_toArray, List.getElem_cons_succ, List.getElem_cons_zero, List.setIfInBounds_toArray, List.set_cons_zero, List.set_cons_succ]))
            refine wpAnyH_ready (rs := [9]) (by kernel_rfl) (by simp) ?_
            refine (AllReadyH.cons rfl (fun K18 hK18 => ?_) AllReadyH.nil)
            go_simp
            have hb : Below wo2.heap.size wo2 (wo2.alloc (.cells #[.int .i64 0, .int .u64 0] 41)) := (Below.refl _ _).alloc (Nat.le_refl _) _
            have hre := RowAt.new wo2 41 #[.int .i64 0, .int .u64 0]
            replace HRA := hide (HRA.out.below hb)
            obtain ⟨gb, hge⟩ : ∃ g, wo2.heap.size = g := ⟨_, rfl⟩
            have HGB := hide (show wy.heap.size ≤ gb from by rw [← hge]; exact HX.out.size)
            have hX2 := HX.out.trans (hb.mono HX.out.size)
            replace HX := hide hX2
            rw [hge] at hre ⊢
            have HRB := hide hre
            clear hX2 hS0 hre hb hge
            have hS0 := HSX.out _ HX.out
            generalize (wo2.alloc (.cells #[.int .i64 0, .int .u64 0] 41)) = wa3 at *
            refine hK18.out _ _ (hS0) (fun _ => ?_)
            clear hK18 K18
            (try simp only [Act.put, List.getElem_toArray, List.getElem_cons_succ, List.getElem_cons_zero, List.setIfInBounds_toArray, List.set_cons_zero, List.set_cons_succ])
            refine wpAnyH_ready (rs := [10]) (by kernel_rfl) (by simp) ?_
            refine (AllReadyH.cons rfl (fun K19 hK19 => ?_) AllReadyH.nil)
            clear hS0
            have hra := HRA.out
            obtain ⟨y0, y1, y2, y3, y4, y5, y6⟩ := row7 hra
            have yl := hra.lt
            have yf0 := hra.frozen 0
            have yf1 := hra.frozen 1
            have yf2 := hra.frozen 2
            have yf3 := hra.frozen 3
            have yf4 := hra.frozen 4
            have yf5 := hra.frozen 5
            have yf6 := hra.frozen 6
            go_simp
            have HLD := hide (show LaidF ga wa3 (((((((wa3.setCell ⟨ga, 0, none⟩ (.slice B0 m0 d0)).setCell ⟨ga, 1, none⟩ (.int .u64 rec0.e)).setCell ⟨ga, 2, none⟩ (.slice Bs ms ds)).setCell ⟨ga, 3, none⟩ (.int .u64 (rec0.l.E : Int))).setCell ⟨ga, 4, none⟩ (.slice (B 0) (m 0) (d 0))).setCell ⟨ga, 5, none⟩ (.slice (B 1) (m 1) (d 1))).setCell ⟨ga, 6, none⟩ (.slice (B 2) (m 2) (d 2))) from ((((((((laid0 ga _).set 0 (.slice B0 m0 d0)).set 1 (.int .u64 rec0.e)).set 2 (.slice Bs ms ds)).set 3 (.int .u64 (rec0.l.E : Int))).set 4 (.slice (B 0) (m 0) (d 0))).set 5 (.slice (B 1) (m 1) (d 1))).set 6 (.slice (B 2) (m 2) (d 2))))
            have HX1 := hide (HX.out.trans (HLD.out.below.mono HGA.out))
            have HRB2 := hide (show RowAt _ gb 41 #[.int .i64 0, .int .u64 0] from (HLD.out.block gb (fun e => by have h1 := HRB.out; rw [e] at h1; exact absurd (row_typ h1 hra) (by decide))).trans HRB.out)
            clear hra yl y0 yf0 y1 yf1 y2 yf2 y3 yf3 y4 yf4 y5 yf5 y6 yf6
            generalize (((((((wa3.setCell ⟨ga, 0, none⟩ (.slice B0 m0 d0)).setCell ⟨ga, 1, none⟩ (.int .u64 rec0.e)).setCell ⟨ga, 2, none⟩ (.slice Bs ms ds)).setCell ⟨ga, 3, none⟩ (.int .u64 (rec0.l.E : Int))).setCell ⟨ga, 4, none⟩ (.slice (B 0) (m 0) (d 0))).setCell ⟨ga, 5, none⟩ (.slice (B 1) (m 1) (d 1))).setCell ⟨ga, 6, none⟩ (.slice (B 2) (m 2) (d 2))) = wp at *
            refine hK19.out _ _ (HSX.out _ HX1.out) (fun _ => ?_)
            clear hK19 K19
            (try simp only [Act.put, List.getElem_toArray, List.getElem_cons_succ, List.getElem_cons_zero, List.setIfInBounds_toArray, List.set_cons_zero, List.set_cons_succ])
            refine wpAnyH_ready (rs := [11]) (by kernel_rfl) (by simp) ?_
            refine (AllReadyH.cons rfl (fun K20 hK20 => ?_) AllReadyH.nil)
            have u0 := row20 HRB2.out
            have u1 := row21 HRB2.out
            have ul := HRB2.out.lt
            have uf0 := HRB2.out.frozen 0
            have uf1 := HRB2.out.frozen 1
            go_simp
            have HL2 := hide (show LaidF gb wp ((wp.setCell ⟨gb, 0, none⟩ (.int .i64 0)).setCell ⟨gb, 1, none⟩ (.int .u64 0)) from (((laid0 gb _).set 0 (.int .i64 0)).set 1 (.int .u64 0)))
            have HX3 := hide (HX1.out.trans (HL2.out.below.mono HGB.out))
            clear u0 u1 ul uf0 uf1
            generalize ((wp.setCell ⟨gb, 0, none⟩ (.int .i64 0)).setCell ⟨gb, 1, none⟩ (.int .u64 0)) = wq at *
            refine hK20.out _ _ (HSX.out _ HX3.out) (fun _ => ?_)
            clear hK20 K20
            (try simp only [Act.put, List.getElem_toArray, List.getElem_cons_succ, List.getElem_cons_zero, List.setIfInBounds_toArray, List.set_cons_zero, List.set_cons_succ])
            refine wpAnyH_ready (rs := [12]) (by kernel_rfl) (by simp) ?_
            refine (AllReadyH.cons rfl (fun K21 hK21 => ?_) AllReadyH.nil)
            go_simp
            refine hK21.out _ _ (HSX.out _ HX3.out) (fun _ => ?_)
            clear hK21 K21
            (try simp only [Act.put, List.getElem_toArray, List.getElem_cons_succ, List.getElem_cons_zero, List.setIfInBounds_toArray, List.set_cons_zero, List.set_cons_succ])
            refine wpAnyH_done (by kernel_rfl) ?_ _
            go_wp2_with fail
            go_meet
            case rel => exact ⟨rfl, HX3.out⟩
          ·
            go_simp
            have hb : Below wa1.heap.size wa1 (wa1.alloc (.cells #[.int .i64 0, .int .u64 0] 41)) := (Below.refl _ _).alloc (Nat.le_refl _) _
            have hre := RowAt.new wa1 41 #[.int .i64 0, .int .u64 0]
            replace HRA := hide (HRA.out.below hb)
            obtain ⟨gb, hge⟩ : ∃ g, wa1.heap.size = g := ⟨_, rfl⟩
            have HGB := hide (show wy.heap.size ≤ gb from by rw [← hge]; exact HX.out.size)
            have hX2 := HX.out.trans (hb.mono HX.out.size)
            replace HX := hide hX2
            rw [hge] at hre ⊢
            have HRB := hide hre
            clear hX2 hS0 hre hb hge
            have hS0 := HSX.out _ HX.out
            generalize (wa1.alloc (.cells #[.int .i64 0, .int .u64 0] 41)) = wa2 at *
            refine hK17.out _ _ (hS0) (fun _ => ?_)
            clear hK17 K17
            (try simp only [Act.put, List.getElem_toArray, List.getElem_cons_succ, List.getElem_cons_zero, List.setIfInBounds_toArray, List.set_cons_zero, List.set_cons_succ])
            refine wpAnyH_ready (rs := [3]) (by kernel_rfl) (by simp) ?_
            refine (AllReadyH.cons rfl (fun K22 hK22 => ?_) AllReadyH.nil)
            go_simp
            with_reducible refine (vDo (HRC.out.below HX.out).val wkF5 ⟨6, 0, 0, (0, 0)⟩ (Int.le_refl _) u64z).mono ?_
            rintro e wo3 ⟨⟨v5, rfl, hv⟩, hb⟩
            rw [wkR6] at hv ⊢
            obtain ⟨B0, Bs, m0, d0, ms, ds, B, m, d, rfl, hr⟩ := hv
            clear hr
            replace HRA := hide (HRA.out.below hb)
            replace HRB := hide (HRB.out.below hb)
            have hX2 := HX.out.trans (hb.mono HX.out.size)
            replace HX := hide hX2
            clear hX2 hS0 hb
            have hS0 := HSX.out _ HX.out
            refine hK22.out _ _ (hS0) (fun _ => ?_)
            clear hK22 K22
            (try simp only [Act.put, List.getElem_toArray, List.getElem_cons_succ, List.getElem_cons_zero, List.setIfInBounds_toArray, List.set_cons_zero, List.set_cons_succ])
            (refine wpAnyH_take (i := 4) (v := ?_) rfl (by kernel_rfl) (by kernel_rfl) (by kernel_rfl) (fun _ _ _ h => h) (Or.inl ⟨by rfl, ?_⟩) (by assumption) ?_; rotate_left; (focus (intro w hSw; (try dsimp only at hSw); obtain ⟨kf0, kf1, kf2, kf3, kf4, kf5, kf6, kf7, kf8, kf9, kf10⟩ := hSw; go_simp; first | done | with_reducible rfl)); (try simp only [Act.put, List.getElem_toArray, List.getElem_cons_succ, List.getElem_cons_zero, List.setIfInBounds_toArray, List.set_cons_zero, List.set_cons_succ]))
            (refine wpAnyH_take (i := 5) (v := ?_) rfl (by kernel_rfl) (by kernel_rfl) (by kernel_rfl) (fun _ _ _ h => h) (Or.inl ⟨by rfl, ?_⟩) (by assumption) ?_; rotate_left; (focus (intro w hSw; (try dsimp only at hSw); obtain ⟨kf0, kf1, kf2, kf3, kf4, kf5, kf6, kf7, kf8, kf9, kf10⟩ := hSw; go_simp; first | done | with_reducible rfl)); (try simp only [Act.put, List.getElem_toArray, List.getElem_cons_succ, List.getElem_cons_zero, List.setIfInBounds_toArray, List.set_cons_zero, List.set_cons_succ]))
            (refine wpAnyH_take (i := 6) (v := ?_) rfl (by kernel_rfl) (by kernel_rfl) (by kernel_rfl) (fun _ _ _ h => h) (Or.inl ⟨by rfl, ?_⟩) (by assumption) ?_; rotate_left; (focus (intro w hSw; (try dsimp only at hSw); obtain ⟨kf0, kf1, kf2, kf3, kf4, kf5, kf6, kf7, kf8, kf9, kf10⟩ := hSw; go_simp; first | done | with_reducible rfl)); (try simp only [Act.put, List.getElem_toArray, List.getElem_cons_succ, List.getElem_cons_zero, List.setIfInBounds_toArray, List.set_cons_zero, List.set_cons_succ]))
            (refine wpAnyH_take (i := 7) (v := ?_) rfl (by kernel_rfl) (by kernel_rfl) (by kernel_rfl) (fun _ _ _ h => h) (Or.inl ⟨by rfl, ?_⟩) (by assumption) ?_; rotate_left; (focus (intro w hSw; (try dsimp only at hSw); obtain ⟨kf0, kf1, kf2, kf3, kf4, kf5, kf6, kf7, kf8, kf9, kf10⟩ := hSw; go_simp; first | done | with_reducible rfl)); (try simp only [Act.put, List.getElem_toArray, List.getElem_cons_succ, List.getElem_cons_zero, List.setIfInBounds_toArray, List.set_cons_zero, List.set_cons_succ]))
            refine wpAnyH_ready (rs := [10]) (by kernel_rfl) (by simp) ?_
            refine (AllReadyH.cons rfl (fun K23 hK23 => ?_) AllReadyH.nil)
            clear hS0
            have hra := HRA.out
            obtain ⟨y0, y1, y2, y3, y4, y5, y6⟩ := row7 hra
            have yl := hra.lt
            have yf0 := hra.frozen 0
            have yf1 := hra.frozen 1
            have yf2 := hra.frozen 2
            have yf3 := hra.frozen 3
            have yf4 := hra.frozen 4
            have yf5 := hra.frozen 5
            have yf6 := hra.frozen 6
            go_simp
            have HLD := hide (show LaidF ga wo3 (((((((wo3.setCell ⟨ga, 0, none⟩ (.slice B0 m0 d0)).setCell ⟨ga, 1, none⟩ (.int .u64 rec0.e)).setCell ⟨ga, 2, none⟩ (.slice Bs ms ds)).setCell ⟨ga, 3, none⟩ (.int .u64 (rec0.l.E : Int))).setCell ⟨ga, 4, none⟩ (.slice (B 0) (m 0) (d 0))).setCell ⟨ga, 5, none⟩ (.slice (B 1) (m 1) (d 1))).setCell ⟨ga, 6, none⟩ (.slice (B 2) (m 2) (d 2))) from ((((((((laid0 ga _).set 0 (.slice B0 m0 d0)).set 1 (.int .u64 rec0.e)).set 2 (.slice Bs ms ds)).set 3 (.int .u64 (rec0.l.E : Int))).set 4 (.slice (B 0) (m 0) (d 0))).set 5 (.slice (B 1) (m 1) (d 1))).set 6 (.slice (B 2) (m 2) (d 2))))
            have HX1 := hide (HX.out.trans (HLD.out.below.mono HGA.out))
            have HRB2 := hide (show RowAt _ gb 41 #[.int .i64 0, .int .u64 0] from (HLD.out.block gb (fun e => by have h1 := HRB.out; rw [e] at h1; exact absurd (row_typ h1 hra) (by decide))).trans HRB.out)
            clear hra yl y0 yf0 y1 yf1 y2 yf2 y3 yf3 y4 yf4 y5 yf5 y6 yf6
            generalize (((((((wo3.setCell ⟨ga, 0, none⟩ (.slice B0 m0 d0)).setCell ⟨ga, 1, none⟩ (.int .u64 rec0.e)).setCell ⟨ga, 2, none⟩ (.slice Bs ms ds)).setCell ⟨ga, 3, none⟩ (.int .u64 (rec0.l.E : Int))).setCell ⟨ga, 4, none⟩ (.slice (B 0) (m 0) (d 0))).setCell ⟨ga, 5, none⟩ (.slice (B 1) (m 1) (d 1))).setCell ⟨ga, 6, none⟩ (.slice (B 2) (m 2) (d 2))) = wp at *
            refine hK23.out _ _ (HSX.out _ HX1.out) (fun _ => ?_)
            clear hK23 K23
            (try simp only [Act.put, List.getElem_toArray, List.getElem_cons_succ, List.getElem_cons_zero, List.setIfInBounds_toArray, List.set_cons_zero, List.set_cons_succ])
            refine wpAnyH_ready (rs := [11]) (by kernel_rfl) (by simp) ?_
            refine (AllReadyH.cons rfl (fun K24 hK24 => ?_) AllReadyH.nil)
            have u0 := row20 HRB2.out
            have u1 := row21 HRB2.out
            have ul := HRB2.out.lt
            have uf0 := HRB2.out.frozen 0
            have uf1 := HRB2.out.frozen 1
            go_simp
            have HL2 := hide (show LaidF gb wp ((wp.setCell ⟨gb, 0, none⟩ (.int .i64 0)).setCell ⟨gb, 1, none⟩ (.int .u64 0)) from (((laid0 gb _).set 0 (.int .i64 0)).set 1 (.int .u64 0)))
            have HX3 := hide (HX1.out.trans (HL2.out.below.mono HGB.out))
            clear u0 u1 ul uf0 uf1
            generalize ((wp.setCell ⟨gb, 0, none⟩ (.int .i64 0)).setCell ⟨gb, 1, none⟩ (.int .u64 0)) = wq at *
            refine hK24.out _ _ (HSX.out _ HX3.out) (fun _ => ?_)
            clear hK24 K24
            (try simp only [Act.put, List.getElem_toArray, List.getElem_cons_succ, List.getElem_cons_zero, List.setIfInBounds_toArray, List.set_cons_zero, List.set_cons_succ])
            refine wpAnyH_ready (rs := [12]) (by kernel_rfl) (by simp) ?_
            refine (AllReadyH.cons rfl (fun K25 hK25 => ?_) AllReadyH.nil)
            go_simp
            refine hK25.out _ _ (HSX.out _ HX3.out) (fun _ => ?_)
            clear hK25 K25
            (try simp only [Act.put, List.getElem_toArray, List.getElem_cons_succ, List.getElem_cons_zero, List.setIfInBounds_toArray, List.set_cons_zero, List.set_cons_succ])
            refine wpAnyH_done (by kernel_rfl) ?_ _
            go_wp2_with fail
            go_meet
            case rel => exact ⟨rfl, HX3.out⟩
        ·
          go_simp
          have hb : Below wo0.heap.size wo0 (wo0.alloc (.cells #[.int .i64 0, .int .u64 0] 41)) := (Below.refl _ _).alloc (Nat.le_refl _) _
          have hre := RowAt.new wo0 41 #[.int .i64 0, .int .u64 0]
          obtain ⟨gb, hge⟩ : ∃ g, wo0.heap.size = g := ⟨_, rfl⟩
          have HGB := hide (show wy.heap.size ≤ gb from by rw [← hge]; exact HX.out.size)
          have hX2 := HX.out.trans (hb.mono HX.out.size)
          replace HX := hide hX2
          rw [hge] at hre ⊢
          have HRB := hide hre
          clear hX2 hS0 hre hb hge
          have hS0 := HSX.out _ HX.out
          generalize (wo0.alloc (.cells #[.int .i64 0, .int .u64 0] 41)) = wa1 at *
          refine hK5.out _ _ (hS0) (fun _ => ?_)
          clear hK5 K5
          (try simp only [Act.put, List.getElem_toArray, List.getElem_cons_succ, List.getElem_cons_zero, List.setIfInBounds_toArray, List.set_cons_zero, List.set_cons_succ])
          refine wpAnyH_ready (rs := [3, 8]) (by kernel_rfl) (by simp) ?_
          refine (AllReadyH.cons rfl (fun K26 hK26 => ?_) (AllReadyH.cons rfl (fun K27 hK27 => ?_) AllReadyH.nil))
          ·
            go_simp
            with_reducible refine (vDo (HRC.out.below HX.out).val wkF5 ⟨6, 0, 0, (0, 0)⟩ (Int.le_refl _) u64z).mono ?_
            rintro e wo2 ⟨⟨v5, rfl, hv⟩, hb⟩
            rw [wkR6] at hv ⊢
            obtain ⟨B0, Bs, m0, d0, ms, ds, B, m, d, rfl, hr⟩ := hv
            clear hr
            replace HRB := hide (HRB.out.below hb)
            have hX2 := HX.out.trans (hb.mono HX.out.size)
            replace HX := hide hX2
            clear hX2 hS0 hb
            have hS0 := HSX.out _ HX.out
            refine hK26.out _ _ (hS0) (fun _ => ?_)
            clear hK26 K26
            (try simp only [Act.put, List.getElem_toArray, List.getElem_cons_succ, List.getElem_cons_zero, List.setIfInBounds_toArray, List.set_cons_zero, List.set_cons_succ])
            (refine wpAnyH_take (i := 4) (v := ?_) rfl (by kernel_rfl) (by kernel_rfl) (by kernel_rfl) (fun _ _ _ h => h) (Or.inl ⟨by rfl, ?_⟩) (by assumption) ?_; rotate_left; (focus (intro w hSw; (try dsimp only at hSw); obtain ⟨kf0, kf1, kf2, kf3, kf4, kf5, kf6, kf7, kf8, kf9, kf10⟩ := hSw; go_simp; first | done | with_reducible rfl)); (try simp only [Act.put, List.getElem_toArray, List.getElem_cons_succ, List.getElem_cons_zero, List.setIfInBounds_toArray, List.set_cons_zero, List.set_cons_succ]))
            (refine wpAnyH_take (i := 5) (v := ?_) rfl (by kernel_rfl) (by kernel_rfl) (by kernel_rfl) (fun _ _ _ h => h) (Or.inl ⟨by rfl, ?_⟩) (by assumption) ?_; rotate_left; (focus (intro w hSw; (try dsimp only at hSw); obtain ⟨kf0, kf1, kf2, kf3, kf4, kf5, kf6, kf7, kf8, kf9, kf10⟩ := hSw; go_simp; first | done | with_reducible rfl)); (try simp only [Act.put, List.getElem_toArray, List.getElem_cons_succ, List.getElem_cons_zero, List.setIfInBounds_toArray, List.set_cons_zero, List.set_cons_succ]))
            (refine wpAnyH_take (i := 6) (v := ?_) rfl (by kernel_rfl) (by kernel_rfl) (by kernel_rfl) (fun _ _ _ h => h) (Or.inl ⟨by rfl, ?_⟩) (by assumption) ?_; rotate_left; (focus (intro w hSw; (try dsimp only at hSw); obtain ⟨kf0, kf1, kf2, kf3, kf4, kf5, kf6, kf7, kf8, kf9, kf10⟩ := hSw; go_simp; first | done | with_reducible rfl)); (try simp only [Act.put, List.getElem_toArray, List.getElem_cons_succ, List.getElem_cons_zero, List.setIfInBounds_toArray, List.set_cons_zero, List.set_cons_succ]))
            (refine wpAnyH_take (i := 7) (v := ?_) rfl (by kernel_rfl) (by kernel_rfl) (by kernel_rfl) (fun _ _ _ h => h) (Or.inl ⟨by rfl, ?_⟩) (by assumption) ?_; rotate_left; (focus (intro w hSw; (try dsimp only at hSw); obtain ⟨kf0, kf1, kf2, kf3, kf4, kf5, kf6, kf7, kf8, kf9, kf10⟩ := hSw; go_simp; first | done | with_reducible rfl)); (try simp only [Act.put, List.getElem_toArray, List.getElem_cons_succ, List.getElem_cons_zero, List.setIfInBounds_toArray, List.set_cons_zero, List.set_cons_succ]))
            refine wpAnyH_ready (rs := [8]) (by kernel_rfl) (by simp) ?_
            refine (AllReadyH.cons rfl (fun K28 hK28 => ?_) AllReadyH.nil)
            go_simp
            have hb : Below wo2.heap.size wo2 (wo2.alloc (.cells #[.slice none 0 0, .int .u64 0, .slice none 0 0, .int .u64 0, .slice none 0 0, .slice none 0 0, .slice none 0 0] 34)) := (Below.refl _ _).alloc (Nat.le_refl _) _
            have hre := RowAt.new wo2 34 #[.slice none 0 0, .int .u64 0, .slice none 0 0, .int .u64 0, .slice none 0 0, .slice none 0 0, .slice none 0 0]
            replace HRB := hide (HRB.out.below hb)
            obtain ⟨ga, hge⟩ : ∃ g, wo2.heap.size = g := ⟨_, rfl⟩
            have HGA := hide (show wy.heap.size ≤ ga from by rw [← hge]; exact HX.out.size)
            have hX2 := HX.out.trans (hb.mono HX.out.size)
            replace HX := hide hX2
            rw [hge] at hre ⊢
            have HRA := hide hre
            clear hX2 hS0 hre hb hge
            have hS0 := HSX.out _ HX.out
            generalize (wo2.alloc (.cells #[.slice none 0 0, .int .u64 0, .slice none 0 0, .int .u64 0, .slice none 0 0, .slice none 0 0, .slice none 0 0] 34)) = wa3 at *
            refine hK28.out _ _ (hS0) (fun _ => ?_)
            clear hK28 K28
            (try simp only [Act.put, List.getElem_toArray, List.getElem_cons_succ, List.getElem_cons_zero, List.setIfInBounds_toArray, List.set_cons_zero, List.set_cons_succ])
            refine wpAnyH_ready (rs := [10]) (by kernel_rfl) (by simp) ?_
            refine (AllReadyH.cons rfl (fun K29 hK29 => ?_) AllReadyH.nil)
            clear hS0
            have hra := HRA.out
            obtain ⟨y0, y1, y2, y3, y4, y5, y6⟩ := row7 hra
            have yl := hra.lt
            have yf0 := hra.frozen 0
            have yf1 := hra.frozen 1
            have yf2 := hra.frozen 2
            have yf3 := hra.frozen 3
            have yf4 := hra.frozen 4
            have yf5 := hra.frozen 5
            have yf6 := hra.frozen 6
            go_simp
            have HLD := hide (show LaidF ga wa3 (((((((wa3.setCell ⟨ga, 0, none⟩ (.slice B0 m0 d0)).setCell ⟨ga, 1, none⟩ (.int .u64 rec0.e)).setCell ⟨ga, 2, none⟩ (.slice Bs ms ds)).setCell ⟨ga, 3, none⟩ (.int .u64 (rec0.l.E : Int))).setCell ⟨ga, 4, none⟩ (.slice (B 0) (m 0) (d 0))).setCell ⟨ga, 5, none⟩ (.slice (B 1) (m 1) (d 1))).setCell ⟨ga, 6, none⟩ (.slice (B 2) (m 2) (d 2))) from ((((((((laid0 ga _).set 0 (.slice B0 m0 d0)).set 1 (.int .u64 rec0.e)).set 2 (.slice Bs ms ds)).set 3 (.int .u64 (rec0.l.E : Int))).set 4 (.slice (B 0) (m 0) (d 0))).set 5 (.slice (B 1) (m 1) (d 1))).set 6 (.slice (B 2) (m 2) (d 2))))
            have HX1 := hide (HX.out.trans (HLD.out.below.mono HGA.out))
            have HRB2 := hide (show RowAt _ gb 41 #[.int .i64 0, .int .u64 0] from (HLD.out.block gb (fun e => by have h1 := HRB.out; rw [e] at h1; exact absurd (row_typ h1 hra) (by decide))).trans HRB.out)
            clear hra yl y0 yf0 y1 yf1 y2 yf2 y3 yf3 y4 yf4 y5 yf5 y6 yf6
            generalize (((((((wa3.setCell ⟨ga, 0, none⟩ (.slice B0 m0 d0)).setCell ⟨ga, 1, none⟩ (.int .u64 rec0.e)).setCell ⟨ga, 2, none⟩ (.slice Bs ms ds)).setCell ⟨ga, 3, none⟩ (.int .u64 (rec0.l.E : Int))).setCell ⟨ga, 4, none⟩ (.slice (B 0) (m 0) (d 0))).setCell ⟨ga, 5, none⟩ (.slice (B 1) (m 1) (d 1))).setCell ⟨ga, 6, none⟩ (.slice (B 2) (m 2) (d 2))) = wp at *
            refine hK29.out _ _ (HSX.out _ HX1.out) (fun _ => ?_)
            clear hK29 K29
            (try simp only [Act.put, List.getElem_toArray, List.getElem_cons_succ, List.getElem_cons_zero, List.setIfInBounds_toArray, List.set_cons_zero, List.set_cons_succ])
            refine wpAnyH_ready (rs := [11]) (by kernel_rfl) (by simp) ?_
            refine (AllReadyH.cons rfl (fun K30 hK30 => ?_) AllReadyH.nil)
            have u0 := row20 HRB2.out
            have u1 := row21 HRB2.out
            have ul := HRB2.out.lt
            have uf0 := HRB2.out.frozen 0
            have uf1 := HRB2.out.frozen 1
            go_simp
            have HL2 := hide (show LaidF gb wp ((wp.setCell ⟨gb, 0, none⟩ (.int .i64 0)).setCell ⟨gb, 1, none⟩ (.int .u64 0)) from (((laid0 gb _).set 0 (.int .i64 0)).set 1 (.int .u64 0)))
            have HX3 := hide (HX1.out.trans (HL2.out.below.mono HGB.out))
            clear u0 u1 ul uf0 uf1
            generalize ((wp.setCell ⟨gb, 0, none⟩ (.int .i64 0)).setCell ⟨gb, 1, none⟩ (.int .u64 0)) = wq at *
            refine hK30.out _ _ (HSX.out _ HX3.out) (fun _ => ?_)
            clear hK30 K30
            (try simp only [Act.put, List.getElem_toArray, List.getElem_cons_succ, List.getElem_cons_zero, List.setIfInBounds_toArray, List.set_cons_zero, List.set_cons_succ])
            refine wpAnyH_ready (rs := [12]) (by kernel_rfl) (by simp) ?_
            refine (AllReadyH.cons rfl (fun K31 hK31 => ?_) AllReadyH.nil)
            go_simp
            refine hK31.out _ _ (HSX.out _ HX3.out) (fun _ => ?_)
            clear hK31 K31
            (try simp only [Act.put, List.getElem_toArray, List.getElem_cons_succ, List.getElem_cons_zero, List.setIfInBounds_toArray, List.set_cons_zero, List.set_cons_succ])
            refine wpAnyH_done (by kernel_rfl) ?_ _
            go_wp2_with fail
            go_meet
            case rel => exact ⟨rfl, HX3.out⟩
          ·
            go_simp
            have hb : Below wa1.heap.size wa1 (wa1.alloc (.cells #[.slice none 0 0, .int .u64 0, .slice none 0 0, .int .u64 0, .slice none 0 0, .slice none 0 0, .slice none 0 0] 34)) := (Below.refl _ _).alloc (Nat.le_refl _) _
            have hre := RowAt.new wa1 34 #[.slice none 0 0, .int .u64 0, .slice none 0 0, .int .u64 0, .slice none 0 0, .slice none 0 0, .slice none 0 0]
            replace HRB := hide (HRB.out.below hb)
            obtain ⟨ga, hge⟩ : ∃ g, wa1.heap.size = g := ⟨_, rfl⟩
            have HGA := hide (show wy.heap.size ≤ ga from by rw [← hge]; exact HX.out.size)
            have hX2 := HX.out.trans (hb.mono HX.out.size)
            replace HX := hide hX2
            rw [hge] at hre ⊢
            have HRA := hide hre
            clear hX2 hS0 hre hb hge
            have hS0 := HSX.out _ HX.out
            generalize (wa1.alloc (.cells #[.slice none 0 0, .int .u64 0, .slice none 0 0, .int .u64 0, .slice none 0 0, .slice none 0 0, .slice none 0 0] 34)) = wa2 at *
            refine hK27.out _ _ (hS0) (fun _ => ?_)
            clear hK27 K27
            (try simp only [Act.put, List.getElem_toArray, List.getElem_cons_succ, List.getElem_cons_zero, List.setIfInBounds_toArray, List.set_cons_zero, List.set_cons_succ])
            refine wpAnyH_ready (rs := [3]) (by kernel_rfl) (by simp) ?_
            refine (AllReadyH.cons rfl (fun K32 hK32 => ?_) AllReadyH.nil)
            go_simp
            with_reducible refine (vDo (HRC.out.below HX.out).val wkF5 ⟨6, 0, 0, (0, 0)⟩ (Int.le_refl _) u64z).mono ?_
            rintro e wo3 ⟨⟨v5, rfl, hv⟩, hb⟩
            rw [wkR6] at hv ⊢
            obtain ⟨B0, Bs, m0, d0, ms, ds, B, m, d, rfl, hr⟩ := hv
            clear hr
            replace HRA := hide (HRA.out.below hb)
            replace HRB := hide (HRB.out.below hb)
            have hX2 := HX.out.trans (hb.mono HX.out.size)
            replace HX := hide hX2
            clear hX2 hS0 hb
            have hS0 := HSX.out _ HX.out
            refine hK32.out _ _ (hS0) (fun _ => ?_)
            clear hK32 K32
            (try simp only [Act.put, List.getElem_toArray, List.getElem_cons_succ, List.getElem_cons_zero, List.setIfInBounds_toArray, List.set_cons_zero, List.set_cons_succ])
            (refine wpAnyH_take (i := 4) (v := ?_) rfl (by kernel_rfl) (by kernel_rfl) (by kernel_rfl) (fun _ _ _ h => h) (Or.inl ⟨by rfl, ?_⟩) (by assumption) ?_; rotate_left; (focus (intro w hSw; (try dsimp only at hSw); obtain ⟨kf0, kf1, kf2, kf3, kf4, kf5, kf6, kf7, kf8, kf9, kf10⟩ := hSw; go_simp; first | done | with_reducible rfl)); (try simp only [Act.put, List.getElem_toArray, List.getElem_cons_succ, List.getElem_cons_zero, List.setIfInBounds_toArray, List.set_cons_zero, List.set_cons_succ]))
            (refine wpAnyH_take (i := 5) (v := ?_) rfl (by kernel_rfl) (by kernel_rfl) (by kernel_rfl) (fun _ _ _ h => h) (Or.inl ⟨by rfl, ?_⟩) (by assumption) ?_; rotate_left; (focus (intro w hSw; (try dsimp only at hSw); obtain ⟨kf0, kf1, kf2, kf3, kf4, kf5, kf6, kf7, kf8, kf9, kf10⟩ := hSw; go_simp; first | done | with_reducible rfl)); (try simp only [Act.put, List.getElem_toArray, List.getElem_cons_succ, List.getElem_cons_zero, List.setIfInBounds_toArray, List.set_cons_zero, List.set_cons_succ]))
            (refine wpAnyH_take (i := 6) (v := ?_) rfl (by kernel_rfl) (by kernel_rfl) (by kernel_rfl) (fun _ _ _ h => h) (Or.inl ⟨by rfl, ?_⟩) (by assumption) ?_; rotate_left; (focus (intro w hSw; (try dsimp only at hSw); obtain ⟨kf0, kf1, kf2, kf3, kf4, kf5, kf6, kf7, kf8, kf9, kf10⟩ := hSw; go_simp; first | done | with_reducible rfl)); (try simp only [Act.put, List.getElem_toArray, List.getElem_cons_succ, List.getElem_cons_zero, List.setIfInBounds_toArray, List.set_cons_zero, List.set_cons_succ]))
            (refine wpAnyH_take (i := 7) (v := ?_) rfl (by kernel_rfl) (by kernel_rfl) (by kernel_rfl) (fun _ _ _ h => h) (Or.inl ⟨by rfl, ?_⟩) (by assumption) ?_; rotate_left; (focus (intro w hSw; (try dsimp only at hSw); obtain ⟨kf0, kf1, kf2, kf3, kf4, kf5, kf6, kf7, kf8, kf9, kf10⟩ := hSw; go_simp; first | done | with_reducible rfl)); (try simp only [Act.put, List.getElem_toArray, List.getElem_cons_succ, List.getElem_cons_zero, List.setIfInBounds_toArray, List.set_cons_zero, List.set_cons_succ]))
            refine wpAnyH_ready (rs := [10]) (by kernel_rfl) (by simp) ?_
            refine (AllReadyH.cons rfl (fun K33 hK33 => ?_) AllReadyH.nil)
            clear hS0
            have hra := HRA.out
            obtain ⟨y0, y1, y2, y3, y4, y5, y6⟩ := row7 hra
            have yl := hra.lt
            have yf0 := hra.frozen 0
            have yf1 := hra.frozen 1
            have yf2 := hra.frozen 2
            have yf3 := hra.frozen 3
            have yf4 := hra.frozen 4
            have yf5 := hra.frozen 5
            have yf6 := hra.frozen 6
            go_simp
            have HLD := hide (show LaidF ga wo3 (((((((wo3.setCell ⟨ga, 0, none⟩ (.slice B0 m0 d0)).setCell ⟨ga, 1, none⟩ (.int .u64 rec0.e)).setCell ⟨ga, 2, none⟩ (.slice Bs ms ds)).setCell ⟨ga, 3, none⟩ (.int .u64 (rec0.l.E : Int))).setCell ⟨ga, 4, none⟩ (.slice (B 0) (m 0) (d 0))).setCell ⟨ga, 5, none⟩ (.slice (B 1) (m 1) (d 1))).setCell ⟨ga, 6, none⟩ (.slice (B 2) (m 2) (d 2))) from ((((((((laid0 ga _).set 0 (.slice B0 m0 d0)).set 1 (.int .u64 rec0.e)).set 2 (.slice Bs ms ds)).set 3 (.int .u64 (rec0.l.E : Int))).set 4 (.slice (B 0) (m 0) (d 0))).set 5 (.slice (B 1) (m 1) (d 1))).set 6 (.slice (B 2) (m 2) (d 2))))
            have HX1 := hide (HX.out.trans (HLD.out.below.mono HGA.out))
            have HRB2 := hide (show RowAt _ gb 41 #[.int .i64 0, .int .u64 0] from (HLD.out.block gb (fun e => by have h1 := HRB.out; rw [e] at h1; exact absurd (row_typ h1 hra) (by decide))).trans HRB.out)
            clear hra yl y0 yf0 y1 yf1 y2 yf2 y3 yf3 y4 yf4 y5 yf5 y6 yf6
            generalize (((((((wo3.setCell ⟨ga, 0, none⟩ (.slice B0 m0 d0)).setCell ⟨ga, 1, none⟩ (.int .u64 rec0.e)).setCell ⟨ga, 2, none⟩ (.slice Bs ms ds)).setCell ⟨ga, 3, none⟩ (.int .u64 (rec0.l.E : Int))).setCell ⟨ga, 4, none⟩ (.slice (B 0) (m 0) (d 0))).setCell ⟨ga, 5, none⟩ (.slice (B 1) (m 1) (d 1))).setCell ⟨ga, 6, none⟩ (.slice (B 2) (m 2) (d 2))) = wp at *
            refine hK33.out _ _ (HSX.out _ HX1.out) (fun _ => ?_)
            clear hK33 K33
            (try simp only [Act.put, List.getElem_toArray, List.getElem_cons_succ, List.getElem_cons_zero, List.setIfInBounds_toArray, List.set_cons_zero, List.set_cons_succ])
            refine wpAnyH_ready (rs := [11]) (by kernel_rfl) (by simp) ?_
            refine (AllReadyH.cons rfl (fun K34 hK34 => ?_) AllReadyH.nil)
            have u0 := row20 HRB2.out
            have u1 := row21 HRB2.out
            have ul := HRB2.out.lt
            have uf0 := HRB2.out.frozen 0
            have uf1 := HRB2.out.frozen 1
            go_simp
            have HL2 := hide (show LaidF gb wp ((wp.setCell ⟨gb, 0, none⟩ (.int .i64 0)).setCell ⟨gb, 1, none⟩ (.int .u64 0)) from (((laid0 gb _).set 0 (.int .i64 0)).set 1 (.int .u64 0)))
            have HX3 := hide (HX1.out.trans (HL2.out.below.mono HGB.out))
            clear u0 u1 ul uf0 uf1
            generalize ((wp.setCell ⟨gb, 0, none⟩ (.int .i64 0)).setCell ⟨gb, 1, none⟩ (.int .u64 0)) = wq at *
            refine hK34.out _ _ (HSX.out _ HX3.out) (fun _ => ?_)
            clear hK34 K34
            (try simp only [Act.put, List.getElem_toArray, List.getElem_cons_succ, List.getElem_cons_zero, List.setIfInBounds_toArray, List.set_cons_zero, List.set_cons_succ])
            refine wpAnyH_ready (rs := [12]) (by kernel_rfl) (by simp) ?_
            refine (AllReadyH.cons rfl (fun K35 hK35 => ?_) AllReadyH.nil)
            go_simp
            refine hK35.out _ _ (HSX.out _ HX3.out) (fun _ => ?_)
            clear hK35 K35
            (try simp only [Act.put, List.getElem_toArray, List.getElem_cons_succ, List.getElem_cons_zero, List.setIfInBounds_toArray, List.set_cons_zero, List.set_cons_succ])
            refine wpAnyH_done (by kernel_rfl) ?_ _
            go_wp2_with fail
            go_meet
            case rel => exact ⟨rfl, HX3.out⟩
      ·
        go_simp
        have hb : Below wd.heap.size wd (wd.alloc (.cells #[.slice none 0 0, .int .u64 0, .slice none 0 0, .int .u64 0, .slice none 0 0, .slice none 0 0, .slice none 0 0] 34)) := (Below.refl _ _).alloc (Nat.le_refl _) _
        have hre := RowAt.new wd 34 #[.slice none 0 0, .int .u64 0, .slice none 0 0, .int .u64 0, .slice none 0 0, .slice none 0 0, .slice none 0 0]
        obtain ⟨ga, hge⟩ : ∃ g, wd.heap.size = g := ⟨_, rfl⟩
        have HGA := hide (show wy.heap.size ≤ ga from by rw [← hge]; exact HX.out.size)
        have hX2 := HX.out.trans (hb.mono HX.out.size)
        replace HX := hide hX2
        rw [hge] at hre ⊢
        have HRA := hide hre
        clear hX2 hS0 hre hb hge
        have hS0 := HSX.out _ HX.out
        generalize (wd.alloc (.cells #[.slice none 0 0, .int .u64 0, .slice none 0 0, .int .u64 0, .slice none 0 0, .slice none 0 0, .slice none 0 0] 34)) = wa0 at *
        refine hK1.out _ _ (hS0) (fun _ => ?_)
        clear hK1 K1
        (try simp only [Act.put, List.getElem_toArray, List.getElem_cons_succ, List.getElem_cons_zero, List.setIfInBounds_toArray, List.set_cons_zero, List.set_cons_succ])
        refine wpAnyH_ready (rs := [2, 9]) (by kernel_rfl) (by simp) ?_
        refine (AllReadyH.cons rfl (fun K36 hK36 => ?_) (AllReadyH.cons rfl (fun K37 hK37 => ?_) AllReadyH.nil))
        ·
          go_simp
          with_reducible refine (op_any 6 0 0 0 wa0).mono ?_
          rintro e wo1 ⟨rfl, hb⟩
          replace HRA := hide (HRA.out.below hb)
          have hX2 := HX.out.trans (hb.mono HX.out.size)
          replace HX := hide hX2
          clear hX2 hS0 hb
          have hS0 := HSX.out _ HX.out
          refine hK36.out _ _ (hS0) (fun _ => ?_)
          clear hK36 K36
          (try simp only [Act.put, List.getElem_toArray, List.getElem_cons_succ, List.getElem_cons_zero, List.setIfInBounds_toArray, List.set_cons_zero, List.set_cons_succ])
          refine wpAnyH_ready (rs := [3, 9]) (by kernel_rfl) (by simp) ?_
          refine (AllReadyH.cons rfl (fun K38 hK38 => ?_) (AllReadyH.cons rfl (fun K39 hK39 => ?_) AllReadyH.nil))
          ·
            go_simp
            with_reducible refine (vDo (HRC.out.below HX.out).val wkF5 ⟨6, 0, 0, (0, 0)⟩ (Int.le_refl _) u64z).mono ?_
            rintro e wo2 ⟨⟨v5, rfl, hv⟩, hb⟩
            rw [wkR6] at hv ⊢
            obtain ⟨B0, Bs, m0, d0, ms, ds, B, m, d, rfl, hr⟩ := hv
            clear hr
            replace HRA := hide (HRA.out.below hb)
            have hX2 := HX.out.trans (hb.mono HX.out.size)
            replace HX := hide hX2
            clear hX2 hS0 hb
            have hS0 := HSX.out _ HX.out
            refine hK38.out _ _ (hS0) (fun _ => ?_)
            clear hK38 K38
            (try simp only [Act.put, List.getElem_toArray, List.getElem_cons_succ, List.getElem_cons_zero, List.setIfInBounds_toArray, List.set_cons_zero, List.set_cons_succ])
            (refine wpAnyH_take (i := 4) (v := ?_) rfl (by kernel_rfl) (by kernel_rfl) (by kernel_rfl) (fun _ _ _ h => h) (Or.inl ⟨by rfl, ?_⟩) (by assumption) ?_; rotate_left; (focus (intro w hSw; (try dsimp only at hSw); obtain ⟨kf0, kf1, kf2, kf3, kf4, kf5, kf6, kf7, kf8, kf9, kf10⟩ := hSw; go_simp; first | done | with_reducible rfl)); (try simp only [Act.put, List.getElem_toArray, List.getElem_cons_succ, List.getElem_cons_zero, List.setIfInBounds_toArray, List.set_cons_zero, List.set_cons_succ]))
            (refine wpAnyH_take (i := 5) (v := ?_) rfl (by kernel_rfl) (by kernel_rfl) (by kernel_rfl) (fun _ _ _ h => h) (Or.inl ⟨by rfl, ?_⟩) (by assumption) ?_; rotate_left; (focus (intro w hSw; (try dsimp only at hSw); obtain ⟨kf0, kf1, kf2, kf3, kf4, kf5, kf6, kf7, kf8, kf9, kf10⟩ := hSw; go_simp; first | done | with_reducible rfl)); (try simp only [Act.put, List.getElem_toArray, List.getElem_cons_succ, List.getElem_cons_zero, List.setIfInBounds_toArray, List.set_cons_zero, List.set_cons_succ]))
            (refine wpAnyH_take (i := 6) (v := ?_) rfl (by kernel_rfl) (by kernel_rfl) (by kernel_rfl) (fun _ _ _ h => h) (Or.inl ⟨by rfl, ?_⟩) (by assumption) ?_; rotate_left; (focus (intro w hSw; (try dsimp only at hSw); obtain ⟨kf0, kf1, kf2, kf3, kf4, kf5, kf6, kf7, kf8, kf9, kf10⟩ := hSw; go_simp; first | done | with_reducible rfl)); (try simp only [Act.put, List.getElem_toArray, List.getElem_cons_succ, List.getElem_cons_zero, List.setIfInBounds_toArray, List.set_cons_zero, List.set_cons_succ]))
            (refine wpAnyH_take (i := 7) (v := ?_) rfl (by kernel_rfl) (by kernel_rfl) (by kernel_rfl) (fun _ _ _ h => h) (Or.inl ⟨by rfl, ?_⟩) (by assumption) ?_; rotate_left; (focus (intro w hSw; (try dsimp only at hSw); obtain ⟨kf0, kf1, kf2, kf3, kf4, kf5, kf6, kf7, kf8, kf9, kf10⟩ := hSw; go_simp; first | done | with_reducible rfl)); (try simp only [Act.put, List.getElem_toArray, List.getElem_cons_succ, List.getElem_cons_zero, List.setIfInBounds_toArray, List.set_cons_zero, List.set_cons_succ]))
            refine wpAnyH_ready (rs := [9]) (by kernel_rfl) (by simp) ?_
            refine (AllReadyH.cons rfl (fun K40 hK40 => ?_) AllReadyH.nil)
            go_simp
            have hb : Below wo2.heap.size wo2 (wo2.alloc (.cells #[.int .i64 0, .int .u64 0] 41)) := (Below.refl _ _).alloc (Nat.le_refl _) _
            have hre := RowAt.new wo2 41 #[.int .i64 0, .int .u64 0]
            replace HRA := hide (HRA.out.below hb)
            obtain ⟨gb, hge⟩ : ∃ g, wo2.heap.size = g := ⟨_, rfl⟩
            have HGB := hide (show wy.heap.size ≤ gb from by rw [← hge]; exact HX.out.size)
            have hX2 := HX.out.trans (hb.mono HX.out.size)
            replace HX := hide hX2
            rw [hge] at hre ⊢
            have HRB := hide hre
            clear hX2 hS0 hre hb hge
            have hS0 := HSX.out _ HX.out
            generalize (wo2.alloc (.cells #[.int .i64 0, .int .u64 0] 41)) = wa3 at *
            refine hK40.out _ _ (hS0) (fun _ => ?_)
            clear hK40 K40
            (try simp only [Act.put, List.getElem_toArray, List.getElem_cons_succ, List.getElem_cons_zero, List.setIfInBounds_toArray, List.set_cons_zero, List.set_cons_succ])
            refine wpAnyH_ready (rs := [10]) (by kernel_rfl) (by simp) ?_
            refine (AllReadyH.cons rfl (fun K41 hK41 => ?_) AllReadyH.nil)
            clear hS0
            have hra := HRA.out
            obtain ⟨y0, y1, y2, y3, y4, y5, y6⟩ := row7 hra
            have yl := hra.lt
            have yf0 := hra.frozen 0
            have yf1 := hra.frozen 1
            have yf2 := hra.frozen 2
            have yf3 := hra.frozen 3
            have yf4 := hra.frozen 4
            have yf5 := hra.frozen 5
            have yf6 := hra.frozen 6
            go_simp
            have HLD := hide (show LaidF ga wa3 (((((((wa3.setCell ⟨ga, 0, none⟩ (.slice B0 m0 d0)).setCell ⟨ga, 1, none⟩ (.int .u64 rec0.e)).setCell ⟨ga, 2, none⟩ (.slice Bs ms ds)).setCell ⟨ga, 3, none⟩ (.int .u64 (rec0.l.E : Int))).setCell ⟨ga, 4, none⟩ (.slice (B 0) (m 0) (d 0))).setCell ⟨ga, 5, none⟩ (.slice (B 1) (m 1) (d 1))).setCell ⟨ga, 6, none⟩ (.slice (B 2) (m 2) (d 2))) from ((((((((laid0 ga _).set 0 (.slice B0 m0 d0)).set 1 (.int .u64 rec0.e)).set 2 (.slice Bs ms ds)).set 3 (.int .u64 (rec0.l.E : Int))).set 4 (.slice (B 0) (m 0) (d 0))).set 5 (.slice (B 1) (m 1) (d 1))).set 6 (.slice (B 2) (m 2) (d 2))))
            have HX1 := hide (HX.out.trans (HLD.out.below.mono HGA.out))
            have HRB2 := hide (show RowAt _ gb 41 #[.int .i64 0, .int .u64 0] from (HLD.out.block gb (fun e => by have h1 := HRB.out; rw [e] at h1; exact absurd (row_typ h1 hra) (by decide))).trans HRB.out)
            clear hra yl y0 yf0 y1 yf1 y2 yf2 y3 yf3 y4 yf4 y5 yf5 y6 yf6
            generalize (((((((wa3.setCell ⟨ga, 0, none⟩ (.slice B0 m0 d0)).setCell ⟨ga, 1, none⟩ (.int .u64 rec0.e)).setCell ⟨ga, 2, none⟩ (.slice Bs ms ds)).setCell ⟨ga, 3, none⟩ (.int .u64 (rec0.l.E : Int))).setCell ⟨ga, 4, none⟩ (.slice (B 0) (m 0) (d 0))).setCell ⟨ga, 5, none⟩ (.slice (B 1) (m 1) (d 1))).setCell ⟨ga, 6, none⟩ (.slice (B 2) (m 2) (d 2))) = wp at *
            refine hK41.out _ _ (HSX.out _ HX1.out) (fun _ => ?_)
            clear hK41 K41
            (try simp only [Act.put, List.getElem_toArray, List.getElem_cons_succ, List.getElem_cons_zero, List.setIfInBounds_toArray, List.set_cons_zero, List.set_cons_succ])
            refine wpAnyH_ready (rs := [11]) (by kernel_rfl) (by simp) ?_
            refine (AllReadyH.cons rfl (fun K42 hK42 => ?_) AllReadyH.nil)
            have u0 := row20 HRB2.out
            have u1 := row21 HRB2.out
            have ul := HRB2.out.lt
            have uf0 := HRB2.out.frozen 0
            have uf1 := HRB2.out.frozen 1
            go_simp
            have HL2 := hide (show LaidF gb wp ((wp.setCell ⟨gb, 0, none⟩ (.int .i64 0)).setCell ⟨gb, 1, none⟩ (.int .u64 0)) from (((laid0 gb _).set 0 (.int .i64 0)).set 1 (.int .u64 0)))
            have HX3 := hide (HX1.out.trans (HL2.out.below.mono HGB.out))
            clear u0 u1 ul uf0 uf1
            generalize ((wp.setCell ⟨gb, 0, none⟩ (.int .i64 0)).setCell ⟨gb, 1, none⟩ (.int .u64 0)) = wq at *
            refine hK42.out _ _ (HSX.out _ HX3.out) (fun _ => ?_)
            clear hK42 K42
            (try simp only [Act.put, List.getElem_toArray, List.getElem_cons_succ, List.getElem_cons_zero, List.setIfInBounds_toArray, List.set_cons_zero, List.set_cons_succ])
            refine wpAnyH_ready (rs := [12]) (by kernel_rfl) (by simp) ?_
            refine (AllReadyH.cons rfl (fun K43 hK43 => ?_) AllReadyH.nil)
            go_simp
            refine hK43.out _ _ (HSX.out _ HX3.out) (fun _ => ?_)
            clear hK43 K43
            (try simp only [Act.put, List.getElem_toArray, List.getElem_cons_succ, List.getElem_cons_zero, List.setIfInBounds_toArray, List.set_cons_zero, List.set_cons_succ])
            refine wpAnyH_done (by kernel_rfl) ?_ _
            go_wp2_with fail
            go_meet
            case rel => exact ⟨rfl, HX3.out⟩
          ·
            go_simp
            have hb : Below wo1.heap.size wo1 (wo1.alloc (.cells #[.int .i64 0, .int .u64 0] 41)) := (Below.refl _ _).alloc (Nat.le_refl _) _
            have hre := RowAt.new wo1 41 #[.int .i64 0, .int .u64 0]
            replace HRA := hide (HRA.out.below hb)
            obtain ⟨gb, hge⟩ : ∃ g, wo1.heap.size = g := ⟨_, rfl⟩
            have HGB := hide (show wy.heap.size ≤ gb from by rw [← hge]; exact HX.out.size)
            have hX2 := HX.out.trans (hb.mono HX.out.size)
            replace HX := hide hX2
            rw [hge] at hre ⊢
            have HRB := hide hre
            clear hX2 hS0 hre hb hge
            have hS0 := HSX.out _ HX.out
            generalize (wo1.alloc (.cells #[.int .i64 0, .int .u64 0] 41)) = wa2 at *
            refine hK39.out _ _ (hS0) (fun _ => ?_)
            clear hK39 K39
            (try simp only [Act.put, List.getElem_toArray, List.getElem_cons_succ, List.getElem_cons_zero, List.setIfInBounds_toArray, List.set_cons_zero, List.set_cons_succ])
            refine wpAnyH_ready (rs := [3]) (by kernel_rfl) (by simp) ?_
            refine (AllReadyH.cons rfl (fun K44 hK44 => ?_) AllReadyH.nil)
            go_simp
            with_reducible refine (vDo (HRC.out.below HX.out).val wkF5 ⟨6, 0, 0, (0, 0)⟩ (Int.le_refl _) u64z).mono ?_
            rintro e wo3 ⟨⟨v5, rfl, hv⟩, hb⟩
            rw [wkR6] at hv ⊢
            obtain ⟨B0, Bs, m0, d0, ms, ds, B, m, d, rfl, hr⟩ := hv
            clear hr
            replace HRA := hide (HRA.out.below hb)
            replace HRB := hide (HRB.out.below hb)
            have hX2 := HX.out.trans (hb.mono HX.out.size)
            replace HX := hide hX2
            clear hX2 hS0 hb
            have hS0 := HSX.out _ HX.out
            refine hK44.out _ _ (hS0) (fun _ => ?_)
            clear hK44 K44
            (try simp only [Act.put, List.getElem_toArray, List.getElem_cons_succ, List.getElem_cons_zero, List.setIfInBounds_toArray, List.set_cons_zero, List.set_cons_succ])
            (refine wpAnyH_take (i := 4) (v := ?_) rfl (by kernel_rfl) (by kernel_rfl) (by kernel_rfl) (fun _ _ _ h => h) (Or.inl ⟨by rfl, ?_⟩) (by assumption) ?_; rotate_left; (focus (intro w hSw; (try dsimp only at hSw); obtain ⟨kf0, kf1, kf2, kf3, kf4, kf5, kf6, kf7, kf8, kf9, kf10⟩ := hSw; go_simp; first | done | with_reducible rfl)); (try simp only [Act.put, List.getElem_toArray, List.getElem_cons_succ, List.getElem_cons_zero, List.setIfInBounds_toArray, List.set_cons_zero, List.set_cons_succ]))
            (refine wpAnyH_take (i := 5) (v := ?_) rfl (by kernel_rfl) (by kernel_rfl) (by kernel_rfl) (fun _ _ _ h => h) (Or.inl ⟨by rfl, ?_⟩) (by assumption) ?_; rotate_left; (focus (intro w hSw; (try dsimp only at hSw); obtain ⟨kf0, kf1, kf2, kf3, kf4, kf5, kf6, kf7, kf8, kf9, kf10⟩ := hSw; go_simp; first | done | with_reducible rfl)); (try simp only [Act.put, List.getElem_toArray, List.getElem_cons_succ, List.getElem_cons_zero, List.setIfInBounds_toArray, List.set_cons_zero, List.set_cons_succ]))
            (refine wpAnyH_take (i := 6) (v := ?_) rfl (by kernel_rfl) (by kernel_rfl) (by kernel_rfl) (fun _ _ _ h => h) (Or.inl ⟨by rfl, ?_⟩) (by assumption) ?_; rotate_left; (focus (intro w hSw; (try dsimp only at hSw); obtain ⟨kf0, kf1, kf2, kf3, kf4, kf5, kf6, kf7, kf8, kf9, kf10⟩ := hSw; go_simp; first | done | with_reducible rfl)); (try simp only [Act.put, List.getElem_toArray, List.getElem_cons_succ, List.getElem_cons_zero, List.setIfInBounds_toArray, List.set_cons_zero, List.set_cons_succ]))
            (refine wpAnyH_take (i := 7) (v := ?_) rfl (by kernel_rfl) (by kernel_rfl) (by kernel_rfl) (fun _ _ _ h => h) (Or.inl ⟨by rfl, ?_⟩) (by assumption) ?_; rotate_left; (focus (intro w hSw; (try dsimp only at hSw); obtain ⟨kf0, kf1, kf2, kf3, kf4, kf5, kf6, kf7, kf8, kf9, kf10⟩ := hSw; go_simp; first | done | with_reducible rfl)); (try simp only [Act.put, List.getElem_toArray, List.getElem_cons_succ, List.getElem_cons_zero, List.setIfInBounds_toArray, List.set_cons_zero, List.set_cons_succ]))
            refine wpAnyH_ready (rs := [10]) (by kernel_rfl) (by simp) ?_
            refine (AllReadyH.cons rfl (fun K45 hK45 => ?_) AllReadyH.nil)
            clear hS0
            have hra := HRA.out
            obtain ⟨y0, y1, y2, y3, y4, y5, y6⟩ := row7 hra
            have yl := hra.lt
            have yf0 := hra.frozen 0
            have yf1 := hra.frozen 1
            have yf2 := hra.frozen 2
            have yf3 := hra.frozen 3
            have yf4 := hra.frozen 4
            have yf5 := hra.frozen 5
            have yf6 := hra.frozen 6
            go_simp
            have HLD := hide (show LaidF ga wo3 (((((((wo3.setCell ⟨ga, 0, none⟩ (.slice B0 m0 d0)).setCell ⟨ga, 1, none⟩ (.int .u64 rec0.e)).setCell ⟨ga, 2, none⟩ (.slice Bs ms ds)).setCell ⟨ga, 3, none⟩ (.int .u64 (rec0.l.E : Int))).setCell ⟨ga, 4, none⟩ (.slice (B 0) (m 0) (d 0))).setCell ⟨ga, 5, none⟩ (.slice (B 1) (m 1) (d 1))).setCell ⟨ga, 6, none⟩ (.slice (B 2) (m 2) (d 2))) from ((((((((laid0 ga _).set 0 (.slice B0 m0 d0)).set 1 (.int .u64 rec0.e)).set 2 (.slice Bs ms ds)).set 3 (.int .u64 (rec0.l.E : Int))).set 4 (.slice (B 0) (m 0) (d 0))).set 5 (.slice (B 1) (m 1) (d 1))).set 6 (.slice (B 2) (m 2) (d 2))))
            have HX1 := hide (HX.out.trans (HLD.out.below.mono HGA.out))
            have HRB2 := hide (show RowAt _ gb 41 #[.int .i64 0, .int .u64 0] from (HLD.out.block gb (fun e => by have h1 := HRB.out; rw [e] at h1; exact absurd (row_typ h1 hra) (by decide))).trans HRB.out)
            clear hra yl y0 yf0 y1 yf1 y2 yf2 y3 yf3 y4 yf4 y5 yf5 y6 yf6
            generalize (((((((wo3.setCell ⟨ga, 0, none⟩ (.slice B0 m0 d0)).setCell ⟨ga, 1, none⟩ (.int .u64 rec0.e)).setCell ⟨ga, 2, none⟩ (.slice Bs ms ds)).setCell ⟨ga, 3, none⟩ (.int .u64 (rec0.l.E : Int))).setCell ⟨ga, 4, none⟩ (.slice (B 0) (m 0) (d 0))).setCell ⟨ga, 5, none⟩ (.slice (B 1) (m 1) (d 1))).setCell ⟨ga, 6, none⟩ (.slice (B 2) (m 2) (d 2))) = wp at *
            refine hK45.out _ _ (HSX.out _ HX1.out) (fun _ => ?_)
            clear hK45 K45
            (try simp only [Act.put, List.getElem_toArray, List.getElem_cons_succ, List.getElem_cons_zero, List.setIfInBounds_toArray, List.set_cons_zero, List.set_cons_succ])
            refine wpAnyH_ready (rs := [11]) (by kernel_rfl) (by simp) ?_
            refine (AllReadyH.cons rfl (fun K46 hK46 => ?_) AllReadyH.nil)
            have u0 := row20 HRB2.out
            have u1 := row21 HRB2.out
            have ul := HRB2.out.lt
            have uf0 := HRB2.out.frozen 0
            have uf1 := HRB2.out.frozen 1
            go_simp
            have HL2 := hide (show LaidF gb wp ((wp.setCell ⟨gb, 0, none⟩ (.int .i64 0)).setCell ⟨gb, 1, none⟩ (.int .u64 0)) from (((laid0 gb _).set 0 (.int .i64 0)).set 1 (.int .u64 0)))
            have HX3 := hide (HX1.out.trans (HL2.out.below.mono HGB.out))
            clear u0 u1 ul uf0 uf1
            generalize ((wp.setCell ⟨gb, 0, none⟩ (.int .i64 0)).setCell ⟨gb, 1, none⟩ (.int .u64 0)) = wq at *
            refine hK46.out _ _ (HSX.out _ HX3.out) (fun _ => ?_)
            clear hK46 K46
            (try simp only [Act.put, List.getElem_toArray, List.getElem_cons_succ, List.getElem_cons_zero, List.setIfInBounds_toArray, List.set_cons_zero, List.set_cons_succ])
            refine wpAnyH_ready (rs := [12]) (by kernel_rfl) (by simp) ?_
            refine (AllReadyH.cons rfl (fun K47 hK47 => ?_) AllReadyH.nil)
            go_simp
            refine hK47.out _ _ (HSX.out _ HX3.out) (fun _ => ?_)
            clear hK47 K47
            (try simp only [Act.put, List.getElem_toArray, List.getElem_cons_succ, List.getElem_cons_zero, List.setIfInBounds_toArray, List.set_cons_zero, List.set_cons_succ])
            refine wpAnyH_done (by kernel_rfl) ?_ _
            go_wp2_with fail
            go_meet
            case rel => exact ⟨rfl, HX3.out⟩
        ·
          go_simp
          have hb : Below wa0.heap.size wa0 (wa0.alloc (.cells #[.int .i64 0, .int .u64 0] 41)) := (Below.refl _ _).alloc (Nat.le_refl _) _
          have hre := RowAt.new wa0 41 #[.int .i64 0, .int .u64 0]
          replace HRA := hide (HRA.out.below hb)
          obtain ⟨gb, hge⟩ : ∃ g, wa0.heap.size = g := ⟨_, rfl⟩
          have HGB := hide (show wy.heap.size ≤ gb from by rw [← hge]; exact HX.out.size)
          have hX2 := HX.out.trans (hb.mono HX.out.size)
          replace HX := hide hX2
          rw [hge] at hre ⊢
          have HRB := hide hre
          clear hX2 hS0 hre hb hge
          have hS0 := HSX.out _ HX.out
          generalize (wa0.alloc (.cells #[.int .i64 0, .int .u64 0] 41)) = wa1 at *
          refine hK37.out _ _ (hS0) (fun _ => ?_)
          clear hK37 K37
          (try simp only [Act.put, List.getElem_toArray, List.getElem_cons_succ, List.getElem_cons_zero, List.setIfInBounds_toArray, List.set_cons_zero, List.set_cons_succ])
          refine wpAnyH_ready (rs := [2]) (by kernel_rfl) (by simp) ?_
          refine (AllReadyH.cons rfl (fun K48 hK48 => ?_) AllReadyH.nil)
          go_simp
          with_reducible refine (op_any 6 0 0 0 wa1).mono ?_
          rintro e wo2 ⟨rfl, hb⟩
          replace HRA := hide (HRA.out.below hb)
          replace HRB := hide (HRB.out.below hb)
          have hX2 := HX.out.trans (hb.mono HX.out.size)
          replace HX := hide hX2
          clear hX2 hS0 hb
          have hS0 := HSX.out _ HX.out
          refine hK48.out _ _ (hS0) (fun _ => ?_)
          clear hK48 K48
          (try simp only [Act.put, List.getElem_toArray, List.getElem_cons_succ, List.getElem_cons_zero, List.setIfInBounds_toArray, List.set_cons_zero, List.set_cons_succ])
          refine wpAnyH_ready (rs := [3]) (by kernel_rfl) (by simp) ?_
          refine (AllReadyH.cons rfl (fun K49 hK49 => ?_) AllReadyH.nil)
          go_simp
          with_reducible refine (vDo (HRC.out.below HX.out).val wkF5 ⟨6, 0, 0, (0, 0)⟩ (Int.le_refl _) u64z).mono ?_
          rintro e wo3 ⟨⟨v5, rfl, hv⟩, hb⟩
          rw [wkR6] at hv ⊢
          obtain ⟨B0, Bs, m0, d0, ms, ds, B, m, d, rfl, hr⟩ := hv
          clear hr
          replace HRA := hide (HRA.out.below hb)
          replace HRB := hide (HRB.out.below hb)
          have hX2 := HX.out.trans (hb.mono HX.out.size)
          replace HX := hide hX2
          clear hX2 hS0 hb
          have hS0 := HSX.out _ HX.out
          refine hK49.out _ _ (hS0) (fun _ => ?_)
          clear hK49 K49
          (try simp only [Act.put, List.getElem_toArray, List.getElem_cons_succ, List.getElem_cons_zero, List.setIfInBounds_toArray, List.set_cons_zero, List.set_cons_succ])
          (refine wpAnyH_take (i := 4) (v := ?_) rfl (by kernel_rfl) (by kernel_rfl) (by kernel_rfl) (fun _ _ _ h => h) (Or.inl ⟨by rfl, ?_⟩) (by assumption) ?_; rotate_left; (focus (intro w hSw; (try dsimp only at hSw); obtain ⟨kf0, kf1, kf2, kf3, kf4, kf5, kf6, kf7, kf8, kf9, kf10⟩ := hSw; go_simp; first | done | with_reducible rfl)); (try simp only [Act.put, List.getElem_toArray, List.getElem_cons_succ, List.getElem_cons_zero, List.setIfInBounds_toArray, List.set_cons_zero, List.set_cons_succ]))
          (refine wpAnyH_take (i := 5) (v := ?_) rfl (by kernel_rfl) (by kernel_rfl) (by kernel_rfl) (fun _ _ _ h => h) (Or.inl ⟨by rfl, ?_⟩) (by assumption) ?_; rotate_left; (focus (intro w hSw; (try dsimp only at hSw); obtain ⟨kf0, kf1, kf2, kf3, kf4, kf5, kf6, kf7, kf8, kf9, kf10⟩ := hSw; go_simp; first | done | with_reducible rfl)); (try simp only [Act.put, List.getElem_toArray, List.getElem_cons_succ, List.getElem_cons_zero, List.setIfInBounds_toArray, List.set_cons_zero, List.set_cons_succ]))
          (refine wpAnyH_take (i := 6) (v := ?_) rfl (by kernel_rfl) (by kernel_rfl) (by kernel_rfl) (fun _ _ _ h => h) (Or.inl ⟨by rfl, ?_⟩) (by assumption) ?_; rotate_left; (focus (intro w hSw; (try dsimp only at hSw); obtain ⟨kf0, kf1, kf2, kf3, kf4, kf5, kf6, kf7, kf8, kf9, kf10⟩ := hSw; go_simp; first | done | with_reducible rfl)); (try simp only [Act.put, List.getElem_toArray, List.getElem_cons_succ, List.getElem_cons_zero, List.setIfInBounds_toArray, List.set_cons_zero, List.set_cons_succ]))
          (refine wpAnyH_take (i := 7) (v := ?_) rfl (by kernel_rfl) (by kernel_rfl) (by kernel_rfl) (fun _ _ _ h => h) (Or.inl ⟨by rfl, ?_⟩) (by assumption) ?_; rotate_left; (focus (intro w hSw; (try dsimp only at hSw); obtain ⟨kf0, kf1, kf2, kf3, kf4, kf5, kf6, kf7, kf8, kf9, kf10⟩ := hSw; go_simp; first | done | with_reducible rfl)); (try simp only [Act.put, List.getElem_toArray, List.getElem_cons_succ, List.getElem_cons_zero, List.setIfInBounds_toArray, List.set_cons_zero, List.set_cons_succ]))
          refine wpAnyH_ready (rs := [10]) (by kernel_rfl) (by simp) ?_
          refine (AllReadyH.cons rfl (fun K50 hK50 => ?_) AllReadyH.nil)
          clear hS0
          have hra := HRA.out
          obtain ⟨y0, y1, y2, y3, y4, y5, y6⟩ := row7 hra
          have yl := hra.lt
          have yf0 := hra.frozen 0
          have yf1 := hra.frozen 1
          have yf2 := hra.frozen 2
          have yf3 := hra.frozen 3
          have yf4 := hra.frozen 4
          have yf5 := hra.frozen 5
          have yf6 := hra.frozen 6
          go_simp
          have HLD := hide (show LaidF ga wo3 (((((((wo3.setCell ⟨ga, 0, none⟩ (.slice B0 m0 d0)).setCell ⟨ga, 1, none⟩ (.int .u64 rec0.e)).setCell ⟨ga, 2, none⟩ (.slice Bs ms ds)).setCell ⟨ga, 3, none⟩ (.int .u64 (rec0.l.E : Int))).setCell ⟨ga, 4, none⟩ (.slice (B 0) (m 0) (d 0))).setCell ⟨ga, 5, none⟩ (.slice (B 1) (m 1) (d 1))).setCell ⟨ga, 6, none⟩ (.slice (B 2) (m 2) (d 2))) from ((((((((laid0 ga _).set 0 (.slice B0 m0 d0)).set 1 (.int .u64 rec0.e)).set 2 (.slice Bs ms ds)).set 3 (.int .u64 (rec0.l.E : Int))).set 4 (.slice (B 0) (m 0) (d 0))).set 5 (.slice (B 1) (m 1) (d 1))).set 6 (.slice (B 2) (m 2) (d 2))))
          have HX1 := hide (HX.out.trans (HLD.out.below.mono HGA.out))
          have HRB2 := hide (show RowAt _ gb 41 #[.int .i64 0, .int .u64 0] from (HLD.out.block gb (fun e => by have h1 := HRB.out; rw [e] at h1; exact absurd (row_typ h1 hra) (by decide))).trans HRB.out)
          clear hra yl y0 yf0 y1 yf1 y2 yf2 y3 yf3 y4 yf4 y5 yf5 y6 yf6
          generalize (((((((wo3.setCell ⟨ga, 0, none⟩ (.slice B0 m0 d0)).setCell ⟨ga, 1, none⟩ (.int .u64 rec0.e)).setCell ⟨ga, 2, none⟩ (.slice Bs ms ds)).setCell ⟨ga, 3, none⟩ (.int .u64 (rec0.l.E : Int))).setCell ⟨ga, 4, none⟩ (.slice (B 0) (m 0) (d 0))).setCell ⟨ga, 5, none⟩ (.slice (B 1) (m 1) (d 1))).setCell ⟨ga, 6, none⟩ (.slice (B 2) (m 2) (d 2))) = wp at *
          refine hK50.out _ _ (HSX.out _ HX1.out) (fun _ => ?_)
          clear hK50 K50
          (try simp only [Act.put, List.getElem_toArray, List.getElem_cons_succ, List.getElem_cons_zero, List.setIfInBounds_toArray, List.set_cons_zero, List.set_cons_succ])
          refine wpAnyH_ready (rs := [11]) (by kernel_rfl) (by simp) ?_
          refine (AllReadyH.cons rfl (fun K51 hK51 => ?_) AllReadyH.nil)
          have u0 := row20 HRB2.out
          have u1 := row21 HRB2.out
          have ul := HRB2.out.lt
          have uf0 := HRB2.out.frozen 0
          have uf1 := HRB2.out.frozen 1
          go_simp
          have HL2 := hide (show LaidF gb wp ((wp.setCell ⟨gb, 0, none⟩ (.int .i64 0)).setCell ⟨gb, 1, none⟩ (.int .u64 0)) from (((laid0 gb _).set 0 (.int .i64 0)).set 1 (.int .u64 0)))
          have HX3 := hide (HX1.out.trans (HL2.out.below.mono HGB.out))
          clear u0 u1 ul uf0 uf1
          generalize ((wp.setCell ⟨gb, 0, none⟩ (.int .i64 0)).setCell ⟨gb, 1, none⟩ (.int .u64 0)) = wq at *
          refine hK51.out _ _ (HSX.out _ HX3.out) (fun _ => ?_)
          clear hK51 K51
          (try simp only [Act.put, List.getElem_toArray, List.getElem_cons_succ, List.getElem_cons_zero, List.setIfInBounds_toArray, List.set_cons_zero, List.set_cons_succ])
          refine wpAnyH_ready (rs := [12]) (by kernel_rfl) (by simp) ?_
          refine (AllReadyH.cons rfl (fun K52 hK52 => ?_) AllReadyH.nil)
          go_simp
          refine hK52.out _ _ (HSX.out _ HX3.out) (fun _ => ?_)
          clear hK52 K52
          (try simp only [Act.put, List.getElem_toArray, List.getElem_cons_succ, List.getElem_cons_zero, List.setIfInBounds_toArray, List.set_cons_zero, List.set_cons_succ])
          refine wpAnyH_done (by kernel_rfl) ?_ _
          go_wp2_with fail
          go_meet
          case rel => exact ⟨rfl, HX3.out⟩
      ·
        go_simp
        have hb : Below wd.heap.size wd (wd.alloc (.cells #[.int .i64 0, .int .u64 0] 41)) := (Below.refl _ _).alloc (Nat.le_refl _) _
        have hre := RowAt.new wd 41 #[.int .i64 0, .int .u64 0]
        obtain ⟨gb, hge⟩ : ∃ g, wd.heap.size = g := ⟨_, rfl⟩
        have HGB := hide (show wy.heap.size ≤ gb from by rw [← hge]; exact HX.out.size)
        have hX2 := HX.out.trans (hb.mono HX.out.size)
        replace HX := hide hX2
        rw [hge] at hre ⊢
        have HRB := hide hre
        clear hX2 hS0 hre hb hge
        have hS0 := HSX.out _ HX.out
        generalize (wd.alloc (.cells #[.int .i64 0, .int .u64 0] 41)) = wa0 at *
        refine hK2.out _ _ (hS0) (fun _ => ?_)
        clear hK2 K2
        (try simp only [Act.put, List.getElem_toArray, List.getElem_cons_succ, List.getElem_cons_zero, List.setIfInBounds_toArray, List.set_cons_zero, List.set_cons_succ])
        refine wpAnyH_ready (rs := [2, 8]) (by kernel_rfl) (by simp) ?_
        refine (AllReadyH.cons rfl (fun K53 hK53 => ?_) (AllReadyH.cons rfl (fun K54 hK54 => ?_) AllReadyH.nil))
        ·
          go_simp
          with_reducible refine (op_any 6 0 0 0 wa0).mono ?_
          rintro e wo1 ⟨rfl, hb⟩
          replace HRB := hide (HRB.out.below hb)
          have hX2 := HX.out.trans (hb.mono HX.out.size)
          replace HX := hide hX2
          clear hX2 hS0 hb
          have hS0 := HSX.out _ HX.out
          refine hK53.out _ _ (hS0) (fun _ => ?_)
          clear hK53 K53
          (try simp only [Act.put, List.getElem_toArray, List.getElem_cons_succ, List.getElem_cons_zero, List.setIfInBounds_toArray, List.set_cons_zero, List.set_cons_succ])
          refine wpAnyH_ready (rs := [3, 8]) (by kernel_rfl) (by simp) ?_
          refine (AllReadyH.cons rfl (fun K55 hK55 => ?_) (AllReadyH.cons rfl (fun K56 hK56 => ?_) AllReadyH.nil))
          ·
            go_simp
            with_reducible refine (vDo (HRC.out.below HX.out).val wkF5 ⟨6, 0, 0, (0, 0)⟩ (Int.le_refl _) u64z).mono ?_
            rintro e wo2 ⟨⟨v5, rfl, hv⟩, hb⟩
            rw [wkR6] at hv ⊢
            obtain ⟨B0, Bs, m0, d0, ms, ds, B, m, d, rfl, hr⟩ := hv
            clear hr
            replace HRB := hide (HRB.out.below hb)
            have hX2 := HX.out.trans (hb.mono HX.out.size)
            replace HX := hide hX2
            clear hX2 hS0 hb
            have hS0 := HSX.out _ HX.out
            refine hK55.out _ _ (hS0) (fun _ => ?_)
            clear hK55 K55
            (try simp only [Act.put, List.getElem_toArray, List.getElem_cons_succ, List.getElem_cons_zero, List.setIfInBounds_toArray, List.set_cons_zero, List.set_cons_succ])
            (refine wpAnyH_take (i := 4) (v := ?_) rfl (by kernel_rfl) (by kernel_rfl) (by kernel_rfl) (fun _ _ _ h => h) (Or.inl ⟨by rfl, ?_⟩) (by assumption) ?_; rotate_left; (focus (intro w hSw; (try dsimp only at hSw); obtain ⟨kf0, kf1, kf2, kf3, kf4, kf5, kf6, kf7, kf8, kf9, kf10⟩ := hSw; go_simp; first | done | with_reducible rfl)); (try simp only [Act.put, List.getElem_toArray, List.getElem_cons_succ, List.getElem_cons_zero, List.setIfInBounds_toArray, List.set_cons_zero, List.set_cons_succ]))
            (refine wpAnyH_take (i := 5) (v := ?_) rfl (by kernel_rfl) (by kernel_rfl) (by kernel_rfl) (fun _ _ _ h => h) (Or.inl ⟨by rfl, ?_⟩) (by assumption) ?_; rotate_left; (focus (intro w hSw; (try dsimp only at hSw); obtain ⟨kf0, kf1, kf2, kf3, kf4, kf5, kf6, kf7, kf8, kf9, kf10⟩ := hSw; go_simp; first | done | with_reducible rfl)); (try simp only [Act.put, List.getElem_toArray, List.getElem_cons_succ, List.getElem_cons_zero, List.setIfInBounds_toArray, List.set_cons_zero, List.set_cons_succ]))
            (refine wpAnyH_take (i := 6) (v := ?_) rfl (by kernel_rfl) (by kernel_rfl) (by kernel_rfl) (fun _ _ _ h => h) (Or.inl ⟨by rfl, ?_⟩) (by assumption) ?_; rotate_left; (focus (intro w hSw; (try dsimp only at hSw); obtain ⟨kf0, kf1, kf2, kf3, kf4, kf5, kf6, kf7, kf8, kf9, kf10⟩ := hSw; go_simp; first | done | with_reducible rfl)); (try simp only [Act.put, List.getElem_toArray, List.getElem_cons_succ, List.getElem_cons_zero, List.setIfInBounds_toArray, List.set_cons_zero, List.set_cons_succ]))
            (refine wpAnyH_take (i := 7) (v := ?_) rfl (by kernel_rfl) (by kernel_rfl) (by kernel_rfl) (fun _ _ _ h => h) (Or.inl ⟨by rfl, ?_⟩) (by assumption) ?_; rotate_left; (focus (intro w hSw; (try dsimp only at hSw); obtain ⟨kf0, kf1, kf2, kf3, kf4, kf5, kf6, kf7, kf8, kf9, kf10⟩ := hSw; go_simp; first | done | with_reducible rfl)); (try simp only [Act.put, List.getElem_toArray, List.getElem_cons_succ, List.getElem_cons_zero, List.setIfInBounds_toArray, List.set_cons_zero, List.set_cons_succ]))
            refine wpAnyH_ready (rs := [8]) (by kernel_rfl) (by simp) ?_
            refine (AllReadyH.cons rfl (fun K57 hK57 => ?_) AllReadyH.nil)
            go_simp
            have hb : Below wo2.heap.size wo2 (wo2.alloc (.cells #[.slice none 0 0, .int .u64 0, .slice none 0 0, .int .u64 0, .slice none 0 0, .slice none 0 0, .slice none 0 0] 34)) := (Below.refl _ _).alloc (Nat.le_refl _) _
            have hre := RowAt.new wo2 34 #[.slice none 0 0, .int .u64 0, .slice none 0 0, .int .u64 0, .slice none 0 0, .slice none 0 0, .slice none 0 0]
            replace HRB := hide (HRB.out.below hb)
            obtain ⟨ga, hge⟩ : ∃ g, wo2.heap.size = g := ⟨_, rfl⟩
            have HGA := hide (show wy.heap.size ≤ ga from by rw [← hge]; exact HX.out.size)
            have hX2 := HX.out.trans (hb.mono HX.out.size)
            replace HX := hide hX2
            rw [hge] at hre ⊢
            have HRA := hide hre
            clear hX2 hS0 hre hb hge
            have hS0 := HSX.out _ HX.out
            generalize (wo2.alloc (.cells #[.slice none 0 0, .int .u64 0, .slice none 0 0, .int .u64 0, .slice none 0 0, .slice none 0 0, .slice none 0 0] 34)) = wa3 at *
            refine hK57.out _ _ (hS0) (fun _ => ?_)
            clear hK57 K57
            (try simp only [Act.put, List.getElem_toArray, List.getElem_cons_succ, List.getElem_cons_zero, List.setIfInBounds_toArray, List.set_cons_zero, List.set_cons_succ])
            refine wpAnyH_ready (rs := [10]) (by kernel_rfl) (by simp) ?_
            refine (AllReadyH.cons rfl (fun K58 hK58 => ?_) AllReadyH.nil)
            clear hS0
            have hra := HRA.out
            obtain ⟨y0, y1, y2, y3, y4, y5, y6⟩ := row7 hra
            have yl := hra.lt
            have yf0 := hra.frozen 0
            have yf1 := hra.frozen 1
            have yf2 := hra.frozen 2
            have yf3 := hra.frozen 3
            have yf4 := hra.frozen 4
            have yf5 := hra.frozen 5
            have yf6 := hra.frozen 6
            go_simp
            have HLD := hide (show LaidF ga wa3 (((((((wa3.setCell ⟨ga, 0, none⟩ (.slice B0 m0 d0)).setCell ⟨ga, 1, none⟩ (.int .u64 rec0.e)).setCell ⟨ga, 2, none⟩ (.slice Bs ms ds)).setCell ⟨ga, 3, none⟩ (.int .u64 (rec0.l.E : Int))).setCell ⟨ga, 4, none⟩ (.slice (B 0) (m 0) (d 0))).setCell ⟨ga, 5, none⟩ (.slice (B 1) (m 1) (d 1))).setCell ⟨ga, 6, none⟩ (.slice (B 2) (m 2) (d 2))) from ((((((((laid0 ga _).set 0 (.slice B0 m0 d0)).set 1 (.int .u64 rec0.e)).set 2 (.slice Bs ms ds)).set 3 (.int .u64 (rec0.l.E : Int))).set 4 (.slice (B 0) (m 0) (d 0))).set 5 (.slice (B 1) (m 1) (d 1))).set 6 (.slice (B 2) (m 2) (d 2))))
            have HX1 := hide (HX.out.trans (HLD.out.below.mono HGA.out))
            have HRB2 := hide (show RowAt _ gb 41 #[.int .i64 0, .int .u64 0] from (HLD.out.block gb (fun e => by have h1 := HRB.out; rw [e] at h1; exact absurd (row_typ h1 hra) (by decide))).trans HRB.out)
            clear hra yl y0 yf0 y1 yf1 y2 yf2 y3 yf3 y4 yf4 y5 yf5 y6 yf6
            generalize (((((((wa3.setCell ⟨ga, 0, none⟩ (.slice B0 m0 d0)).setCell ⟨ga, 1, none⟩ (.int .u64 rec0.e)).setCell ⟨ga, 2, none⟩ (.slice Bs ms ds)).setCell ⟨ga, 3, none⟩ (.int .u64 (rec0.l.E : Int))).setCell ⟨ga, 4, none⟩ (.slice (B 0) (m 0) (d 0))).setCell ⟨ga, 5, none⟩ (.slice (B 1) (m 1) (d 1))).setCell ⟨ga, 6, none⟩ (.slice (B 2) (m 2) (d 2))) = wp at *
            refine hK58.out _ _ (HSX.out _ HX1.out) (fun _ => ?_)
            clear hK58 K58
            (try simp only [Act.put, List.getElem_toArray, List.getElem_cons_succ, List.getElem_cons_zero, List.setIfInBounds_toArray, List.set_cons_zero, List.set_cons_succ])
            refine wpAnyH_ready (rs := [11]) (by kernel_rfl) (by simp) ?_
            refine (AllReadyH.cons rfl (fun K59 hK59 => ?_) AllReadyH.nil)
            have u0 := row20 HRB2.out
            have u1 := row21 HRB2.out
            have ul := HRB2.out.lt
            have uf0 := HRB2.out.frozen 0
            have uf1 := HRB2.out.frozen 1
            go_simp
            have HL2 := hide (show LaidF gb wp ((wp.setCell ⟨gb, 0, none⟩ (.int .i64 0)).setCell ⟨gb, 1, none⟩ (.int .u64 0)) from (((laid0 gb _).set 0 (.int .i64 0)).set 1 (.int .u64 0)))
            have HX3 := hide (HX1.out.trans (HL2.out.below.mono HGB.out))
            clear u0 u1 ul uf0 uf1
            generalize ((wp.setCell ⟨gb, 0, none⟩ (.int .i64 0)).setCell ⟨gb, 1, none⟩ (.int .u64 0)) = wq at *
            refine hK59.out _ _ (HSX.out _ HX3.out) (fun _ => ?_)
            clear hK59 K59
            (try simp only [Act.put, List.getElem_toArray, List.getElem_cons_succ, List.getElem_cons_zero, List.setIfInBounds_toArray, List.set_cons_zero, List.set_cons_succ])
            refine wpAnyH_ready (rs := [12]) (by kernel_rfl) (by simp) ?_
            refine (AllReadyH.cons rfl (fun K60 hK60 => ?_) AllReadyH.nil)
            go_simp
            refine hK60.out _ _ (HSX.out _ HX3.out) (fun _ => ?_)
            clear hK60 K60
            (try simp only [Act.put, List.getElem_toArray, List.getElem_cons_succ, List.getElem_cons_zero, List.setIfInBounds_toArray, List.set_cons_zero, List.set_cons_succ])
            refine wpAnyH_done (by kernel_rfl) ?_ _
            go_wp2_with fail
            go_meet
            case rel => exact ⟨rfl, HX3.out⟩
          ·
            go_simp
            have hb : Below wo1.heap.size wo1 (wo1.alloc (.cells #[.slice none 0 0, .int .u64 0, .slice none 0 0, .int .u64 0, .slice none 0 0, .slice none 0 0, .slice none 0 0] 34)) := (Below.refl _ _).alloc (Nat.le_refl _) _
            have hre := RowAt.new wo1 34 #[.slice none 0 0, .int .u64 0, .slice none 0 0, .int .u64 0, .slice none 0 0, .slice none 0 0, .slice none 0 0]
            replace HRB := hide (HRB.out.below hb)
            obtain ⟨ga, hge⟩ : ∃ g, wo1.heap.size = g := ⟨_, rfl⟩
            have HGA := hide (show wy.heap.size ≤ ga from by rw [← hge]; exact HX.out.size)
            have hX2 := HX.out.trans (hb.mono HX.out.size)
            replace HX := hide hX2
            rw [hge] at hre ⊢
            have HRA := hide hre
            clear hX2 hS0 hre hb hge
            have hS0 := HSX.out _ HX.out
            generalize (wo1.alloc (.cells #[.slice none 0 0, .int .u64 0, .slice none 0 0, .int .u64 0, .slice none 0 0, .slice none 0 0, .slice none 0 0] 34)) = wa2 at *
            refine hK56.out _ _ (hS0) (fun _ => ?_)
            clear hK56 K56
            (try simp only [Act.put, List.getElem_toArray, List.getElem_cons_succ, List.getElem_cons_zero, List.setIfInBounds_toArray, List.set_cons_zero, List.set_cons_succ])
            refine wpAnyH_ready (rs := [3]) (by kernel_rfl) (by simp) ?_
            refine (AllReadyH.cons rfl (fun K61 hK61 => ?_) AllReadyH.nil)
            go_simp
            with_reducible refine (vDo (HRC.out.below HX.out).val wkF5 ⟨6, 0, 0, (0, 0)⟩ (Int.le_refl _) u64z).mono ?_
            rintro e wo3 ⟨⟨v5, rfl, hv⟩, hb⟩
            rw [wkR6] at hv ⊢
            obtain ⟨B0, Bs, m0, d0, ms, ds, B, m, d, rfl, hr⟩ := hv
            clear hr
            replace HRA := hide (HRA.out.below hb)
            replace HRB := hide (HRB.out.below hb)
            have hX2 := HX.out.trans (hb.mono HX.out.size)
            replace HX := hide hX2
            clear hX2 hS0 hb
            have hS0 := HSX.out _ HX.out
            refine hK61.out _ _ (hS0) (fun _ => ?_)
            clear hK61 K61
            (try simp only [Act.put, List.getElem_toArray, List.getElem_cons_succ, List.getElem_cons_zero, List.setIfInBounds_toArray, List.set_cons_zero, List.set_cons_succ])
            (refine wpAnyH_take (i := 4) (v := ?_) rfl (by kernel_rfl) (by kernel_rfl) (by kernel_rfl) (fun _ _ _ h => h) (Or.inl ⟨by rfl, ?_⟩) (by assumption) ?_; rotate_left; (focus (intro w hSw; (try dsimp only at hSw); obtain ⟨kf0, kf1, kf2, kf3, kf4, kf5, kf6, kf7, kf8, kf9, kf10⟩ := hSw; go_simp; first | done | with_reducible rfl)); (try simp only [Act.put, List.getElem_toArray, List.getElem_cons_succ, List.getElem_cons_zero, List.setIfInBounds_toArray, List.set_cons_zero, List.set_cons_succ]))
            (refine wpAnyH_take (i := 5) (v := ?_) rfl (by kernel_rfl) (by kernel_rfl) (by kernel_rfl) (fun _ _ _ h => h) (Or.inl ⟨by rfl, ?_⟩) (by assumption) ?_; rotate_left; (focus (intro w hSw; (try dsimp only at hSw); obtain ⟨kf0, kf1, kf2, kf3, kf4, kf5, kf6, kf7, kf8, kf9, kf10⟩ := hSw; go_simp; first | done | with_reducible rfl)); (try simp only [Act.put, List.getElem_toArray, List.getElem_cons_succ, List.getElem_cons_zero, List.setIfInBounds_toArray, List.set_cons_zero, List.set_cons_succ]))
            (refine wpAnyH_take (i := 6) (v := ?_) rfl (by kernel_rfl) (by kernel_rfl) (by kernel_rfl) (fun _ _ _ h => h) (Or.inl ⟨by rfl, ?_⟩) (by assumption) ?_; rotate_left; (focus (intro w hSw; (try dsimp only at hSw); obtain ⟨kf0, kf1, kf2, kf3, kf4, kf5, kf6, kf7, kf8, kf9, kf10⟩ := hSw; go_simp; first | done | with_reducible rfl)); (try simp only [Act.put, List.getElem_toArray, List.getElem_cons_succ, List.getElem_cons_zero, List.setIfInBounds_toArray, List.set_cons_zero, List.set_cons_succ]))
            (refine wpAnyH_take (i := 7) (v := ?_) rfl (by kernel_rfl) (by kernel_rfl) (by kernel_rfl) (fun _ _ _ h => h) (Or.inl ⟨by rfl, ?_⟩) (by assumption) ?_; rotate_left; (focus (intro w hSw; (try dsimp only at hSw); obtain ⟨kf0, kf1, kf2, kf3, kf4, kf5, kf6, kf7, kf8, kf9, kf10⟩ := hSw; go_simp; first | done | with_reducible rfl)); (try simp only [Act.put, List.getElem_toArray, List.getElem_cons_succ, List.getElem_cons_zero, List.setIfInBounds_toArray, List.set_cons_zero, List.set_cons_succ]))
            refine wpAnyH_ready (rs := [10]) (by kernel_rfl) (by simp) ?_
            refine (AllReadyH.cons rfl (fun K62 hK62 => ?_) AllReadyH.nil)
            clear hS0
            have hra := HRA.out
            obtain ⟨y0, y1, y2, y3, y4, y5, y6⟩ := row7 hra
            have yl := hra.lt
            have yf0 := hra.frozen 0
            have yf1 := hra.frozen 1
            have yf2 := hra.frozen 2
            have yf3 := hra.frozen 3
            have yf4 := hra.frozen 4
            have yf5 := hra.frozen 5
            have yf6 := hra.frozen 6
            go_simp
            have HLD := hide (show LaidF ga wo3 (((((((wo3.setCell ⟨ga, 0, none⟩ (.slice B0 m0 d0)).setCell ⟨ga, 1, none⟩ (.int .u64 rec0.e)).setCell ⟨ga, 2, none⟩ (.slice Bs ms ds)).setCell ⟨ga, 3, none⟩ (.int .u64 (rec0.l.E : Int))).setCell ⟨ga, 4, none⟩ (.slice (B 0) (m 0) (d 0))).setCell ⟨ga, 5, none⟩ (.slice (B 1) (m 1) (d 1))).setCell ⟨ga, 6, none⟩ (.slice (B 2) (m 2) (d 2))) from ((((((((laid0 ga _).set 0 (.slice B0 m0 d0)).set 1 (.int .u64 rec0.e)).set 2 (.slice Bs ms ds)).set 3 (.int .u64 (rec0.l.E : Int))).set 4 (.slice (B 0) (m 0) (d 0))).set 5 (.slice (B 1) (m 1) (d 1))).set 6 (.slice (B 2) (m 2) (d 2))))
            have HX1 := hide (HX.out.trans (HLD.out.below.mono HGA.out))
            have HRB2 := hide (show RowAt _ gb 41 #[.int .i64 0, .int .u64 0] from (HLD.out.block gb (fun e => by have h1 := HRB.out; rw [e] at h1; exact absurd (row_typ h1 hra) (by decide))).trans HRB.out)
            clear hra yl y0 yf0 y1 yf1 y2 yf2 y3 yf3 y4 yf4 y5 yf5 y6 yf6
            generalize (((((((wo3.setCell ⟨ga, 0, none⟩ (.slice B0 m0 d0)).setCell ⟨ga, 1, none⟩ (.int .u64 rec0.e)).setCell ⟨ga, 2, none⟩ (.slice Bs ms ds)).setCell ⟨ga, 3, none⟩ (.int .u64 (rec0.l.E : Int))).setCell ⟨ga, 4, none⟩ (.slice (B 0) (m 0) (d 0))).setCell ⟨ga, 5, none⟩ (.slice (B 1) (m 1) (d 1))).setCell ⟨ga, 6, none⟩ (.slice (B 2) (m 2) (d 2))) = wp at *
            refine hK62.out _ _ (HSX.out _ HX1.out) (fun _ => ?_)
            clear hK62 K62
            (try simp only [Act.put, List.getElem_toArray, List.getElem_cons_succ, List.getElem_cons_zero, List.setIfInBounds_toArray, List.set_cons_zero, List.set_cons_succ])
            refine wpAnyH_ready (rs := [11]) (by kernel_rfl) (by simp) ?_
            refine (AllReadyH.cons rfl (fun K63 hK63 => ?_) AllReadyH.nil)
            have u0 := row20 HRB2.out
            have u1 := row21 HRB2.out
            have ul := HRB2.out.lt
            have uf0 := HRB2.out.frozen 0
            have uf1 := HRB2.out.frozen 1
            go_simp
            have HL2 := hide (show LaidF gb wp ((wp.setCell ⟨gb, 0, none⟩ (.int .i64 0)).setCell ⟨gb, 1, none⟩ (.int .u64 0)) from (((laid0 gb _).set 0 (.int .i64 0)).set 1 (.int .u64 0)))
            have HX3 := hide (HX1.out.trans (HL2.out.below.mono HGB.out))
            clear u0 u1 ul uf0 uf1
            generalize ((wp.setCell ⟨gb, 0, none⟩ (.int .i64 0)).setCell ⟨gb, 1, none⟩ (.int .u64 0)) = wq at *
            refine hK63.out _ _ (HSX.out _ HX3.out) (fun _ => ?_)
            clear hK63 K63
            (try simp only [Act.put, List.getElem_toArray, List.getElem_cons_succ, List.getElem_cons_zero, List.setIfInBounds_toArray, List.set_cons_zero, List.set_cons_succ])
            refine wpAnyH_ready (rs := [12]) (by kernel_rfl) (by simp) ?_
            refine (AllReadyH.cons rfl (fun K64 hK64 => ?_) AllReadyH.nil)
            go_simp
            refine hK64.out _ _ (HSX.out _ HX3.out) (fun _ => ?_)
            clear hK64 K64
            (try simp only [Act.put, List.getElem_toArray, List.getElem_cons_succ, List.getElem_cons_zero, List.setIfInBounds_toArray, List.set_cons_zero, List.set_cons_succ])
            refine wpAnyH_done (by kernel_rfl) ?_ _
            go_wp2_with fail
            go_meet
            case rel => exact ⟨rfl, HX3.out⟩
        ·
          go_simp
          have hb : Below wa0.heap.size wa0 (wa0.alloc (.cells #[.slice none 0 0, .int .u64 0, .slice none 0 0, .int .u64 0, .slice none 0 0, .slice none 0 0, .slice none 0 0] 34)) := (Below.refl _ _).alloc (Nat.le_refl _) _
          have hre := RowAt.new wa0 34 #[.slice none 0 0, .int .u64 0, .slice none 0 0, .int .u64 0, .slice none 0 0, .slice none 0 0, .slice none 0 0]
          replace HRB := hide (HRB.out.below hb)
          obtain ⟨ga, hge⟩ : ∃ g, wa0.heap.size = g := ⟨_, rfl⟩
          have HGA := hide (show wy.heap.size ≤ ga from by rw [← hge]; exact HX.out.size)
          have hX2 := HX.out.trans (hb.mono HX.out.size)
          replace HX := hide hX2
          rw [hge] at hre ⊢
          have HRA := hide hre
          clear hX2 hS0 hre hb hge
          have hS0 := HSX.out _ HX.out
          generalize (wa0.alloc (.cells #[.slice none 0 0, .int .u64 0, .slice none 0 0, .int .u64 0, .slice none 0 0, .slice none 0 0, .slice none 0 0] 34)) = wa1 at *
          refine hK54.out _ _ (hS0) (fun _ => ?_)
          clear hK54 K54
          (try simp only [Act.put, List.getElem_toArray, List.getElem_cons_succ, List.getElem_cons_zero, List.setIfInBounds_toArray, List.set_cons_zero, List.set_cons_succ])
          refine wpAnyH_ready (rs := [2]) (by kernel_rfl) (by simp) ?_
          refine (AllReadyH.cons rfl (fun K65 hK65 => ?_) AllReadyH.nil)
          go_simp
          with_reducible refine (op_any 6 0 0 0 wa1).mono ?_
          rintro e wo2 ⟨rfl, hb⟩
          replace HRA := hide (HRA.out.below hb)
          replace HRB := hide (HRB.out.below hb)
          have hX2 := HX.out.trans (hb.mono HX.out.size)
          replace HX := hide hX2
          clear hX2 hS0 hb
          have hS0 := HSX.out _ HX.out
          refine hK65.out _ _ (hS0) (fun _ => ?_)
          clear hK65 K65
          (try simp only [Act.put, List.getElem_toArray, List.getElem_cons_succ, List.getElem_cons_zero, List.setIfInBounds_toArray, List.set_cons_zero, List.set_cons_succ])
          refine wpAnyH_ready (rs := [3]) (by kernel_rfl) (by simp) ?_
          refine (AllReadyH.cons rfl (fun K66 hK66 => ?_) AllReadyH.nil)
          go_simp
          with_reducible refine (vDo (HRC.out.below HX.out).val wkF5 ⟨6, 0, 0, (0, 0)⟩ (Int.le_refl _) u64z).mono ?_
          rintro e wo3 ⟨⟨v5, rfl, hv⟩, hb⟩
          rw [wkR6] at hv ⊢
          obtain ⟨B0, Bs, m0, d0, ms, ds, B, m, d, rfl, hr⟩ := hv
          clear hr
          replace HRA := hide (HRA.out.below hb)
          replace HRB := hide (HRB.out.below hb)
          have hX2 := HX.out.trans (hb.mono HX.out.size)
          replace HX := hide hX2
          clear hX2 hS0 hb
          have hS0 := HSX.out _ HX.out
          refine hK66.out _ _ (hS0) (fun _ => ?_)
          clear hK66 K66
          (try simp only [Act.put, List.getElem_toArray, List.getElem_cons_succ, List.getElem_cons_zero, List.setIfInBounds_toArray, List.set_cons_zero, List.set_cons_succ])
          (refine wpAnyH_take (i := 4) (v := ?_) rfl (by kernel_rfl) (by kernel_rfl) (by kernel_rfl) (fun _ _ _ h => h) (Or.inl ⟨by rfl, ?_⟩) (by assumption) ?_; rotate_left; (focus (intro w hSw; (try dsimp only at hSw); obtain ⟨kf0, kf1, kf2, kf3, kf4, kf5, kf6, kf7, kf8, kf9, kf10⟩ := hSw; go_simp; first | done | with_reducible rfl)); (try simp only [Act.put, List.getElem_toArray, List.getElem_cons_succ, List.getElem_cons_zero, List.setIfInBounds_toArray, List.set_cons_zero, List.set_cons_succ]))
          (refine wpAnyH_take (i := 5) (v := ?_) rfl (by kernel_rfl) (by kernel_rfl) (by kernel_rfl) (fun _ _ _ h => h) (Or.inl ⟨by rfl, ?_⟩) (by assumption) ?_; rotate_left; (focus (intro w hSw; (try dsimp only at hSw); obtain ⟨kf0, kf1, kf2, kf3, kf4, kf5, kf6, kf7, kf8, kf9, kf10⟩ := hSw; go_simp; first | done | with_reducible rfl)); (try simp only [Act.put, List.getElem_toArray, List.getElem_cons_succ, List.getElem_cons_zero, List.setIfInBounds_toArray, List.set_cons_zero, List.set_cons_succ]))
          (refine wpAnyH_take (i := 6) (v := ?_) rfl (by kernel_rfl) (by kernel_rfl) (by kernel_rfl) (fun _ _ _ h => h) (Or.inl ⟨by rfl, ?_⟩) (by assumption) ?_; rotate_left; (focus (intro w hSw; (try dsimp only at hSw); obtain ⟨kf0, kf1, kf2, kf3, kf4, kf5, kf6, kf7, kf8, kf9, kf10⟩ := hSw; go_simp; first | done | with_reducible rfl)); (try simp only [Act.put, List.getElem_toArray, List.getElem_cons_succ, List.getElem_cons_zero, List.setIfInBounds_toArray, List.set_cons_zero, List.set_cons_succ]))
          (refine wpAnyH_take (i := 7) (v := ?_) rfl (by kernel_rfl) (by kernel_rfl) (by kernel_rfl) (fun _ _ _ h => h) (Or.inl ⟨by rfl, ?_⟩) (by assumption) ?_; rotate_left; (focus (intro w hSw; (try dsimp only at hSw); obtain ⟨kf0, kf1, kf2, kf3, kf4, kf5, kf6, kf7, kf8, kf9, kf10⟩ := hSw; go_simp; first | done | with_reducible rfl)); (try simp only [Act.put, List.getElem_toArray, List.getElem_cons_succ, List.getElem_cons_zero, List.setIfInBounds_toArray, List.set_cons_zero, List.set_cons_succ]))
          refine wpAnyH_ready (rs := [10]) (by kernel_rfl) (by simp) ?_
          refine (AllReadyH.cons rfl (fun K67 hK67 => ?_) AllReadyH.nil)
          clear hS0
          have hra := HRA.out
          obtain ⟨y0, y1, y2, y3, y4, y5, y6⟩ := row7 hra
          have yl := hra.lt
          have yf0 := hra.frozen 0
          have yf1 := hra.frozen 1
          have yf2 := hra.frozen 2
          have yf3 := hra.frozen 3
          have yf4 := hra.frozen 4
          have yf5 := hra.frozen 5
          have yf6 := hra.frozen 6
          go_simp
          have HLD := hide (show LaidF ga wo3 (((((((wo3.setCell ⟨ga, 0, none⟩ (.slice B0 m0 d0)).setCell ⟨ga, 1, none⟩ (.int .u64 rec0.e)).setCell ⟨ga, 2, none⟩ (.slice Bs ms ds)).setCell ⟨ga, 3, none⟩ (.int .u64 (rec0.l.E : Int))).setCell ⟨ga, 4, none⟩ (.slice (B 0) (m 0) (d 0))).setCell ⟨ga, 5, none⟩ (.slice (B 1) (m 1) (d 1))).setCell ⟨ga, 6, none⟩ (.slice (B 2) (m 2) (d 2))) from ((((((((laid0 ga _).set 0 (.slice B0 m0 d0)).set 1 (.int .u64 rec0.e)).set 2 (.slice Bs ms ds)).set 3 (.int .u64 (rec0.l.E : Int))).set 4 (.slice (B 0) (m 0) (d 0))).set 5 (.slice (B 1) (m 1) (d 1))).set 6 (.slice (B 2) (m 2) (d 2))))
          have HX1 := hide (HX.out.trans (HLD.out.below.mono HGA.out))
          have HRB2 := hide (show RowAt _ gb 41 #[.int .i64 0, .int .u64 0] from (HLD.out.block gb (fun e => by have h1 := HRB.out; rw [e] at h1; exact absurd (row_typ h1 hra) (by decide))).trans HRB.out)
          clear hra yl y0 yf0 y1 yf1 y2 yf2 y3 yf3 y4 yf4 y5 yf5 y6 yf6
          generalize (((((((wo3.setCell ⟨ga, 0, none⟩ (.slice B0 m0 d0)).setCell ⟨ga, 1, none⟩ (.int .u64 rec0.e)).setCell ⟨ga, 2, none⟩ (.slice Bs ms ds)).setCell ⟨ga, 3, none⟩ (.int .u64 (rec0.l.E : Int))).setCell ⟨ga, 4, none⟩ (.slice (B 0) (m 0) (d 0))).setCell ⟨ga, 5, none⟩ (.slice (B 1) (m 1) (d 1))).setCell ⟨ga, 6, none⟩ (.slice (B 2) (m 2) (d 2))) = wp at *
          refine hK67.out _ _ (HSX.out _ HX1.out) (fun _ => ?_)
          clear hK67 K67
          (try simp only [Act.put, List.getElem_toArray, List.getElem_cons_succ, List.getElem_cons_zero, List.setIfInBounds_toArray, List.set_cons_zero, List.set_cons_succ])
          refine wpAnyH_ready (rs := [11]) (by kernel_rfl) (by simp) ?_
          refine (AllReadyH.cons rfl (fun K68 hK68 => ?_) AllReadyH.nil)
          have u0 := row20 HRB2.out
          have u1 := row21 HRB2.out
          have ul := HRB2.out.lt
          have uf0 := HRB2.out.frozen 0
          have uf1 := HRB2.out.frozen 1
          go_simp
          have HL2 := hide (show LaidF gb wp ((wp.setCell ⟨gb, 0, none⟩ (.int .i64 0)).setCell ⟨gb, 1, none⟩ (.int .u64 0)) from (((laid0 gb _).set 0 (.int .i64 0)).set 1 (.int .u64 0)))
          have HX3 := hide (HX1.out.trans (HL2.out.below.mono HGB.out))
          clear u0 u1 ul uf0 uf1
          generalize ((wp.setCell ⟨gb, 0, none⟩ (.int .i64 0)).setCell ⟨gb, 1, none⟩ (.int .u64 0)) = wq at *
          refine hK68.out _ _ (HSX.out _ HX3.out) (fun _ => ?_)
          clear hK68 K68
          (try simp only [Act.put, List.getElem_toArray, List.getElem_cons_succ, List.getElem_cons_zero, List.setIfInBounds_toArray, List.set_cons_zero, List.set_cons_succ])
          refine wpAnyH_ready (rs := [12]) (by kernel_rfl) (by simp) ?_
          refine (AllReadyH.cons rfl (fun K69 hK69 => ?_) AllReadyH.nil)
          go_simp
          refine hK69.out _ _ (HSX.out _ HX3.out) (fun _ => ?_)
          clear hK69 K69
          (try simp only [Act.put, List.getElem_toArray, List.getElem_cons_succ, List.getElem_cons_zero, List.setIfInBounds_toArray, List.set_cons_zero, List.set_cons_succ])
          refine wpAnyH_done (by kernel_rfl) ?_ _
          go_wp2_with fail
          go_meet
          case rel => exact ⟨rfl, HX3.out⟩
    case rest =>
      rename_i K hK
      refine hK _ _ ?_
      clear hK K
      obtain ⟨wz, hwz⟩ : ∃ w, w = wc := ⟨_, rfl⟩
      subst hwz
      obtain ⟨rfl, hbz⟩ := hcut
      replace HO := hide (own_keepB HO.out hbz)
      replace HO8 := hide (own_keepB HO8.out hbz)
      have HBF := hide (HK.out.below.trans (hbz.mono HK.out.below.size))
      clear hbz HK
      go_wp2_with fail
      have hb : Below wz.heap.size wz (wz.alloc (.cells #[.int .i64 0, .int .u64 0, .int .i64 1, .int .u64 0] 41)) := (Below.refl _ _).alloc (Nat.le_refl _) _
      have hS := hide (show Rd (wz.alloc (.cells #[.int .i64 0, .int .u64 0, .int .i64 1, .int .u64 0] 41)) (wz.alloc (.cells #[.int .i64 0, .int .u64 0, .int .i64 1, .int .u64 0] 41)).heap.size 2 (some ⟨wz.heap.size, 0, none⟩) 2 (Cs encE [(0, 0), (1, 0)]) from (Rd.new wz #[.int .i64 0, .int .u64 0, .int .i64 1, .int .u64 0] 41 2 2 rfl).more (by simp))
      replace HO := hide (own_keepB HO.out hb)
      replace HO8 := hide (own_keepB HO8.out hb)
      replace HBF := hide (HBF.out.trans (hb.mono HBF.out.size))
      clear hb
      generalize (wz.alloc (.cells #[.int .i64 0, .int .u64 0, .int .i64 1, .int .u64 0] 41)) = wp2 at *
      (try generalize wz.heap.size = g20 at *)
      with_reducible refine (eqEz At (some ⟨_, 0, none⟩) ct 2 2 2 [(0, 0), (1, 0)] [(0, 0), (1, 0)] wp2 (Rd.of_own HO.out) hS.out rfl rfl (by omega) (by omega) true rfl).mono ?_
      rintro e wq2 ⟨rfl, hb⟩
      replace HO8 := hide (own_keepB HO8.out hb)
      replace HBF := hide (HBF.out.trans (hb.mono HBF.out.size))
      clear hb hS
      go_wp2_with fail
      have hb : Below wq2.heap.size wq2 (wq2.alloc (.cells #[.int .i64 0, .int .u64 0] 41)) := (Below.refl _ _).alloc (Nat.le_refl _) _
      have hS := hide (show Rd (wq2.alloc (.cells #[.int .i64 0, .int .u64 0] 41)) (wq2.alloc (.cells #[.int .i64 0, .int .u64 0] 41)).heap.size 2 (some ⟨wq2.heap.size, 0, none⟩) 1 (Cs encE [(0, 0)]) from (Rd.new wq2 #[.int .i64 0, .int .u64 0] 41 2 1 rfl).more (by simp))
      replace HO8 := hide (own_keepB HO8.out hb)
      replace HBF := hide (HBF.out.trans (hb.mono HBF.out.size))
      clear hb
      generalize (wq2.alloc (.cells #[.int .i64 0, .int .u64 0] 41)) = wp1 at *
      (try generalize wq2.heap.size = g10 at *)
      with_reducible refine (eqEz A8 (some ⟨_, 0, none⟩) k8 1 1 1 [(0, 0)] [(0, 0)] wp1 (Rd.of_own HO8.out) hS.out rfl rfl (by omega) (by omega) true rfl).mono ?_
      rintro e wq1 ⟨rfl, hb⟩
      replace HBF := hide (HBF.out.trans (hb.mono HBF.out.size))
      clear hb hS
      go_wp2_with fail
      go_ret
      exact ⟨rfl, HBF.out⟩
end Go.Proofs.YtkicidopjihjmaaGreat
set_option linter.unusedSimpArgs false
set_option linter.unusedVariables false
namespace Go.Proofs.YtkicidopjihjmaaGreat
open Go Go.RowKit
theorem frees_S {r : Rec} {t : List Ent} (h : WfR r) : (freesR r t).1.S = r.S ∧ (freesR r t).1.e = r.e :=
  (frees_ind (P := fun r1 _ => r1.S = r.S ∧ r1.e = r.e) (fun r1 t1 r' t' hw hp hs => by
    obtain ⟨_, l, x, hl, _, _, h1, h2⟩ := wf_free hw hs
    rw [h2]; exact hp) _ r t h rfl ⟨rfl, rfl⟩).1
theorem tries_goes {r : Rec} {t : List Ent} (h : WfR r) (hg : (triesR r t).2.2 = true) : Pn.backL r.e r.S = [] ∧ (triesR r t).1.e = r.e + 1 := by
  unfold triesR at hg ⊢
  cases hgo : goR (freesR r t).1 (freesR r t).2 oGo with
  | error k => rw [hgo] at hg; exact absurd hg (by simp)
  | ok x =>
    have hw := frees_wf (t := t) h
    obtain ⟨s1, s2⟩ := frees_S (t := t) h
    obtain ⟨_, _, h2, _, l, _, h3⟩ := go_parts hw (r' := x.1) (t' := x.2) hgo
    rw [s1, s2] at h2
    refine ⟨Pn.backL_nil.2 h2, ?_⟩
    show (freesR x.1 x.2).1.e = _
    rw [(frees_S (t := x.2) (wf_go hw (r' := x.1) (t' := x.2) hgo)).2, h3, ← s2]
theorem tries_stays {r : Rec} {t : List Ent} (h : WfR r) (hg : (triesR r t).2.2 = false) : (triesR r t).1.e = r.e := by
  unfold triesR at hg ⊢
  cases hgo : goR (freesR r t).1 (freesR r t).2 oGo with
  | error k => exact (frees_S (t := t) h).2
  | ok x => rw [hgo] at hg; exact absurd hg (by simp)
theorem tries_wf {r : Rec} {t : List Ent} (h : WfR r) : WfR (triesR r t).1 := (tries_ind (P := fun _ _ => True) (fun _ _ _ _ _ _ _ => trivial) (fun _ _ _ _ _ _ _ => trivial) h (t := t) trivial).2
theorem WfR.e0 {r : Rec} (h : WfR r) : 0 ≤ r.e ∧ r.e ≤ 4611686018427387904 := by
  have h1 := h.ok.ep
  have h2 : r.l.E ≤ Li.LAST := (Li.ok_out h.ok.lm).1
  have h3 : Li.LAST = 4611686018427387904 := rfl
  omega
structure GoesOk (r : Rec) (r' : Rec) (l : List Ent) (went : Bool) : Prop where
  ok : r'.ok = true
  waits : waitsR r' + l.length = waitsR r
  goes : went = decide (r'.e = r.e + 1)
  stay : went = false → r'.e = r.e
  held : went = true → Pn.backL r.e r.S = []
  e0 : 0 ≤ r.e ∧ r.e ≤ 4611686018427387904
theorem goes_ok {r : Rec} (h : WfR r) : GoesOk r (triesR r []).1 (triesR r []).2.1 (triesR r []).2.2 := by
  have hw := tries_wf (t := []) h
  have ho := ok_iff.2 hw.ok
  have ho' := ok_iff.2 h.ok
  have hl := (tries_E (t := []) h).1
  refine ⟨ho, ?_, ?_, tries_stays h, fun hg => (tries_goes h hg).1, h.e0⟩
  · unfold waitsR
    rw [if_pos ho, if_pos ho']
    simp at hl
    omega
  · rcases Bool.eq_false_or_eq_true (triesR r []).2.2 with hg | hg
    · rw [hg, (tries_goes h hg).2]; simp
    · rw [hg, tries_stays h hg]; simp; omega
end Go.Proofs.YtkicidopjihjmaaGreat
set_option linter.unusedSimpArgs false
set_option linter.unusedVariables false
namespace Go.Proofs.YtkicidopjihjmaaGreat
open Go Go.RowKit
theorem tryAs {F : Nat → Prop} {w : World} {v : Value} {r : Rec} (h : RecOut F w v r) (hf : FitV r) {r2 : Rec} {l : List Ent} {b : Bool} {k : Int} (hT : tryR r = (r2, l, b, k)) : Calls Tryz.prog 24 #[v] w fun e w' =>
    (∃ v At nt ct, e = .returned (.tuple #[v, .slice At nt ct, .bool b, .int .i64 k]) ∧ RecOut (From w.heap.size) w' v r2 ∧ w'.ownsRow w.heap.size 41 2 (.slice At nt ct) nt (Cs encE l) ∧ l.length = nt) ∧ Below w.heap.size w w' := by
  have h2 := vTry h hf
  unfold TryRes at h2
  rw [hT] at h2
  exact h2
theorem waits_le {r : Rec} (h : FitR r) : waitsR r ≤ 12288 := by
  unfold waitsR
  split
  · have h0 := h.rw 0 (by omega)
    have h1 := h.rw 1 (by omega)
    have h2 := h.rw 2 (by omega)
    have h3 : ∀ k, (r.l.at k).length ≤ 4096 := fun k => h.rw _ (Nat.mod_lt _ (by omega))
    have a0 := h3 0
    have a1 := h3 1
    have a2 := h3 2
    have e : r.l.held.length = (r.l.at 2).length + ((r.l.at 1).length + (r.l.at 0).length) := by unfold Li.Lim.held; simp
    omega
  · omega
end Go.Proofs.YtkicidopjihjmaaGreat
set_option linter.unusedSimpArgs false
set_option linter.unusedVariables false
namespace Go.Proofs.YtkicidopjihjmaaGreat
open Go Go.RowKit
attribute [local go_sem] via_cell via_frozen
set_option maxRecDepth 20000 in
set_option maxHeartbeats 8000000 in
theorem Goes_walk (v : Value) (x : Rec) (W : World) (hv : RecOut (fun _ => True) W v x) (hu : NumR x) : Calls Tryz.prog 6 #[v] W fun e W' => e = .returned (.bool true) ∧ Below W.heap.size W W' := by
  have HFA := hide (FitV.mk hu.cut.1 hu.cut.2)
  obtain ⟨A0, S0, n0, c0, m0, d0, B0, p0, f0, rfl, hr⟩ := hv
  have R0 := hide hr
  have HB := hide (Below.refl W.heap.size W)
  clear hr hu
  obtain ⟨a, ha⟩ : ∃ a, cutR x = a := ⟨_, rfl⟩
  rw [ha] at HFA
  go_enter Tryz.func6, Tryz.ntmps6
  go_wp2_with fail
  have hb : Below W.heap.size W (W.alloc (.cells #[.slice A0 n0 c0, .int .u64 x.e, .slice S0 m0 d0, .int .u64 (x.l.E : Int), .slice (B0 0) (p0 0) (f0 0), .slice (B0 1) (p0 1) (f0 1), .slice (B0 2) (p0 2) (f0 2)] 34)) := (Below.refl _ _).alloc (Nat.le_refl _) _
  have hk := RowAt.new W 34 #[.slice A0 n0 c0, .int .u64 x.e, .slice S0 m0 d0, .int .u64 (x.l.E : Int), .slice (B0 0) (p0 0) (f0 0), .slice (B0 1) (p0 1) (f0 1), .slice (B0 2) (p0 2) (f0 2)]
  have hGB : W.heap.size ≤ W.heap.size := Nat.le_refl _
  replace R0 := hide (R0.out.below hb)
  replace HB := hide (HB.out.trans (hb.mono HB.out.size))
  have K0 := hide hk
  have L0 := hide hGB
  clear hb hk hGB
  generalize (W.alloc (.cells #[.slice A0 n0 c0, .int .u64 x.e, .slice S0 m0 d0, .int .u64 (x.l.E : Int), .slice (B0 0) (p0 0) (f0 0), .slice (B0 1) (p0 1) (f0 1), .slice (B0 2) (p0 2) (f0 2)] 34)) = w1 at *
  with_reducible refine (wakes_any w1).mono ?_
  rintro e w2 ⟨rfl, hb⟩
  replace R0 := hide (R0.out.below hb)
  replace K0 := hide (K0.out.below hb)
  replace HB := hide (HB.out.trans (hb.mono HB.out.size))
  clear hb
  obtain ⟨K0y0, K0y1, K0y2, K0y3, K0y4, K0y5, K0y6⟩ := row7 K0.out
  have K0l := K0.out.lt
  go_wp2_with fail
  clear K0y0 K0y1 K0y2 K0y3 K0y4 K0y5 K0y6 K0l
  with_reducible refine (vOwn R0.out.val).mono ?_
  rintro e w3 ⟨⟨v, rfl, hv⟩, hb⟩
  replace R0 := hide (R0.out.below hb)
  replace K0 := hide (K0.out.below hb)
  replace HB := hide (HB.out.trans (hb.mono HB.out.size))
  obtain ⟨A1, S1, n1, c1, m1, d1, B1, p1, f1, rfl, hr⟩ := hv
  rw [ha] at hr ⊢
  have R1 := hide hr
  clear hb hr R0 K0 L0
  go_upto_region 4 with (fail)
  have hb : Below w3.heap.size w3 (w3.alloc (.cells #[.slice A1 n1 c1, .int .u64 a.e, .slice S1 m1 d1, .int .u64 (a.l.E : Int), .slice (B1 0) (p1 0) (f1 0), .slice (B1 1) (p1 1) (f1 1), .slice (B1 2) (p1 2) (f1 2)] 34)) := (Below.refl _ _).alloc (Nat.le_refl _) _
  have hk := RowAt.new w3 34 #[.slice A1 n1 c1, .int .u64 a.e, .slice S1 m1 d1, .int .u64 (a.l.E : Int), .slice (B1 0) (p1 0) (f1 0), .slice (B1 1) (p1 1) (f1 1), .slice (B1 2) (p1 2) (f1 2)]
  have hGB : W.heap.size ≤ w3.heap.size := HB.out.size
  replace R1 := hide (R1.out.below hb)
  replace HB := hide (HB.out.trans (hb.mono HB.out.size))
  have K1 := hide hk
  have L1 := hide hGB
  clear hb hk hGB
  generalize (w3.alloc (.cells #[.slice A1 n1 c1, .int .u64 a.e, .slice S1 m1 d1, .int .u64 (a.l.E : Int), .slice (B1 0) (p1 0) (f1 0), .slice (B1 1) (p1 1) (f1 1), .slice (B1 2) (p1 2) (f1 2)] 34)) = w4 at *
  generalize w3.heap.size = g1 at *
  obtain ⟨r, l, b, k, hT⟩ : ∃ r l b k, tryR a = (r, l, b, k) := ⟨_, _, _, _, rfl⟩
  obtain ⟨K1y0, K1y1, K1y2, K1y3, K1y4, K1y5, K1y6⟩ := row7 K1.out
  have K1l := K1.out.lt
  go_wp2_with fail
  clear K1y0 K1y1 K1y2 K1y3 K1y4 K1y5 K1y6 K1l
  with_reducible refine (tryAs R1.out.val HFA.out hT).mono ?_
  rintro e w5 ⟨⟨v, At, nt, ct, rfl, hv, ho, hn⟩, hb⟩
  replace R1 := hide (R1.out.below hb)
  replace K1 := hide (K1.out.below hb)
  replace HB := hide (HB.out.trans (hb.mono HB.out.size))
  obtain ⟨A2, S2, n2, c2, m2, d2, B2, p2, f2, rfl, hr⟩ := hv
  have R2 := hide hr
  have HN := hide hn
  clear hb hr ho hn
  go_upto_region 5 with (fail)
  have hb : Below w5.heap.size w5 (w5.alloc (.cells #[.slice A2 n2 c2, .int .u64 r.e, .slice S2 m2 d2, .int .u64 (r.l.E : Int), .slice (B2 0) (p2 0) (f2 0), .slice (B2 1) (p2 1) (f2 1), .slice (B2 2) (p2 2) (f2 2)] 34)) := (Below.refl _ _).alloc (Nat.le_refl _) _
  have hk := RowAt.new w5 34 #[.slice A2 n2 c2, .int .u64 r.e, .slice S2 m2 d2, .int .u64 (r.l.E : Int), .slice (B2 0) (p2 0) (f2 0), .slice (B2 1) (p2 1) (f2 1), .slice (B2 2) (p2 2) (f2 2)]
  have hGB : W.heap.size ≤ w5.heap.size := HB.out.size
  replace R1 := hide (R1.out.below hb)
  replace R2 := hide (R2.out.below hb)
  replace K1 := hide (K1.out.below hb)
  replace HB := hide (HB.out.trans (hb.mono HB.out.size))
  have K2 := hide hk
  have L2 := hide hGB
  clear hb hk hGB
  generalize (w5.alloc (.cells #[.slice A2 n2 c2, .int .u64 r.e, .slice S2 m2 d2, .int .u64 (r.l.E : Int), .slice (B2 0) (p2 0) (f2 0), .slice (B2 1) (p2 1) (f2 1), .slice (B2 2) (p2 2) (f2 2)] 34)) = w6 at *
  generalize w5.heap.size = g2 at *
  have HFR := hide (show FitV r from by have h := fit_try HFA.out; rw [hT] at h; exact h)
  rcases Bool.eq_false_or_eq_true a.ok with ho | ho
  case inr =>
    have hT2 := hT
    unfold tryR at hT2
    rw [if_neg (by rw [ho]; decide)] at hT2
    simp only [Prod.mk.injEq] at hT2
    obtain ⟨rfl, rfl, rfl, rfl⟩ := hT2
    have hn : 0 = nt := HN.out
    subst hn
    obtain ⟨K1y0, K1y1, K1y2, K1y3, K1y4, K1y5, K1y6⟩ := row7 K1.out
    have K1l := K1.out.lt
    go_wp2_with fail
    clear K1y0 K1y1 K1y2 K1y3 K1y4 K1y5 K1y6 K1l
    with_reducible refine (vCheck R1.out.val HFA.out.fit 250 (by simp [ho])).mono ?_
    rintro e w7 ⟨rfl, hb⟩
    replace R1 := hide (R1.out.below hb)
    replace R2 := hide (R2.out.below hb)
    replace K1 := hide (K1.out.below hb)
    replace K2 := hide (K2.out.below hb)
    replace HB := hide (HB.out.trans (hb.mono HB.out.size))
    clear hb
    go_wp2_with fail
    go_ret
    exact ⟨rfl, HB.out⟩
  case inl =>
    have hG := goes_ok (r := a) ⟨ok_iff.1 ho, fun s hs => (HFA.out.fit.s s hs).1, HFA.out.gn⟩
    have hT2 := hT
    unfold tryR at hT2
    rw [if_pos ho] at hT2
    simp only [Prod.mk.injEq] at hT2
    obtain ⟨h1, h2, h3, rfl⟩ := hT2
    rw [h1, h2, h3] at hG
    clear h1 h2 h3
    have HG := hide hG
    clear hG
    obtain ⟨wr, hwr⟩ : ∃ z, waitsR r = z := ⟨_, rfl⟩
    obtain ⟨wa, hwa⟩ : ∃ z, waitsR a = z := ⟨_, rfl⟩
    have hww : wr + (nt : Int) = wa := by have h := HG.out.waits; rw [hwr, hwa, HN.out] at h; exact h
    have hwb : 0 ≤ wr ∧ wa ≤ 12288 := by
      constructor
      · rw [← hwr]; unfold waitsR; split <;> omega
      · rw [← hwa]; exact waits_le HFA.out.fit
    have hre : r.e = if b = true then a.e + 1 else a.e := by
      cases b with
      | false => exact HG.out.stay rfl
      | true => have h := HG.out.goes; simpa using h.symm
    have C1 := hide (fun z => vCheck (w := via w6 z) ((R2.out.below (via_below w6 z)).val) HFR.out.fit 0 (by simp [HG.out.ok]))
    have C2 := hide (fun z => vWaits (w := via w6 z) ((R2.out.below (via_below w6 z)).val) HFR.out.fit wr hwr)
    have C3 := hide (fun z => vWaits (w := via w6 z) ((R1.out.below (via_below w6 z)).val) HFA.out.fit wa hwa)
    have he0 := hide HG.out.e0
    go_upto_region 7 with (fail)
    subst hww
    obtain ⟨ea, eb⟩ := he0.out
    obtain ⟨wl, wh⟩ := hwb
    rcases Bool.eq_false_or_eq_true b with hbb | hbb
    case inl =>
      subst hbb
      have hre2 : r.e = a.e + 1 := by rw [hre]; rfl
      clear hre
      obtain ⟨K1y0, K1y1, K1y2, K1y3, K1y4, K1y5, K1y6⟩ := row7 K1.out
      have K1l := K1.out.lt
      obtain ⟨K2y0, K2y1, K2y2, K2y3, K2y4, K2y5, K2y6⟩ := row7 K2.out
      have K2l := K2.out.lt
      rw [hre2] at K2y1
      simp only [hre2] at C1 C2
      refine wp_region_via (by kernel_rfl) (by kernel_rfl) ?_
      repeat (go_big_quiet_step (first | (go_at_call 20; with_reducible exact via_of (C1.out _)) | (go_at_call 21; with_reducible first | exact via_of (C2.out _) | exact via_of (C3.out _))))
      refine via_out fun w9 hb => ?_
      clear C1 C2 C3
      clear K1y0 K1y1 K1y2 K1y3 K1y4 K1y5 K1y6 K1l K2y0 K2y1 K2y2 K2y3 K2y4 K2y5 K2y6 K2l
      replace R1 := hide (R1.out.below hb)
      replace R2 := hide (R2.out.below hb)
      replace K1 := hide (K1.out.below hb)
      replace K2 := hide (K2.out.below hb)
      replace HB := hide (HB.out.trans (hb.mono HB.out.size))
      clear hb
      obtain ⟨K1y0, K1y1, K1y2, K1y3, K1y4, K1y5, K1y6⟩ := row7 K1.out
      have K1l := K1.out.lt
      obtain ⟨K2y0, K2y1, K2y2, K2y3, K2y4, K2y5, K2y6⟩ := row7 K2.out
      have K2l := K2.out.lt
      rw [hre2] at K2y1
      go_wp2_with fail
      clear K1y0 K1y1 K1y2 K1y3 K1y4 K1y5 K1y6 K1l K2y0 K2y1 K2y2 K2y3 K2y4 K2y5 K2y6 K2l
      have hP := (ok_iff.1 ho).pn
      have hL0 : (if Pn.pOk a.e a.S = true then Pn.backL a.e a.S else []) = [] := by rw [if_pos hP]; exact HG.out.held rfl
      with_reducible refine (Pn.Back_any S1 d1 m1 a.e a.S w9 R1.out.S.rd R1.out.ls ea HFA.out.fit.s (by rw [← R1.out.ls]; exact HFA.out.fit.S) [] hL0 0 rfl).mono ?_
      rintro e w7 ⟨A9, c9, rfl, _, _, _, hb⟩
      replace R1 := hide (R1.out.below hb)
      replace R2 := hide (R2.out.below hb)
      replace K1 := hide (K1.out.below hb)
      replace K2 := hide (K2.out.below hb)
      replace HB := hide (HB.out.trans (hb.mono HB.out.size))
      clear hb
      clear hP hL0
      go_wp2_with fail
      go_ret
      exact ⟨rfl, HB.out⟩
    case inr =>
      subst hbb
      have hre2 : r.e = a.e := by rw [hre]; rfl
      clear hre
      obtain ⟨K1y0, K1y1, K1y2, K1y3, K1y4, K1y5, K1y6⟩ := row7 K1.out
      have K1l := K1.out.lt
      obtain ⟨K2y0, K2y1, K2y2, K2y3, K2y4, K2y5, K2y6⟩ := row7 K2.out
      have K2l := K2.out.lt
      rw [hre2] at K2y1
      simp only [hre2] at C1 C2
      refine wp_region_via (by kernel_rfl) (by kernel_rfl) ?_
      repeat (go_big_quiet_step (first | (go_at_call 20; with_reducible exact via_of (C1.out _)) | (go_at_call 21; with_reducible first | exact via_of (C2.out _) | exact via_of (C3.out _))))
      refine via_out fun w9 hb => ?_
      clear C1 C2 C3
      clear K1y0 K1y1 K1y2 K1y3 K1y4 K1y5 K1y6 K1l K2y0 K2y1 K2y2 K2y3 K2y4 K2y5 K2y6 K2l
      replace R1 := hide (R1.out.below hb)
      replace R2 := hide (R2.out.below hb)
      replace K1 := hide (K1.out.below hb)
      replace K2 := hide (K2.out.below hb)
      replace HB := hide (HB.out.trans (hb.mono HB.out.size))
      clear hb
      obtain ⟨K1y0, K1y1, K1y2, K1y3, K1y4, K1y5, K1y6⟩ := row7 K1.out
      have K1l := K1.out.lt
      obtain ⟨K2y0, K2y1, K2y2, K2y3, K2y4, K2y5, K2y6⟩ := row7 K2.out
      have K2l := K2.out.lt
      rw [hre2] at K2y1
      go_wp2_with fail
      clear K1y0 K1y1 K1y2 K1y3 K1y4 K1y5 K1y6 K1l K2y0 K2y1 K2y2 K2y3 K2y4 K2y5 K2y6 K2l
      have hP := (ok_iff.1 ho).pn
      obtain ⟨m, hm⟩ : ∃ m, (Pn.backL a.e a.S).length = m := ⟨_, rfl⟩
      with_reducible refine (Pn.Back_any S1 d1 m1 a.e a.S w9 R1.out.S.rd R1.out.ls ea HFA.out.fit.s (by rw [← R1.out.ls]; exact HFA.out.fit.S) (Pn.backL a.e a.S) (by rw [if_pos hP]) m hm).mono ?_
      rintro e w7 ⟨A9, c9, rfl, _, _, _, hb⟩
      replace R1 := hide (R1.out.below hb)
      replace R2 := hide (R2.out.below hb)
      replace K1 := hide (K1.out.below hb)
      replace K2 := hide (K2.out.below hb)
      replace HB := hide (HB.out.trans (hb.mono HB.out.size))
      clear hb
      clear hP hm
      rcases Nat.eq_zero_or_pos m with h0 | h0
      · subst h0
        go_wp2_with fail
        go_ret
        exact ⟨rfl, HB.out⟩
      · have hd : decide ((0 : Int) < (m : Int)) = true := by simp; omega
        go_wp2_with fail
        go_ret
        exact ⟨rfl, HB.out⟩
end Go.Proofs.YtkicidopjihjmaaGreat
namespace Go.Proofs.YtkicidopjihjmaaGreat
open Go Go.RowKit Go.WideShapes Go.ChangeShapes Go.ChangeAt Go.Joins
set_option linter.unusedVariables false
set_option linter.unusedSimpArgs false
set_option maxRecDepth 100000 in
theorem epochGoes_lifted (os : Os) (started : os.Started) (H : Type) (enc : TypeId × Value → H) :
    ReturnsInHanded {} Tryz.checked os 6 .any (Rows.epochGoesSpec.pre6 enc Tryz.prog Tryz.f6 Rows.epochGoesRow.domain false) (Rows.epochGoesSpec.post enc Tryz.prog Tryz.f6 false true false false) := by
  refine returnsInHanded_of_change (C := Tryz.checked) own_knob started (by kernel_rfl) Tryz.func6
    (ChangeSpec.witness6 (enc := enc) (C := Tryz.checked) false ⟨#[], #[.agg #[.slice none 0 0, .int .u64 0, .slice none 0 0, .int .u64 0, .slice none 0 0, .slice none 0 0, .slice none 0 0]], []⟩ 8 (by kernel_rfl) (by kernel_rfl) (by kernel_rfl) (by kernel_rfl)) ?_
  intro W base args ds gs before hval0 hW hcnd _
  have hval : ∀ (j : Nat) t v, Tryz.f6.params[j]? = some t → args[j]? = some v → Value.okWide Tryz.prog W .any base t v := hval0
  have hW' := hW
  obtain ⟨p, q, hA0, hV, rfl, hfz, hnd⟩ := hW
  have hA : DataW.TrodAll enc Tryz.prog W 0 (fun _ => true) true Tryz.f6.params.toList args.toList ds p := hA0
  rw [Tryz.params6] at hA hval
  obtain ⟨v0, d0, rfl, rfl, h0⟩ := trodAll_one hA
  obtain ⟨x0, hx0, hn0⟩ := open_rec (hval 0 34 v0 rfl rfl) h0
  clear hA0 hval0
  refine (Goes_walk v0 x0 W hx0 hn0).mono fun e W' ⟨he, hb⟩ => ?_
  subst he
  exact ⟨_, rfl, law_done laid_out hW' rfl (fun ds' h => by match ds', h with | [x], _ => rfl) rfl (by rw [Tryz.params6]; decide +kernel) hb (fun _ _ _ => trodAll_mk1 (shut_bool Tryz.underlying4 true)) (ok_one (by kernel_rfl) rfl (okWide_bool_mk Tryz.underlying4 true))⟩
theorem epochGoes_holds : Rows.EpochGoesSaid :=
  OpenClaim.holds_of_wide 6 Tryz.f6 rfl rfl rfl rfl rfl rfl rfl ⟨rfl, rfl, rfl, rfl, rfl⟩ rfl rfl rfl rfl rfl (by kernel_rfl) Tryz.func6 (by kernel_rfl)
    (of_decide_eq_true (by kernel_rfl)) (by unfold Func.isWrapper; first | (rw [if_pos (by decide +kernel)]; kernel_rfl) | (rw [if_neg (by decide +kernel)]; exact ⟨rfl, rfl⟩))
    (fun os started H enc _ => epochGoes_lifted os started H enc)
end Go.Proofs.YtkicidopjihjmaaGreat
