/-
  EpochMay answers true for every two reclaims, and pair of numbers, and leaves its arguments as they were. No condition.
-/
import Derived.Test.YtkicidopjihjmaaGreatZMayF
set_option linter.unusedSimpArgs false
set_option linter.unusedVariables false
set_option linter.unusedSimpArgs false
set_option linter.unusedVariables false
namespace Go.Proofs.YtkicidopjihjmaaGreat
open Go Go.RowKit
attribute [local go_sem] via_cell via_frozen
theorem same_refl (r : Rec) : sameR r r = true := by unfold sameR; simp
theorem all7 {w : World} {g : Nat} {t : TypeId} {v0 v1 v2 v3 v4 v5 v6 : Value} (h : RowAt w g t #[v0, v1, v2, v3, v4, v5, v6]) : (w.cell? ⟨g, 0, none⟩ = some v0 ∧ w.cell? ⟨g, 1, none⟩ = some v1 ∧ w.cell? ⟨g, 2, none⟩ = some v2 ∧ w.cell? ⟨g, 3, none⟩ = some v3 ∧ w.cell? ⟨g, 4, none⟩ = some v4 ∧ w.cell? ⟨g, 5, none⟩ = some v5 ∧ w.cell? ⟨g, 6, none⟩ = some v6) ∧ (w.frozen? ⟨g, 0, none⟩ = false ∧ w.frozen? ⟨g, 1, none⟩ = false ∧ w.frozen? ⟨g, 2, none⟩ = false ∧ w.frozen? ⟨g, 3, none⟩ = false ∧ w.frozen? ⟨g, 4, none⟩ = false ∧ w.frozen? ⟨g, 5, none⟩ = false ∧ w.frozen? ⟨g, 6, none⟩ = false) ∧ g < w.heap.size :=
 ⟨row7 h, ⟨h.frozen 0, h.frozen 1, h.frozen 2, h.frozen 3, h.frozen 4, h.frozen 5, h.frozen 6⟩, h.lt⟩
theorem laid7 {w w' : World} {g : Nat} {t : TypeId} {u0 u1 u2 u3 u4 u5 u6 v0 v1 v2 v3 v4 v5 v6 : Value} (h : RowAt w g t #[u0, u1, u2, u3, u4, u5, u6])
  (hw : (((((((w.setCell ⟨g, 0, none⟩ v0).setCell ⟨g, 1, none⟩ v1).setCell ⟨g, 2, none⟩ v2).setCell ⟨g, 3, none⟩ v3).setCell ⟨g, 4, none⟩ v4).setCell ⟨g, 5, none⟩ v5).setCell ⟨g, 6, none⟩ v6) = w') : LaidF g w w' ∧ RowAt w' g t #[v0, v1, v2, v3, v4, v5, v6] := by
 subst hw
 refine ⟨(((((((laid0 g w).set 0 v0).set 1 v1).set 2 v2).set 3 v3).set 4 v4).set 5 v5).set 6 v6, ?_⟩
 have h2 := ((((((h.set 0 v0).set 1 v1).set 2 v2).set 3 v3).set 4 v4).set 5 v5).set 6 v6
 simpa using h2
set_option maxRecDepth 20000 in
set_option maxHeartbeats 16000000 in
theorem May_walk (v u : Value) (x y : Rec) (s0 s1 : Int) (W : World) (hv : RecOut (fun _ => True) W v x) (hu : NumR x) (hv2 : RecOut (fun _ => True) W u y) (hu2 : NumR y) (hs0 : I64 s0) (hs1 : I64 s1) : Calls Tryz.prog 7 #[v, u, .agg #[.int .i64 s0, .int .i64 s1]] W fun e W' => e = .returned (.bool true) ∧ Below W.heap.size W W' := by
 have HFA := hide (FitV.mk hu.cut.1 hu.cut.2)
 have HFB := hide (FitV.mk hu2.cut.1 hu2.cut.2)
 obtain ⟨A0, S0, n0, c0, m0, d0, B0, p0, f0, rfl, hr⟩ := hv
 obtain ⟨A1, S1, n1, c1, m1, d1, B1, p1, f1, rfl, hr2⟩ := hv2
 obtain ⟨a, ha⟩ : ∃ a, cutR x = a := ⟨_, rfl⟩
 obtain ⟨b, hb⟩ : ∃ b, cutR y = b := ⟨_, rfl⟩
 rw [ha] at HFA
 rw [hb] at HFB
 have HCA := hide ha
 have HCB := hide hb
 clear ha hb hu hu2
 have b1 : Below W.heap.size W (W.alloc (.cells #[.slice A0 n0 c0, .int .u64 x.e, .slice S0 m0 d0, .int .u64 (x.l.E : Int), .slice (B0 0) (p0 0) (f0 0), .slice (B0 1) (p0 1) (f0 1), .slice (B0 2) (p0 2) (f0 2)] 34)) := (Below.refl _ _).alloc (Nat.le_refl _) _
 have b2 : Below (W.alloc (.cells #[.slice A0 n0 c0, .int .u64 x.e, .slice S0 m0 d0, .int .u64 (x.l.E : Int), .slice (B0 0) (p0 0) (f0 0), .slice (B0 1) (p0 1) (f0 1), .slice (B0 2) (p0 2) (f0 2)] 34)).heap.size (W.alloc (.cells #[.slice A0 n0 c0, .int .u64 x.e, .slice S0 m0 d0, .int .u64 (x.l.E : Int), .slice (B0 0) (p0 0) (f0 0), .slice (B0 1) (p0 1) (f0 1), .slice (B0 2) (p0 2) (f0 2)] 34)) ((W.alloc (.cells #[.slice A0 n0 c0, .int .u64 x.e, .slice S0 m0 d0, .int .u64 (x.l.E : Int), .slice (B0 0) (p0 0) (f0 0), .slice (B0 1) (p0 1) (f0 1), .slice (B0 2) (p0 2) (f0 2)] 34)).alloc (.cells #[.slice A1 n1 c1, .int .u64 y.e, .slice S1 m1 d1, .int .u64 (y.l.E : Int), .slice (B1 0) (p1 0) (f1 0), .slice (B1 1) (p1 1) (f1 1), .slice (B1 2) (p1 2) (f1 2)] 34)) := (Below.refl _ _).alloc (Nat.le_refl _) _
 have b3 : Below ((W.alloc (.cells #[.slice A0 n0 c0, .int .u64 x.e, .slice S0 m0 d0, .int .u64 (x.l.E : Int), .slice (B0 0) (p0 0) (f0 0), .slice (B0 1) (p0 1) (f0 1), .slice (B0 2) (p0 2) (f0 2)] 34)).alloc (.cells #[.slice A1 n1 c1, .int .u64 y.e, .slice S1 m1 d1, .int .u64 (y.l.E : Int), .slice (B1 0) (p1 0) (f1 0), .slice (B1 1) (p1 1) (f1 1), .slice (B1 2) (p1 2) (f1 2)] 34)).heap.size ((W.alloc (.cells #[.slice A0 n0 c0, .int .u64 x.e, .slice S0 m0 d0, .int .u64 (x.l.E : Int), .slice (B0 0) (p0 0) (f0 0), .slice (B0 1) (p0 1) (f0 1), .slice (B0 2) (p0 2) (f0 2)] 34)).alloc (.cells #[.slice A1 n1 c1, .int .u64 y.e, .slice S1 m1 d1, .int .u64 (y.l.E : Int), .slice (B1 0) (p1 0) (f1 0), .slice (B1 1) (p1 1) (f1 1), .slice (B1 2) (p1 2) (f1 2)] 34)) (((W.alloc (.cells #[.slice A0 n0 c0, .int .u64 x.e, .slice S0 m0 d0, .int .u64 (x.l.E : Int), .slice (B0 0) (p0 0) (f0 0), .slice (B0 1) (p0 1) (f0 1), .slice (B0 2) (p0 2) (f0 2)] 34)).alloc (.cells #[.slice A1 n1 c1, .int .u64 y.e, .slice S1 m1 d1, .int .u64 (y.l.E : Int), .slice (B1 0) (p1 0) (f1 0), .slice (B1 1) (p1 1) (f1 1), .slice (B1 2) (p1 2) (f1 2)] 34)).alloc (.cells #[.int .i64 s0, .int .i64 s1] 68)) := (Below.refl _ _).alloc (Nat.le_refl _) _
 have K0 := hide (((RowAt.new W 34 #[.slice A0 n0 c0, .int .u64 x.e, .slice S0 m0 d0, .int .u64 (x.l.E : Int), .slice (B0 0) (p0 0) (f0 0), .slice (B0 1) (p0 1) (f0 1), .slice (B0 2) (p0 2) (f0 2)]).below b2).below b3)
 have K1 := hide (show RowAt (((W.alloc (.cells #[.slice A0 n0 c0, .int .u64 x.e, .slice S0 m0 d0, .int .u64 (x.l.E : Int), .slice (B0 0) (p0 0) (f0 0), .slice (B0 1) (p0 1) (f0 1), .slice (B0 2) (p0 2) (f0 2)] 34)).alloc (.cells #[.slice A1 n1 c1, .int .u64 y.e, .slice S1 m1 d1, .int .u64 (y.l.E : Int), .slice (B1 0) (p1 0) (f1 0), .slice (B1 1) (p1 1) (f1 1), .slice (B1 2) (p1 2) (f1 2)] 34)).alloc (.cells #[.int .i64 s0, .int .i64 s1] 68)) (W.heap.size + 1) 34 #[.slice A1 n1 c1, .int .u64 y.e, .slice S1 m1 d1, .int .u64 (y.l.E : Int), .slice (B1 0) (p1 0) (f1 0), .slice (B1 1) (p1 1) (f1 1), .slice (B1 2) (p1 2) (f1 2)] from by have h := RowAt.new (W.alloc (.cells #[.slice A0 n0 c0, .int .u64 x.e, .slice S0 m0 d0, .int .u64 (x.l.E : Int), .slice (B0 0) (p0 0) (f0 0), .slice (B0 1) (p0 1) (f0 1), .slice (B0 2) (p0 2) (f0 2)] 34)) 34 #[.slice A1 n1 c1, .int .u64 y.e, .slice S1 m1 d1, .int .u64 (y.l.E : Int), .slice (B1 0) (p1 0) (f1 0), .slice (B1 1) (p1 1) (f1 1), .slice (B1 2) (p1 2) (f1 2)]; rw [World.size_alloc] at h; exact h.below b3)
 have K2 := hide (show RowAt (((W.alloc (.cells #[.slice A0 n0 c0, .int .u64 x.e, .slice S0 m0 d0, .int .u64 (x.l.E : Int), .slice (B0 0) (p0 0) (f0 0), .slice (B0 1) (p0 1) (f0 1), .slice (B0 2) (p0 2) (f0 2)] 34)).alloc (.cells #[.slice A1 n1 c1, .int .u64 y.e, .slice S1 m1 d1, .int .u64 (y.l.E : Int), .slice (B1 0) (p1 0) (f1 0), .slice (B1 1) (p1 1) (f1 1), .slice (B1 2) (p1 2) (f1 2)] 34)).alloc (.cells #[.int .i64 s0, .int .i64 s1] 68)) (W.heap.size + 1 + 1) 68 #[.int .i64 s0, .int .i64 s1] from by have h := RowAt.new ((W.alloc (.cells #[.slice A0 n0 c0, .int .u64 x.e, .slice S0 m0 d0, .int .u64 (x.l.E : Int), .slice (B0 0) (p0 0) (f0 0), .slice (B0 1) (p0 1) (f0 1), .slice (B0 2) (p0 2) (f0 2)] 34)).alloc (.cells #[.slice A1 n1 c1, .int .u64 y.e, .slice S1 m1 d1, .int .u64 (y.l.E : Int), .slice (B1 0) (p1 0) (f1 0), .slice (B1 1) (p1 1) (f1 1), .slice (B1 2) (p1 2) (f1 2)] 34)) 68 #[.int .i64 s0, .int .i64 s1]; rw [World.size_alloc, World.size_alloc] at h; exact h)
 have bb := (b1.trans (b2.mono b1.size)).trans (b3.mono (Nat.le_trans b1.size b2.size))
 have R0 := hide (hr.below bb)
 have R1 := hide (hr2.below bb)
 have HB := hide bb
 clear b1 b2 b3 bb hr hr2
 go_enter Tryz.func7, Tryz.ntmps7
 go_wp2_with fail
 generalize (((W.alloc (.cells #[.slice A0 n0 c0, .int .u64 x.e, .slice S0 m0 d0, .int .u64 (x.l.E : Int), .slice (B0 0) (p0 0) (f0 0), .slice (B0 1) (p0 1) (f0 1), .slice (B0 2) (p0 2) (f0 2)] 34)).alloc (.cells #[.slice A1 n1 c1, .int .u64 y.e, .slice S1 m1 d1, .int .u64 (y.l.E : Int), .slice (B1 0) (p1 0) (f1 0), .slice (B1 1) (p1 1) (f1 1), .slice (B1 2) (p1 2) (f1 2)] 34)).alloc (.cells #[.int .i64 s0, .int .i64 s1] 68)) = w1 at *
 with_reducible refine (wakes_any w1).mono ?_
 rintro e w11 ⟨rfl, hb⟩
 replace R0 := hide (R0.out.below hb)
 replace R1 := hide (R1.out.below hb)
 replace K0 := hide (K0.out.below hb)
 replace K1 := hide (K1.out.below hb)
 replace K2 := hide (K2.out.below hb)
 replace HB := hide (HB.out.trans (hb.mono HB.out.size))
 clear hb
 obtain ⟨w0, hw0⟩ : ∃ w, w = w11 := ⟨_, rfl⟩
 subst hw0
 have HGZ := hide (show W.heap.size + 1 + 1 < w0.heap.size from K2.out.lt)
 go_upto_region 3 with (fail)
 go_cut [7, 8] from 16 to 19 (fun s7 s8 wx => ∃ g7 g8, s7 = .pointer (some ⟨g7, 0, none⟩) ∧ s8 = .pointer (some ⟨g8, 0, none⟩) ∧ AtB W wx g7 a ∧ AtB W wx g8 b ∧ Below w0.heap.size w0 wx)
 case first =>
  have HSX := hide (fun (wX : World) (hgX : Below w0.heap.size w0 wX) => show wX.cell? ⟨W.heap.size, 0, none⟩ = some (.slice A0 n0 c0) ∧ wX.cell? ⟨W.heap.size, 1, none⟩ = some (.int .u64 x.e) ∧ wX.cell? ⟨W.heap.size, 2, none⟩ = some (.slice S0 m0 d0) ∧ wX.cell? ⟨W.heap.size, 3, none⟩ = some (.int .u64 (x.l.E : Int)) ∧ wX.cell? ⟨W.heap.size, 4, none⟩ = some (.slice (B0 0) (p0 0) (f0 0)) ∧ wX.cell? ⟨W.heap.size, 5, none⟩ = some (.slice (B0 1) (p0 1) (f0 1)) ∧ wX.cell? ⟨W.heap.size, 6, none⟩ = some (.slice (B0 2) (p0 2) (f0 2)) ∧ wX.cell? ⟨(W.heap.size + 1), 0, none⟩ = some (.slice A1 n1 c1) ∧ wX.cell? ⟨(W.heap.size + 1), 1, none⟩ = some (.int .u64 y.e) ∧ wX.cell? ⟨(W.heap.size + 1), 2, none⟩ = some (.slice S1 m1 d1) ∧ wX.cell? ⟨(W.heap.size + 1), 3, none⟩ = some (.int .u64 (y.l.E : Int)) ∧ wX.cell? ⟨(W.heap.size + 1), 4, none⟩ = some (.slice (B1 0) (p1 0) (f1 0)) ∧ wX.cell? ⟨(W.heap.size + 1), 5, none⟩ = some (.slice (B1 1) (p1 1) (f1 1)) ∧ wX.cell? ⟨(W.heap.size + 1), 6, none⟩ = some (.slice (B1 2) (p1 2) (f1 2)) ∧ W.heap.size < wX.heap.size ∧ (W.heap.size + 1) < wX.heap.size from by
   obtain ⟨z0, z1, z2, z3, z4, z5, z6⟩ := row7 K0.out
   obtain ⟨q0, q1, q2, q3, q4, q5, q6⟩ := row7 K1.out
   exact ⟨kept hgX z0, kept hgX z1, kept hgX z2, kept hgX z3, kept hgX z4, kept hgX z5, kept hgX z6, kept hgX q0, kept hgX q1, kept hgX q2, kept hgX q3, kept hgX q4, kept hgX q5, kept hgX q6, Nat.lt_of_lt_of_le K0.out.lt hgX.size, Nat.lt_of_lt_of_le K1.out.lt hgX.size⟩)
  have HX := hide ((Below.refl w0.heap.size w0).drew)
  refine wp_region_held_drew (S := fun wX => wX.cell? ⟨W.heap.size, 0, none⟩ = some (.slice A0 n0 c0) ∧ wX.cell? ⟨W.heap.size, 1, none⟩ = some (.int .u64 x.e) ∧ wX.cell? ⟨W.heap.size, 2, none⟩ = some (.slice S0 m0 d0) ∧ wX.cell? ⟨W.heap.size, 3, none⟩ = some (.int .u64 (x.l.E : Int)) ∧ wX.cell? ⟨W.heap.size, 4, none⟩ = some (.slice (B0 0) (p0 0) (f0 0)) ∧ wX.cell? ⟨W.heap.size, 5, none⟩ = some (.slice (B0 1) (p0 1) (f0 1)) ∧ wX.cell? ⟨W.heap.size, 6, none⟩ = some (.slice (B0 2) (p0 2) (f0 2)) ∧ wX.cell? ⟨(W.heap.size + 1), 0, none⟩ = some (.slice A1 n1 c1) ∧ wX.cell? ⟨(W.heap.size + 1), 1, none⟩ = some (.int .u64 y.e) ∧ wX.cell? ⟨(W.heap.size + 1), 2, none⟩ = some (.slice S1 m1 d1) ∧ wX.cell? ⟨(W.heap.size + 1), 3, none⟩ = some (.int .u64 (y.l.E : Int)) ∧ wX.cell? ⟨(W.heap.size + 1), 4, none⟩ = some (.slice (B1 0) (p1 0) (f1 0)) ∧ wX.cell? ⟨(W.heap.size + 1), 5, none⟩ = some (.slice (B1 1) (p1 1) (f1 1)) ∧ wX.cell? ⟨(W.heap.size + 1), 6, none⟩ = some (.slice (B1 2) (p1 2) (f1 2)) ∧ W.heap.size < wX.heap.size ∧ (W.heap.size + 1) < wX.heap.size) (by kernel_rfl) (HSX.out _ HX.out) (fun hHeld => ?_)
  clear hHeld
  have hS0 := HSX.out _ HX.out
  generalize w0.drew = wd at *
  (refine tkH (i := 0) (v := ?_) rfl (Or.inl ⟨by rfl, ?_⟩) ?_; rotate_left; (focus (intro w hSw; (try dsimp only at hSw); obtain ⟨a, b, c, d, e, f, g, h, i, j, k, l, m, n, o, p⟩ := hSw; go_simp; first | done | with_reducible rfl)); (try simp only [Act.put, Na, Nb, Nc, Nd, Nx, Nf]))
  (refine tkH (i := 2) (v := ?_) rfl (Or.inl ⟨by rfl, ?_⟩) ?_; rotate_left; (focus (intro w hSw; (try dsimp only at hSw); obtain ⟨a, b, c, d, e, f, g, h, i, j, k, l, m, n, o, p⟩ := hSw; go_simp; first | done | with_reducible rfl)); (try simp only [Act.put, Na, Nb, Nc, Nd, Nx, Nf]))
  refine wpAnyH_ready (rs := [1, 4, 5]) (by kernel_rfl) (by simp) ?_
  refine (AllReadyH.cons rfl (fun K0 hK0 => ?_) (AllReadyH.cons rfl (fun K1 hK1 => ?_) (AllReadyH.cons rfl (fun K2 hK2 => ?_) AllReadyH.nil)))
  ·
   go_simp
   with_reducible refine (vOwn (R0.out.below HX.out).val).mono ?_
   rintro e wo0 ⟨⟨v5, rfl, hv⟩, hb⟩
   obtain ⟨A5, S5, n5, c5, m5, d5, B5, p5, f5, rfl, hr⟩ := hv
   rw [HCA.out] at hr ⊢
   have hxs := HX.out.size
   have HVA := hide (hr.up (G := fun j => w0.heap.size ≤ j) (fun j (hj : wd.heap.size ≤ j) _ => by show w0.heap.size ≤ j; omega))
   clear hr hxs
   have hX2 := HX.out.trans (hb.mono HX.out.size)
   replace HX := hide hX2
   clear hX2 hS0 hb
   have hS0 := HSX.out _ HX.out
   refine hK0.out _ _ (hS0) (fun _ => ?_)
   clear hK0 K0
   (try simp only [Act.put, Na, Nb, Nc, Nd, Nx, Nf])
   refine wpAnyH_ready (rs := [3, 4, 5]) (by kernel_rfl) (by simp) ?_
   refine (AllReadyH.cons rfl (fun K3 hK3 => ?_) (AllReadyH.cons rfl (fun K4 hK4 => ?_) (AllReadyH.cons rfl (fun K5 hK5 => ?_) AllReadyH.nil)))
   ·
    go_simp
    with_reducible refine (vOwn (R1.out.below HX.out).val).mono ?_
    rintro e wo1 ⟨⟨v5, rfl, hv⟩, hb⟩
    obtain ⟨A6, S6, n6, c6, m6, d6, B6, p6, f6, rfl, hr⟩ := hv
    rw [HCB.out] at hr ⊢
    have hxs := HX.out.size
    have HVB := hide (hr.up (G := fun j => w0.heap.size ≤ j) (fun j (hj : wo0.heap.size ≤ j) _ => by show w0.heap.size ≤ j; omega))
    replace HVA := hide (HVA.out.below hb)
    clear hr hxs
    have hX2 := HX.out.trans (hb.mono HX.out.size)
    replace HX := hide hX2
    clear hX2 hS0 hb
    have hS0 := HSX.out _ HX.out
    refine hK3.out _ _ (hS0) (fun _ => ?_)
    clear hK3 K3
    (try simp only [Act.put, Na, Nb, Nc, Nd, Nx, Nf])
    refine wpAnyH_ready (rs := [4, 5]) (by kernel_rfl) (by simp) ?_
    refine (AllReadyH.cons rfl (fun K6 hK6 => ?_) (AllReadyH.cons rfl (fun K7 hK7 => ?_) AllReadyH.nil))
    ·
     go_simp
     have hb : Below wo1.heap.size wo1 (wo1.alloc (.cells #[.slice none 0 0, .int .u64 0, .slice none 0 0, .int .u64 0, .slice none 0 0, .slice none 0 0, .slice none 0 0] 34)) := (Below.refl _ _).alloc (Nat.le_refl _) _
     have HRA := hide (RowAt.new wo1 34 #[.slice none 0 0, .int .u64 0, .slice none 0 0, .int .u64 0, .slice none 0 0, .slice none 0 0, .slice none 0 0])
     replace HVA := hide ((HVA.out.up (G := fun j => w0.heap.size ≤ j ∧ j ≠ wo1.heap.size) (fun j (hj : w0.heap.size ≤ j) hl => by omega)).below hb)
     replace HVB := hide ((HVB.out.up (G := fun j => w0.heap.size ≤ j ∧ j ≠ wo1.heap.size) (fun j (hj : w0.heap.size ≤ j) hl => by omega)).below hb)
     have HGA := hide (show w0.heap.size ≤ wo1.heap.size from HX.out.size)
     have hX2 := HX.out.trans (hb.mono HX.out.size)
     replace HX := hide hX2
     clear hX2 hS0 hb
     have hS0 := HSX.out _ HX.out
     generalize (wo1.alloc (.cells #[.slice none 0 0, .int .u64 0, .slice none 0 0, .int .u64 0, .slice none 0 0, .slice none 0 0, .slice none 0 0] 34)) = wa2 at *
     generalize wo1.heap.size = ga at *
     refine hK6.out _ _ (hS0) (fun _ => ?_)
     clear hK6 K6
     (try simp only [Act.put, Na, Nb, Nc, Nd, Nx, Nf])
     refine wpAnyH_ready (rs := [5]) (by kernel_rfl) (by simp) ?_
     refine (AllReadyH.cons rfl (fun K8 hK8 => ?_) AllReadyH.nil)
     go_simp
     have hb : Below wa2.heap.size wa2 (wa2.alloc (.cells #[.slice none 0 0, .int .u64 0, .slice none 0 0, .int .u64 0, .slice none 0 0, .slice none 0 0, .slice none 0 0] 34)) := (Below.refl _ _).alloc (Nat.le_refl _) _
     have HRB := hide (RowAt.new wa2 34 #[.slice none 0 0, .int .u64 0, .slice none 0 0, .int .u64 0, .slice none 0 0, .slice none 0 0, .slice none 0 0])
     have hlt := HRA.out.lt
     replace HRA := hide (HRA.out.below hb)
     replace HVA := hide ((HVA.out.up (G := fun j => w0.heap.size ≤ j ∧ j ≠ ga ∧ j ≠ wa2.heap.size) (fun j (hj : w0.heap.size ≤ j ∧ j ≠ ga) hl => by omega)).below hb)
     replace HVB := hide ((HVB.out.up (G := fun j => w0.heap.size ≤ j ∧ j ≠ ga ∧ j ≠ wa2.heap.size) (fun j (hj : w0.heap.size ≤ j ∧ j ≠ ga) hl => by omega)).below hb)
     have HGN := hide (show wa2.heap.size ≠ ga from by omega)
     clear hlt
     have HGB := hide (show w0.heap.size ≤ wa2.heap.size from HX.out.size)
     have hX2 := HX.out.trans (hb.mono HX.out.size)
     replace HX := hide hX2
     clear hX2 hS0 hb
     have hS0 := HSX.out _ HX.out
     generalize (wa2.alloc (.cells #[.slice none 0 0, .int .u64 0, .slice none 0 0, .int .u64 0, .slice none 0 0, .slice none 0 0, .slice none 0 0] 34)) = wa3 at *
     generalize wa2.heap.size = gb at *
     refine hK8.out _ _ (hS0) (fun _ => ?_)
     clear hK8 K8
     (try simp only [Act.put, Na, Nb, Nc, Nd, Nx, Nf])
     refine wpAnyH_ready (rs := [6]) (by kernel_rfl) (by simp) ?_
     refine (AllReadyH.cons rfl (fun K9 hK9 => ?_) AllReadyH.nil)
     clear hS0
     obtain ⟨⟨y0, y1, y2, y3, y4, y5, y6⟩, ⟨yf0, yf1, yf2, yf3, yf4, yf5, yf6⟩, yl⟩ := all7 HRA.out
     go_simp
     generalize hw : World.setCell _ _ _ = wp
     obtain ⟨hl, hr⟩ := laid7 HRA.out hw
     have HRA2 := hide hr
     clear hr yl y0 yf0 y1 yf1 y2 yf2 y3 yf3 y4 yf4 y5 yf5 y6 yf6
     have hgab : gb ≠ ga := HGN.out
     replace HRB := hide (show RowAt wp gb 34 #[.slice none 0 0, .int .u64 0, .slice none 0 0, .int .u64 0, .slice none 0 0, .slice none 0 0, .slice none 0 0] from (hl.block gb hgab).trans HRB.out)
     replace HVA := hide (HVA.out.stay (hl.stay (fun h => h.2.1 rfl)))
     replace HVB := hide (HVB.out.stay (hl.stay (fun h => h.2.1 rfl)))
     replace HX := hide (HX.out.trans (hl.below.mono HGA.out))
     clear hw hl hgab
     refine hK9.out _ _ (HSX.out _ HX.out) (fun _ => ?_)
     clear hK9 K9
     (try simp only [Act.put, Na, Nb, Nc, Nd, Nx, Nf])
     refine wpAnyH_ready (rs := [7]) (by kernel_rfl) (by simp) ?_
     refine (AllReadyH.cons rfl (fun K10 hK10 => ?_) AllReadyH.nil)
     obtain ⟨⟨y0, y1, y2, y3, y4, y5, y6⟩, ⟨yf0, yf1, yf2, yf3, yf4, yf5, yf6⟩, yl⟩ := all7 HRB.out
     go_simp
     generalize hw : World.setCell _ _ _ = wq
     obtain ⟨hl, hr⟩ := laid7 HRB.out hw
     have HRB2 := hide hr
     clear hr yl y0 yf0 y1 yf1 y2 yf2 y3 yf3 y4 yf4 y5 yf5 y6 yf6
     replace HRA2 := hide (show RowAt wq ga 34 _ from (hl.block ga (Ne.symm HGN.out)).trans HRA2.out)
     replace HVA := hide (HVA.out.stay (hl.stay (fun h => h.2.2 rfl)))
     replace HVB := hide (HVB.out.stay (hl.stay (fun h => h.2.2 rfl)))
     replace HX := hide (HX.out.trans (hl.below.mono HGB.out))
     clear hw hl
     refine hK10.out _ _ (HSX.out _ HX.out) (fun _ => ?_)
     clear hK10 K10
     (try simp only [Act.put, Na, Nb, Nc, Nd, Nx, Nf])
     refine wpAnyH_done (by kernel_rfl) ?_ _
     go_wp2_with fail
     go_meet
     have hBW := HB.out.trans (HX.out.mono HB.out.size)
     case rel => exact ⟨ga, gb, rfl, rfl, ⟨⟨_, _, _, _, _, _, _, _, _, HRA2.out, HVA.out.up (fun j hj _ => hj.2.1)⟩, hBW, Nat.le_trans HB.out.size HGA.out⟩, ⟨⟨_, _, _, _, _, _, _, _, _, HRB2.out, HVB.out.up (fun j hj _ => hj.2.2)⟩, hBW, Nat.le_trans HB.out.size HGB.out⟩, HX.out⟩
    ·
     go_simp
     have hb : Below wo1.heap.size wo1 (wo1.alloc (.cells #[.slice none 0 0, .int .u64 0, .slice none 0 0, .int .u64 0, .slice none 0 0, .slice none 0 0, .slice none 0 0] 34)) := (Below.refl _ _).alloc (Nat.le_refl _) _
     have HRB := hide (RowAt.new wo1 34 #[.slice none 0 0, .int .u64 0, .slice none 0 0, .int .u64 0, .slice none 0 0, .slice none 0 0, .slice none 0 0])
     replace HVA := hide ((HVA.out.up (G := fun j => w0.heap.size ≤ j ∧ j ≠ wo1.heap.size) (fun j (hj : w0.heap.size ≤ j) hl => by omega)).below hb)
     replace HVB := hide ((HVB.out.up (G := fun j => w0.heap.size ≤ j ∧ j ≠ wo1.heap.size) (fun j (hj : w0.heap.size ≤ j) hl => by omega)).below hb)
     have HGB := hide (show w0.heap.size ≤ wo1.heap.size from HX.out.size)
     have hX2 := HX.out.trans (hb.mono HX.out.size)
     replace HX := hide hX2
     clear hX2 hS0 hb
     have hS0 := HSX.out _ HX.out
     generalize (wo1.alloc (.cells #[.slice none 0 0, .int .u64 0, .slice none 0 0, .int .u64 0, .slice none 0 0, .slice none 0 0, .slice none 0 0] 34)) = wa2 at *
     generalize wo1.heap.size = gb at *
     refine hK7.out _ _ (hS0) (fun _ => ?_)
     clear hK7 K7
     (try simp only [Act.put, Na, Nb, Nc, Nd, Nx, Nf])
     refine wpAnyH_ready (rs := [4]) (by kernel_rfl) (by simp) ?_
     refine (AllReadyH.cons rfl (fun K11 hK11 => ?_) AllReadyH.nil)
     go_simp
     have hb : Below wa2.heap.size wa2 (wa2.alloc (.cells #[.slice none 0 0, .int .u64 0, .slice none 0 0, .int .u64 0, .slice none 0 0, .slice none 0 0, .slice none 0 0] 34)) := (Below.refl _ _).alloc (Nat.le_refl _) _
     have HRA := hide (RowAt.new wa2 34 #[.slice none 0 0, .int .u64 0, .slice none 0 0, .int .u64 0, .slice none 0 0, .slice none 0 0, .slice none 0 0])
     have hlt := HRB.out.lt
     replace HRB := hide (HRB.out.below hb)
     replace HVA := hide ((HVA.out.up (G := fun j => w0.heap.size ≤ j ∧ j ≠ gb ∧ j ≠ wa2.heap.size) (fun j (hj : w0.heap.size ≤ j ∧ j ≠ gb) hl => by omega)).below hb)
     replace HVB := hide ((HVB.out.up (G := fun j => w0.heap.size ≤ j ∧ j ≠ gb ∧ j ≠ wa2.heap.size) (fun j (hj : w0.heap.size ≤ j ∧ j ≠ gb) hl => by omega)).below hb)
     have HGN := hide (show gb ≠ wa2.heap.size from by omega)
     clear hlt
     have HGA := hide (show w0.heap.size ≤ wa2.heap.size from HX.out.size)
     have hX2 := HX.out.trans (hb.mono HX.out.size)
     replace HX := hide hX2
     clear hX2 hS0 hb
     have hS0 := HSX.out _ HX.out
     generalize (wa2.alloc (.cells #[.slice none 0 0, .int .u64 0, .slice none 0 0, .int .u64 0, .slice none 0 0, .slice none 0 0, .slice none 0 0] 34)) = wa3 at *
     generalize wa2.heap.size = ga at *
     refine hK11.out _ _ (hS0) (fun _ => ?_)
     clear hK11 K11
     (try simp only [Act.put, Na, Nb, Nc, Nd, Nx, Nf])
     refine wpAnyH_ready (rs := [6]) (by kernel_rfl) (by simp) ?_
     refine (AllReadyH.cons rfl (fun K12 hK12 => ?_) AllReadyH.nil)
     clear hS0
     obtain ⟨⟨y0, y1, y2, y3, y4, y5, y6⟩, ⟨yf0, yf1, yf2, yf3, yf4, yf5, yf6⟩, yl⟩ := all7 HRA.out
     go_simp
     generalize hw : World.setCell _ _ _ = wp
     obtain ⟨hl, hr⟩ := laid7 HRA.out hw
     have HRA2 := hide hr
     clear hr yl y0 yf0 y1 yf1 y2 yf2 y3 yf3 y4 yf4 y5 yf5 y6 yf6
     have hgab : gb ≠ ga := HGN.out
     replace HRB := hide (show RowAt wp gb 34 #[.slice none 0 0, .int .u64 0, .slice none 0 0, .int .u64 0, .slice none 0 0, .slice none 0 0, .slice none 0 0] from (hl.block gb hgab).trans HRB.out)
     replace HVA := hide (HVA.out.stay (hl.stay (fun h => h.2.2 rfl)))
     replace HVB := hide (HVB.out.stay (hl.stay (fun h => h.2.2 rfl)))
     replace HX := hide (HX.out.trans (hl.below.mono HGA.out))
     clear hw hl hgab
     refine hK12.out _ _ (HSX.out _ HX.out) (fun _ => ?_)
     clear hK12 K12
     (try simp only [Act.put, Na, Nb, Nc, Nd, Nx, Nf])
     refine wpAnyH_ready (rs := [7]) (by kernel_rfl) (by simp) ?_
     refine (AllReadyH.cons rfl (fun K13 hK13 => ?_) AllReadyH.nil)
     obtain ⟨⟨y0, y1, y2, y3, y4, y5, y6⟩, ⟨yf0, yf1, yf2, yf3, yf4, yf5, yf6⟩, yl⟩ := all7 HRB.out
     go_simp
     generalize hw : World.setCell _ _ _ = wq
     obtain ⟨hl, hr⟩ := laid7 HRB.out hw
     have HRB2 := hide hr
     clear hr yl y0 yf0 y1 yf1 y2 yf2 y3 yf3 y4 yf4 y5 yf5 y6 yf6
     replace HRA2 := hide (show RowAt wq ga 34 _ from (hl.block ga (Ne.symm HGN.out)).trans HRA2.out)
     replace HVA := hide (HVA.out.stay (hl.stay (fun h => h.2.1 rfl)))
     replace HVB := hide (HVB.out.stay (hl.stay (fun h => h.2.1 rfl)))
     replace HX := hide (HX.out.trans (hl.below.mono HGB.out))
     clear hw hl
     refine hK13.out _ _ (HSX.out _ HX.out) (fun _ => ?_)
     clear hK13 K13
     (try simp only [Act.put, Na, Nb, Nc, Nd, Nx, Nf])
     refine wpAnyH_done (by kernel_rfl) ?_ _
     go_wp2_with fail
     go_meet
     have hBW := HB.out.trans (HX.out.mono HB.out.size)
     case rel => exact ⟨ga, gb, rfl, rfl, ⟨⟨_, _, _, _, _, _, _, _, _, HRA2.out, HVA.out.up (fun j hj _ => hj.2.2)⟩, hBW, Nat.le_trans HB.out.size HGA.out⟩, ⟨⟨_, _, _, _, _, _, _, _, _, HRB2.out, HVB.out.up (fun j hj _ => hj.2.1)⟩, hBW, Nat.le_trans HB.out.size HGB.out⟩, HX.out⟩
   ·
    go_simp
    have hb : Below wo0.heap.size wo0 (wo0.alloc (.cells #[.slice none 0 0, .int .u64 0, .slice none 0 0, .int .u64 0, .slice none 0 0, .slice none 0 0, .slice none 0 0] 34)) := (Below.refl _ _).alloc (Nat.le_refl _) _
    have HRA := hide (RowAt.new wo0 34 #[.slice none 0 0, .int .u64 0, .slice none 0 0, .int .u64 0, .slice none 0 0, .slice none 0 0, .slice none 0 0])
    replace HVA := hide ((HVA.out.up (G := fun j => w0.heap.size ≤ j ∧ j ≠ wo0.heap.size) (fun j (hj : w0.heap.size ≤ j) hl => by omega)).below hb)
    have HGA := hide (show w0.heap.size ≤ wo0.heap.size from HX.out.size)
    have hX2 := HX.out.trans (hb.mono HX.out.size)
    replace HX := hide hX2
    clear hX2 hS0 hb
    have hS0 := HSX.out _ HX.out
    generalize (wo0.alloc (.cells #[.slice none 0 0, .int .u64 0, .slice none 0 0, .int .u64 0, .slice none 0 0, .slice none 0 0, .slice none 0 0] 34)) = wa1 at *
    generalize wo0.heap.size = ga at *
    refine hK4.out _ _ (hS0) (fun _ => ?_)
    clear hK4 K4
    (try simp only [Act.put, Na, Nb, Nc, Nd, Nx, Nf])
    refine wpAnyH_ready (rs := [3, 5]) (by kernel_rfl) (by simp) ?_
    refine (AllReadyH.cons rfl (fun K14 hK14 => ?_) (AllReadyH.cons rfl (fun K15 hK15 => ?_) AllReadyH.nil))
    ·
     go_simp
     with_reducible refine (vOwn (R1.out.below HX.out).val).mono ?_
     rintro e wo2 ⟨⟨v5, rfl, hv⟩, hb⟩
     obtain ⟨A6, S6, n6, c6, m6, d6, B6, p6, f6, rfl, hr⟩ := hv
     rw [HCB.out] at hr ⊢
     have hlga := HRA.out.lt
     have hxs := HX.out.size
     have HVB := hide (hr.up (G := fun j => w0.heap.size ≤ j ∧ j ≠ ga) (fun j (hj : wa1.heap.size ≤ j) _ => by show w0.heap.size ≤ j ∧ j ≠ ga; omega))
     replace HVA := hide (HVA.out.below hb)
     replace HRA := hide (HRA.out.below hb)
     clear hr hxs hlga
     have hX2 := HX.out.trans (hb.mono HX.out.size)
     replace HX := hide hX2
     clear hX2 hS0 hb
     have hS0 := HSX.out _ HX.out
     refine hK14.out _ _ (hS0) (fun _ => ?_)
     clear hK14 K14
     (try simp only [Act.put, Na, Nb, Nc, Nd, Nx, Nf])
     refine wpAnyH_ready (rs := [5]) (by kernel_rfl) (by simp) ?_
     refine (AllReadyH.cons rfl (fun K16 hK16 => ?_) AllReadyH.nil)
     go_simp
     have hb : Below wo2.heap.size wo2 (wo2.alloc (.cells #[.slice none 0 0, .int .u64 0, .slice none 0 0, .int .u64 0, .slice none 0 0, .slice none 0 0, .slice none 0 0] 34)) := (Below.refl _ _).alloc (Nat.le_refl _) _
     have HRB := hide (RowAt.new wo2 34 #[.slice none 0 0, .int .u64 0, .slice none 0 0, .int .u64 0, .slice none 0 0, .slice none 0 0, .slice none 0 0])
     have hlt := HRA.out.lt
     replace HRA := hide (HRA.out.below hb)
     replace HVA := hide ((HVA.out.up (G := fun j => w0.heap.size ≤ j ∧ j ≠ ga ∧ j ≠ wo2.heap.size) (fun j (hj : w0.heap.size ≤ j ∧ j ≠ ga) hl => by omega)).below hb)
     replace HVB := hide ((HVB.out.up (G := fun j => w0.heap.size ≤ j ∧ j ≠ ga ∧ j ≠ wo2.heap.size) (fun j (hj : w0.heap.size ≤ j ∧ j ≠ ga) hl => by omega)).below hb)
     have HGN := hide (show wo2.heap.size ≠ ga from by omega)
     clear hlt
     have HGB := hide (show w0.heap.size ≤ wo2.heap.size from HX.out.size)
     have hX2 := HX.out.trans (hb.mono HX.out.size)
     replace HX := hide hX2
     clear hX2 hS0 hb
     have hS0 := HSX.out _ HX.out
     generalize (wo2.alloc (.cells #[.slice none 0 0, .int .u64 0, .slice none 0 0, .int .u64 0, .slice none 0 0, .slice none 0 0, .slice none 0 0] 34)) = wa3 at *
     generalize wo2.heap.size = gb at *
     refine hK16.out _ _ (hS0) (fun _ => ?_)
     clear hK16 K16
     (try simp only [Act.put, Na, Nb, Nc, Nd, Nx, Nf])
     refine wpAnyH_ready (rs := [6]) (by kernel_rfl) (by simp) ?_
     refine (AllReadyH.cons rfl (fun K17 hK17 => ?_) AllReadyH.nil)
     clear hS0
     obtain ⟨⟨y0, y1, y2, y3, y4, y5, y6⟩, ⟨yf0, yf1, yf2, yf3, yf4, yf5, yf6⟩, yl⟩ := all7 HRA.out
     go_simp
     generalize hw : World.setCell _ _ _ = wp
     obtain ⟨hl, hr⟩ := laid7 HRA.out hw
     have HRA2 := hide hr
     clear hr yl y0 yf0 y1 yf1 y2 yf2 y3 yf3 y4 yf4 y5 yf5 y6 yf6
     have hgab : gb ≠ ga := HGN.out
     replace HRB := hide (show RowAt wp gb 34 #[.slice none 0 0, .int .u64 0, .slice none 0 0, .int .u64 0, .slice none 0 0, .slice none 0 0, .slice none 0 0] from (hl.block gb hgab).trans HRB.out)
     replace HVA := hide (HVA.out.stay (hl.stay (fun h => h.2.1 rfl)))
     replace HVB := hide (HVB.out.stay (hl.stay (fun h => h.2.1 rfl)))
     replace HX := hide (HX.out.trans (hl.below.mono HGA.out))
     clear hw hl hgab
     refine hK17.out _ _ (HSX.out _ HX.out) (fun _ => ?_)
     clear hK17 K17
     (try simp only [Act.put, Na, Nb, Nc, Nd, Nx, Nf])
     refine wpAnyH_ready (rs := [7]) (by kernel_rfl) (by simp) ?_
     refine (AllReadyH.cons rfl (fun K18 hK18 => ?_) AllReadyH.nil)
     obtain ⟨⟨y0, y1, y2, y3, y4, y5, y6⟩, ⟨yf0, yf1, yf2, yf3, yf4, yf5, yf6⟩, yl⟩ := all7 HRB.out
     go_simp
     generalize hw : World.setCell _ _ _ = wq
     obtain ⟨hl, hr⟩ := laid7 HRB.out hw
     have HRB2 := hide hr
     clear hr yl y0 yf0 y1 yf1 y2 yf2 y3 yf3 y4 yf4 y5 yf5 y6 yf6
     replace HRA2 := hide (show RowAt wq ga 34 _ from (hl.block ga (Ne.symm HGN.out)).trans HRA2.out)
     replace HVA := hide (HVA.out.stay (hl.stay (fun h => h.2.2 rfl)))
     replace HVB := hide (HVB.out.stay (hl.stay (fun h => h.2.2 rfl)))
     replace HX := hide (HX.out.trans (hl.below.mono HGB.out))
     clear hw hl
     refine hK18.out _ _ (HSX.out _ HX.out) (fun _ => ?_)
     clear hK18 K18
     (try simp only [Act.put, Na, Nb, Nc, Nd, Nx, Nf])
     refine wpAnyH_done (by kernel_rfl) ?_ _
     go_wp2_with fail
     go_meet
     have hBW := HB.out.trans (HX.out.mono HB.out.size)
     case rel => exact ⟨ga, gb, rfl, rfl, ⟨⟨_, _, _, _, _, _, _, _, _, HRA2.out, HVA.out.up (fun j hj _ => hj.2.1)⟩, hBW, Nat.le_trans HB.out.size HGA.out⟩, ⟨⟨_, _, _, _, _, _, _, _, _, HRB2.out, HVB.out.up (fun j hj _ => hj.2.2)⟩, hBW, Nat.le_trans HB.out.size HGB.out⟩, HX.out⟩
    ·
     go_simp
     have hb : Below wa1.heap.size wa1 (wa1.alloc (.cells #[.slice none 0 0, .int .u64 0, .slice none 0 0, .int .u64 0, .slice none 0 0, .slice none 0 0, .slice none 0 0] 34)) := (Below.refl _ _).alloc (Nat.le_refl _) _
     have HRB := hide (RowAt.new wa1 34 #[.slice none 0 0, .int .u64 0, .slice none 0 0, .int .u64 0, .slice none 0 0, .slice none 0 0, .slice none 0 0])
     have hlt := HRA.out.lt
     replace HRA := hide (HRA.out.below hb)
     replace HVA := hide ((HVA.out.up (G := fun j => w0.heap.size ≤ j ∧ j ≠ ga ∧ j ≠ wa1.heap.size) (fun j (hj : w0.heap.size ≤ j ∧ j ≠ ga) hl => by omega)).below hb)
     have HGN := hide (show wa1.heap.size ≠ ga from by omega)
     clear hlt
     have HGB := hide (show w0.heap.size ≤ wa1.heap.size from HX.out.size)
     have hX2 := HX.out.trans (hb.mono HX.out.size)
     replace HX := hide hX2
     clear hX2 hS0 hb
     have hS0 := HSX.out _ HX.out
     generalize (wa1.alloc (.cells #[.slice none 0 0, .int .u64 0, .slice none 0 0, .int .u64 0, .slice none 0 0, .slice none 0 0, .slice none 0 0] 34)) = wa2 at *
     generalize wa1.heap.size = gb at *
     refine hK15.out _ _ (hS0) (fun _ => ?_)
     clear hK15 K15
     (try simp only [Act.put, Na, Nb, Nc, Nd, Nx, Nf])
     refine wpAnyH_ready (rs := [3]) (by kernel_rfl) (by simp) ?_
     refine (AllReadyH.cons rfl (fun K19 hK19 => ?_) AllReadyH.nil)
     go_simp
     with_reducible refine (vOwn (R1.out.below HX.out).val).mono ?_
     rintro e wo3 ⟨⟨v5, rfl, hv⟩, hb⟩
     obtain ⟨A6, S6, n6, c6, m6, d6, B6, p6, f6, rfl, hr⟩ := hv
     rw [HCB.out] at hr ⊢
     have hlga := HRA.out.lt
     have hlgb := HRB.out.lt
     have hxs := HX.out.size
     have HVB := hide (hr.up (G := fun j => w0.heap.size ≤ j ∧ j ≠ ga ∧ j ≠ gb) (fun j (hj : wa2.heap.size ≤ j) _ => by show w0.heap.size ≤ j ∧ j ≠ ga ∧ j ≠ gb; omega))
     replace HVA := hide (HVA.out.below hb)
     replace HRA := hide (HRA.out.below hb)
     replace HRB := hide (HRB.out.below hb)
     clear hr hxs hlga hlgb
     have hX2 := HX.out.trans (hb.mono HX.out.size)
     replace HX := hide hX2
     clear hX2 hS0 hb
     have hS0 := HSX.out _ HX.out
     refine hK19.out _ _ (hS0) (fun _ => ?_)
     clear hK19 K19
     (try simp only [Act.put, Na, Nb, Nc, Nd, Nx, Nf])
     refine wpAnyH_ready (rs := [6]) (by kernel_rfl) (by simp) ?_
     refine (AllReadyH.cons rfl (fun K20 hK20 => ?_) AllReadyH.nil)
     clear hS0
     obtain ⟨⟨y0, y1, y2, y3, y4, y5, y6⟩, ⟨yf0, yf1, yf2, yf3, yf4, yf5, yf6⟩, yl⟩ := all7 HRA.out
     go_simp
     generalize hw : World.setCell _ _ _ = wp
     obtain ⟨hl, hr⟩ := laid7 HRA.out hw
     have HRA2 := hide hr
     clear hr yl y0 yf0 y1 yf1 y2 yf2 y3 yf3 y4 yf4 y5 yf5 y6 yf6
     have hgab : gb ≠ ga := HGN.out
     replace HRB := hide (show RowAt wp gb 34 #[.slice none 0 0, .int .u64 0, .slice none 0 0, .int .u64 0, .slice none 0 0, .slice none 0 0, .slice none 0 0] from (hl.block gb hgab).trans HRB.out)
     replace HVA := hide (HVA.out.stay (hl.stay (fun h => h.2.1 rfl)))
     replace HVB := hide (HVB.out.stay (hl.stay (fun h => h.2.1 rfl)))
     replace HX := hide (HX.out.trans (hl.below.mono HGA.out))
     clear hw hl hgab
     refine hK20.out _ _ (HSX.out _ HX.out) (fun _ => ?_)
     clear hK20 K20
     (try simp only [Act.put, Na, Nb, Nc, Nd, Nx, Nf])
     refine wpAnyH_ready (rs := [7]) (by kernel_rfl) (by simp) ?_
     refine (AllReadyH.cons rfl (fun K21 hK21 => ?_) AllReadyH.nil)
     obtain ⟨⟨y0, y1, y2, y3, y4, y5, y6⟩, ⟨yf0, yf1, yf2, yf3, yf4, yf5, yf6⟩, yl⟩ := all7 HRB.out
     go_simp
     generalize hw : World.setCell _ _ _ = wq
     obtain ⟨hl, hr⟩ := laid7 HRB.out hw
     have HRB2 := hide hr
     clear hr yl y0 yf0 y1 yf1 y2 yf2 y3 yf3 y4 yf4 y5 yf5 y6 yf6
     replace HRA2 := hide (show RowAt wq ga 34 _ from (hl.block ga (Ne.symm HGN.out)).trans HRA2.out)
     replace HVA := hide (HVA.out.stay (hl.stay (fun h => h.2.2 rfl)))
     replace HVB := hide (HVB.out.stay (hl.stay (fun h => h.2.2 rfl)))
     replace HX := hide (HX.out.trans (hl.below.mono HGB.out))
     clear hw hl
     refine hK21.out _ _ (HSX.out _ HX.out) (fun _ => ?_)
     clear hK21 K21
     (try simp only [Act.put, Na, Nb, Nc, Nd, Nx, Nf])
     refine wpAnyH_done (by kernel_rfl) ?_ _
     go_wp2_with fail
     go_meet
     have hBW := HB.out.trans (HX.out.mono HB.out.size)
     case rel => exact ⟨ga, gb, rfl, rfl, ⟨⟨_, _, _, _, _, _, _, _, _, HRA2.out, HVA.out.up (fun j hj _ => hj.2.1)⟩, hBW, Nat.le_trans HB.out.size HGA.out⟩, ⟨⟨_, _, _, _, _, _, _, _, _, HRB2.out, HVB.out.up (fun j hj _ => hj.2.2)⟩, hBW, Nat.le_trans HB.out.size HGB.out⟩, HX.out⟩
   ·
    go_simp
    have hb : Below wo0.heap.size wo0 (wo0.alloc (.cells #[.slice none 0 0, .int .u64 0, .slice none 0 0, .int .u64 0, .slice none 0 0, .slice none 0 0, .slice none 0 0] 34)) := (Below.refl _ _).alloc (Nat.le_refl _) _
    have HRB := hide (RowAt.new wo0 34 #[.slice none 0 0, .int .u64 0, .slice none 0 0, .int .u64 0, .slice none 0 0, .slice none 0 0, .slice none 0 0])
    replace HVA := hide ((HVA.out.up (G := fun j => w0.heap.size ≤ j ∧ j ≠ wo0.heap.size) (fun j (hj : w0.heap.size ≤ j) hl => by omega)).below hb)
    have HGB := hide (show w0.heap.size ≤ wo0.heap.size from HX.out.size)
    have hX2 := HX.out.trans (hb.mono HX.out.size)
    replace HX := hide hX2
    clear hX2 hS0 hb
    have hS0 := HSX.out _ HX.out
    generalize (wo0.alloc (.cells #[.slice none 0 0, .int .u64 0, .slice none 0 0, .int .u64 0, .slice none 0 0, .slice none 0 0, .slice none 0 0] 34)) = wa1 at *
    generalize wo0.heap.size = gb at *
    refine hK5.out _ _ (hS0) (fun _ => ?_)
    clear hK5 K5
    (try simp only [Act.put, Na, Nb, Nc, Nd, Nx, Nf])
    refine wpAnyH_ready (rs := [3, 4]) (by kernel_rfl) (by simp) ?_
    refine (AllReadyH.cons rfl (fun K22 hK22 => ?_) (AllReadyH.cons rfl (fun K23 hK23 => ?_) AllReadyH.nil))
    ·
     go_simp
     with_reducible refine (vOwn (R1.out.below HX.out).val).mono ?_
     rintro e wo2 ⟨⟨v5, rfl, hv⟩, hb⟩
     obtain ⟨A6, S6, n6, c6, m6, d6, B6, p6, f6, rfl, hr⟩ := hv
     rw [HCB.out] at hr ⊢
     have hlgb := HRB.out.lt
     have hxs := HX.out.size
     have HVB := hide (hr.up (G := fun j => w0.heap.size ≤ j ∧ j ≠ gb) (fun j (hj : wa1.heap.size ≤ j) _ => by show w0.heap.size ≤ j ∧ j ≠ gb; omega))
     replace HVA := hide (HVA.out.below hb)
     replace HRB := hide (HRB.out.below hb)
     clear hr hxs hlgb
     have hX2 := HX.out.trans (hb.mono HX.out.size)
     replace HX := hide hX2
     clear hX2 hS0 hb
     have hS0 := HSX.out _ HX.out
     refine hK22.out _ _ (hS0) (fun _ => ?_)
     clear hK22 K22
     (try simp only [Act.put, Na, Nb, Nc, Nd, Nx, Nf])
     refine wpAnyH_ready (rs := [4]) (by kernel_rfl) (by simp) ?_
     refine (AllReadyH.cons rfl (fun K24 hK24 => ?_) AllReadyH.nil)
     go_simp
     have hb : Below wo2.heap.size wo2 (wo2.alloc (.cells #[.slice none 0 0, .int .u64 0, .slice none 0 0, .int .u64 0, .slice none 0 0, .slice none 0 0, .slice none 0 0] 34)) := (Below.refl _ _).alloc (Nat.le_refl _) _
     have HRA := hide (RowAt.new wo2 34 #[.slice none 0 0, .int .u64 0, .slice none 0 0, .int .u64 0, .slice none 0 0, .slice none 0 0, .slice none 0 0])
     have hlt := HRB.out.lt
     replace HRB := hide (HRB.out.below hb)
     replace HVA := hide ((HVA.out.up (G := fun j => w0.heap.size ≤ j ∧ j ≠ gb ∧ j ≠ wo2.heap.size) (fun j (hj : w0.heap.size ≤ j ∧ j ≠ gb) hl => by omega)).below hb)
     replace HVB := hide ((HVB.out.up (G := fun j => w0.heap.size ≤ j ∧ j ≠ gb ∧ j ≠ wo2.heap.size) (fun j (hj : w0.heap.size ≤ j ∧ j ≠ gb) hl => by omega)).below hb)
     have HGN := hide (show gb ≠ wo2.heap.size from by omega)
     clear hlt
     have HGA := hide (show w0.heap.size ≤ wo2.heap.size from HX.out.size)
     have hX2 := HX.out.trans (hb.mono HX.out.size)
     replace HX := hide hX2
     clear hX2 hS0 hb
     have hS0 := HSX.out _ HX.out
     generalize (wo2.alloc (.cells #[.slice none 0 0, .int .u64 0, .slice none 0 0, .int .u64 0, .slice none 0 0, .slice none 0 0, .slice none 0 0] 34)) = wa3 at *
     generalize wo2.heap.size = ga at *
     refine hK24.out _ _ (hS0) (fun _ => ?_)
     clear hK24 K24
     (try simp only [Act.put, Na, Nb, Nc, Nd, Nx, Nf])
     refine wpAnyH_ready (rs := [6]) (by kernel_rfl) (by simp) ?_
     refine (AllReadyH.cons rfl (fun K25 hK25 => ?_) AllReadyH.nil)
     clear hS0
     obtain ⟨⟨y0, y1, y2, y3, y4, y5, y6⟩, ⟨yf0, yf1, yf2, yf3, yf4, yf5, yf6⟩, yl⟩ := all7 HRA.out
     go_simp
     generalize hw : World.setCell _ _ _ = wp
     obtain ⟨hl, hr⟩ := laid7 HRA.out hw
     have HRA2 := hide hr
     clear hr yl y0 yf0 y1 yf1 y2 yf2 y3 yf3 y4 yf4 y5 yf5 y6 yf6
     have hgab : gb ≠ ga := HGN.out
     replace HRB := hide (show RowAt wp gb 34 #[.slice none 0 0, .int .u64 0, .slice none 0 0, .int .u64 0, .slice none 0 0, .slice none 0 0, .slice none 0 0] from (hl.block gb hgab).trans HRB.out)
     replace HVA := hide (HVA.out.stay (hl.stay (fun h => h.2.2 rfl)))
     replace HVB := hide (HVB.out.stay (hl.stay (fun h => h.2.2 rfl)))
     replace HX := hide (HX.out.trans (hl.below.mono HGA.out))
     clear hw hl hgab
     refine hK25.out _ _ (HSX.out _ HX.out) (fun _ => ?_)
     clear hK25 K25
     (try simp only [Act.put, Na, Nb, Nc, Nd, Nx, Nf])
     refine wpAnyH_ready (rs := [7]) (by kernel_rfl) (by simp) ?_
     refine (AllReadyH.cons rfl (fun K26 hK26 => ?_) AllReadyH.nil)
     obtain ⟨⟨y0, y1, y2, y3, y4, y5, y6⟩, ⟨yf0, yf1, yf2, yf3, yf4, yf5, yf6⟩, yl⟩ := all7 HRB.out
     go_simp
     generalize hw : World.setCell _ _ _ = wq
     obtain ⟨hl, hr⟩ := laid7 HRB.out hw
     have HRB2 := hide hr
     clear hr yl y0 yf0 y1 yf1 y2 yf2 y3 yf3 y4 yf4 y5 yf5 y6 yf6
     replace HRA2 := hide (show RowAt wq ga 34 _ from (hl.block ga (Ne.symm HGN.out)).trans HRA2.out)
     replace HVA := hide (HVA.out.stay (hl.stay (fun h => h.2.1 rfl)))
     replace HVB := hide (HVB.out.stay (hl.stay (fun h => h.2.1 rfl)))
     replace HX := hide (HX.out.trans (hl.below.mono HGB.out))
     clear hw hl
     refine hK26.out _ _ (HSX.out _ HX.out) (fun _ => ?_)
     clear hK26 K26
     (try simp only [Act.put, Na, Nb, Nc, Nd, Nx, Nf])
     refine wpAnyH_done (by kernel_rfl) ?_ _
     go_wp2_with fail
     go_meet
     have hBW := HB.out.trans (HX.out.mono HB.out.size)
     case rel => exact ⟨ga, gb, rfl, rfl, ⟨⟨_, _, _, _, _, _, _, _, _, HRA2.out, HVA.out.up (fun j hj _ => hj.2.2)⟩, hBW, Nat.le_trans HB.out.size HGA.out⟩, ⟨⟨_, _, _, _, _, _, _, _, _, HRB2.out, HVB.out.up (fun j hj _ => hj.2.1)⟩, hBW, Nat.le_trans HB.out.size HGB.out⟩, HX.out⟩
    ·
     go_simp
     have hb : Below wa1.heap.size wa1 (wa1.alloc (.cells #[.slice none 0 0, .int .u64 0, .slice none 0 0, .int .u64 0, .slice none 0 0, .slice none 0 0, .slice none 0 0] 34)) := (Below.refl _ _).alloc (Nat.le_refl _) _
     have HRA := hide (RowAt.new wa1 34 #[.slice none 0 0, .int .u64 0, .slice none 0 0, .int .u64 0, .slice none 0 0, .slice none 0 0, .slice none 0 0])
     have hlt := HRB.out.lt
     replace HRB := hide (HRB.out.below hb)
     replace HVA := hide ((HVA.out.up (G := fun j => w0.heap.size ≤ j ∧ j ≠ gb ∧ j ≠ wa1.heap.size) (fun j (hj : w0.heap.size ≤ j ∧ j ≠ gb) hl => by omega)).below hb)
     have HGN := hide (show gb ≠ wa1.heap.size from by omega)
     clear hlt
     have HGA := hide (show w0.heap.size ≤ wa1.heap.size from HX.out.size)
     have hX2 := HX.out.trans (hb.mono HX.out.size)
     replace HX := hide hX2
     clear hX2 hS0 hb
     have hS0 := HSX.out _ HX.out
     generalize (wa1.alloc (.cells #[.slice none 0 0, .int .u64 0, .slice none 0 0, .int .u64 0, .slice none 0 0, .slice none 0 0, .slice none 0 0] 34)) = wa2 at *
     generalize wa1.heap.size = ga at *
     refine hK23.out _ _ (hS0) (fun _ => ?_)
     clear hK23 K23
     (try simp only [Act.put, Na, Nb, Nc, Nd, Nx, Nf])
     refine wpAnyH_ready (rs := [3]) (by kernel_rfl) (by simp) ?_
     refine (AllReadyH.cons rfl (fun K27 hK27 => ?_) AllReadyH.nil)
     go_simp
     with_reducible refine (vOwn (R1.out.below HX.out).val).mono ?_
     rintro e wo3 ⟨⟨v5, rfl, hv⟩, hb⟩
     obtain ⟨A6, S6, n6, c6, m6, d6, B6, p6, f6, rfl, hr⟩ := hv
     rw [HCB.out] at hr ⊢
     have hlga := HRA.out.lt
     have hlgb := HRB.out.lt
     have hxs := HX.out.size
     have HVB := hide (hr.up (G := fun j => w0.heap.size ≤ j ∧ j ≠ gb ∧ j ≠ ga) (fun j (hj : wa2.heap.size ≤ j) _ => by show w0.heap.size ≤ j ∧ j ≠ gb ∧ j ≠ ga; omega))
     replace HVA := hide (HVA.out.below hb)
     replace HRA := hide (HRA.out.below hb)
     replace HRB := hide (HRB.out.below hb)
     clear hr hxs hlgb hlga
     have hX2 := HX.out.trans (hb.mono HX.out.size)
     replace HX := hide hX2
     clear hX2 hS0 hb
     have hS0 := HSX.out _ HX.out
     refine hK27.out _ _ (hS0) (fun _ => ?_)
     clear hK27 K27
     (try simp only [Act.put, Na, Nb, Nc, Nd, Nx, Nf])
     refine wpAnyH_ready (rs := [6]) (by kernel_rfl) (by simp) ?_
     refine (AllReadyH.cons rfl (fun K28 hK28 => ?_) AllReadyH.nil)
     clear hS0
     obtain ⟨⟨y0, y1, y2, y3, y4, y5, y6⟩, ⟨yf0, yf1, yf2, yf3, yf4, yf5, yf6⟩, yl⟩ := all7 HRA.out
     go_simp
     generalize hw : World.setCell _ _ _ = wp
     obtain ⟨hl, hr⟩ := laid7 HRA.out hw
     have HRA2 := hide hr
     clear hr yl y0 yf0 y1 yf1 y2 yf2 y3 yf3 y4 yf4 y5 yf5 y6 yf6
     have hgab : gb ≠ ga := HGN.out
     replace HRB := hide (show RowAt wp gb 34 #[.slice none 0 0, .int .u64 0, .slice none 0 0, .int .u64 0, .slice none 0 0, .slice none 0 0, .slice none 0 0] from (hl.block gb hgab).trans HRB.out)
     replace HVA := hide (HVA.out.stay (hl.stay (fun h => h.2.2 rfl)))
     replace HVB := hide (HVB.out.stay (hl.stay (fun h => h.2.2 rfl)))
     replace HX := hide (HX.out.trans (hl.below.mono HGA.out))
     clear hw hl hgab
     refine hK28.out _ _ (HSX.out _ HX.out) (fun _ => ?_)
     clear hK28 K28
     (try simp only [Act.put, Na, Nb, Nc, Nd, Nx, Nf])
     refine wpAnyH_ready (rs := [7]) (by kernel_rfl) (by simp) ?_
     refine (AllReadyH.cons rfl (fun K29 hK29 => ?_) AllReadyH.nil)
     obtain ⟨⟨y0, y1, y2, y3, y4, y5, y6⟩, ⟨yf0, yf1, yf2, yf3, yf4, yf5, yf6⟩, yl⟩ := all7 HRB.out
     go_simp
     generalize hw : World.setCell _ _ _ = wq
     obtain ⟨hl, hr⟩ := laid7 HRB.out hw
     have HRB2 := hide hr
     clear hr yl y0 yf0 y1 yf1 y2 yf2 y3 yf3 y4 yf4 y5 yf5 y6 yf6
     replace HRA2 := hide (show RowAt wq ga 34 _ from (hl.block ga (Ne.symm HGN.out)).trans HRA2.out)
     replace HVA := hide (HVA.out.stay (hl.stay (fun h => h.2.1 rfl)))
     replace HVB := hide (HVB.out.stay (hl.stay (fun h => h.2.1 rfl)))
     replace HX := hide (HX.out.trans (hl.below.mono HGB.out))
     clear hw hl
     refine hK29.out _ _ (HSX.out _ HX.out) (fun _ => ?_)
     clear hK29 K29
     (try simp only [Act.put, Na, Nb, Nc, Nd, Nx, Nf])
     refine wpAnyH_done (by kernel_rfl) ?_ _
     go_wp2_with fail
     go_meet
     have hBW := HB.out.trans (HX.out.mono HB.out.size)
     case rel => exact ⟨ga, gb, rfl, rfl, ⟨⟨_, _, _, _, _, _, _, _, _, HRA2.out, HVA.out.up (fun j hj _ => hj.2.2)⟩, hBW, Nat.le_trans HB.out.size HGA.out⟩, ⟨⟨_, _, _, _, _, _, _, _, _, HRB2.out, HVB.out.up (fun j hj _ => hj.2.1)⟩, hBW, Nat.le_trans HB.out.size HGB.out⟩, HX.out⟩
  ·
   go_simp
   have hb : Below wd.heap.size wd (wd.alloc (.cells #[.slice none 0 0, .int .u64 0, .slice none 0 0, .int .u64 0, .slice none 0 0, .slice none 0 0, .slice none 0 0] 34)) := (Below.refl _ _).alloc (Nat.le_refl _) _
   have HRA := hide (RowAt.new wd 34 #[.slice none 0 0, .int .u64 0, .slice none 0 0, .int .u64 0, .slice none 0 0, .slice none 0 0, .slice none 0 0])
   have HGA := hide (show w0.heap.size ≤ wd.heap.size from HX.out.size)
   have hX2 := HX.out.trans (hb.mono HX.out.size)
   replace HX := hide hX2
   clear hX2 hS0 hb
   have hS0 := HSX.out _ HX.out
   generalize (wd.alloc (.cells #[.slice none 0 0, .int .u64 0, .slice none 0 0, .int .u64 0, .slice none 0 0, .slice none 0 0, .slice none 0 0] 34)) = wa0 at *
   generalize wd.heap.size = ga at *
   refine hK1.out _ _ (hS0) (fun _ => ?_)
   clear hK1 K1
   (try simp only [Act.put, Na, Nb, Nc, Nd, Nx, Nf])
   refine wpAnyH_ready (rs := [1, 5]) (by kernel_rfl) (by simp) ?_
   refine (AllReadyH.cons rfl (fun K30 hK30 => ?_) (AllReadyH.cons rfl (fun K31 hK31 => ?_) AllReadyH.nil))
   ·
    go_simp
    with_reducible refine (vOwn (R0.out.below HX.out).val).mono ?_
    rintro e wo1 ⟨⟨v5, rfl, hv⟩, hb⟩
    obtain ⟨A5, S5, n5, c5, m5, d5, B5, p5, f5, rfl, hr⟩ := hv
    rw [HCA.out] at hr ⊢
    have hlga := HRA.out.lt
    have hxs := HX.out.size
    have HVA := hide (hr.up (G := fun j => w0.heap.size ≤ j ∧ j ≠ ga) (fun j (hj : wa0.heap.size ≤ j) _ => by show w0.heap.size ≤ j ∧ j ≠ ga; omega))
    replace HRA := hide (HRA.out.below hb)
    clear hr hxs hlga
    have hX2 := HX.out.trans (hb.mono HX.out.size)
    replace HX := hide hX2
    clear hX2 hS0 hb
    have hS0 := HSX.out _ HX.out
    refine hK30.out _ _ (hS0) (fun _ => ?_)
    clear hK30 K30
    (try simp only [Act.put, Na, Nb, Nc, Nd, Nx, Nf])
    refine wpAnyH_ready (rs := [3, 5]) (by kernel_rfl) (by simp) ?_
    refine (AllReadyH.cons rfl (fun K32 hK32 => ?_) (AllReadyH.cons rfl (fun K33 hK33 => ?_) AllReadyH.nil))
    ·
     go_simp
     with_reducible refine (vOwn (R1.out.below HX.out).val).mono ?_
     rintro e wo2 ⟨⟨v5, rfl, hv⟩, hb⟩
     obtain ⟨A6, S6, n6, c6, m6, d6, B6, p6, f6, rfl, hr⟩ := hv
     rw [HCB.out] at hr ⊢
     have hlga := HRA.out.lt
     have hxs := HX.out.size
     have HVB := hide (hr.up (G := fun j => w0.heap.size ≤ j ∧ j ≠ ga) (fun j (hj : wo1.heap.size ≤ j) _ => by show w0.heap.size ≤ j ∧ j ≠ ga; omega))
     replace HVA := hide (HVA.out.below hb)
     replace HRA := hide (HRA.out.below hb)
     clear hr hxs hlga
     have hX2 := HX.out.trans (hb.mono HX.out.size)
     replace HX := hide hX2
     clear hX2 hS0 hb
     have hS0 := HSX.out _ HX.out
     refine hK32.out _ _ (hS0) (fun _ => ?_)
     clear hK32 K32
     (try simp only [Act.put, Na, Nb, Nc, Nd, Nx, Nf])
     refine wpAnyH_ready (rs := [5]) (by kernel_rfl) (by simp) ?_
     refine (AllReadyH.cons rfl (fun K34 hK34 => ?_) AllReadyH.nil)
     go_simp
     have hb : Below wo2.heap.size wo2 (wo2.alloc (.cells #[.slice none 0 0, .int .u64 0, .slice none 0 0, .int .u64 0, .slice none 0 0, .slice none 0 0, .slice none 0 0] 34)) := (Below.refl _ _).alloc (Nat.le_refl _) _
     have HRB := hide (RowAt.new wo2 34 #[.slice none 0 0, .int .u64 0, .slice none 0 0, .int .u64 0, .slice none 0 0, .slice none 0 0, .slice none 0 0])
     have hlt := HRA.out.lt
     replace HRA := hide (HRA.out.below hb)
     replace HVA := hide ((HVA.out.up (G := fun j => w0.heap.size ≤ j ∧ j ≠ ga ∧ j ≠ wo2.heap.size) (fun j (hj : w0.heap.size ≤ j ∧ j ≠ ga) hl => by omega)).below hb)
     replace HVB := hide ((HVB.out.up (G := fun j => w0.heap.size ≤ j ∧ j ≠ ga ∧ j ≠ wo2.heap.size) (fun j (hj : w0.heap.size ≤ j ∧ j ≠ ga) hl => by omega)).below hb)
     have HGN := hide (show wo2.heap.size ≠ ga from by omega)
     clear hlt
     have HGB := hide (show w0.heap.size ≤ wo2.heap.size from HX.out.size)
     have hX2 := HX.out.trans (hb.mono HX.out.size)
     replace HX := hide hX2
     clear hX2 hS0 hb
     have hS0 := HSX.out _ HX.out
     generalize (wo2.alloc (.cells #[.slice none 0 0, .int .u64 0, .slice none 0 0, .int .u64 0, .slice none 0 0, .slice none 0 0, .slice none 0 0] 34)) = wa3 at *
     generalize wo2.heap.size = gb at *
     refine hK34.out _ _ (hS0) (fun _ => ?_)
     clear hK34 K34
     (try simp only [Act.put, Na, Nb, Nc, Nd, Nx, Nf])
     refine wpAnyH_ready (rs := [6]) (by kernel_rfl) (by simp) ?_
     refine (AllReadyH.cons rfl (fun K35 hK35 => ?_) AllReadyH.nil)
     clear hS0
     obtain ⟨⟨y0, y1, y2, y3, y4, y5, y6⟩, ⟨yf0, yf1, yf2, yf3, yf4, yf5, yf6⟩, yl⟩ := all7 HRA.out
     go_simp
     generalize hw : World.setCell _ _ _ = wp
     obtain ⟨hl, hr⟩ := laid7 HRA.out hw
     have HRA2 := hide hr
     clear hr yl y0 yf0 y1 yf1 y2 yf2 y3 yf3 y4 yf4 y5 yf5 y6 yf6
     have hgab : gb ≠ ga := HGN.out
     replace HRB := hide (show RowAt wp gb 34 #[.slice none 0 0, .int .u64 0, .slice none 0 0, .int .u64 0, .slice none 0 0, .slice none 0 0, .slice none 0 0] from (hl.block gb hgab).trans HRB.out)
     replace HVA := hide (HVA.out.stay (hl.stay (fun h => h.2.1 rfl)))
     replace HVB := hide (HVB.out.stay (hl.stay (fun h => h.2.1 rfl)))
     replace HX := hide (HX.out.trans (hl.below.mono HGA.out))
     clear hw hl hgab
     refine hK35.out _ _ (HSX.out _ HX.out) (fun _ => ?_)
     clear hK35 K35
     (try simp only [Act.put, Na, Nb, Nc, Nd, Nx, Nf])
     refine wpAnyH_ready (rs := [7]) (by kernel_rfl) (by simp) ?_
     refine (AllReadyH.cons rfl (fun K36 hK36 => ?_) AllReadyH.nil)
     obtain ⟨⟨y0, y1, y2, y3, y4, y5, y6⟩, ⟨yf0, yf1, yf2, yf3, yf4, yf5, yf6⟩, yl⟩ := all7 HRB.out
     go_simp
     generalize hw : World.setCell _ _ _ = wq
     obtain ⟨hl, hr⟩ := laid7 HRB.out hw
     have HRB2 := hide hr
     clear hr yl y0 yf0 y1 yf1 y2 yf2 y3 yf3 y4 yf4 y5 yf5 y6 yf6
     replace HRA2 := hide (show RowAt wq ga 34 _ from (hl.block ga (Ne.symm HGN.out)).trans HRA2.out)
     replace HVA := hide (HVA.out.stay (hl.stay (fun h => h.2.2 rfl)))
     replace HVB := hide (HVB.out.stay (hl.stay (fun h => h.2.2 rfl)))
     replace HX := hide (HX.out.trans (hl.below.mono HGB.out))
     clear hw hl
     refine hK36.out _ _ (HSX.out _ HX.out) (fun _ => ?_)
     clear hK36 K36
     (try simp only [Act.put, Na, Nb, Nc, Nd, Nx, Nf])
     refine wpAnyH_done (by kernel_rfl) ?_ _
     go_wp2_with fail
     go_meet
     have hBW := HB.out.trans (HX.out.mono HB.out.size)
     case rel => exact ⟨ga, gb, rfl, rfl, ⟨⟨_, _, _, _, _, _, _, _, _, HRA2.out, HVA.out.up (fun j hj _ => hj.2.1)⟩, hBW, Nat.le_trans HB.out.size HGA.out⟩, ⟨⟨_, _, _, _, _, _, _, _, _, HRB2.out, HVB.out.up (fun j hj _ => hj.2.2)⟩, hBW, Nat.le_trans HB.out.size HGB.out⟩, HX.out⟩
    ·
     go_simp
     have hb : Below wo1.heap.size wo1 (wo1.alloc (.cells #[.slice none 0 0, .int .u64 0, .slice none 0 0, .int .u64 0, .slice none 0 0, .slice none 0 0, .slice none 0 0] 34)) := (Below.refl _ _).alloc (Nat.le_refl _) _
     have HRB := hide (RowAt.new wo1 34 #[.slice none 0 0, .int .u64 0, .slice none 0 0, .int .u64 0, .slice none 0 0, .slice none 0 0, .slice none 0 0])
     have hlt := HRA.out.lt
     replace HRA := hide (HRA.out.below hb)
     replace HVA := hide ((HVA.out.up (G := fun j => w0.heap.size ≤ j ∧ j ≠ ga ∧ j ≠ wo1.heap.size) (fun j (hj : w0.heap.size ≤ j ∧ j ≠ ga) hl => by omega)).below hb)
     have HGN := hide (show wo1.heap.size ≠ ga from by omega)
     clear hlt
     have HGB := hide (show w0.heap.size ≤ wo1.heap.size from HX.out.size)
     have hX2 := HX.out.trans (hb.mono HX.out.size)
     replace HX := hide hX2
     clear hX2 hS0 hb
     have hS0 := HSX.out _ HX.out
     generalize (wo1.alloc (.cells #[.slice none 0 0, .int .u64 0, .slice none 0 0, .int .u64 0, .slice none 0 0, .slice none 0 0, .slice none 0 0] 34)) = wa2 at *
     generalize wo1.heap.size = gb at *
     refine hK33.out _ _ (hS0) (fun _ => ?_)
     clear hK33 K33
     (try simp only [Act.put, Na, Nb, Nc, Nd, Nx, Nf])
     refine wpAnyH_ready (rs := [3]) (by kernel_rfl) (by simp) ?_
     refine (AllReadyH.cons rfl (fun K37 hK37 => ?_) AllReadyH.nil)
     go_simp
     with_reducible refine (vOwn (R1.out.below HX.out).val).mono ?_
     rintro e wo3 ⟨⟨v5, rfl, hv⟩, hb⟩
     obtain ⟨A6, S6, n6, c6, m6, d6, B6, p6, f6, rfl, hr⟩ := hv
     rw [HCB.out] at hr ⊢
     have hlga := HRA.out.lt
     have hlgb := HRB.out.lt
     have hxs := HX.out.size
     have HVB := hide (hr.up (G := fun j => w0.heap.size ≤ j ∧ j ≠ ga ∧ j ≠ gb) (fun j (hj : wa2.heap.size ≤ j) _ => by show w0.heap.size ≤ j ∧ j ≠ ga ∧ j ≠ gb; omega))
     replace HVA := hide (HVA.out.below hb)
     replace HRA := hide (HRA.out.below hb)
     replace HRB := hide (HRB.out.below hb)
     clear hr hxs hlga hlgb
     have hX2 := HX.out.trans (hb.mono HX.out.size)
     replace HX := hide hX2
     clear hX2 hS0 hb
     have hS0 := HSX.out _ HX.out
     refine hK37.out _ _ (hS0) (fun _ => ?_)
     clear hK37 K37
     (try simp only [Act.put, Na, Nb, Nc, Nd, Nx, Nf])
     refine wpAnyH_ready (rs := [6]) (by kernel_rfl) (by simp) ?_
     refine (AllReadyH.cons rfl (fun K38 hK38 => ?_) AllReadyH.nil)
     clear hS0
     obtain ⟨⟨y0, y1, y2, y3, y4, y5, y6⟩, ⟨yf0, yf1, yf2, yf3, yf4, yf5, yf6⟩, yl⟩ := all7 HRA.out
     go_simp
     generalize hw : World.setCell _ _ _ = wp
     obtain ⟨hl, hr⟩ := laid7 HRA.out hw
     have HRA2 := hide hr
     clear hr yl y0 yf0 y1 yf1 y2 yf2 y3 yf3 y4 yf4 y5 yf5 y6 yf6
     have hgab : gb ≠ ga := HGN.out
     replace HRB := hide (show RowAt wp gb 34 #[.slice none 0 0, .int .u64 0, .slice none 0 0, .int .u64 0, .slice none 0 0, .slice none 0 0, .slice none 0 0] from (hl.block gb hgab).trans HRB.out)
     replace HVA := hide (HVA.out.stay (hl.stay (fun h => h.2.1 rfl)))
     replace HVB := hide (HVB.out.stay (hl.stay (fun h => h.2.1 rfl)))
     replace HX := hide (HX.out.trans (hl.below.mono HGA.out))
     clear hw hl hgab
     refine hK38.out _ _ (HSX.out _ HX.out) (fun _ => ?_)
     clear hK38 K38
     (try simp only [Act.put, Na, Nb, Nc, Nd, Nx, Nf])
     refine wpAnyH_ready (rs := [7]) (by kernel_rfl) (by simp) ?_
     refine (AllReadyH.cons rfl (fun K39 hK39 => ?_) AllReadyH.nil)
     obtain ⟨⟨y0, y1, y2, y3, y4, y5, y6⟩, ⟨yf0, yf1, yf2, yf3, yf4, yf5, yf6⟩, yl⟩ := all7 HRB.out
     go_simp
     generalize hw : World.setCell _ _ _ = wq
     obtain ⟨hl, hr⟩ := laid7 HRB.out hw
     have HRB2 := hide hr
     clear hr yl y0 yf0 y1 yf1 y2 yf2 y3 yf3 y4 yf4 y5 yf5 y6 yf6
     replace HRA2 := hide (show RowAt wq ga 34 _ from (hl.block ga (Ne.symm HGN.out)).trans HRA2.out)
     replace HVA := hide (HVA.out.stay (hl.stay (fun h => h.2.2 rfl)))
     replace HVB := hide (HVB.out.stay (hl.stay (fun h => h.2.2 rfl)))
     replace HX := hide (HX.out.trans (hl.below.mono HGB.out))
     clear hw hl
     refine hK39.out _ _ (HSX.out _ HX.out) (fun _ => ?_)
     clear hK39 K39
     (try simp only [Act.put, Na, Nb, Nc, Nd, Nx, Nf])
     refine wpAnyH_done (by kernel_rfl) ?_ _
     go_wp2_with fail
     go_meet
     have hBW := HB.out.trans (HX.out.mono HB.out.size)
     case rel => exact ⟨ga, gb, rfl, rfl, ⟨⟨_, _, _, _, _, _, _, _, _, HRA2.out, HVA.out.up (fun j hj _ => hj.2.1)⟩, hBW, Nat.le_trans HB.out.size HGA.out⟩, ⟨⟨_, _, _, _, _, _, _, _, _, HRB2.out, HVB.out.up (fun j hj _ => hj.2.2)⟩, hBW, Nat.le_trans HB.out.size HGB.out⟩, HX.out⟩
   ·
    go_simp
    have hb : Below wa0.heap.size wa0 (wa0.alloc (.cells #[.slice none 0 0, .int .u64 0, .slice none 0 0, .int .u64 0, .slice none 0 0, .slice none 0 0, .slice none 0 0] 34)) := (Below.refl _ _).alloc (Nat.le_refl _) _
    have HRB := hide (RowAt.new wa0 34 #[.slice none 0 0, .int .u64 0, .slice none 0 0, .int .u64 0, .slice none 0 0, .slice none 0 0, .slice none 0 0])
    have hlt := HRA.out.lt
    replace HRA := hide (HRA.out.below hb)
    have HGN := hide (show wa0.heap.size ≠ ga from by omega)
    clear hlt
    have HGB := hide (show w0.heap.size ≤ wa0.heap.size from HX.out.size)
    have hX2 := HX.out.trans (hb.mono HX.out.size)
    replace HX := hide hX2
    clear hX2 hS0 hb
    have hS0 := HSX.out _ HX.out
    generalize (wa0.alloc (.cells #[.slice none 0 0, .int .u64 0, .slice none 0 0, .int .u64 0, .slice none 0 0, .slice none 0 0, .slice none 0 0] 34)) = wa1 at *
    generalize wa0.heap.size = gb at *
    refine hK31.out _ _ (hS0) (fun _ => ?_)
    clear hK31 K31
    (try simp only [Act.put, Na, Nb, Nc, Nd, Nx, Nf])
    refine wpAnyH_ready (rs := [1]) (by kernel_rfl) (by simp) ?_
    refine (AllReadyH.cons rfl (fun K40 hK40 => ?_) AllReadyH.nil)
    go_simp
    with_reducible refine (vOwn (R0.out.below HX.out).val).mono ?_
    rintro e wo2 ⟨⟨v5, rfl, hv⟩, hb⟩
    obtain ⟨A5, S5, n5, c5, m5, d5, B5, p5, f5, rfl, hr⟩ := hv
    rw [HCA.out] at hr ⊢
    have hlga := HRA.out.lt
    have hlgb := HRB.out.lt
    have hxs := HX.out.size
    have HVA := hide (hr.up (G := fun j => w0.heap.size ≤ j ∧ j ≠ ga ∧ j ≠ gb) (fun j (hj : wa1.heap.size ≤ j) _ => by show w0.heap.size ≤ j ∧ j ≠ ga ∧ j ≠ gb; omega))
    replace HRA := hide (HRA.out.below hb)
    replace HRB := hide (HRB.out.below hb)
    clear hr hxs hlga hlgb
    have hX2 := HX.out.trans (hb.mono HX.out.size)
    replace HX := hide hX2
    clear hX2 hS0 hb
    have hS0 := HSX.out _ HX.out
    refine hK40.out _ _ (hS0) (fun _ => ?_)
    clear hK40 K40
    (try simp only [Act.put, Na, Nb, Nc, Nd, Nx, Nf])
    refine wpAnyH_ready (rs := [3]) (by kernel_rfl) (by simp) ?_
    refine (AllReadyH.cons rfl (fun K41 hK41 => ?_) AllReadyH.nil)
    go_simp
    with_reducible refine (vOwn (R1.out.below HX.out).val).mono ?_
    rintro e wo3 ⟨⟨v5, rfl, hv⟩, hb⟩
    obtain ⟨A6, S6, n6, c6, m6, d6, B6, p6, f6, rfl, hr⟩ := hv
    rw [HCB.out] at hr ⊢
    have hlga := HRA.out.lt
    have hlgb := HRB.out.lt
    have hxs := HX.out.size
    have HVB := hide (hr.up (G := fun j => w0.heap.size ≤ j ∧ j ≠ ga ∧ j ≠ gb) (fun j (hj : wo2.heap.size ≤ j) _ => by show w0.heap.size ≤ j ∧ j ≠ ga ∧ j ≠ gb; omega))
    replace HVA := hide (HVA.out.below hb)
    replace HRA := hide (HRA.out.below hb)
    replace HRB := hide (HRB.out.below hb)
    clear hr hxs hlga hlgb
    have hX2 := HX.out.trans (hb.mono HX.out.size)
    replace HX := hide hX2
    clear hX2 hS0 hb
    have hS0 := HSX.out _ HX.out
    refine hK41.out _ _ (hS0) (fun _ => ?_)
    clear hK41 K41
    (try simp only [Act.put, Na, Nb, Nc, Nd, Nx, Nf])
    refine wpAnyH_ready (rs := [6]) (by kernel_rfl) (by simp) ?_
    refine (AllReadyH.cons rfl (fun K42 hK42 => ?_) AllReadyH.nil)
    clear hS0
    obtain ⟨⟨y0, y1, y2, y3, y4, y5, y6⟩, ⟨yf0, yf1, yf2, yf3, yf4, yf5, yf6⟩, yl⟩ := all7 HRA.out
    go_simp
    generalize hw : World.setCell _ _ _ = wp
    obtain ⟨hl, hr⟩ := laid7 HRA.out hw
    have HRA2 := hide hr
    clear hr yl y0 yf0 y1 yf1 y2 yf2 y3 yf3 y4 yf4 y5 yf5 y6 yf6
    have hgab : gb ≠ ga := HGN.out
    replace HRB := hide (show RowAt wp gb 34 #[.slice none 0 0, .int .u64 0, .slice none 0 0, .int .u64 0, .slice none 0 0, .slice none 0 0, .slice none 0 0] from (hl.block gb hgab).trans HRB.out)
    replace HVA := hide (HVA.out.stay (hl.stay (fun h => h.2.1 rfl)))
    replace HVB := hide (HVB.out.stay (hl.stay (fun h => h.2.1 rfl)))
    replace HX := hide (HX.out.trans (hl.below.mono HGA.out))
    clear hw hl hgab
    refine hK42.out _ _ (HSX.out _ HX.out) (fun _ => ?_)
    clear hK42 K42
    (try simp only [Act.put, Na, Nb, Nc, Nd, Nx, Nf])
    refine wpAnyH_ready (rs := [7]) (by kernel_rfl) (by simp) ?_
    refine (AllReadyH.cons rfl (fun K43 hK43 => ?_) AllReadyH.nil)
    obtain ⟨⟨y0, y1, y2, y3, y4, y5, y6⟩, ⟨yf0, yf1, yf2, yf3, yf4, yf5, yf6⟩, yl⟩ := all7 HRB.out
    go_simp
    generalize hw : World.setCell _ _ _ = wq
    obtain ⟨hl, hr⟩ := laid7 HRB.out hw
    have HRB2 := hide hr
    clear hr yl y0 yf0 y1 yf1 y2 yf2 y3 yf3 y4 yf4 y5 yf5 y6 yf6
    replace HRA2 := hide (show RowAt wq ga 34 _ from (hl.block ga (Ne.symm HGN.out)).trans HRA2.out)
    replace HVA := hide (HVA.out.stay (hl.stay (fun h => h.2.2 rfl)))
    replace HVB := hide (HVB.out.stay (hl.stay (fun h => h.2.2 rfl)))
    replace HX := hide (HX.out.trans (hl.below.mono HGB.out))
    clear hw hl
    refine hK43.out _ _ (HSX.out _ HX.out) (fun _ => ?_)
    clear hK43 K43
    (try simp only [Act.put, Na, Nb, Nc, Nd, Nx, Nf])
    refine wpAnyH_done (by kernel_rfl) ?_ _
    go_wp2_with fail
    go_meet
    have hBW := HB.out.trans (HX.out.mono HB.out.size)
    case rel => exact ⟨ga, gb, rfl, rfl, ⟨⟨_, _, _, _, _, _, _, _, _, HRA2.out, HVA.out.up (fun j hj _ => hj.2.1)⟩, hBW, Nat.le_trans HB.out.size HGA.out⟩, ⟨⟨_, _, _, _, _, _, _, _, _, HRB2.out, HVB.out.up (fun j hj _ => hj.2.2)⟩, hBW, Nat.le_trans HB.out.size HGB.out⟩, HX.out⟩
  ·
   go_simp
   have hb : Below wd.heap.size wd (wd.alloc (.cells #[.slice none 0 0, .int .u64 0, .slice none 0 0, .int .u64 0, .slice none 0 0, .slice none 0 0, .slice none 0 0] 34)) := (Below.refl _ _).alloc (Nat.le_refl _) _
   have HRB := hide (RowAt.new wd 34 #[.slice none 0 0, .int .u64 0, .slice none 0 0, .int .u64 0, .slice none 0 0, .slice none 0 0, .slice none 0 0])
   have HGB := hide (show w0.heap.size ≤ wd.heap.size from HX.out.size)
   have hX2 := HX.out.trans (hb.mono HX.out.size)
   replace HX := hide hX2
   clear hX2 hS0 hb
   have hS0 := HSX.out _ HX.out
   generalize (wd.alloc (.cells #[.slice none 0 0, .int .u64 0, .slice none 0 0, .int .u64 0, .slice none 0 0, .slice none 0 0, .slice none 0 0] 34)) = wa0 at *
   generalize wd.heap.size = gb at *
   refine hK2.out _ _ (hS0) (fun _ => ?_)
   clear hK2 K2
   (try simp only [Act.put, Na, Nb, Nc, Nd, Nx, Nf])
   refine wpAnyH_ready (rs := [1, 4]) (by kernel_rfl) (by simp) ?_
   refine (AllReadyH.cons rfl (fun K44 hK44 => ?_) (AllReadyH.cons rfl (fun K45 hK45 => ?_) AllReadyH.nil))
   ·
    go_simp
    with_reducible refine (vOwn (R0.out.below HX.out).val).mono ?_
    rintro e wo1 ⟨⟨v5, rfl, hv⟩, hb⟩
    obtain ⟨A5, S5, n5, c5, m5, d5, B5, p5, f5, rfl, hr⟩ := hv
    rw [HCA.out] at hr ⊢
    have hlgb := HRB.out.lt
    have hxs := HX.out.size
    have HVA := hide (hr.up (G := fun j => w0.heap.size ≤ j ∧ j ≠ gb) (fun j (hj : wa0.heap.size ≤ j) _ => by show w0.heap.size ≤ j ∧ j ≠ gb; omega))
    replace HRB := hide (HRB.out.below hb)
    clear hr hxs hlgb
    have hX2 := HX.out.trans (hb.mono HX.out.size)
    replace HX := hide hX2
    clear hX2 hS0 hb
    have hS0 := HSX.out _ HX.out
    refine hK44.out _ _ (hS0) (fun _ => ?_)
    clear hK44 K44
    (try simp only [Act.put, Na, Nb, Nc, Nd, Nx, Nf])
    refine wpAnyH_ready (rs := [3, 4]) (by kernel_rfl) (by simp) ?_
    refine (AllReadyH.cons rfl (fun K46 hK46 => ?_) (AllReadyH.cons rfl (fun K47 hK47 => ?_) AllReadyH.nil))
    ·
     go_simp
     with_reducible refine (vOwn (R1.out.below HX.out).val).mono ?_
     rintro e wo2 ⟨⟨v5, rfl, hv⟩, hb⟩
     obtain ⟨A6, S6, n6, c6, m6, d6, B6, p6, f6, rfl, hr⟩ := hv
     rw [HCB.out] at hr ⊢
     have hlgb := HRB.out.lt
     have hxs := HX.out.size
     have HVB := hide (hr.up (G := fun j => w0.heap.size ≤ j ∧ j ≠ gb) (fun j (hj : wo1.heap.size ≤ j) _ => by show w0.heap.size ≤ j ∧ j ≠ gb; omega))
     replace HVA := hide (HVA.out.below hb)
     replace HRB := hide (HRB.out.below hb)
     clear hr hxs hlgb
     have hX2 := HX.out.trans (hb.mono HX.out.size)
     replace HX := hide hX2
     clear hX2 hS0 hb
     have hS0 := HSX.out _ HX.out
     refine hK46.out _ _ (hS0) (fun _ => ?_)
     clear hK46 K46
     (try simp only [Act.put, Na, Nb, Nc, Nd, Nx, Nf])
     refine wpAnyH_ready (rs := [4]) (by kernel_rfl) (by simp) ?_
     refine (AllReadyH.cons rfl (fun K48 hK48 => ?_) AllReadyH.nil)
     go_simp
     have hb : Below wo2.heap.size wo2 (wo2.alloc (.cells #[.slice none 0 0, .int .u64 0, .slice none 0 0, .int .u64 0, .slice none 0 0, .slice none 0 0, .slice none 0 0] 34)) := (Below.refl _ _).alloc (Nat.le_refl _) _
     have HRA := hide (RowAt.new wo2 34 #[.slice none 0 0, .int .u64 0, .slice none 0 0, .int .u64 0, .slice none 0 0, .slice none 0 0, .slice none 0 0])
     have hlt := HRB.out.lt
     replace HRB := hide (HRB.out.below hb)
     replace HVA := hide ((HVA.out.up (G := fun j => w0.heap.size ≤ j ∧ j ≠ gb ∧ j ≠ wo2.heap.size) (fun j (hj : w0.heap.size ≤ j ∧ j ≠ gb) hl => by omega)).below hb)
     replace HVB := hide ((HVB.out.up (G := fun j => w0.heap.size ≤ j ∧ j ≠ gb ∧ j ≠ wo2.heap.size) (fun j (hj : w0.heap.size ≤ j ∧ j ≠ gb) hl => by omega)).below hb)
     have HGN := hide (show gb ≠ wo2.heap.size from by omega)
     clear hlt
     have HGA := hide (show w0.heap.size ≤ wo2.heap.size from HX.out.size)
     have hX2 := HX.out.trans (hb.mono HX.out.size)
     replace HX := hide hX2
     clear hX2 hS0 hb
     have hS0 := HSX.out _ HX.out
     generalize (wo2.alloc (.cells #[.slice none 0 0, .int .u64 0, .slice none 0 0, .int .u64 0, .slice none 0 0, .slice none 0 0, .slice none 0 0] 34)) = wa3 at *
     generalize wo2.heap.size = ga at *
     refine hK48.out _ _ (hS0) (fun _ => ?_)
     clear hK48 K48
     (try simp only [Act.put, Na, Nb, Nc, Nd, Nx, Nf])
     refine wpAnyH_ready (rs := [6]) (by kernel_rfl) (by simp) ?_
     refine (AllReadyH.cons rfl (fun K49 hK49 => ?_) AllReadyH.nil)
     clear hS0
     obtain ⟨⟨y0, y1, y2, y3, y4, y5, y6⟩, ⟨yf0, yf1, yf2, yf3, yf4, yf5, yf6⟩, yl⟩ := all7 HRA.out
     go_simp
     generalize hw : World.setCell _ _ _ = wp
     obtain ⟨hl, hr⟩ := laid7 HRA.out hw
     have HRA2 := hide hr
     clear hr yl y0 yf0 y1 yf1 y2 yf2 y3 yf3 y4 yf4 y5 yf5 y6 yf6
     have hgab : gb ≠ ga := HGN.out
     replace HRB := hide (show RowAt wp gb 34 #[.slice none 0 0, .int .u64 0, .slice none 0 0, .int .u64 0, .slice none 0 0, .slice none 0 0, .slice none 0 0] from (hl.block gb hgab).trans HRB.out)
     replace HVA := hide (HVA.out.stay (hl.stay (fun h => h.2.2 rfl)))
     replace HVB := hide (HVB.out.stay (hl.stay (fun h => h.2.2 rfl)))
     replace HX := hide (HX.out.trans (hl.below.mono HGA.out))
     clear hw hl hgab
     refine hK49.out _ _ (HSX.out _ HX.out) (fun _ => ?_)
     clear hK49 K49
     (try simp only [Act.put, Na, Nb, Nc, Nd, Nx, Nf])
     refine wpAnyH_ready (rs := [7]) (by kernel_rfl) (by simp) ?_
     refine (AllReadyH.cons rfl (fun K50 hK50 => ?_) AllReadyH.nil)
     obtain ⟨⟨y0, y1, y2, y3, y4, y5, y6⟩, ⟨yf0, yf1, yf2, yf3, yf4, yf5, yf6⟩, yl⟩ := all7 HRB.out
     go_simp
     generalize hw : World.setCell _ _ _ = wq
     obtain ⟨hl, hr⟩ := laid7 HRB.out hw
     have HRB2 := hide hr
     clear hr yl y0 yf0 y1 yf1 y2 yf2 y3 yf3 y4 yf4 y5 yf5 y6 yf6
     replace HRA2 := hide (show RowAt wq ga 34 _ from (hl.block ga (Ne.symm HGN.out)).trans HRA2.out)
     replace HVA := hide (HVA.out.stay (hl.stay (fun h => h.2.1 rfl)))
     replace HVB := hide (HVB.out.stay (hl.stay (fun h => h.2.1 rfl)))
     replace HX := hide (HX.out.trans (hl.below.mono HGB.out))
     clear hw hl
     refine hK50.out _ _ (HSX.out _ HX.out) (fun _ => ?_)
     clear hK50 K50
     (try simp only [Act.put, Na, Nb, Nc, Nd, Nx, Nf])
     refine wpAnyH_done (by kernel_rfl) ?_ _
     go_wp2_with fail
     go_meet
     have hBW := HB.out.trans (HX.out.mono HB.out.size)
     case rel => exact ⟨ga, gb, rfl, rfl, ⟨⟨_, _, _, _, _, _, _, _, _, HRA2.out, HVA.out.up (fun j hj _ => hj.2.2)⟩, hBW, Nat.le_trans HB.out.size HGA.out⟩, ⟨⟨_, _, _, _, _, _, _, _, _, HRB2.out, HVB.out.up (fun j hj _ => hj.2.1)⟩, hBW, Nat.le_trans HB.out.size HGB.out⟩, HX.out⟩
    ·
     go_simp
     have hb : Below wo1.heap.size wo1 (wo1.alloc (.cells #[.slice none 0 0, .int .u64 0, .slice none 0 0, .int .u64 0, .slice none 0 0, .slice none 0 0, .slice none 0 0] 34)) := (Below.refl _ _).alloc (Nat.le_refl _) _
     have HRA := hide (RowAt.new wo1 34 #[.slice none 0 0, .int .u64 0, .slice none 0 0, .int .u64 0, .slice none 0 0, .slice none 0 0, .slice none 0 0])
     have hlt := HRB.out.lt
     replace HRB := hide (HRB.out.below hb)
     replace HVA := hide ((HVA.out.up (G := fun j => w0.heap.size ≤ j ∧ j ≠ gb ∧ j ≠ wo1.heap.size) (fun j (hj : w0.heap.size ≤ j ∧ j ≠ gb) hl => by omega)).below hb)
     have HGN := hide (show gb ≠ wo1.heap.size from by omega)
     clear hlt
     have HGA := hide (show w0.heap.size ≤ wo1.heap.size from HX.out.size)
     have hX2 := HX.out.trans (hb.mono HX.out.size)
     replace HX := hide hX2
     clear hX2 hS0 hb
     have hS0 := HSX.out _ HX.out
     generalize (wo1.alloc (.cells #[.slice none 0 0, .int .u64 0, .slice none 0 0, .int .u64 0, .slice none 0 0, .slice none 0 0, .slice none 0 0] 34)) = wa2 at *
     generalize wo1.heap.size = ga at *
     refine hK47.out _ _ (hS0) (fun _ => ?_)
     clear hK47 K47
     (try simp only [Act.put, Na, Nb, Nc, Nd, Nx, Nf])
     refine wpAnyH_ready (rs := [3]) (by kernel_rfl) (by simp) ?_
     refine (AllReadyH.cons rfl (fun K51 hK51 => ?_) AllReadyH.nil)
     go_simp
     with_reducible refine (vOwn (R1.out.below HX.out).val).mono ?_
     rintro e wo3 ⟨⟨v5, rfl, hv⟩, hb⟩
     obtain ⟨A6, S6, n6, c6, m6, d6, B6, p6, f6, rfl, hr⟩ := hv
     rw [HCB.out] at hr ⊢
     have hlga := HRA.out.lt
     have hlgb := HRB.out.lt
     have hxs := HX.out.size
     have HVB := hide (hr.up (G := fun j => w0.heap.size ≤ j ∧ j ≠ gb ∧ j ≠ ga) (fun j (hj : wa2.heap.size ≤ j) _ => by show w0.heap.size ≤ j ∧ j ≠ gb ∧ j ≠ ga; omega))
     replace HVA := hide (HVA.out.below hb)
     replace HRA := hide (HRA.out.below hb)
     replace HRB := hide (HRB.out.below hb)
     clear hr hxs hlgb hlga
     have hX2 := HX.out.trans (hb.mono HX.out.size)
     replace HX := hide hX2
     clear hX2 hS0 hb
     have hS0 := HSX.out _ HX.out
     refine hK51.out _ _ (hS0) (fun _ => ?_)
     clear hK51 K51
     (try simp only [Act.put, Na, Nb, Nc, Nd, Nx, Nf])
     refine wpAnyH_ready (rs := [6]) (by kernel_rfl) (by simp) ?_
     refine (AllReadyH.cons rfl (fun K52 hK52 => ?_) AllReadyH.nil)
     clear hS0
     obtain ⟨⟨y0, y1, y2, y3, y4, y5, y6⟩, ⟨yf0, yf1, yf2, yf3, yf4, yf5, yf6⟩, yl⟩ := all7 HRA.out
     go_simp
     generalize hw : World.setCell _ _ _ = wp
     obtain ⟨hl, hr⟩ := laid7 HRA.out hw
     have HRA2 := hide hr
     clear hr yl y0 yf0 y1 yf1 y2 yf2 y3 yf3 y4 yf4 y5 yf5 y6 yf6
     have hgab : gb ≠ ga := HGN.out
     replace HRB := hide (show RowAt wp gb 34 #[.slice none 0 0, .int .u64 0, .slice none 0 0, .int .u64 0, .slice none 0 0, .slice none 0 0, .slice none 0 0] from (hl.block gb hgab).trans HRB.out)
     replace HVA := hide (HVA.out.stay (hl.stay (fun h => h.2.2 rfl)))
     replace HVB := hide (HVB.out.stay (hl.stay (fun h => h.2.2 rfl)))
     replace HX := hide (HX.out.trans (hl.below.mono HGA.out))
     clear hw hl hgab
     refine hK52.out _ _ (HSX.out _ HX.out) (fun _ => ?_)
     clear hK52 K52
     (try simp only [Act.put, Na, Nb, Nc, Nd, Nx, Nf])
     refine wpAnyH_ready (rs := [7]) (by kernel_rfl) (by simp) ?_
     refine (AllReadyH.cons rfl (fun K53 hK53 => ?_) AllReadyH.nil)
     obtain ⟨⟨y0, y1, y2, y3, y4, y5, y6⟩, ⟨yf0, yf1, yf2, yf3, yf4, yf5, yf6⟩, yl⟩ := all7 HRB.out
     go_simp
     generalize hw : World.setCell _ _ _ = wq
     obtain ⟨hl, hr⟩ := laid7 HRB.out hw
     have HRB2 := hide hr
     clear hr yl y0 yf0 y1 yf1 y2 yf2 y3 yf3 y4 yf4 y5 yf5 y6 yf6
     replace HRA2 := hide (show RowAt wq ga 34 _ from (hl.block ga (Ne.symm HGN.out)).trans HRA2.out)
     replace HVA := hide (HVA.out.stay (hl.stay (fun h => h.2.1 rfl)))
     replace HVB := hide (HVB.out.stay (hl.stay (fun h => h.2.1 rfl)))
     replace HX := hide (HX.out.trans (hl.below.mono HGB.out))
     clear hw hl
     refine hK53.out _ _ (HSX.out _ HX.out) (fun _ => ?_)
     clear hK53 K53
     (try simp only [Act.put, Na, Nb, Nc, Nd, Nx, Nf])
     refine wpAnyH_done (by kernel_rfl) ?_ _
     go_wp2_with fail
     go_meet
     have hBW := HB.out.trans (HX.out.mono HB.out.size)
     case rel => exact ⟨ga, gb, rfl, rfl, ⟨⟨_, _, _, _, _, _, _, _, _, HRA2.out, HVA.out.up (fun j hj _ => hj.2.2)⟩, hBW, Nat.le_trans HB.out.size HGA.out⟩, ⟨⟨_, _, _, _, _, _, _, _, _, HRB2.out, HVB.out.up (fun j hj _ => hj.2.1)⟩, hBW, Nat.le_trans HB.out.size HGB.out⟩, HX.out⟩
   ·
    go_simp
    have hb : Below wa0.heap.size wa0 (wa0.alloc (.cells #[.slice none 0 0, .int .u64 0, .slice none 0 0, .int .u64 0, .slice none 0 0, .slice none 0 0, .slice none 0 0] 34)) := (Below.refl _ _).alloc (Nat.le_refl _) _
    have HRA := hide (RowAt.new wa0 34 #[.slice none 0 0, .int .u64 0, .slice none 0 0, .int .u64 0, .slice none 0 0, .slice none 0 0, .slice none 0 0])
    have hlt := HRB.out.lt
    replace HRB := hide (HRB.out.below hb)
    have HGN := hide (show gb ≠ wa0.heap.size from by omega)
    clear hlt
    have HGA := hide (show w0.heap.size ≤ wa0.heap.size from HX.out.size)
    have hX2 := HX.out.trans (hb.mono HX.out.size)
    replace HX := hide hX2
    clear hX2 hS0 hb
    have hS0 := HSX.out _ HX.out
    generalize (wa0.alloc (.cells #[.slice none 0 0, .int .u64 0, .slice none 0 0, .int .u64 0, .slice none 0 0, .slice none 0 0, .slice none 0 0] 34)) = wa1 at *
    generalize wa0.heap.size = ga at *
    refine hK45.out _ _ (hS0) (fun _ => ?_)
    clear hK45 K45
    (try simp only [Act.put, Na, Nb, Nc, Nd, Nx, Nf])
    refine wpAnyH_ready (rs := [1]) (by kernel_rfl) (by simp) ?_
    refine (AllReadyH.cons rfl (fun K54 hK54 => ?_) AllReadyH.nil)
    go_simp
    with_reducible refine (vOwn (R0.out.below HX.out).val).mono ?_
    rintro e wo2 ⟨⟨v5, rfl, hv⟩, hb⟩
    obtain ⟨A5, S5, n5, c5, m5, d5, B5, p5, f5, rfl, hr⟩ := hv
    rw [HCA.out] at hr ⊢
    have hlga := HRA.out.lt
    have hlgb := HRB.out.lt
    have hxs := HX.out.size
    have HVA := hide (hr.up (G := fun j => w0.heap.size ≤ j ∧ j ≠ gb ∧ j ≠ ga) (fun j (hj : wa1.heap.size ≤ j) _ => by show w0.heap.size ≤ j ∧ j ≠ gb ∧ j ≠ ga; omega))
    replace HRA := hide (HRA.out.below hb)
    replace HRB := hide (HRB.out.below hb)
    clear hr hxs hlgb hlga
    have hX2 := HX.out.trans (hb.mono HX.out.size)
    replace HX := hide hX2
    clear hX2 hS0 hb
    have hS0 := HSX.out _ HX.out
    refine hK54.out _ _ (hS0) (fun _ => ?_)
    clear hK54 K54
    (try simp only [Act.put, Na, Nb, Nc, Nd, Nx, Nf])
    refine wpAnyH_ready (rs := [3]) (by kernel_rfl) (by simp) ?_
    refine (AllReadyH.cons rfl (fun K55 hK55 => ?_) AllReadyH.nil)
    go_simp
    with_reducible refine (vOwn (R1.out.below HX.out).val).mono ?_
    rintro e wo3 ⟨⟨v5, rfl, hv⟩, hb⟩
    obtain ⟨A6, S6, n6, c6, m6, d6, B6, p6, f6, rfl, hr⟩ := hv
    rw [HCB.out] at hr ⊢
    have hlga := HRA.out.lt
    have hlgb := HRB.out.lt
    have hxs := HX.out.size
    have HVB := hide (hr.up (G := fun j => w0.heap.size ≤ j ∧ j ≠ gb ∧ j ≠ ga) (fun j (hj : wo2.heap.size ≤ j) _ => by show w0.heap.size ≤ j ∧ j ≠ gb ∧ j ≠ ga; omega))
    replace HVA := hide (HVA.out.below hb)
    replace HRA := hide (HRA.out.below hb)
    replace HRB := hide (HRB.out.below hb)
    clear hr hxs hlgb hlga
    have hX2 := HX.out.trans (hb.mono HX.out.size)
    replace HX := hide hX2
    clear hX2 hS0 hb
    have hS0 := HSX.out _ HX.out
    refine hK55.out _ _ (hS0) (fun _ => ?_)
    clear hK55 K55
    (try simp only [Act.put, Na, Nb, Nc, Nd, Nx, Nf])
    refine wpAnyH_ready (rs := [6]) (by kernel_rfl) (by simp) ?_
    refine (AllReadyH.cons rfl (fun K56 hK56 => ?_) AllReadyH.nil)
    clear hS0
    obtain ⟨⟨y0, y1, y2, y3, y4, y5, y6⟩, ⟨yf0, yf1, yf2, yf3, yf4, yf5, yf6⟩, yl⟩ := all7 HRA.out
    go_simp
    generalize hw : World.setCell _ _ _ = wp
    obtain ⟨hl, hr⟩ := laid7 HRA.out hw
    have HRA2 := hide hr
    clear hr yl y0 yf0 y1 yf1 y2 yf2 y3 yf3 y4 yf4 y5 yf5 y6 yf6
    have hgab : gb ≠ ga := HGN.out
    replace HRB := hide (show RowAt wp gb 34 #[.slice none 0 0, .int .u64 0, .slice none 0 0, .int .u64 0, .slice none 0 0, .slice none 0 0, .slice none 0 0] from (hl.block gb hgab).trans HRB.out)
    replace HVA := hide (HVA.out.stay (hl.stay (fun h => h.2.2 rfl)))
    replace HVB := hide (HVB.out.stay (hl.stay (fun h => h.2.2 rfl)))
    replace HX := hide (HX.out.trans (hl.below.mono HGA.out))
    clear hw hl hgab
    refine hK56.out _ _ (HSX.out _ HX.out) (fun _ => ?_)
    clear hK56 K56
    (try simp only [Act.put, Na, Nb, Nc, Nd, Nx, Nf])
    refine wpAnyH_ready (rs := [7]) (by kernel_rfl) (by simp) ?_
    refine (AllReadyH.cons rfl (fun K57 hK57 => ?_) AllReadyH.nil)
    obtain ⟨⟨y0, y1, y2, y3, y4, y5, y6⟩, ⟨yf0, yf1, yf2, yf3, yf4, yf5, yf6⟩, yl⟩ := all7 HRB.out
    go_simp
    generalize hw : World.setCell _ _ _ = wq
    obtain ⟨hl, hr⟩ := laid7 HRB.out hw
    have HRB2 := hide hr
    clear hr yl y0 yf0 y1 yf1 y2 yf2 y3 yf3 y4 yf4 y5 yf5 y6 yf6
    replace HRA2 := hide (show RowAt wq ga 34 _ from (hl.block ga (Ne.symm HGN.out)).trans HRA2.out)
    replace HVA := hide (HVA.out.stay (hl.stay (fun h => h.2.1 rfl)))
    replace HVB := hide (HVB.out.stay (hl.stay (fun h => h.2.1 rfl)))
    replace HX := hide (HX.out.trans (hl.below.mono HGB.out))
    clear hw hl
    refine hK57.out _ _ (HSX.out _ HX.out) (fun _ => ?_)
    clear hK57 K57
    (try simp only [Act.put, Na, Nb, Nc, Nd, Nx, Nf])
    refine wpAnyH_done (by kernel_rfl) ?_ _
    go_wp2_with fail
    go_meet
    have hBW := HB.out.trans (HX.out.mono HB.out.size)
    case rel => exact ⟨ga, gb, rfl, rfl, ⟨⟨_, _, _, _, _, _, _, _, _, HRA2.out, HVA.out.up (fun j hj _ => hj.2.2)⟩, hBW, Nat.le_trans HB.out.size HGA.out⟩, ⟨⟨_, _, _, _, _, _, _, _, _, HRB2.out, HVB.out.up (fun j hj _ => hj.2.1)⟩, hBW, Nat.le_trans HB.out.size HGB.out⟩, HX.out⟩
 case rest =>
  rename_i K hK
  refine hK _ _ ?_
  clear hK K
  obtain ⟨wx, hwx⟩ : ∃ w, w = wc := ⟨_, rfl⟩
  subst hwx
  obtain ⟨g7, g8, rfl, rfl, ha7, hb8, hb⟩ := hcut
  have HA7 := hide ha7
  have HB8 := hide hb8
  clear ha7 hb8
  replace R0 := hide (R0.out.below hb)
  replace K0 := hide (K0.out.below hb)
  replace K2 := hide (K2.out.below hb)
  replace HB := hide (HB.out.trans (hb.mono HB.out.size))
  clear hb R1 K1
  obtain ⟨A5, S5, n5, c5, m5, d5, B5, p5, f5, hrow, hrec⟩ := HA7.out.box
  have K7 := hide hrow
  have R7 := hide hrec
  obtain ⟨A6, S6, n6, c6, m6, d6, B6, p6, f6, hrow2, hrec2⟩ := HB8.out.box
  have K8 := hide hrow2
  have R8 := hide hrec2
  clear hrow hrec hrow2 hrec2 HA7 HB8
  obtain ⟨q, hq⟩ : ∃ q, a.ok = q := ⟨_, rfl⟩
  obtain ⟨k5, hk5⟩ : ∃ k : Int, (if a.ok then 0 else 250) = k := ⟨_, rfl⟩
  have HQ := hide hq
  have HK5 := hide (show k5 = if q then 0 else 250 from by rw [← hk5, hq])
  obtain ⟨K7y0, K7y1, K7y2, K7y3, K7y4, K7y5, K7y6⟩ := row7 K7.out
  have K7l := K7.out.lt
  go_wp2_with fail
  clear K7y0 K7y1 K7y2 K7y3 K7y4 K7y5 K7y6 K7l
  with_reducible refine (vRRight R7.out.val HFA.out.fit q hq).mono ?_
  rintro e w21 ⟨rfl, hb⟩
  replace R0 := hide (R0.out.below hb)
  replace R7 := hide (R7.out.below hb)
  replace R8 := hide (R8.out.below hb)
  replace K0 := hide (K0.out.below hb)
  replace K2 := hide (K2.out.below hb)
  replace K7 := hide (K7.out.below hb)
  replace K8 := hide (K8.out.below hb)
  replace HB := hide (HB.out.trans (hb.mono HB.out.size))
  clear hb
  obtain ⟨K7y0, K7y1, K7y2, K7y3, K7y4, K7y5, K7y6⟩ := row7 K7.out
  have K7l := K7.out.lt
  go_wp2_with fail
  clear K7y0 K7y1 K7y2 K7y3 K7y4 K7y5 K7y6 K7l
  with_reducible refine (vCheck R7.out.val HFA.out.fit k5 hk5).mono ?_
  rintro e w22 ⟨rfl, hb⟩
  replace R0 := hide (R0.out.below hb)
  replace R7 := hide (R7.out.below hb)
  replace R8 := hide (R8.out.below hb)
  replace K0 := hide (K0.out.below hb)
  replace K2 := hide (K2.out.below hb)
  replace K7 := hide (K7.out.below hb)
  replace K8 := hide (K8.out.below hb)
  replace HB := hide (HB.out.trans (hb.mono HB.out.size))
  clear hb hq hk5
  go_upto_region 6 with (fail)
  obtain ⟨w4, hw4⟩ : ∃ w, w = w22 := ⟨_, rfl⟩
  subst hw4
  go_cut [51] from 24 to 51 (fun v wx => v = .bool false ∧ Below w4.heap.size w4 wx)
  case first =>
   cases q with
   | true =>
    have hk5 : k5 = 0 := HK5.out
    subst hk5
    have HSX := hide (fun (wX : World) (hgX : Below w4.heap.size w4 wX) => show wX.cell? ⟨g7, 0, none⟩ = some (.slice A5 n5 c5) ∧ wX.cell? ⟨g7, 1, none⟩ = some (.int .u64 a.e) ∧ wX.cell? ⟨g7, 2, none⟩ = some (.slice S5 m5 d5) ∧ wX.cell? ⟨g7, 3, none⟩ = some (.int .u64 (a.l.E : Int)) ∧ wX.cell? ⟨g7, 4, none⟩ = some (.slice (B5 0) (p5 0) (f5 0)) ∧ wX.cell? ⟨g7, 5, none⟩ = some (.slice (B5 1) (p5 1) (f5 1)) ∧ wX.cell? ⟨g7, 6, none⟩ = some (.slice (B5 2) (p5 2) (f5 2)) ∧ wX.cell? ⟨g8, 0, none⟩ = some (.slice A6 n6 c6) ∧ wX.cell? ⟨g8, 1, none⟩ = some (.int .u64 b.e) ∧ wX.cell? ⟨g8, 2, none⟩ = some (.slice S6 m6 d6) ∧ wX.cell? ⟨g8, 3, none⟩ = some (.int .u64 (b.l.E : Int)) ∧ wX.cell? ⟨g8, 4, none⟩ = some (.slice (B6 0) (p6 0) (f6 0)) ∧ wX.cell? ⟨g8, 5, none⟩ = some (.slice (B6 1) (p6 1) (f6 1)) ∧ wX.cell? ⟨g8, 6, none⟩ = some (.slice (B6 2) (p6 2) (f6 2)) ∧ wX.cell? ⟨W.heap.size, 0, none⟩ = some (.slice A0 n0 c0) ∧ wX.cell? ⟨W.heap.size, 1, none⟩ = some (.int .u64 x.e) ∧ wX.cell? ⟨W.heap.size, 2, none⟩ = some (.slice S0 m0 d0) ∧ wX.cell? ⟨W.heap.size, 3, none⟩ = some (.int .u64 (x.l.E : Int)) ∧ wX.cell? ⟨W.heap.size, 4, none⟩ = some (.slice (B0 0) (p0 0) (f0 0)) ∧ wX.cell? ⟨W.heap.size, 5, none⟩ = some (.slice (B0 1) (p0 1) (f0 1)) ∧ wX.cell? ⟨W.heap.size, 6, none⟩ = some (.slice (B0 2) (p0 2) (f0 2)) ∧ g7 < wX.heap.size ∧ g8 < wX.heap.size ∧ W.heap.size < wX.heap.size from by
     obtain ⟨z0x0, z0x1, z0x2, z0x3, z0x4, z0x5, z0x6⟩ := row7 K7.out
     obtain ⟨z1x0, z1x1, z1x2, z1x3, z1x4, z1x5, z1x6⟩ := row7 K8.out
     obtain ⟨z2x0, z2x1, z2x2, z2x3, z2x4, z2x5, z2x6⟩ := row7 K0.out
     exact ⟨kept hgX z0x0, kept hgX z0x1, kept hgX z0x2, kept hgX z0x3, kept hgX z0x4, kept hgX z0x5, kept hgX z0x6, kept hgX z1x0, kept hgX z1x1, kept hgX z1x2, kept hgX z1x3, kept hgX z1x4, kept hgX z1x5, kept hgX z1x6, kept hgX z2x0, kept hgX z2x1, kept hgX z2x2, kept hgX z2x3, kept hgX z2x4, kept hgX z2x5, kept hgX z2x6, Nat.lt_of_lt_of_le K7.out.lt hgX.size, Nat.lt_of_lt_of_le K8.out.lt hgX.size, Nat.lt_of_lt_of_le K0.out.lt hgX.size⟩)
    have HX := hide ((Below.refl w4.heap.size w4).drew)
    refine wp_region_held_drew (S := fun wX => wX.cell? ⟨g7, 0, none⟩ = some (.slice A5 n5 c5) ∧ wX.cell? ⟨g7, 1, none⟩ = some (.int .u64 a.e) ∧ wX.cell? ⟨g7, 2, none⟩ = some (.slice S5 m5 d5) ∧ wX.cell? ⟨g7, 3, none⟩ = some (.int .u64 (a.l.E : Int)) ∧ wX.cell? ⟨g7, 4, none⟩ = some (.slice (B5 0) (p5 0) (f5 0)) ∧ wX.cell? ⟨g7, 5, none⟩ = some (.slice (B5 1) (p5 1) (f5 1)) ∧ wX.cell? ⟨g7, 6, none⟩ = some (.slice (B5 2) (p5 2) (f5 2)) ∧ wX.cell? ⟨g8, 0, none⟩ = some (.slice A6 n6 c6) ∧ wX.cell? ⟨g8, 1, none⟩ = some (.int .u64 b.e) ∧ wX.cell? ⟨g8, 2, none⟩ = some (.slice S6 m6 d6) ∧ wX.cell? ⟨g8, 3, none⟩ = some (.int .u64 (b.l.E : Int)) ∧ wX.cell? ⟨g8, 4, none⟩ = some (.slice (B6 0) (p6 0) (f6 0)) ∧ wX.cell? ⟨g8, 5, none⟩ = some (.slice (B6 1) (p6 1) (f6 1)) ∧ wX.cell? ⟨g8, 6, none⟩ = some (.slice (B6 2) (p6 2) (f6 2)) ∧ wX.cell? ⟨W.heap.size, 0, none⟩ = some (.slice A0 n0 c0) ∧ wX.cell? ⟨W.heap.size, 1, none⟩ = some (.int .u64 x.e) ∧ wX.cell? ⟨W.heap.size, 2, none⟩ = some (.slice S0 m0 d0) ∧ wX.cell? ⟨W.heap.size, 3, none⟩ = some (.int .u64 (x.l.E : Int)) ∧ wX.cell? ⟨W.heap.size, 4, none⟩ = some (.slice (B0 0) (p0 0) (f0 0)) ∧ wX.cell? ⟨W.heap.size, 5, none⟩ = some (.slice (B0 1) (p0 1) (f0 1)) ∧ wX.cell? ⟨W.heap.size, 6, none⟩ = some (.slice (B0 2) (p0 2) (f0 2)) ∧ g7 < wX.heap.size ∧ g8 < wX.heap.size ∧ W.heap.size < wX.heap.size) (by kernel_rfl) (HSX.out _ HX.out) (fun hHeld => ?_)
    clear hHeld
    have hS0 := HSX.out _ HX.out
    generalize w4.drew = wd at *
    obtain ⟨qs, hqs⟩ : ∃ q, sameR a b = q := ⟨_, rfl⟩
    (refine tkH (i := 0) (v := ?_) rfl (Or.inl ⟨by rfl, ?_⟩) ?_; rotate_left; (focus (intro w hSw; (try dsimp only at hSw); obtain ⟨a, b, c, d, e, f, g, h, i, j, k, l, m, n, o, p, q, r, s, t, u, v, x, y⟩ := hSw; go_simp; first | done | with_reducible rfl)); (try simp only [Act.put, Na, Nb, Nc, Nd, Nx, Nf]))
    (refine tkH (i := 1) (v := ?_) rfl (Or.inl ⟨by rfl, ?_⟩) ?_; rotate_left; (focus (intro w hSw; (try dsimp only at hSw); obtain ⟨a, b, c, d, e, f, g, h, i, j, k, l, m, n, o, p, q, r, s, t, u, v, x, y⟩ := hSw; go_simp; first | done | with_reducible rfl)); (try simp only [Act.put, Na, Nb, Nc, Nd, Nx, Nf]))
    (refine tkH (i := 2) (v := ?_) rfl (Or.inl ⟨by rfl, ?_⟩) ?_; rotate_left; (focus (intro w hSw; (try dsimp only at hSw); obtain ⟨a, b, c, d, e, f, g, h, i, j, k, l, m, n, o, p, q, r, s, t, u, v, x, y⟩ := hSw; go_simp; first | done | with_reducible rfl)); (try simp only [Act.put, Na, Nb, Nc, Nd, Nx, Nf]))
    (refine tkH (i := 3) (v := ?_) rfl (Or.inl ⟨by rfl, ?_⟩) ?_; rotate_left; (focus (intro w hSw; (try dsimp only at hSw); obtain ⟨a, b, c, d, e, f, g, h, i, j, k, l, m, n, o, p, q, r, s, t, u, v, x, y⟩ := hSw; go_simp; first | done | with_reducible rfl)); (try simp only [Act.put, Na, Nb, Nc, Nd, Nx, Nf]))
    (refine tkH (i := 4) (v := ?_) rfl (Or.inl ⟨by rfl, ?_⟩) ?_; rotate_left; (focus (intro w hSw; (try dsimp only at hSw); obtain ⟨a, b, c, d, e, f, g, h, i, j, k, l, m, n, o, p, q, r, s, t, u, v, x, y⟩ := hSw; go_simp; first | done | with_reducible rfl)); (try simp only [Act.put, Na, Nb, Nc, Nd, Nx, Nf]))
    (refine tkH (i := 5) (v := ?_) rfl (Or.inl ⟨by rfl, ?_⟩) ?_; rotate_left; (focus (intro w hSw; (try dsimp only at hSw); obtain ⟨a, b, c, d, e, f, g, h, i, j, k, l, m, n, o, p, q, r, s, t, u, v, x, y⟩ := hSw; go_simp; first | done | with_reducible rfl)); (try simp only [Act.put, Na, Nb, Nc, Nd, Nx, Nf]))
    (refine tkH (i := 6) (v := ?_) rfl (Or.inl ⟨by rfl, ?_⟩) ?_; rotate_left; (focus (intro w hSw; (try dsimp only at hSw); obtain ⟨a, b, c, d, e, f, g, h, i, j, k, l, m, n, o, p, q, r, s, t, u, v, x, y⟩ := hSw; go_simp; first | done | with_reducible rfl)); (try simp only [Act.put, Na, Nb, Nc, Nd, Nx, Nf]))
    (refine tkH (i := 7) (v := ?_) rfl (Or.inl ⟨by rfl, ?_⟩) ?_; rotate_left; (focus (intro w hSw; (try dsimp only at hSw); obtain ⟨a, b, c, d, e, f, g, h, i, j, k, l, m, n, o, p, q, r, s, t, u, v, x, y⟩ := hSw; go_simp; first | done | with_reducible rfl)); (try simp only [Act.put, Na, Nb, Nc, Nd, Nx, Nf]))
    (refine tkH (i := 8) (v := undef) rfl (Or.inr ⟨by rfl, rfl⟩) ?_; (try simp only [Act.put, Na, Nb, Nc, Nd, Nx, Nf]))
    (refine tkH (i := 9) (v := undef) rfl (Or.inr ⟨by rfl, rfl⟩) ?_; (try simp only [Act.put, Na, Nb, Nc, Nd, Nx, Nf]))
    (refine tkH (i := 10) (v := ?_) rfl (Or.inl ⟨by rfl, ?_⟩) ?_; rotate_left; (focus (intro w hSw; (try dsimp only at hSw); obtain ⟨a, b, c, d, e, f, g, h, i, j, k, l, m, n, o, p, q, r, s, t, u, v, x, y⟩ := hSw; go_simp; first | done | with_reducible rfl)); (try simp only [Act.put, Na, Nb, Nc, Nd, Nx, Nf]))
    (refine tkH (i := 11) (v := ?_) rfl (Or.inl ⟨by rfl, ?_⟩) ?_; rotate_left; (focus (intro w hSw; (try dsimp only at hSw); obtain ⟨a, b, c, d, e, f, g, h, i, j, k, l, m, n, o, p, q, r, s, t, u, v, x, y⟩ := hSw; go_simp; first | done | with_reducible rfl)); (try simp only [Act.put, Na, Nb, Nc, Nd, Nx, Nf]))
    (refine tkH (i := 12) (v := ?_) rfl (Or.inl ⟨by rfl, ?_⟩) ?_; rotate_left; (focus (intro w hSw; (try dsimp only at hSw); obtain ⟨a, b, c, d, e, f, g, h, i, j, k, l, m, n, o, p, q, r, s, t, u, v, x, y⟩ := hSw; go_simp; first | done | with_reducible rfl)); (try simp only [Act.put, Na, Nb, Nc, Nd, Nx, Nf]))
    (refine tkH (i := 13) (v := ?_) rfl (Or.inl ⟨by rfl, ?_⟩) ?_; rotate_left; (focus (intro w hSw; (try dsimp only at hSw); obtain ⟨a, b, c, d, e, f, g, h, i, j, k, l, m, n, o, p, q, r, s, t, u, v, x, y⟩ := hSw; go_simp; first | done | with_reducible rfl)); (try simp only [Act.put, Na, Nb, Nc, Nd, Nx, Nf]))
    (refine tkH (i := 14) (v := ?_) rfl (Or.inl ⟨by rfl, ?_⟩) ?_; rotate_left; (focus (intro w hSw; (try dsimp only at hSw); obtain ⟨a, b, c, d, e, f, g, h, i, j, k, l, m, n, o, p, q, r, s, t, u, v, x, y⟩ := hSw; go_simp; first | done | with_reducible rfl)); (try simp only [Act.put, Na, Nb, Nc, Nd, Nx, Nf]))
    (refine tkH (i := 16) (v := ?_) rfl (Or.inl ⟨by rfl, ?_⟩) ?_; rotate_left; (focus (intro w hSw; (try dsimp only at hSw); obtain ⟨a, b, c, d, e, f, g, h, i, j, k, l, m, n, o, p, q, r, s, t, u, v, x, y⟩ := hSw; go_simp; first | done | with_reducible rfl)); (try simp only [Act.put, Na, Nb, Nc, Nd, Nx, Nf]))
    (refine tkH (i := 17) (v := ?_) rfl (Or.inl ⟨by rfl, ?_⟩) ?_; rotate_left; (focus (intro w hSw; (try dsimp only at hSw); obtain ⟨a, b, c, d, e, f, g, h, i, j, k, l, m, n, o, p, q, r, s, t, u, v, x, y⟩ := hSw; go_simp; first | done | with_reducible rfl)); (try simp only [Act.put, Na, Nb, Nc, Nd, Nx, Nf]))
    refine wpAnyH_ready (rs := [15]) (by kernel_rfl) (by simp) ?_
    refine (AllReadyH.cons rfl (fun K0 hK0 => ?_) AllReadyH.nil)
    go_simp
    with_reducible refine (vSame (R7.out.below HX.out).val (R8.out.below HX.out).val HFA.out.fit HFB.out.fit qs hqs).mono ?_
    rintro e wa ⟨rfl, hb⟩
    have hX2 := HX.out.trans (hb.mono HX.out.size)
    replace HX := hide hX2
    clear hX2 hS0 hb
    have hS0 := HSX.out _ HX.out
    refine hK0.out _ _ (hS0) (fun _ => ?_)
    clear hK0 K0
    (try simp only [Act.put, Na, Nb, Nc, Nd, Nx, Nf])
    refine wpAnyH_ready (rs := [18]) (by kernel_rfl) (by simp) ?_
    refine (AllReadyH.cons rfl (fun K1 hK1 => ?_) AllReadyH.nil)
    go_simp
    with_reducible refine (vRSame (R7.out.below HX.out).val (R8.out.below HX.out).val HFA.out.fit HFB.out.fit qs hqs).mono ?_
    rintro e wb ⟨rfl, hb⟩
    have e9 : (qs != qs) = false := by simp
    have hX2 := HX.out.trans (hb.mono HX.out.size)
    replace HX := hide hX2
    clear hX2 hS0 hb
    have hS0 := HSX.out _ HX.out
    refine hK1.out _ _ (hS0) (fun _ => ?_)
    clear hK1 K1
    (try simp only [Act.put, Na, Nb, Nc, Nd, Nx, Nf])
    (refine tkH (i := 19) (v := ?_) rfl (Or.inl ⟨by rfl, ?_⟩) ?_; rotate_left; (focus (intro w hSw; (try dsimp only at hSw); obtain ⟨a, b, c, d, e, f, g, h, i, j, k, l, m, n, o, p, q, r, s, t, u, v, x, y⟩ := hSw; go_simp; first | done | with_reducible rfl)); (try simp only [Act.put, Na, Nb, Nc, Nd, Nx, Nf]))
    (refine tkH (i := 20) (v := ?_) rfl (Or.inl ⟨by rfl, ?_⟩) ?_; rotate_left; (focus (intro w hSw; (try dsimp only at hSw); obtain ⟨a, b, c, d, e, f, g, h, i, j, k, l, m, n, o, p, q, r, s, t, u, v, x, y⟩ := hSw; go_simp; first | done | with_reducible rfl)); (try simp only [Act.put, Na, Nb, Nc, Nd, Nx, Nf]))
    (refine tkH (i := 21) (v := ?_) rfl (Or.inl ⟨by rfl, ?_⟩) ?_; rotate_left; (focus (intro w hSw; (try dsimp only at hSw); obtain ⟨a, b, c, d, e, f, g, h, i, j, k, l, m, n, o, p, q, r, s, t, u, v, x, y⟩ := hSw; go_simp; first | done | with_reducible rfl)); (try simp only [Act.put, Na, Nb, Nc, Nd, Nx, Nf]))
    (refine tkH (i := 22) (v := ?_) rfl (Or.inl ⟨by rfl, ?_⟩) ?_; rotate_left; (focus (intro w hSw; (try dsimp only at hSw); obtain ⟨a, b, c, d, e, f, g, h, i, j, k, l, m, n, o, p, q, r, s, t, u, v, x, y⟩ := hSw; go_simp; first | done | with_reducible rfl)); (try simp only [Act.put, Na, Nb, Nc, Nd, Nx, Nf]))
    (refine tkH (i := 23) (v := ?_) rfl (Or.inl ⟨by rfl, ?_⟩) ?_; rotate_left; (focus (intro w hSw; (try dsimp only at hSw); obtain ⟨a, b, c, d, e, f, g, h, i, j, k, l, m, n, o, p, q, r, s, t, u, v, x, y⟩ := hSw; go_simp; first | done | with_reducible rfl)); (try simp only [Act.put, Na, Nb, Nc, Nd, Nx, Nf]))
    clear e9
    refine wpAnyH_ready (rs := [24]) (by kernel_rfl) (by simp) ?_
    refine (AllReadyH.cons rfl (fun K2 hK2 => ?_) AllReadyH.nil)
    go_simp
    with_reducible refine (vOwn (R0.out.below HX.out).val).mono ?_
    rintro e wc2 ⟨⟨v5, rfl, hv⟩, hb⟩
    rw [HCA.out] at hv
    have HV := hide hv
    clear hv
    have hX2 := HX.out.trans (hb.mono HX.out.size)
    replace HX := hide hX2
    clear hX2 hS0 hb
    have hS0 := HSX.out _ HX.out
    refine hK2.out _ _ (hS0) (fun _ => ?_)
    clear hK2 K2
    (try simp only [Act.put, Na, Nb, Nc, Nd, Nx, Nf])
    refine wpAnyH_ready (rs := [25]) (by kernel_rfl) (by simp) ?_
    refine (AllReadyH.cons rfl (fun K3 hK3 => ?_) AllReadyH.nil)
    go_simp
    with_reducible refine (vSame (R7.out.below HX.out).val HV.out HFA.out.fit HFA.out.fit true (same_refl a)).mono ?_
    rintro e wd2 ⟨rfl, hb⟩
    have hX2 := HX.out.trans (hb.mono HX.out.size)
    replace HX := hide hX2
    clear hX2 hS0 hb
    have hS0 := HSX.out _ HX.out
    refine hK3.out _ _ (hS0) (fun _ => ?_)
    clear hK3 K3
    (try simp only [Act.put, Na, Nb, Nc, Nd, Nx, Nf])
    (refine tkH (i := 26) (v := ?_) rfl (Or.inl ⟨by rfl, ?_⟩) ?_; rotate_left; (focus (intro w hSw; (try dsimp only at hSw); obtain ⟨a, b, c, d, e, f, g, h, i, j, k, l, m, n, o, p, q, r, s, t, u, v, x, y⟩ := hSw; go_simp; first | done | with_reducible rfl)); (try simp only [Act.put, Na, Nb, Nc, Nd, Nx, Nf]))
    (refine tkH (i := 27) (v := ?_) rfl (Or.inl ⟨by rfl, ?_⟩) ?_; rotate_left; (focus (intro w hSw; (try dsimp only at hSw); obtain ⟨a, b, c, d, e, f, g, h, i, j, k, l, m, n, o, p, q, r, s, t, u, v, x, y⟩ := hSw; go_simp; first | done | with_reducible rfl)); (try simp only [Act.put, Na, Nb, Nc, Nd, Nx, Nf]))
    clear hqs
    refine wpAnyH_done (by kernel_rfl) ?_ _
    go_wp2_with fail
    go_meet
    case rel => exact ⟨rfl, HX.out⟩
   | false =>
    have hk5 : k5 = 250 := HK5.out
    subst hk5
    have HSX := hide (fun (wX : World) (hgX : Below w4.heap.size w4 wX) => show wX.cell? ⟨g7, 0, none⟩ = some (.slice A5 n5 c5) ∧ wX.cell? ⟨g7, 1, none⟩ = some (.int .u64 a.e) ∧ wX.cell? ⟨g7, 2, none⟩ = some (.slice S5 m5 d5) ∧ wX.cell? ⟨g7, 3, none⟩ = some (.int .u64 (a.l.E : Int)) ∧ wX.cell? ⟨g7, 4, none⟩ = some (.slice (B5 0) (p5 0) (f5 0)) ∧ wX.cell? ⟨g7, 5, none⟩ = some (.slice (B5 1) (p5 1) (f5 1)) ∧ wX.cell? ⟨g7, 6, none⟩ = some (.slice (B5 2) (p5 2) (f5 2)) ∧ wX.cell? ⟨g8, 0, none⟩ = some (.slice A6 n6 c6) ∧ wX.cell? ⟨g8, 1, none⟩ = some (.int .u64 b.e) ∧ wX.cell? ⟨g8, 2, none⟩ = some (.slice S6 m6 d6) ∧ wX.cell? ⟨g8, 3, none⟩ = some (.int .u64 (b.l.E : Int)) ∧ wX.cell? ⟨g8, 4, none⟩ = some (.slice (B6 0) (p6 0) (f6 0)) ∧ wX.cell? ⟨g8, 5, none⟩ = some (.slice (B6 1) (p6 1) (f6 1)) ∧ wX.cell? ⟨g8, 6, none⟩ = some (.slice (B6 2) (p6 2) (f6 2)) ∧ wX.cell? ⟨W.heap.size, 0, none⟩ = some (.slice A0 n0 c0) ∧ wX.cell? ⟨W.heap.size, 1, none⟩ = some (.int .u64 x.e) ∧ wX.cell? ⟨W.heap.size, 2, none⟩ = some (.slice S0 m0 d0) ∧ wX.cell? ⟨W.heap.size, 3, none⟩ = some (.int .u64 (x.l.E : Int)) ∧ wX.cell? ⟨W.heap.size, 4, none⟩ = some (.slice (B0 0) (p0 0) (f0 0)) ∧ wX.cell? ⟨W.heap.size, 5, none⟩ = some (.slice (B0 1) (p0 1) (f0 1)) ∧ wX.cell? ⟨W.heap.size, 6, none⟩ = some (.slice (B0 2) (p0 2) (f0 2)) ∧ g7 < wX.heap.size ∧ g8 < wX.heap.size ∧ W.heap.size < wX.heap.size from by
     obtain ⟨z0x0, z0x1, z0x2, z0x3, z0x4, z0x5, z0x6⟩ := row7 K7.out
     obtain ⟨z1x0, z1x1, z1x2, z1x3, z1x4, z1x5, z1x6⟩ := row7 K8.out
     obtain ⟨z2x0, z2x1, z2x2, z2x3, z2x4, z2x5, z2x6⟩ := row7 K0.out
     exact ⟨kept hgX z0x0, kept hgX z0x1, kept hgX z0x2, kept hgX z0x3, kept hgX z0x4, kept hgX z0x5, kept hgX z0x6, kept hgX z1x0, kept hgX z1x1, kept hgX z1x2, kept hgX z1x3, kept hgX z1x4, kept hgX z1x5, kept hgX z1x6, kept hgX z2x0, kept hgX z2x1, kept hgX z2x2, kept hgX z2x3, kept hgX z2x4, kept hgX z2x5, kept hgX z2x6, Nat.lt_of_lt_of_le K7.out.lt hgX.size, Nat.lt_of_lt_of_le K8.out.lt hgX.size, Nat.lt_of_lt_of_le K0.out.lt hgX.size⟩)
    have HX := hide ((Below.refl w4.heap.size w4).drew)
    refine wp_region_held_drew (S := fun wX => wX.cell? ⟨g7, 0, none⟩ = some (.slice A5 n5 c5) ∧ wX.cell? ⟨g7, 1, none⟩ = some (.int .u64 a.e) ∧ wX.cell? ⟨g7, 2, none⟩ = some (.slice S5 m5 d5) ∧ wX.cell? ⟨g7, 3, none⟩ = some (.int .u64 (a.l.E : Int)) ∧ wX.cell? ⟨g7, 4, none⟩ = some (.slice (B5 0) (p5 0) (f5 0)) ∧ wX.cell? ⟨g7, 5, none⟩ = some (.slice (B5 1) (p5 1) (f5 1)) ∧ wX.cell? ⟨g7, 6, none⟩ = some (.slice (B5 2) (p5 2) (f5 2)) ∧ wX.cell? ⟨g8, 0, none⟩ = some (.slice A6 n6 c6) ∧ wX.cell? ⟨g8, 1, none⟩ = some (.int .u64 b.e) ∧ wX.cell? ⟨g8, 2, none⟩ = some (.slice S6 m6 d6) ∧ wX.cell? ⟨g8, 3, none⟩ = some (.int .u64 (b.l.E : Int)) ∧ wX.cell? ⟨g8, 4, none⟩ = some (.slice (B6 0) (p6 0) (f6 0)) ∧ wX.cell? ⟨g8, 5, none⟩ = some (.slice (B6 1) (p6 1) (f6 1)) ∧ wX.cell? ⟨g8, 6, none⟩ = some (.slice (B6 2) (p6 2) (f6 2)) ∧ wX.cell? ⟨W.heap.size, 0, none⟩ = some (.slice A0 n0 c0) ∧ wX.cell? ⟨W.heap.size, 1, none⟩ = some (.int .u64 x.e) ∧ wX.cell? ⟨W.heap.size, 2, none⟩ = some (.slice S0 m0 d0) ∧ wX.cell? ⟨W.heap.size, 3, none⟩ = some (.int .u64 (x.l.E : Int)) ∧ wX.cell? ⟨W.heap.size, 4, none⟩ = some (.slice (B0 0) (p0 0) (f0 0)) ∧ wX.cell? ⟨W.heap.size, 5, none⟩ = some (.slice (B0 1) (p0 1) (f0 1)) ∧ wX.cell? ⟨W.heap.size, 6, none⟩ = some (.slice (B0 2) (p0 2) (f0 2)) ∧ g7 < wX.heap.size ∧ g8 < wX.heap.size ∧ W.heap.size < wX.heap.size) (by kernel_rfl) (HSX.out _ HX.out) (fun hHeld => ?_)
    clear hHeld
    have hS0 := HSX.out _ HX.out
    generalize w4.drew = wd at *
    obtain ⟨qs, hqs⟩ : ∃ q, sameR a b = q := ⟨_, rfl⟩
    (refine tkH (i := 0) (v := ?_) rfl (Or.inl ⟨by rfl, ?_⟩) ?_; rotate_left; (focus (intro w hSw; (try dsimp only at hSw); obtain ⟨a, b, c, d, e, f, g, h, i, j, k, l, m, n, o, p, q, r, s, t, u, v, x, y⟩ := hSw; go_simp; first | done | with_reducible rfl)); (try simp only [Act.put, Na, Nb, Nc, Nd, Nx, Nf]))
    (refine tkH (i := 1) (v := ?_) rfl (Or.inl ⟨by rfl, ?_⟩) ?_; rotate_left; (focus (intro w hSw; (try dsimp only at hSw); obtain ⟨a, b, c, d, e, f, g, h, i, j, k, l, m, n, o, p, q, r, s, t, u, v, x, y⟩ := hSw; go_simp; first | done | with_reducible rfl)); (try simp only [Act.put, Na, Nb, Nc, Nd, Nx, Nf]))
    (refine tkH (i := 2) (v := ?_) rfl (Or.inl ⟨by rfl, ?_⟩) ?_; rotate_left; (focus (intro w hSw; (try dsimp only at hSw); obtain ⟨a, b, c, d, e, f, g, h, i, j, k, l, m, n, o, p, q, r, s, t, u, v, x, y⟩ := hSw; go_simp; first | done | with_reducible rfl)); (try simp only [Act.put, Na, Nb, Nc, Nd, Nx, Nf]))
    (refine tkH (i := 3) (v := ?_) rfl (Or.inl ⟨by rfl, ?_⟩) ?_; rotate_left; (focus (intro w hSw; (try dsimp only at hSw); obtain ⟨a, b, c, d, e, f, g, h, i, j, k, l, m, n, o, p, q, r, s, t, u, v, x, y⟩ := hSw; go_simp; first | done | with_reducible rfl)); (try simp only [Act.put, Na, Nb, Nc, Nd, Nx, Nf]))
    (refine tkH (i := 4) (v := ?_) rfl (Or.inl ⟨by rfl, ?_⟩) ?_; rotate_left; (focus (intro w hSw; (try dsimp only at hSw); obtain ⟨a, b, c, d, e, f, g, h, i, j, k, l, m, n, o, p, q, r, s, t, u, v, x, y⟩ := hSw; go_simp; first | done | with_reducible rfl)); (try simp only [Act.put, Na, Nb, Nc, Nd, Nx, Nf]))
    (refine tkH (i := 5) (v := ?_) rfl (Or.inl ⟨by rfl, ?_⟩) ?_; rotate_left; (focus (intro w hSw; (try dsimp only at hSw); obtain ⟨a, b, c, d, e, f, g, h, i, j, k, l, m, n, o, p, q, r, s, t, u, v, x, y⟩ := hSw; go_simp; first | done | with_reducible rfl)); (try simp only [Act.put, Na, Nb, Nc, Nd, Nx, Nf]))
    (refine tkH (i := 6) (v := ?_) rfl (Or.inl ⟨by rfl, ?_⟩) ?_; rotate_left; (focus (intro w hSw; (try dsimp only at hSw); obtain ⟨a, b, c, d, e, f, g, h, i, j, k, l, m, n, o, p, q, r, s, t, u, v, x, y⟩ := hSw; go_simp; first | done | with_reducible rfl)); (try simp only [Act.put, Na, Nb, Nc, Nd, Nx, Nf]))
    (refine tkH (i := 7) (v := ?_) rfl (Or.inl ⟨by rfl, ?_⟩) ?_; rotate_left; (focus (intro w hSw; (try dsimp only at hSw); obtain ⟨a, b, c, d, e, f, g, h, i, j, k, l, m, n, o, p, q, r, s, t, u, v, x, y⟩ := hSw; go_simp; first | done | with_reducible rfl)); (try simp only [Act.put, Na, Nb, Nc, Nd, Nx, Nf]))
    (refine tkH (i := 8) (v := ?_) rfl (Or.inl ⟨by rfl, ?_⟩) ?_; rotate_left; (focus (intro w hSw; (try dsimp only at hSw); obtain ⟨a, b, c, d, e, f, g, h, i, j, k, l, m, n, o, p, q, r, s, t, u, v, x, y⟩ := hSw; go_simp; first | done | with_reducible rfl)); (try simp only [Act.put, Na, Nb, Nc, Nd, Nx, Nf]))
    (refine tkH (i := 9) (v := ?_) rfl (Or.inl ⟨by rfl, ?_⟩) ?_; rotate_left; (focus (intro w hSw; (try dsimp only at hSw); obtain ⟨a, b, c, d, e, f, g, h, i, j, k, l, m, n, o, p, q, r, s, t, u, v, x, y⟩ := hSw; go_simp; first | done | with_reducible rfl)); (try simp only [Act.put, Na, Nb, Nc, Nd, Nx, Nf]))
    (refine tkH (i := 10) (v := ?_) rfl (Or.inl ⟨by rfl, ?_⟩) ?_; rotate_left; (focus (intro w hSw; (try dsimp only at hSw); obtain ⟨a, b, c, d, e, f, g, h, i, j, k, l, m, n, o, p, q, r, s, t, u, v, x, y⟩ := hSw; go_simp; first | done | with_reducible rfl)); (try simp only [Act.put, Na, Nb, Nc, Nd, Nx, Nf]))
    (refine tkH (i := 11) (v := ?_) rfl (Or.inl ⟨by rfl, ?_⟩) ?_; rotate_left; (focus (intro w hSw; (try dsimp only at hSw); obtain ⟨a, b, c, d, e, f, g, h, i, j, k, l, m, n, o, p, q, r, s, t, u, v, x, y⟩ := hSw; go_simp; first | done | with_reducible rfl)); (try simp only [Act.put, Na, Nb, Nc, Nd, Nx, Nf]))
    (refine tkH (i := 12) (v := ?_) rfl (Or.inl ⟨by rfl, ?_⟩) ?_; rotate_left; (focus (intro w hSw; (try dsimp only at hSw); obtain ⟨a, b, c, d, e, f, g, h, i, j, k, l, m, n, o, p, q, r, s, t, u, v, x, y⟩ := hSw; go_simp; first | done | with_reducible rfl)); (try simp only [Act.put, Na, Nb, Nc, Nd, Nx, Nf]))
    (refine tkH (i := 13) (v := ?_) rfl (Or.inl ⟨by rfl, ?_⟩) ?_; rotate_left; (focus (intro w hSw; (try dsimp only at hSw); obtain ⟨a, b, c, d, e, f, g, h, i, j, k, l, m, n, o, p, q, r, s, t, u, v, x, y⟩ := hSw; go_simp; first | done | with_reducible rfl)); (try simp only [Act.put, Na, Nb, Nc, Nd, Nx, Nf]))
    (refine tkH (i := 14) (v := ?_) rfl (Or.inl ⟨by rfl, ?_⟩) ?_; rotate_left; (focus (intro w hSw; (try dsimp only at hSw); obtain ⟨a, b, c, d, e, f, g, h, i, j, k, l, m, n, o, p, q, r, s, t, u, v, x, y⟩ := hSw; go_simp; first | done | with_reducible rfl)); (try simp only [Act.put, Na, Nb, Nc, Nd, Nx, Nf]))
    (refine tkH (i := 16) (v := ?_) rfl (Or.inl ⟨by rfl, ?_⟩) ?_; rotate_left; (focus (intro w hSw; (try dsimp only at hSw); obtain ⟨a, b, c, d, e, f, g, h, i, j, k, l, m, n, o, p, q, r, s, t, u, v, x, y⟩ := hSw; go_simp; first | done | with_reducible rfl)); (try simp only [Act.put, Na, Nb, Nc, Nd, Nx, Nf]))
    (refine tkH (i := 17) (v := ?_) rfl (Or.inl ⟨by rfl, ?_⟩) ?_; rotate_left; (focus (intro w hSw; (try dsimp only at hSw); obtain ⟨a, b, c, d, e, f, g, h, i, j, k, l, m, n, o, p, q, r, s, t, u, v, x, y⟩ := hSw; go_simp; first | done | with_reducible rfl)); (try simp only [Act.put, Na, Nb, Nc, Nd, Nx, Nf]))
    refine wpAnyH_ready (rs := [15]) (by kernel_rfl) (by simp) ?_
    refine (AllReadyH.cons rfl (fun K0 hK0 => ?_) AllReadyH.nil)
    go_simp
    with_reducible refine (vSame (R7.out.below HX.out).val (R8.out.below HX.out).val HFA.out.fit HFB.out.fit qs hqs).mono ?_
    rintro e wa ⟨rfl, hb⟩
    have hX2 := HX.out.trans (hb.mono HX.out.size)
    replace HX := hide hX2
    clear hX2 hS0 hb
    have hS0 := HSX.out _ HX.out
    refine hK0.out _ _ (hS0) (fun _ => ?_)
    clear hK0 K0
    (try simp only [Act.put, Na, Nb, Nc, Nd, Nx, Nf])
    refine wpAnyH_ready (rs := [18]) (by kernel_rfl) (by simp) ?_
    refine (AllReadyH.cons rfl (fun K1 hK1 => ?_) AllReadyH.nil)
    go_simp
    with_reducible refine (vRSame (R7.out.below HX.out).val (R8.out.below HX.out).val HFA.out.fit HFB.out.fit qs hqs).mono ?_
    rintro e wb ⟨rfl, hb⟩
    have e9 : (qs != qs) = false := by simp
    have hX2 := HX.out.trans (hb.mono HX.out.size)
    replace HX := hide hX2
    clear hX2 hS0 hb
    have hS0 := HSX.out _ HX.out
    refine hK1.out _ _ (hS0) (fun _ => ?_)
    clear hK1 K1
    (try simp only [Act.put, Na, Nb, Nc, Nd, Nx, Nf])
    (refine tkH (i := 19) (v := ?_) rfl (Or.inl ⟨by rfl, ?_⟩) ?_; rotate_left; (focus (intro w hSw; (try dsimp only at hSw); obtain ⟨a, b, c, d, e, f, g, h, i, j, k, l, m, n, o, p, q, r, s, t, u, v, x, y⟩ := hSw; go_simp; first | done | with_reducible rfl)); (try simp only [Act.put, Na, Nb, Nc, Nd, Nx, Nf]))
    (refine tkH (i := 20) (v := ?_) rfl (Or.inl ⟨by rfl, ?_⟩) ?_; rotate_left; (focus (intro w hSw; (try dsimp only at hSw); obtain ⟨a, b, c, d, e, f, g, h, i, j, k, l, m, n, o, p, q, r, s, t, u, v, x, y⟩ := hSw; go_simp; first | done | with_reducible rfl)); (try simp only [Act.put, Na, Nb, Nc, Nd, Nx, Nf]))
    (refine tkH (i := 21) (v := ?_) rfl (Or.inl ⟨by rfl, ?_⟩) ?_; rotate_left; (focus (intro w hSw; (try dsimp only at hSw); obtain ⟨a, b, c, d, e, f, g, h, i, j, k, l, m, n, o, p, q, r, s, t, u, v, x, y⟩ := hSw; go_simp; first | done | with_reducible rfl)); (try simp only [Act.put, Na, Nb, Nc, Nd, Nx, Nf]))
    (refine tkH (i := 22) (v := ?_) rfl (Or.inl ⟨by rfl, ?_⟩) ?_; rotate_left; (focus (intro w hSw; (try dsimp only at hSw); obtain ⟨a, b, c, d, e, f, g, h, i, j, k, l, m, n, o, p, q, r, s, t, u, v, x, y⟩ := hSw; go_simp; first | done | with_reducible rfl)); (try simp only [Act.put, Na, Nb, Nc, Nd, Nx, Nf]))
    (refine tkH (i := 23) (v := ?_) rfl (Or.inl ⟨by rfl, ?_⟩) ?_; rotate_left; (focus (intro w hSw; (try dsimp only at hSw); obtain ⟨a, b, c, d, e, f, g, h, i, j, k, l, m, n, o, p, q, r, s, t, u, v, x, y⟩ := hSw; go_simp; first | done | with_reducible rfl)); (try simp only [Act.put, Na, Nb, Nc, Nd, Nx, Nf]))
    clear e9
    refine wpAnyH_ready (rs := [24]) (by kernel_rfl) (by simp) ?_
    refine (AllReadyH.cons rfl (fun K2 hK2 => ?_) AllReadyH.nil)
    go_simp
    with_reducible refine (vOwn (R0.out.below HX.out).val).mono ?_
    rintro e wc2 ⟨⟨v5, rfl, hv⟩, hb⟩
    rw [HCA.out] at hv
    have HV := hide hv
    clear hv
    have hX2 := HX.out.trans (hb.mono HX.out.size)
    replace HX := hide hX2
    clear hX2 hS0 hb
    have hS0 := HSX.out _ HX.out
    refine hK2.out _ _ (hS0) (fun _ => ?_)
    clear hK2 K2
    (try simp only [Act.put, Na, Nb, Nc, Nd, Nx, Nf])
    refine wpAnyH_ready (rs := [25]) (by kernel_rfl) (by simp) ?_
    refine (AllReadyH.cons rfl (fun K3 hK3 => ?_) AllReadyH.nil)
    go_simp
    with_reducible refine (vSame (R7.out.below HX.out).val HV.out HFA.out.fit HFA.out.fit true (same_refl a)).mono ?_
    rintro e wd2 ⟨rfl, hb⟩
    have hX2 := HX.out.trans (hb.mono HX.out.size)
    replace HX := hide hX2
    clear hX2 hS0 hb
    have hS0 := HSX.out _ HX.out
    refine hK3.out _ _ (hS0) (fun _ => ?_)
    clear hK3 K3
    (try simp only [Act.put, Na, Nb, Nc, Nd, Nx, Nf])
    (refine tkH (i := 26) (v := ?_) rfl (Or.inl ⟨by rfl, ?_⟩) ?_; rotate_left; (focus (intro w hSw; (try dsimp only at hSw); obtain ⟨a, b, c, d, e, f, g, h, i, j, k, l, m, n, o, p, q, r, s, t, u, v, x, y⟩ := hSw; go_simp; first | done | with_reducible rfl)); (try simp only [Act.put, Na, Nb, Nc, Nd, Nx, Nf]))
    (refine tkH (i := 27) (v := ?_) rfl (Or.inl ⟨by rfl, ?_⟩) ?_; rotate_left; (focus (intro w hSw; (try dsimp only at hSw); obtain ⟨a, b, c, d, e, f, g, h, i, j, k, l, m, n, o, p, q, r, s, t, u, v, x, y⟩ := hSw; go_simp; first | done | with_reducible rfl)); (try simp only [Act.put, Na, Nb, Nc, Nd, Nx, Nf]))
    clear hqs
    refine wpAnyH_done (by kernel_rfl) ?_ _
    go_wp2_with fail
    go_meet
    case rel => exact ⟨rfl, HX.out⟩
  case rest =>
   rename_i K hK
   refine hK _ _ ?_
   clear hK K
   obtain ⟨w5, hw5⟩ : ∃ w, w = wc := ⟨_, rfl⟩
   subst hw5
   obtain ⟨rfl, hb⟩ := hcut
   replace R0 := hide (R0.out.below hb)
   replace R7 := hide (R7.out.below hb)
   replace R8 := hide (R8.out.below hb)
   replace K0 := hide (K0.out.below hb)
   replace K2 := hide (K2.out.below hb)
   replace K7 := hide (K7.out.below hb)
   replace K8 := hide (K8.out.below hb)
   replace HB := hide (HB.out.trans (hb.mono HB.out.size))
   clear hb R8 K8 HFB
   go_upto_if 52 with (fail)
   go_cut [11] from 53 to 54 (fun v wx => v = .int .i64 (waitsR a) ∧ Below w5.heap.size w5 wx)
   case first =>
    cases q with
    | false =>
     have hw := hide (show waitsR a = 0 from by unfold waitsR; simp [HQ.out])
     go_wp2_with fail
     go_meet
     case rel => exact ⟨by rw [hw.out], Below.refl _ _⟩
    | true =>
     obtain ⟨K7y0, K7y1, K7y2, K7y3, K7y4, K7y5, K7y6⟩ := row7 K7.out
     have K7l := K7.out.lt
     go_wp2_with fail
     clear K7y0 K7y1 K7y2 K7y3 K7y4 K7y5 K7y6 K7l
     with_reducible refine (vRWaits R7.out.val HFA.out.fit HQ.out).mono ?_
     rintro e wq ⟨rfl, hb⟩
     have HBX := hide hb
     clear hb
     go_wp2_with fail
     go_meet
     case rel => exact ⟨rfl, HBX.out⟩
   case rest =>
    rename_i K hK
    refine hK _ _ ?_
    clear hK K
    obtain ⟨w6, hw6⟩ : ∃ w, w = wc := ⟨_, rfl⟩
    subst hw6
    obtain ⟨rfl, hb⟩ := hcut
    replace R0 := hide (R0.out.below hb)
    replace R7 := hide (R7.out.below hb)
    replace K0 := hide (K0.out.below hb)
    replace K2 := hide (K2.out.below hb)
    replace K7 := hide (K7.out.below hb)
    replace HB := hide (HB.out.trans (hb.mono HB.out.size))
    clear hb
    obtain ⟨wv, hwv⟩ : ∃ z, waitsR a = z := ⟨_, rfl⟩
    simp only [hwv]
    have HWV := hide hwv
    clear hwv
    go_upto_region 11 with (fail)
    go_cut [65] from 55 to 65 (fun v wx => v = .bool false ∧ Below w6.heap.size w6 wx)
    case first =>
     have HSX := hide (fun (wX : World) (hgX : Below w6.heap.size w6 wX) => show wX.cell? ⟨g7, 0, none⟩ = some (.slice A5 n5 c5) ∧ wX.cell? ⟨g7, 1, none⟩ = some (.int .u64 a.e) ∧ wX.cell? ⟨g7, 2, none⟩ = some (.slice S5 m5 d5) ∧ wX.cell? ⟨g7, 3, none⟩ = some (.int .u64 (a.l.E : Int)) ∧ wX.cell? ⟨g7, 4, none⟩ = some (.slice (B5 0) (p5 0) (f5 0)) ∧ wX.cell? ⟨g7, 5, none⟩ = some (.slice (B5 1) (p5 1) (f5 1)) ∧ wX.cell? ⟨g7, 6, none⟩ = some (.slice (B5 2) (p5 2) (f5 2)) ∧ wX.cell? ⟨W.heap.size, 0, none⟩ = some (.slice A0 n0 c0) ∧ wX.cell? ⟨W.heap.size, 1, none⟩ = some (.int .u64 x.e) ∧ wX.cell? ⟨W.heap.size, 2, none⟩ = some (.slice S0 m0 d0) ∧ wX.cell? ⟨W.heap.size, 3, none⟩ = some (.int .u64 (x.l.E : Int)) ∧ wX.cell? ⟨W.heap.size, 4, none⟩ = some (.slice (B0 0) (p0 0) (f0 0)) ∧ wX.cell? ⟨W.heap.size, 5, none⟩ = some (.slice (B0 1) (p0 1) (f0 1)) ∧ wX.cell? ⟨W.heap.size, 6, none⟩ = some (.slice (B0 2) (p0 2) (f0 2)) ∧ g7 < wX.heap.size ∧ W.heap.size < wX.heap.size from by
      obtain ⟨z0x0, z0x1, z0x2, z0x3, z0x4, z0x5, z0x6⟩ := row7 K7.out
      obtain ⟨z1x0, z1x1, z1x2, z1x3, z1x4, z1x5, z1x6⟩ := row7 K0.out
      exact ⟨kept hgX z0x0, kept hgX z0x1, kept hgX z0x2, kept hgX z0x3, kept hgX z0x4, kept hgX z0x5, kept hgX z0x6, kept hgX z1x0, kept hgX z1x1, kept hgX z1x2, kept hgX z1x3, kept hgX z1x4, kept hgX z1x5, kept hgX z1x6, Nat.lt_of_lt_of_le K7.out.lt hgX.size, Nat.lt_of_lt_of_le K0.out.lt hgX.size⟩)
     have HX := hide ((Below.refl w6.heap.size w6).drew)
     refine wp_region_held_drew (S := fun wX => wX.cell? ⟨g7, 0, none⟩ = some (.slice A5 n5 c5) ∧ wX.cell? ⟨g7, 1, none⟩ = some (.int .u64 a.e) ∧ wX.cell? ⟨g7, 2, none⟩ = some (.slice S5 m5 d5) ∧ wX.cell? ⟨g7, 3, none⟩ = some (.int .u64 (a.l.E : Int)) ∧ wX.cell? ⟨g7, 4, none⟩ = some (.slice (B5 0) (p5 0) (f5 0)) ∧ wX.cell? ⟨g7, 5, none⟩ = some (.slice (B5 1) (p5 1) (f5 1)) ∧ wX.cell? ⟨g7, 6, none⟩ = some (.slice (B5 2) (p5 2) (f5 2)) ∧ wX.cell? ⟨W.heap.size, 0, none⟩ = some (.slice A0 n0 c0) ∧ wX.cell? ⟨W.heap.size, 1, none⟩ = some (.int .u64 x.e) ∧ wX.cell? ⟨W.heap.size, 2, none⟩ = some (.slice S0 m0 d0) ∧ wX.cell? ⟨W.heap.size, 3, none⟩ = some (.int .u64 (x.l.E : Int)) ∧ wX.cell? ⟨W.heap.size, 4, none⟩ = some (.slice (B0 0) (p0 0) (f0 0)) ∧ wX.cell? ⟨W.heap.size, 5, none⟩ = some (.slice (B0 1) (p0 1) (f0 1)) ∧ wX.cell? ⟨W.heap.size, 6, none⟩ = some (.slice (B0 2) (p0 2) (f0 2)) ∧ g7 < wX.heap.size ∧ W.heap.size < wX.heap.size) (by kernel_rfl) (HSX.out _ HX.out) (fun hHeld => ?_)
     clear hHeld
     have hS0 := HSX.out _ HX.out
     generalize w6.drew = wd at *
     (refine tkH (i := 0) (v := ?_) rfl (Or.inl ⟨by rfl, ?_⟩) ?_; rotate_left; (focus (intro w hSw; (try dsimp only at hSw); obtain ⟨a, b, c, d, e, f, g, h, i, j, k, l, m, n, o, p⟩ := hSw; go_simp; first | done | with_reducible rfl)); (try simp only [Act.put, Na, Nb, Nc, Nd, Nx, Nf]))
     (refine tkH (i := 2) (v := ?_) rfl (Or.inl ⟨by rfl, ?_⟩) ?_; rotate_left; (focus (intro w hSw; (try dsimp only at hSw); obtain ⟨a, b, c, d, e, f, g, h, i, j, k, l, m, n, o, p⟩ := hSw; go_simp; first | done | with_reducible rfl)); (try simp only [Act.put, Na, Nb, Nc, Nd, Nx, Nf]))
     refine wpAnyH_ready (rs := [1]) (by kernel_rfl) (by simp) ?_
     refine (AllReadyH.cons rfl (fun K0 hK0 => ?_) AllReadyH.nil)
     go_simp
     with_reducible refine (vWaits (R7.out.below HX.out).val HFA.out.fit wv HWV.out).mono ?_
     rintro e wa ⟨rfl, hb⟩
     have e9 : (wv != wv) = false := by simp
     have hX2 := HX.out.trans (hb.mono HX.out.size)
     replace HX := hide hX2
     clear hX2 hS0 hb
     have hS0 := HSX.out _ HX.out
     refine hK0.out _ _ (hS0) (fun _ => ?_)
     clear hK0 K0
     (try simp only [Act.put, Na, Nb, Nc, Nd, Nx, Nf])
     (refine tkH (i := 3) (v := ?_) rfl (Or.inl ⟨by rfl, ?_⟩) ?_; rotate_left; (focus (intro w hSw; (try dsimp only at hSw); obtain ⟨a, b, c, d, e, f, g, h, i, j, k, l, m, n, o, p⟩ := hSw; go_simp; first | done | with_reducible rfl)); (try simp only [Act.put, Na, Nb, Nc, Nd, Nx, Nf]))
     (refine tkH (i := 4) (v := ?_) rfl (Or.inl ⟨by rfl, ?_⟩) ?_; rotate_left; (focus (intro w hSw; (try dsimp only at hSw); obtain ⟨a, b, c, d, e, f, g, h, i, j, k, l, m, n, o, p⟩ := hSw; go_simp; first | done | with_reducible rfl)); (try simp only [Act.put, Na, Nb, Nc, Nd, Nx, Nf]))
     (refine tkH (i := 5) (v := ?_) rfl (Or.inl ⟨by rfl, ?_⟩) ?_; rotate_left; (focus (intro w hSw; (try dsimp only at hSw); obtain ⟨a, b, c, d, e, f, g, h, i, j, k, l, m, n, o, p⟩ := hSw; go_simp; first | done | with_reducible rfl)); (try simp only [Act.put, Na, Nb, Nc, Nd, Nx, Nf]))
     (refine tkH (i := 6) (v := ?_) rfl (Or.inl ⟨by rfl, ?_⟩) ?_; rotate_left; (focus (intro w hSw; (try dsimp only at hSw); obtain ⟨a, b, c, d, e, f, g, h, i, j, k, l, m, n, o, p⟩ := hSw; go_simp; first | done | with_reducible rfl)); (try simp only [Act.put, Na, Nb, Nc, Nd, Nx, Nf]))
     clear e9
     refine wpAnyH_ready (rs := [7]) (by kernel_rfl) (by simp) ?_
     refine (AllReadyH.cons rfl (fun K1 hK1 => ?_) AllReadyH.nil)
     go_simp
     with_reducible refine (vOwn (R0.out.below HX.out).val).mono ?_
     rintro e wb ⟨⟨v5, rfl, hv⟩, hb⟩
     rw [HCA.out] at hv
     have HV := hide hv
     clear hv
     have hX2 := HX.out.trans (hb.mono HX.out.size)
     replace HX := hide hX2
     clear hX2 hS0 hb
     have hS0 := HSX.out _ HX.out
     refine hK1.out _ _ (hS0) (fun _ => ?_)
     clear hK1 K1
     (try simp only [Act.put, Na, Nb, Nc, Nd, Nx, Nf])
     refine wpAnyH_ready (rs := [8]) (by kernel_rfl) (by simp) ?_
     refine (AllReadyH.cons rfl (fun K2 hK2 => ?_) AllReadyH.nil)
     go_simp
     with_reducible refine (vRSame (R7.out.below HX.out).val HV.out HFA.out.fit HFA.out.fit true (same_refl a)).mono ?_
     rintro e wc2 ⟨rfl, hb⟩
     have hX2 := HX.out.trans (hb.mono HX.out.size)
     replace HX := hide hX2
     clear hX2 hS0 hb
     have hS0 := HSX.out _ HX.out
     refine hK2.out _ _ (hS0) (fun _ => ?_)
     clear hK2 K2
     (try simp only [Act.put, Na, Nb, Nc, Nd, Nx, Nf])
     (refine tkH (i := 9) (v := ?_) rfl (Or.inl ⟨by rfl, ?_⟩) ?_; rotate_left; (focus (intro w hSw; (try dsimp only at hSw); obtain ⟨a, b, c, d, e, f, g, h, i, j, k, l, m, n, o, p⟩ := hSw; go_simp; first | done | with_reducible rfl)); (try simp only [Act.put, Na, Nb, Nc, Nd, Nx, Nf]))
     (refine tkH (i := 10) (v := ?_) rfl (Or.inl ⟨by rfl, ?_⟩) ?_; rotate_left; (focus (intro w hSw; (try dsimp only at hSw); obtain ⟨a, b, c, d, e, f, g, h, i, j, k, l, m, n, o, p⟩ := hSw; go_simp; first | done | with_reducible rfl)); (try simp only [Act.put, Na, Nb, Nc, Nd, Nx, Nf]))
     refine wpAnyH_done (by kernel_rfl) ?_ _
     go_wp2_with fail
     go_meet
     case rel => exact ⟨rfl, HX.out⟩
    case rest =>
     rename_i K hK
     refine hK _ _ ?_
     clear hK K
     obtain ⟨w7, hw7⟩ : ∃ w, w = wc := ⟨_, rfl⟩
     subst hw7
     obtain ⟨rfl, hb⟩ := hcut
     replace R0 := hide (R0.out.below hb)
     replace R7 := hide (R7.out.below hb)
     replace K0 := hide (K0.out.below hb)
     replace K2 := hide (K2.out.below hb)
     replace K7 := hide (K7.out.below hb)
     replace HB := hide (HB.out.trans (hb.mono HB.out.size))
     clear hb R7 K7 R0 K0 HQ HK5 HWV
     have K2y0 := row20 K2.out
     have K2y1 := row21 K2.out
     have K2l := K2.out.lt
     go_wp2_with fail
     clear K2y0 K2y1 K2l
     with_reducible refine (New_any s0 s1 w7).mono ?_
     rintro e w23 ⟨⟨v, rfl, hv⟩, hb⟩
     replace K2 := hide (K2.out.below hb)
     replace HB := hide (HB.out.trans (hb.mono HB.out.size))
     obtain ⟨A7, S7, n7, c7, m7, d7, B7, p7, f7, rfl, hr⟩ := hv
     have R7 := hide (hr.up (G := fun _ => True) (fun _ _ _ => trivial))
     obtain ⟨kn, hkn⟩ : ∃ k, NewK s0 s1 = k := ⟨_, rfl⟩
     obtain ⟨rn, hrn⟩ : ∃ r, NewV s0 s1 = r := ⟨_, rfl⟩
     rw [hrn] at R7
     rw [hkn, hrn]
     have HKN := hide hkn
     have HRN := hide hrn
     clear hb hr hkn hrn
     go_upto_region 14 with (fail)
     have hb : Below w23.heap.size w23 (w23.alloc (.cells #[.slice A7 n7 c7, .int .u64 rn.e, .slice S7 m7 d7, .int .u64 (rn.l.E : Int), .slice (B7 0) (p7 0) (f7 0), .slice (B7 1) (p7 1) (f7 1), .slice (B7 2) (p7 2) (f7 2)] 34)) := (Below.refl _ _).alloc (Nat.le_refl _) _
     have K12 := hide (RowAt.new w23 34 #[.slice A7 n7 c7, .int .u64 rn.e, .slice S7 m7 d7, .int .u64 (rn.l.E : Int), .slice (B7 0) (p7 0) (f7 0), .slice (B7 1) (p7 1) (f7 1), .slice (B7 2) (p7 2) (f7 2)])
     replace R7 := hide (R7.out.below hb)
     replace K2 := hide (K2.out.below hb)
     replace HB := hide (HB.out.trans (hb.mono HB.out.size))
     clear hb
     generalize (w23.alloc (.cells #[.slice A7 n7 c7, .int .u64 rn.e, .slice S7 m7 d7, .int .u64 (rn.l.E : Int), .slice (B7 0) (p7 0) (f7 0), .slice (B7 1) (p7 1) (f7 1), .slice (B7 2) (p7 2) (f7 2)] 34)) = w9 at *
     generalize w23.heap.size = g12 at *
     obtain ⟨gd, hgd⟩ : ∃ q, decide ((1 ≤ s0 ∧ s0 ≤ 8) ∧ (2 ≤ s1 ∧ s1 ≤ 128)) = q := ⟨_, rfl⟩
     go_cut [87] from 74 to 87 (fun v wx => v = .bool (!gd) ∧ Below w9.heap.size w9 wx)
     case first =>
      have K2y0 := row20 K2.out
      have K2y1 := row21 K2.out
      have K2l := K2.out.lt
      by_cases h1 : s0 < 1
      ·
       have e1 : decide (s0 < 1) = true := by simpa using h1
       have e2 : gd = false := by rw [← hgd]; simp; omega
       subst e2
       clear hgd h1
       go_wp2_with fail
       go_meet
       case rel => exact ⟨rfl, Below.refl _ _⟩
      ·
       have e1 : decide (s0 < 1) = false := by simpa using h1
       by_cases h8 : 8 < s0
       ·
        have e8 : decide (8 < s0) = true := by simpa using h8
        have e2 : gd = false := by rw [← hgd]; simp; omega
        subst e2
        clear hgd h1 h8
        go_wp2_with fail
        go_meet
        case rel => exact ⟨rfl, Below.refl _ _⟩
       ·
        have e8 : decide (8 < s0) = false := by simpa using h8
        obtain ⟨qm, hqm⟩ : ∃ q, decide (2 ≤ s1 ∧ s1 ≤ 128) = q := ⟨_, rfl⟩
        have e2 : gd = qm := by rw [← hgd, ← hqm]; simp; omega
        subst e2
        clear hgd h1 h8
        go_wp2_with fail
        with_reducible refine (rmany_any s1 w9 gd hqm).mono ?_
        rintro e wq ⟨rfl, rfl⟩
        clear hqm
        go_wp2_with fail
        go_meet
        case rel => exact ⟨rfl, Below.refl _ _⟩
     case rest =>
      rename_i K hK
      refine hK _ _ ?_
      clear hK K
      obtain ⟨wt, hwt⟩ : ∃ w, w = wc := ⟨_, rfl⟩
      subst hwt
      obtain ⟨rfl, hb⟩ := hcut
      replace R7 := hide (R7.out.below hb)
      replace K2 := hide (K2.out.below hb)
      replace K12 := hide (K12.out.below hb)
      replace HB := hide (HB.out.trans (hb.mono HB.out.size))
      clear hb
      cases gd with
      | false =>
       have hgn : ¬ ((1 ≤ s0 ∧ s0 ≤ 8) ∧ (2 ≤ s1 ∧ s1 ≤ 128)) := by simpa using hgd
       have hk2 : kn = 2 := by rw [← HKN.out]; unfold NewK; rw [if_neg hgn]
       have hr2 : rn = rec0 := by rw [← HRN.out]; unfold NewV; rw [if_neg hgn]
       have hn0 : 0 = n7 := by have h := R7.out.l0; rw [hr2] at h; exact h
       have hm0 : 0 = m7 := by have h := R7.out.ls; rw [hr2] at h; exact h
       subst hk2 hn0 hm0
       clear hgd hgn hr2
       obtain ⟨K12y0, K12y1, K12y2, K12y3, K12y4, K12y5, K12y6⟩ := row7 K12.out
       have K12l := K12.out.lt
       go_wp2_with fail
       clear K12y0 K12y1 K12y2 K12y3 K12y4 K12y5 K12y6 K12l
       go_ret
       exact ⟨rfl, HB.out⟩
      | true =>
       have hgn : (1 ≤ s0 ∧ s0 ≤ 8) ∧ (2 ≤ s1 ∧ s1 ≤ 128) := by simpa using hgd
       obtain ⟨gg, rfl⟩ : ∃ g : Nat, s0 = (g : Int) := ⟨s0.toNat, by omega⟩
       obtain ⟨nn, rfl⟩ : ∃ g : Nat, s1 = (g : Int) := ⟨s1.toNat, by omega⟩
       have hk2 : kn = 0 := by rw [← HKN.out]; unfold NewK; rw [if_pos hgn]
       have hr2 : newR gg nn = rn := by rw [← HRN.out]; unfold NewV; rw [if_pos hgn]; rfl
       subst hk2 hr2
       have HG8 := hide (show gg ≤ 8 from by omega)
       have HN8 := hide (show nn ≤ 128 from by omega)
       have HFN := hide (fit_new gg nn HG8.out HN8.out)
       clear hgd hgn HKN HRN
       go_upto_region 16 with (fail)
       have HSX := hide (fun (wX : World) (hgX : Below wt.heap.size wt wX) => show wX.cell? ⟨g12, 0, none⟩ = some (.slice A7 n7 c7) ∧ wX.cell? ⟨g12, 1, none⟩ = some (.int .u64 (newR gg nn).e) ∧ wX.cell? ⟨g12, 2, none⟩ = some (.slice S7 m7 d7) ∧ wX.cell? ⟨g12, 3, none⟩ = some (.int .u64 ((newR gg nn).l.E : Int)) ∧ wX.cell? ⟨g12, 4, none⟩ = some (.slice (B7 0) (p7 0) (f7 0)) ∧ wX.cell? ⟨g12, 5, none⟩ = some (.slice (B7 1) (p7 1) (f7 1)) ∧ wX.cell? ⟨g12, 6, none⟩ = some (.slice (B7 2) (p7 2) (f7 2)) ∧ wX.cell? ⟨(W.heap.size + 1 + 1), 0, none⟩ = some (.int .i64 (gg : Int)) ∧ wX.cell? ⟨(W.heap.size + 1 + 1), 1, none⟩ = some (.int .i64 (nn : Int)) ∧ g12 < wX.heap.size ∧ (W.heap.size + 1 + 1) < wX.heap.size from by
        obtain ⟨z0x0, z0x1, z0x2, z0x3, z0x4, z0x5, z0x6⟩ := row7 K12.out
        have z1x0 := row20 K2.out
        have z1x1 := row21 K2.out
        exact ⟨kept hgX z0x0, kept hgX z0x1, kept hgX z0x2, kept hgX z0x3, kept hgX z0x4, kept hgX z0x5, kept hgX z0x6, kept hgX z1x0, kept hgX z1x1, Nat.lt_of_lt_of_le K12.out.lt hgX.size, Nat.lt_of_lt_of_le K2.out.lt hgX.size⟩)
       have HX := hide ((Below.refl wt.heap.size wt).drew)
       refine wp_region_held_drew (S := fun wX => wX.cell? ⟨g12, 0, none⟩ = some (.slice A7 n7 c7) ∧ wX.cell? ⟨g12, 1, none⟩ = some (.int .u64 (newR gg nn).e) ∧ wX.cell? ⟨g12, 2, none⟩ = some (.slice S7 m7 d7) ∧ wX.cell? ⟨g12, 3, none⟩ = some (.int .u64 ((newR gg nn).l.E : Int)) ∧ wX.cell? ⟨g12, 4, none⟩ = some (.slice (B7 0) (p7 0) (f7 0)) ∧ wX.cell? ⟨g12, 5, none⟩ = some (.slice (B7 1) (p7 1) (f7 1)) ∧ wX.cell? ⟨g12, 6, none⟩ = some (.slice (B7 2) (p7 2) (f7 2)) ∧ wX.cell? ⟨(W.heap.size + 1 + 1), 0, none⟩ = some (.int .i64 (gg : Int)) ∧ wX.cell? ⟨(W.heap.size + 1 + 1), 1, none⟩ = some (.int .i64 (nn : Int)) ∧ g12 < wX.heap.size ∧ (W.heap.size + 1 + 1) < wX.heap.size) (by kernel_rfl) (HSX.out _ HX.out) (fun hHeld => ?_)
       clear hHeld
       have hS0 := HSX.out _ HX.out
       generalize wt.drew = wd at *
       (refine tkH (i := 0) (v := ?_) rfl (Or.inl ⟨by rfl, ?_⟩) ?_; rotate_left; (focus (intro w hSw; (try dsimp only at hSw); obtain ⟨a, b, c, d, e, f, g, h, i, j, k⟩ := hSw; go_simp; first | done | with_reducible rfl)); (try simp only [Act.put, Na, Nb, Nc, Nd, Nx, Nf]))
       (refine tkH (i := 1) (v := ?_) rfl (Or.inl ⟨by rfl, ?_⟩) ?_; rotate_left; (focus (intro w hSw; (try dsimp only at hSw); obtain ⟨a, b, c, d, e, f, g, h, i, j, k⟩ := hSw; go_simp; first | done | with_reducible rfl)); (try simp only [Act.put, Na, Nb, Nc, Nd, Nx, Nf]))
       (refine tkH (i := 2) (v := ?_) rfl (Or.inl ⟨by rfl, ?_⟩) ?_; rotate_left; (focus (intro w hSw; (try dsimp only at hSw); obtain ⟨a, b, c, d, e, f, g, h, i, j, k⟩ := hSw; go_simp; first | done | with_reducible rfl)); (try simp only [Act.put, Na, Nb, Nc, Nd, Nx, Nf]))
       (refine tkH (i := 3) (v := ?_) rfl (Or.inl ⟨by rfl, ?_⟩) ?_; rotate_left; (focus (intro w hSw; (try dsimp only at hSw); obtain ⟨a, b, c, d, e, f, g, h, i, j, k⟩ := hSw; go_simp; first | done | with_reducible rfl)); (try simp only [Act.put, Na, Nb, Nc, Nd, Nx, Nf]))
       (refine tkH (i := 4) (v := ?_) rfl (Or.inl ⟨by rfl, ?_⟩) ?_; rotate_left; (focus (intro w hSw; (try dsimp only at hSw); obtain ⟨a, b, c, d, e, f, g, h, i, j, k⟩ := hSw; go_simp; first | done | with_reducible rfl)); (try simp only [Act.put, Na, Nb, Nc, Nd, Nx, Nf]))
       (refine tkH (i := 5) (v := ?_) rfl (Or.inl ⟨by rfl, ?_⟩) ?_; rotate_left; (focus (intro w hSw; (try dsimp only at hSw); obtain ⟨a, b, c, d, e, f, g, h, i, j, k⟩ := hSw; go_simp; first | done | with_reducible rfl)); (try simp only [Act.put, Na, Nb, Nc, Nd, Nx, Nf]))
       (refine tkH (i := 6) (v := ?_) rfl (Or.inl ⟨by rfl, ?_⟩) ?_; rotate_left; (focus (intro w hSw; (try dsimp only at hSw); obtain ⟨a, b, c, d, e, f, g, h, i, j, k⟩ := hSw; go_simp; first | done | with_reducible rfl)); (try simp only [Act.put, Na, Nb, Nc, Nd, Nx, Nf]))
       (refine tkH (i := 7) (v := ?_) rfl (Or.inl ⟨by rfl, ?_⟩) ?_; rotate_left; (focus (intro w hSw; (try dsimp only at hSw); obtain ⟨a, b, c, d, e, f, g, h, i, j, k⟩ := hSw; go_simp; first | done | with_reducible rfl)); (try simp only [Act.put, Na, Nb, Nc, Nd, Nx, Nf]))
       refine wpAnyH_ready (rs := [8]) (by kernel_rfl) (by simp) ?_
       refine (AllReadyH.cons rfl (fun K0 hK0 => ?_) AllReadyH.nil)
       go_simp
       with_reducible refine (RNew_any gg nn wd HG8.out HN8.out).mono ?_
       rintro e wa ⟨⟨v5, rfl, hv⟩, hb⟩
       have HV := hide hv
       clear hv
       have hX2 := HX.out.trans (hb.mono HX.out.size)
       replace HX := hide hX2
       clear hX2 hS0 hb
       have hS0 := HSX.out _ HX.out
       refine hK0.out _ _ (hS0) (fun _ => ?_)
       clear hK0 K0
       (try simp only [Act.put, Na, Nb, Nc, Nd, Nx, Nf])
       refine wpAnyH_ready (rs := [9]) (by kernel_rfl) (by simp) ?_
       refine (AllReadyH.cons rfl (fun K1 hK1 => ?_) AllReadyH.nil)
       go_simp
       with_reducible refine (vRSame (R7.out.below HX.out).val HV.out HFN.out.fit HFN.out.fit true (same_refl _)).mono ?_
       rintro e wb ⟨rfl, hb⟩
       have hX2 := HX.out.trans (hb.mono HX.out.size)
       replace HX := hide hX2
       clear hX2 hS0 hb
       have hS0 := HSX.out _ HX.out
       refine hK1.out _ _ (hS0) (fun _ => ?_)
       clear hK1 K1
       (try simp only [Act.put, Na, Nb, Nc, Nd, Nx, Nf])
       (refine tkH (i := 10) (v := ?_) rfl (Or.inl ⟨by rfl, ?_⟩) ?_; rotate_left; (focus (intro w hSw; (try dsimp only at hSw); obtain ⟨a, b, c, d, e, f, g, h, i, j, k⟩ := hSw; go_simp; first | done | with_reducible rfl)); (try simp only [Act.put, Na, Nb, Nc, Nd, Nx, Nf]))
       refine wpAnyH_ready (rs := [11]) (by kernel_rfl) (by simp) ?_
       refine (AllReadyH.cons rfl (fun K2 hK2 => ?_) AllReadyH.nil)
       go_simp
       refine hK2.out _ _ (hS0) (fun _ => ?_)
       clear hK2 K2
       (try simp only [Act.put, Na, Nb, Nc, Nd, Nx, Nf])
       refine wpAnyH_done (by kernel_rfl) ?_ _
       go_wp2_with fail
       go_ret
       exact ⟨rfl, HB.out.trans (HX.out.mono HB.out.size)⟩
end Go.Proofs.YtkicidopjihjmaaGreat
namespace Go.Proofs.YtkicidopjihjmaaGreat
open Go Go.RowKit Go.WideShapes Go.ChangeShapes Go.ChangeAt Go.Joins
set_option linter.unusedVariables false
set_option linter.unusedSimpArgs false
set_option maxRecDepth 100000 in
theorem epochMay_lifted (os : Os) (started : os.Started) (H : Type) (enc : TypeId × Value → H) :
  ReturnsInHanded {} Tryz.checked os 7 .any (Rows.epochMaySpec.pre6 enc Tryz.prog Tryz.f7 Rows.epochMayRow.domain false) (Rows.epochMaySpec.post enc Tryz.prog Tryz.f7 false true false false) := by
 refine returnsInHanded_of_change (C := Tryz.checked) own_knob started (by kernel_rfl) Tryz.func7
  (ChangeSpec.witness6 (enc := enc) (C := Tryz.checked) false ⟨#[], #[.agg #[.slice none 0 0, .int .u64 0, .slice none 0 0, .int .u64 0, .slice none 0 0, .slice none 0 0, .slice none 0 0], .agg #[.slice none 0 0, .int .u64 0, .slice none 0 0, .int .u64 0, .slice none 0 0, .slice none 0 0, .slice none 0 0], .agg #[.int .i64 0, .int .i64 0]], []⟩ 8 (by kernel_rfl) (by kernel_rfl) (by kernel_rfl) (by kernel_rfl)) ?_
 intro W base args ds gs before hval0 hW hcnd _
 have hval : ∀ (j : Nat) t v, Tryz.f7.params[j]? = some t → args[j]? = some v → Value.okWide Tryz.prog W .any base t v := hval0
 have hW' := hW
 obtain ⟨p, q, hA0, hV, rfl, hfz, hnd⟩ := hW
 have hA : DataW.TrodAll enc Tryz.prog W 0 (fun _ => true) true Tryz.f7.params.toList args.toList ds p := hA0
 rw [Tryz.params7] at hA hval
 obtain ⟨v0, v1, v2, d0, d1, d2, p0, p1, p2, rfl, rfl, rfl, h0, h1, h2⟩ := trodAll_three hA
 obtain ⟨x0, hx0, hn0⟩ := open_rec (hval 0 34 v0 rfl rfl) h0
 obtain ⟨x1, hx1, hn1⟩ := open_rec (hval 1 34 v1 rfl rfl) h1
 obtain ⟨a2, b2, rfl, ha2, hb2⟩ := open_pair (hval 2 68 v2 rfl rfl) h2
 clear hA0 hval0
 refine (May_walk v0 v1 x0 x1 a2 b2 W hx0 hn0 hx1 hn1 ha2 hb2).mono fun e W' ⟨he, hb⟩ => ?_
 subst he
 exact ⟨_, rfl, law_done laid_out hW' rfl (fun ds' h => by match ds', h with | [x, y, z], _ => rfl) rfl (by rw [Tryz.params7]; decide +kernel) hb (fun _ _ _ => trodAll_mk1 (shut_bool Tryz.underlying4 true)) (ok_one (by kernel_rfl) rfl (okWide_bool_mk Tryz.underlying4 true))⟩
theorem epochMay_holds : Rows.EpochMaySaid :=
 OpenClaim.holds_of_wide 7 Tryz.f7 rfl rfl rfl rfl rfl rfl rfl ⟨rfl, rfl, rfl, rfl, rfl⟩ rfl rfl rfl rfl rfl (by kernel_rfl) Tryz.func7 (by kernel_rfl)
  (of_decide_eq_true (by kernel_rfl)) (by unfold Func.isWrapper; first | (rw [if_pos (by decide +kernel)]; kernel_rfl) | (rw [if_neg (by decide +kernel)]; exact ⟨rfl, rfl⟩))
  (fun os started H enc _ => epochMay_lifted os started H enc)
end Go.Proofs.YtkicidopjihjmaaGreat
