/-
  EpochAll answers true for every reclaim, and leaves its arguments as they were. No condition.
-/
import Derived.Test.YtkicidopjihjmaaGreatZAllF
set_option linter.unusedSimpArgs false
set_option linter.unusedVariables false
set_option linter.unusedSimpArgs false
set_option linter.unusedVariables false
namespace Go.Proofs.YtkicidopjihjmaaGreat
open Go Go.RowKit
attribute [local go_sem] via_cell via_frozen
structure AtB (W w : World) (g : Nat) (r : Rec) : Prop where
 box : BoxR w g r
 below : Below W.heap.size W w
 lo : W.heap.size ≤ g
theorem AtB.keep {W w w' : World} {g : Nat} {r : Rec} (h : AtB W w g r) (hb : Below w.heap.size w w') : AtB W w' g r := ⟨h.box.below hb, h.below.trans (hb.mono h.below.size), h.lo⟩
theorem AtB.put {W w ww : World} {g : Nat} {r r' : Rec} {A0 As : Option Addr} {n0 c0 ns cs : Nat} {A2 : Nat → Option Addr} {n2 c2 : Nat → Nat} {F : Nat → Prop} (h : AtB W w g r) (hl : LaidF g w ww) (hrow : RowAt ww g 34 (recC r'.e r'.l.E A0 As n0 c0 ns cs A2 n2 c2)) (hr : RecF F w A0 As n0 c0 ns cs A2 n2 c2 r') (hF : ∀ j, F j → j ≠ g) : AtB W ww g r' :=
 ⟨⟨A0, As, n0, c0, ns, cs, A2, n2, c2, hrow, (hr.stay (hl.stay (fun h => hF g h rfl))).up (fun j hj _ => hF j hj)⟩, h.below.trans (hl.below.mono h.lo), h.lo⟩
def OutB (base : Nat) (wx : World) (g : Nat) (r : Rec) : Prop := base ≤ g ∧ ∃ A0 As n0 c0 ns cs A n c, RowAt wx g 34 (recC r.e r.l.E A0 As n0 c0 ns cs A n c) ∧ RecF (From base) wx A0 As n0 c0 ns cs A n c r
theorem Rd.laid {w w' : World} {B sz n g : Nat} {A : Option Addr} {xs : List Value} (h : Rd w B sz A n xs) (hne : 0 < n → ∀ p, A = some p → p.block ≠ g) (hl : LaidF g w w') : Rd w' B sz A n xs := by
 refine ⟨h.1, fun hn => ?_⟩
 obtain ⟨b, o, rfl, hb, hc⟩ := h.2 hn
 exact ⟨b, o, rfl, hb, fun j u hu => (cell_of_heap (hl.block b (hne hn _ rfl))).trans (hc j u hu)⟩
theorem AtB.of {W w ww : World} {g : Nat} {r' : Rec} {A0 As : Option Addr} {n0 c0 ns cs : Nat} {A2 : Nat → Option Addr} {n2 c2 : Nat → Nat} {F : Nat → Prop} (hbel : Below W.heap.size W w) (hlo : W.heap.size ≤ g) (hl : LaidF g w ww) (hrow : RowAt ww g 34 (recC r'.e r'.l.E A0 As n0 c0 ns cs A2 n2 c2)) (hr : RecF F w A0 As n0 c0 ns cs A2 n2 c2 r') (hF : ∀ j, F j → j ≠ g) : AtB W ww g r' :=
 ⟨⟨A0, As, n0, c0, ns, cs, A2, n2, c2, hrow, (hr.stay (hl.stay (fun h => hF g h rfl))).up (fun j hj _ => hF j hj)⟩, hbel.trans (hl.below.mono hlo), hlo⟩
theorem many_len {r : Rec} (h : WfR r) (n : Nat) : (manyT r n).2.length ≤ 4096 := by
 have h1 := congrArg List.length (many_held h n)
 rw [List.length_append, h.ok.len] at h1
 have h2 := ents_length r.sl 2
 have h3 := h.fit.sl
 omega
theorem Rd.firstE {w : World} {B n k : Nat} {A : Option Addr} {X : List Ent} (h : Rd w B 2 A n (Cs encE X)) (hx : X.length = n) (hk : k ≤ n) : Rd w B 2 A k (Cs encE (X.take k)) := by
 obtain ⟨h1, h2⟩ := h
 have hl : (X.take k).length = k := by rw [List.length_take]; omega
 refine ⟨by rw [Cs_length encE_len, hl], fun h0 => ?_⟩
 obtain ⟨b, o, hA, hb, hc⟩ := h2 (by omega)
 refine ⟨b, o, hA, hb, fun j u hj => hc j u ?_⟩
 have hcat : Cs encE X = Cs encE (X.take k) ++ Cs encE (X.drop k) := by rw [← Cs_append, List.take_append_drop]
 rw [hcat]
 have hlt : j < (Cs encE (X.take k)).length := by
  rcases Nat.lt_or_ge j (Cs encE (X.take k)).length with h | h
  ·
   exact h
  ·
   rw [List.getElem?_eq_none h] at hj; cases hj
 rw [List.getElem?_append_left hlt]; exact hj
theorem nodup_take {L : List Ent} (h : L.Nodup) {j : Nat} (hj : j < L.length) : L[j] ∉ L.take j := by
 have h1 : L.take j ++ L.drop j = L := List.take_append_drop j L
 rw [← h1, List.nodup_append] at h
 intro hm
 refine h.2.2 _ hm _ ?_ rfl
 rw [List.drop_eq_getElem_cons hj]
 exact List.mem_cons_self ..
theorem own_caps {w : World} {base n c : Nat} {A : Option Addr} {xs : List Value} (h : w.ownsRow base 41 2 (.slice A n c) n xs) : n ≤ c ∧ c ≤ 9223372036854775807 := by
 obtain ⟨A7, c7, he, h1, h2⟩ := own_form2 h
 injection he with e1 e2 e3
 subst e3
 exact ⟨h1, h2⟩
structure TryL (W wv w : World) (g m8 : Nat) (A8 : Option Addr) (L0 : List Ent) (r : Rec) (k : Nat) (Ax : Option Addr) (na ca : Nat) : Prop where
 box : AtB W w g (manyT r k).1
 own : w.ownsRow wv.heap.size 41 2 (.slice Ax na ca) na (Cs encE (manyT r k).2)
 len : (manyT r k).2.length = na
 live : Rd w wv.heap.size 2 A8 m8 (Cs encE L0)
 lm : L0.length = m8
 size : wv.heap.size ≤ w.heap.size
 glt : g < wv.heap.size
theorem TryL.keep {W wv w w' : World} {g m8 : Nat} {A8 : Option Addr} {L0 : List Ent} {r : Rec} {k : Nat} {Ax : Option Addr} {na ca : Nat} (h : TryL W wv w g m8 A8 L0 r k Ax na ca) (hb : Below w.heap.size w w') : TryL W wv w' g m8 A8 L0 r k Ax na ca :=
 ⟨h.box.keep hb, own_keepB h.own hb, h.len, h.live.below (hb.mono h.size), h.lm, Nat.le_trans h.size hb.size, h.glt⟩
set_option maxRecDepth 20000 in
set_option maxHeartbeats 16000000 in
theorem All_walk (v : Value) (x : Rec) (W : World) (hv : RecOut (fun _ => True) W v x) (hu : NumR x) : Calls Tryz.prog 4 #[v] W fun e W' => e = .returned (.bool true) ∧ Below W.heap.size W W' := by
 have HFA := hide (FitV.mk hu.cut.1 hu.cut.2)
 obtain ⟨A0, S0, n0, c0, m0, d0, B0, p0, f0, rfl, hr⟩ := hv
 have R0 := hide hr
 have HB := hide (Below.refl W.heap.size W)
 clear hr hu
 obtain ⟨a, ha⟩ : ∃ a, cutR x = a := ⟨_, rfl⟩
 rw [ha] at HFA
 go_enter Tryz.func4, Tryz.ntmps4
 go_wp2_with fail
 have hb : Below W.heap.size W (W.alloc (.cells #[.slice A0 n0 c0, .int .u64 x.e, .slice S0 m0 d0, .int .u64 (x.l.E : Int), .slice (B0 0) (p0 0) (f0 0), .slice (B0 1) (p0 1) (f0 1), .slice (B0 2) (p0 2) (f0 2)] 34)) := (Below.refl _ _).alloc (Nat.le_refl _) _
 have hk := RowAt.new W 34 #[.slice A0 n0 c0, .int .u64 x.e, .slice S0 m0 d0, .int .u64 (x.l.E : Int), .slice (B0 0) (p0 0) (f0 0), .slice (B0 1) (p0 1) (f0 1), .slice (B0 2) (p0 2) (f0 2)]
 have hGB : W.heap.size ≤ W.heap.size := Nat.le_refl _
 replace R0 := hide (R0.out.below hb)
 replace HB := hide (HB.out.trans (hb.mono HB.out.size))
 have K0 := hide hk
 have L0 := hide hGB
 clear hb hk hGB
 generalize (W.alloc (.cells #[.slice A0 n0 c0, .int .u64 x.e, .slice S0 m0 d0, .int .u64 (x.l.E : Int), .slice (B0 0) (p0 0) (f0 0), .slice (B0 1) (p0 1) (f0 1), .slice (B0 2) (p0 2) (f0 2)] 34)) = w1 at *
 with_reducible refine (wakes_any w1).mono ?_
 rintro e w2 ⟨rfl, hb⟩
 replace R0 := hide (R0.out.below hb)
 replace K0 := hide (K0.out.below hb)
 replace HB := hide (HB.out.trans (hb.mono HB.out.size))
 clear hb
 obtain ⟨K0y0, K0y1, K0y2, K0y3, K0y4, K0y5, K0y6⟩ := row7 K0.out
 have K0l := K0.out.lt
 go_wp2_with fail
 clear K0y0 K0y1 K0y2 K0y3 K0y4 K0y5 K0y6 K0l
 with_reducible refine (vOwn R0.out.val).mono ?_
 rintro e w3 ⟨⟨v, rfl, hv⟩, hb⟩
 replace R0 := hide (R0.out.below hb)
 replace K0 := hide (K0.out.below hb)
 replace HB := hide (HB.out.trans (hb.mono HB.out.size))
 obtain ⟨A1, S1, n1, c1, m1, d1, B1, p1, f1, rfl, hr⟩ := hv
 rw [ha] at hr ⊢
 have R1 := hide (hr.up (G := fun _ => True) (fun _ _ _ => trivial))
 clear hb hr R0 K0 L0
 have R1b := hide (R1.out.up (G := fun j => j ≠ w3.heap.size) (fun j _ hl => by show j ≠ _; omega))
 clear R1
 go_upto_region 4 with (fail)
 have hb : Below w3.heap.size w3 (w3.alloc (.cells #[.slice A1 n1 c1, .int .u64 a.e, .slice S1 m1 d1, .int .u64 (a.l.E : Int), .slice (B1 0) (p1 0) (f1 0), .slice (B1 1) (p1 1) (f1 1), .slice (B1 2) (p1 2) (f1 2)] 34)) := (Below.refl _ _).alloc (Nat.le_refl _) _
 have hk := RowAt.new w3 34 #[.slice A1 n1 c1, .int .u64 a.e, .slice S1 m1 d1, .int .u64 (a.l.E : Int), .slice (B1 0) (p1 0) (f1 0), .slice (B1 1) (p1 1) (f1 1), .slice (B1 2) (p1 2) (f1 2)]
 have hGB : W.heap.size ≤ w3.heap.size := HB.out.size
 replace R1b := hide (R1b.out.below hb)
 replace HB := hide (HB.out.trans (hb.mono HB.out.size))
 have K1 := hide hk
 have L1 := hide hGB
 clear hb hk hGB
 generalize (w3.alloc (.cells #[.slice A1 n1 c1, .int .u64 a.e, .slice S1 m1 d1, .int .u64 (a.l.E : Int), .slice (B1 0) (p1 0) (f1 0), .slice (B1 1) (p1 1) (f1 1), .slice (B1 2) (p1 2) (f1 2)] 34)) = w4 at *
 generalize w3.heap.size = g1 at *
 obtain ⟨K1y0, K1y1, K1y2, K1y3, K1y4, K1y5, K1y6⟩ := row7 K1.out
 have K1l := K1.out.lt
 go_wp2_with fail
 clear K1y0 K1y1 K1y2 K1y3 K1y4 K1y5 K1y6 K1l
 rcases Bool.eq_false_or_eq_true a.ok with ho | ho
 case inr =>
  with_reducible refine (vCheck R1b.out.val HFA.out.fit 250 (by simp [ho])).mono ?_
  rintro e w5 ⟨rfl, hb⟩
  replace R1b := hide (R1b.out.below hb)
  replace K1 := hide (K1.out.below hb)
  replace HB := hide (HB.out.trans (hb.mono HB.out.size))
  clear hb
  obtain ⟨K1y0, K1y1, K1y2, K1y3, K1y4, K1y5, K1y6⟩ := row7 K1.out
  have K1l := K1.out.lt
  go_wp2_with fail
  clear K1y0 K1y1 K1y2 K1y3 K1y4 K1y5 K1y6 K1l
  with_reducible refine (vWaits R1b.out.val HFA.out.fit 0 (by unfold waitsR; simp [ho])).mono ?_
  rintro e w6 ⟨rfl, hb⟩
  replace R1b := hide (R1b.out.below hb)
  replace K1 := hide (K1.out.below hb)
  replace HB := hide (HB.out.trans (hb.mono HB.out.size))
  clear hb
  go_wp2_with fail
  go_ret
  exact ⟨rfl, HB.out⟩
 case inl =>
  have HWA := hide (show WfR a from ⟨ok_iff.1 ho, fun s hs => (HFA.out.fit.s s hs).1, HFA.out.gn⟩)
  with_reducible refine (vCheck R1b.out.val HFA.out.fit 0 (by simp [ho])).mono ?_
  rintro e w5 ⟨rfl, hb⟩
  replace R1b := hide (R1b.out.below hb)
  replace K1 := hide (K1.out.below hb)
  replace HB := hide (HB.out.trans (hb.mono HB.out.size))
  clear hb
  clear ho
  have HMS := hide (show m1 ≤ 8 from by rw [← R1b.out.ls]; exact (Pn.pOk_out HWA.out.ok.pn).2.1)
  have HLS := hide R1b.out.ls
  obtain ⟨K1y0, K1y1, K1y2, K1y3, K1y4, K1y5, K1y6⟩ := row7 K1.out
  have K1l := K1.out.lt
  go_upto_region 7 with (fail)
  clear K1y0 K1y1 K1y2 K1y3 K1y4 K1y5 K1y6 K1l
  have HJ := hide (show AtB W w5 g1 a from ⟨⟨_, _, _, _, _, _, _, _, _, K1.out, R1b.out⟩, HB.out, L1.out⟩)
  have HO := hide (show OffP a a 0 from ⟨HWA.out, rfl, rfl, rfl, rfl, fun j hj => absurd hj (by omega)⟩)
  clear R1b K1 HB L1
  obtain ⟨wl, hwl⟩ : ∃ w, w = w5 := ⟨_, rfl⟩
  subst hwl
  go_loopw [33] (fun i wr => ∃ (k : Nat) (r1 : Rec), k ≤ m1 ∧ i = .int .i64 k ∧ AtB W wr g1 r1 ∧ OffP a r1 k) (fun i _ => m1 - (intOf i).toNat)
  case atStart => exact ⟨0, a, Nat.zero_le _, rfl, HJ.out, HO.out⟩
  case round =>
   obtain ⟨k, r1, hk, rfl, hst, hof⟩ := hrel
   have HST := hide hst
   have HOF := hide hof
   clear hst hof HJ HO
   by_cases hlt : k < m1
   case pos =>
    have hki : (k : Int) < (m1 : Int) := by omega
    have HK := hide hlt
    obtain ⟨r2, y, k2, hT⟩ : ∃ r y k2, doR r1 ⟨2, (k : Int), 0, (0, 0)⟩ = (r, y, k2) := ⟨_, _, _, rfl⟩
    have HT := hide hT
    have HFV := hide HOF.out.wf.fitV
    have hkl : k < a.S.length := by rw [HLS.out]; exact hlt
    have HSP := hide (HOF.out.step hkl hT)
    clear hkl hT hk HOF
    go_upto_region 9 with (fail)
    obtain ⟨w0, hw0⟩ : ∃ w, w = wr := ⟨_, rfl⟩
    subst hw0
    have HG1 := hide HST.out.box.lt
    go_cut [5, 7] from 36 to 44 (fun s5 s7 wx => ∃ g5, s5 = .pointer (some ⟨g5, 0, none⟩) ∧ s7 = .int .i64 k2 ∧ OutB w0.heap.size wx g5 r2 ∧ Below w0.heap.size w0 wx)
    case first =>
     obtain ⟨A2, S2, n2, c2, m2, d2, B2, p2, f2, hrow, hrec⟩ := HST.out.box
     have HRW := hide hrow
     have HRC := hide hrec
     clear hrow hrec
     have HSX := hide (fun (wX : World) (hgX : Below w0.heap.size w0 wX) => show wX.cell? ⟨g1, 0, none⟩ = some (.slice A2 n2 c2) ∧ wX.cell? ⟨g1, 1, none⟩ = some (.int .u64 r1.e) ∧ wX.cell? ⟨g1, 2, none⟩ = some (.slice S2 m2 d2) ∧ wX.cell? ⟨g1, 3, none⟩ = some (.int .u64 (r1.l.E : Int)) ∧ wX.cell? ⟨g1, 4, none⟩ = some (.slice (B2 0) (p2 0) (f2 0)) ∧ wX.cell? ⟨g1, 5, none⟩ = some (.slice (B2 1) (p2 1) (f2 1)) ∧ wX.cell? ⟨g1, 6, none⟩ = some (.slice (B2 2) (p2 2) (f2 2)) ∧ g1 < wX.heap.size from by
      obtain ⟨z0, z1, z2, z3, z4, z5, z6⟩ := row7 HRW.out
      exact ⟨kept hgX z0, kept hgX z1, kept hgX z2, kept hgX z3, kept hgX z4, kept hgX z5, kept hgX z6, Nat.lt_of_lt_of_le HRW.out.lt hgX.size⟩)
     have HX := hide ((Below.refl w0.heap.size w0).drew)
     refine wp_region_held_drew (S := fun wX => wX.cell? ⟨g1, 0, none⟩ = some (.slice A2 n2 c2) ∧ wX.cell? ⟨g1, 1, none⟩ = some (.int .u64 r1.e) ∧ wX.cell? ⟨g1, 2, none⟩ = some (.slice S2 m2 d2) ∧ wX.cell? ⟨g1, 3, none⟩ = some (.int .u64 (r1.l.E : Int)) ∧ wX.cell? ⟨g1, 4, none⟩ = some (.slice (B2 0) (p2 0) (f2 0)) ∧ wX.cell? ⟨g1, 5, none⟩ = some (.slice (B2 1) (p2 1) (f2 1)) ∧ wX.cell? ⟨g1, 6, none⟩ = some (.slice (B2 2) (p2 2) (f2 2)) ∧ g1 < wX.heap.size) (by kernel_rfl) (HSX.out _ HX.out) (fun hHeld => ?_)
     clear hHeld
     have hS0 := HSX.out _ HX.out
     generalize w0.drew = wd at *
     (refine wpAnyH_take (i := 0) (v := ?_) rfl (by kernel_rfl) (by kernel_rfl) (by kernel_rfl) (fun _ _ _ h => h) (Or.inl ⟨by rfl, ?_⟩) (by assumption) ?_; rotate_left; (focus (intro w hSw; (try dsimp only at hSw); obtain ⟨kf0, kf1, kf2, kf3, kf4, kf5, kf6, kf7⟩ := hSw; go_simp; first | done | with_reducible rfl)); (try simp only [Act.put, List.getElem_toArray, List.getElem_cons_succ, List.getElem_cons_zero, List.setIfInBounds_toArray, List.set_cons_zero, List.set_cons_succ]))
     (refine wpAnyH_take (i := 1) (v := ?_) rfl (by kernel_rfl) (by kernel_rfl) (by kernel_rfl) (fun _ _ _ h => h) (Or.inl ⟨by rfl, ?_⟩) (by assumption) ?_; rotate_left; (focus (intro w hSw; (try dsimp only at hSw); obtain ⟨kf0, kf1, kf2, kf3, kf4, kf5, kf6, kf7⟩ := hSw; go_simp; first | done | with_reducible rfl)); (try simp only [Act.put, List.getElem_toArray, List.getElem_cons_succ, List.getElem_cons_zero, List.setIfInBounds_toArray, List.set_cons_zero, List.set_cons_succ]))
     (refine wpAnyH_take (i := 2) (v := ?_) rfl (by kernel_rfl) (by kernel_rfl) (by kernel_rfl) (fun _ _ _ h => h) (Or.inl ⟨by rfl, ?_⟩) (by assumption) ?_; rotate_left; (focus (intro w hSw; (try dsimp only at hSw); obtain ⟨kf0, kf1, kf2, kf3, kf4, kf5, kf6, kf7⟩ := hSw; go_simp; first | done | with_reducible rfl)); (try simp only [Act.put, List.getElem_toArray, List.getElem_cons_succ, List.getElem_cons_zero, List.setIfInBounds_toArray, List.set_cons_zero, List.set_cons_succ]))
     refine wpAnyH_ready (rs := [3, 9, 10]) (by kernel_rfl) (by simp) ?_
     refine (AllReadyH.cons rfl (fun K0 hK0 => ?_) (AllReadyH.cons rfl (fun K1 hK1 => ?_) (AllReadyH.cons rfl (fun K2 hK2 => ?_) AllReadyH.nil)))
     ·
      go_simp
      with_reducible refine (op_any 2 (k : Int) 0 0 wd).mono ?_
      rintro e wo0 ⟨rfl, hb⟩
      have hX2 := HX.out.trans (hb.mono HX.out.size)
      replace HX := hide hX2
      clear hX2 hS0 hb
      have hS0 := HSX.out _ HX.out
      refine hK0.out _ _ (hS0) (fun _ => ?_)
      clear hK0 K0
      (try simp only [Act.put, List.getElem_toArray, List.getElem_cons_succ, List.getElem_cons_zero, List.setIfInBounds_toArray, List.set_cons_zero, List.set_cons_succ])
      refine wpAnyH_ready (rs := [4, 9, 10]) (by kernel_rfl) (by simp) ?_
      refine (AllReadyH.cons rfl (fun K3 hK3 => ?_) (AllReadyH.cons rfl (fun K4 hK4 => ?_) (AllReadyH.cons rfl (fun K5 hK5 => ?_) AllReadyH.nil)))
      ·
       go_simp
       with_reducible refine (doAs (HRC.out.below HX.out).val HFV.out 2 (k : Int) 0 0 0 (Int.le_refl _) u64z HT.out).mono ?_
       rintro e wo1 ⟨⟨v5, rfl, hv⟩, hb⟩
       obtain ⟨A5, S5, n5, c5, m5, d5, B5, p5, f5, rfl, hr⟩ := hv
       have hxs := HX.out.size
       have HV := hide (hr.up (G := fun j => w0.heap.size ≤ j) (fun j (hj : wo0.heap.size ≤ j) _ => by show w0.heap.size ≤ j; omega))
       clear hr hxs
       have hX2 := HX.out.trans (hb.mono HX.out.size)
       replace HX := hide hX2
       clear hX2 hS0 hb
       have hS0 := HSX.out _ HX.out
       refine hK3.out _ _ (hS0) (fun _ => ?_)
       clear hK3 K3
       (try simp only [Act.put, List.getElem_toArray, List.getElem_cons_succ, List.getElem_cons_zero, List.setIfInBounds_toArray, List.set_cons_zero, List.set_cons_succ])
       (refine wpAnyH_take (i := 5) (v := ?_) rfl (by kernel_rfl) (by kernel_rfl) (by kernel_rfl) (fun _ _ _ h => h) (Or.inl ⟨by rfl, ?_⟩) (by assumption) ?_; rotate_left; (focus (intro w hSw; (try dsimp only at hSw); obtain ⟨kf0, kf1, kf2, kf3, kf4, kf5, kf6, kf7⟩ := hSw; go_simp; first | done | with_reducible rfl)); (try simp only [Act.put, List.getElem_toArray, List.getElem_cons_succ, List.getElem_cons_zero, List.setIfInBounds_toArray, List.set_cons_zero, List.set_cons_succ]))
       (refine wpAnyH_take (i := 6) (v := ?_) rfl (by kernel_rfl) (by kernel_rfl) (by kernel_rfl) (fun _ _ _ h => h) (Or.inl ⟨by rfl, ?_⟩) (by assumption) ?_; rotate_left; (focus (intro w hSw; (try dsimp only at hSw); obtain ⟨kf0, kf1, kf2, kf3, kf4, kf5, kf6, kf7⟩ := hSw; go_simp; first | done | with_reducible rfl)); (try simp only [Act.put, List.getElem_toArray, List.getElem_cons_succ, List.getElem_cons_zero, List.setIfInBounds_toArray, List.set_cons_zero, List.set_cons_succ]))
       (refine wpAnyH_take (i := 7) (v := ?_) rfl (by kernel_rfl) (by kernel_rfl) (by kernel_rfl) (fun _ _ _ h => h) (Or.inl ⟨by rfl, ?_⟩) (by assumption) ?_; rotate_left; (focus (intro w hSw; (try dsimp only at hSw); obtain ⟨kf0, kf1, kf2, kf3, kf4, kf5, kf6, kf7⟩ := hSw; go_simp; first | done | with_reducible rfl)); (try simp only [Act.put, List.getElem_toArray, List.getElem_cons_succ, List.getElem_cons_zero, List.setIfInBounds_toArray, List.set_cons_zero, List.set_cons_succ]))
       (refine wpAnyH_take (i := 8) (v := ?_) rfl (by kernel_rfl) (by kernel_rfl) (by kernel_rfl) (fun _ _ _ h => h) (Or.inl ⟨by rfl, ?_⟩) (by assumption) ?_; rotate_left; (focus (intro w hSw; (try dsimp only at hSw); obtain ⟨kf0, kf1, kf2, kf3, kf4, kf5, kf6, kf7⟩ := hSw; go_simp; first | done | with_reducible rfl)); (try simp only [Act.put, List.getElem_toArray, List.getElem_cons_succ, List.getElem_cons_zero, List.setIfInBounds_toArray, List.set_cons_zero, List.set_cons_succ]))
       refine wpAnyH_ready (rs := [9, 10]) (by kernel_rfl) (by simp) ?_
       refine (AllReadyH.cons rfl (fun K6 hK6 => ?_) (AllReadyH.cons rfl (fun K7 hK7 => ?_) AllReadyH.nil))
       ·
        go_simp
        have hb : Below wo1.heap.size wo1 (wo1.alloc (.cells #[.slice none 0 0, .int .u64 0, .slice none 0 0, .int .u64 0, .slice none 0 0, .slice none 0 0, .slice none 0 0] 34)) := (Below.refl _ _).alloc (Nat.le_refl _) _
        have hre := RowAt.new wo1 34 #[.slice none 0 0, .int .u64 0, .slice none 0 0, .int .u64 0, .slice none 0 0, .slice none 0 0, .slice none 0 0]
        have HVN := hide (show RecF (fun j => w0.heap.size ≤ j ∧ j ≠ wo1.heap.size) (wo1.alloc (.cells #[.slice none 0 0, .int .u64 0, .slice none 0 0, .int .u64 0, .slice none 0 0, .slice none 0 0, .slice none 0 0] 34)) A5 S5 n5 c5 m5 d5 B5 p5 f5 r2 from (HV.out.up (G := fun j => w0.heap.size ≤ j ∧ j ≠ wo1.heap.size) (fun j (hj : w0.heap.size ≤ j) hl => by omega)).below hb)
        clear HV
        obtain ⟨ga, hge⟩ : ∃ g, wo1.heap.size = g := ⟨_, rfl⟩
        have HGA := hide (show w0.heap.size ≤ ga from by rw [← hge]; exact HX.out.size)
        have hX2 := HX.out.trans (hb.mono HX.out.size)
        replace HX := hide hX2
        rw [hge] at hre HVN ⊢
        have HRA := hide hre
        have HV := HVN
        clear HVN
        clear hX2 hS0 hre hb hge
        have hS0 := HSX.out _ HX.out
        generalize (wo1.alloc (.cells #[.slice none 0 0, .int .u64 0, .slice none 0 0, .int .u64 0, .slice none 0 0, .slice none 0 0, .slice none 0 0] 34)) = wa2 at *
        refine hK6.out _ _ (hS0) (fun _ => ?_)
        clear hK6 K6
        (try simp only [Act.put, List.getElem_toArray, List.getElem_cons_succ, List.getElem_cons_zero, List.setIfInBounds_toArray, List.set_cons_zero, List.set_cons_succ])
        refine wpAnyH_ready (rs := [10]) (by kernel_rfl) (by simp) ?_
        refine (AllReadyH.cons rfl (fun K8 hK8 => ?_) AllReadyH.nil)
        go_simp
        have hb : Below wa2.heap.size wa2 (wa2.alloc (.cells #[.int .i64 0, .int .u64 0] 41)) := (Below.refl _ _).alloc (Nat.le_refl _) _
        have hre := RowAt.new wa2 41 #[.int .i64 0, .int .u64 0]
        replace HRA := hide (HRA.out.below hb)
        have HVN := hide (show RecF (fun j => w0.heap.size ≤ j ∧ j ≠ ga ∧ j ≠ wa2.heap.size) (wa2.alloc (.cells #[.int .i64 0, .int .u64 0] 41)) A5 S5 n5 c5 m5 d5 B5 p5 f5 r2 from (HV.out.up (G := fun j => w0.heap.size ≤ j ∧ j ≠ ga ∧ j ≠ wa2.heap.size) (fun j (hj : w0.heap.size ≤ j ∧ j ≠ ga) hl => by omega)).below hb)
        clear HV
        obtain ⟨gb, hge⟩ : ∃ g, wa2.heap.size = g := ⟨_, rfl⟩
        have HGB := hide (show w0.heap.size ≤ gb from by rw [← hge]; exact HX.out.size)
        have hX2 := HX.out.trans (hb.mono HX.out.size)
        replace HX := hide hX2
        rw [hge] at hre HVN ⊢
        have HRB := hide hre
        have HV := HVN
        clear HVN
        clear hX2 hS0 hre hb hge
        have hS0 := HSX.out _ HX.out
        generalize (wa2.alloc (.cells #[.int .i64 0, .int .u64 0] 41)) = wa3 at *
        refine hK8.out _ _ (hS0) (fun _ => ?_)
        clear hK8 K8
        (try simp only [Act.put, List.getElem_toArray, List.getElem_cons_succ, List.getElem_cons_zero, List.setIfInBounds_toArray, List.set_cons_zero, List.set_cons_succ])
        refine wpAnyH_ready (rs := [11]) (by kernel_rfl) (by simp) ?_
        refine (AllReadyH.cons rfl (fun K9 hK9 => ?_) AllReadyH.nil)
        clear hS0
        have hra := HRA.out
        obtain ⟨y0, y1, y2, y3, y4, y5, y6⟩ := row7 hra
        have yl := hra.lt
        have yf0 := hra.frozen 0
        have yf1 := hra.frozen 1
        have yf2 := hra.frozen 2
        have yf3 := hra.frozen 3
        have yf4 := hra.frozen 4
        have yf5 := hra.frozen 5
        have yf6 := hra.frozen 6
        go_simp
        have HLD := hide (show LaidF ga wa3 (((((((wa3.setCell ⟨ga, 0, none⟩ (.slice A5 n5 c5)).setCell ⟨ga, 1, none⟩ (.int .u64 r2.e)).setCell ⟨ga, 2, none⟩ (.slice S5 m5 d5)).setCell ⟨ga, 3, none⟩ (.int .u64 (r2.l.E : Int))).setCell ⟨ga, 4, none⟩ (.slice (B5 0) (p5 0) (f5 0))).setCell ⟨ga, 5, none⟩ (.slice (B5 1) (p5 1) (f5 1))).setCell ⟨ga, 6, none⟩ (.slice (B5 2) (p5 2) (f5 2))) from ((((((((laid0 ga _).set 0 (.slice A5 n5 c5)).set 1 (.int .u64 r2.e)).set 2 (.slice S5 m5 d5)).set 3 (.int .u64 (r2.l.E : Int))).set 4 (.slice (B5 0) (p5 0) (f5 0))).set 5 (.slice (B5 1) (p5 1) (f5 1))).set 6 (.slice (B5 2) (p5 2) (f5 2))))
        have HKA := hide (show RowAt (((((((wa3.setCell ⟨ga, 0, none⟩ (.slice A5 n5 c5)).setCell ⟨ga, 1, none⟩ (.int .u64 r2.e)).setCell ⟨ga, 2, none⟩ (.slice S5 m5 d5)).setCell ⟨ga, 3, none⟩ (.int .u64 (r2.l.E : Int))).setCell ⟨ga, 4, none⟩ (.slice (B5 0) (p5 0) (f5 0))).setCell ⟨ga, 5, none⟩ (.slice (B5 1) (p5 1) (f5 1))).setCell ⟨ga, 6, none⟩ (.slice (B5 2) (p5 2) (f5 2))) ga 34 #[.slice A5 n5 c5, .int .u64 r2.e, .slice S5 m5 d5, .int .u64 (r2.l.E : Int), .slice (B5 0) (p5 0) (f5 0), .slice (B5 1) (p5 1) (f5 1), .slice (B5 2) (p5 2) (f5 2)] from by have h := (((((((hra.set 0 (.slice A5 n5 c5)).set 1 (.int .u64 r2.e)).set 2 (.slice S5 m5 d5)).set 3 (.int .u64 (r2.l.E : Int))).set 4 (.slice (B5 0) (p5 0) (f5 0))).set 5 (.slice (B5 1) (p5 1) (f5 1))).set 6 (.slice (B5 2) (p5 2) (f5 2))); simpa using h)
        have HX1 := hide (HX.out.trans (HLD.out.below.mono HGA.out))
        have hgab : gb ≠ ga := fun e => by have h1 := HRB.out; rw [e] at h1; exact absurd (row_typ h1 hra) (by decide)
        have HRB2 := hide (show RowAt _ gb 41 #[.int .i64 0, .int .u64 0] from (HLD.out.block gb hgab).trans HRB.out)
        have HV2 := hide (HV.out.stay (HLD.out.stay (fun h => h.2.1 rfl)))
        clear hra yl y0 yf0 y1 yf1 y2 yf2 y3 yf3 y4 yf4 y5 yf5 y6 yf6
        generalize (((((((wa3.setCell ⟨ga, 0, none⟩ (.slice A5 n5 c5)).setCell ⟨ga, 1, none⟩ (.int .u64 r2.e)).setCell ⟨ga, 2, none⟩ (.slice S5 m5 d5)).setCell ⟨ga, 3, none⟩ (.int .u64 (r2.l.E : Int))).setCell ⟨ga, 4, none⟩ (.slice (B5 0) (p5 0) (f5 0))).setCell ⟨ga, 5, none⟩ (.slice (B5 1) (p5 1) (f5 1))).setCell ⟨ga, 6, none⟩ (.slice (B5 2) (p5 2) (f5 2))) = wp at *
        refine hK9.out _ _ (HSX.out _ HX1.out) (fun _ => ?_)
        clear hK9 K9
        (try simp only [Act.put, List.getElem_toArray, List.getElem_cons_succ, List.getElem_cons_zero, List.setIfInBounds_toArray, List.set_cons_zero, List.set_cons_succ])
        refine wpAnyH_ready (rs := [12]) (by kernel_rfl) (by simp) ?_
        refine (AllReadyH.cons rfl (fun K10 hK10 => ?_) AllReadyH.nil)
        have u0 := row20 HRB2.out
        have u1 := row21 HRB2.out
        have ul := HRB2.out.lt
        have uf0 := HRB2.out.frozen 0
        have uf1 := HRB2.out.frozen 1
        go_simp
        have HL2 := hide (show LaidF gb wp ((wp.setCell ⟨gb, 0, none⟩ (.int .i64 y.1)).setCell ⟨gb, 1, none⟩ (.int .u64 y.2)) from (((laid0 gb _).set 0 (.int .i64 y.1)).set 1 (.int .u64 y.2)))
        have HX3 := hide (HX1.out.trans (HL2.out.below.mono HGB.out))
        have HV3 := hide (HV2.out.stay (HL2.out.stay (fun h => h.2.2 rfl)))
        have HKA2 := hide (show RowAt ((wp.setCell ⟨gb, 0, none⟩ (.int .i64 y.1)).setCell ⟨gb, 1, none⟩ (.int .u64 y.2)) ga 34 #[.slice A5 n5 c5, .int .u64 r2.e, .slice S5 m5 d5, .int .u64 (r2.l.E : Int), .slice (B5 0) (p5 0) (f5 0), .slice (B5 1) (p5 1) (f5 1), .slice (B5 2) (p5 2) (f5 2)] from (HL2.out.block ga (Ne.symm hgab)).trans HKA.out)
        clear u0 u1 ul uf0 uf1 hgab
        generalize ((wp.setCell ⟨gb, 0, none⟩ (.int .i64 y.1)).setCell ⟨gb, 1, none⟩ (.int .u64 y.2)) = wq at *
        refine hK10.out _ _ (HSX.out _ HX3.out) (fun _ => ?_)
        clear hK10 K10
        (try simp only [Act.put, List.getElem_toArray, List.getElem_cons_succ, List.getElem_cons_zero, List.setIfInBounds_toArray, List.set_cons_zero, List.set_cons_succ])
        refine wpAnyH_ready (rs := [13]) (by kernel_rfl) (by simp) ?_
        refine (AllReadyH.cons rfl (fun K11 hK11 => ?_) AllReadyH.nil)
        go_simp
        refine hK11.out _ _ (HSX.out _ HX3.out) (fun _ => ?_)
        clear hK11 K11
        (try simp only [Act.put, List.getElem_toArray, List.getElem_cons_succ, List.getElem_cons_zero, List.setIfInBounds_toArray, List.set_cons_zero, List.set_cons_succ])
        refine wpAnyH_done (by kernel_rfl) ?_ _
        go_wp2_with fail
        go_meet
        case rel => exact ⟨ga, rfl, rfl, ⟨HGA.out, _, _, _, _, _, _, _, _, _, HKA2.out, HV3.out.up (fun j hj _ => hj.1)⟩, HX3.out⟩
       ·
        go_simp
        have hb : Below wo1.heap.size wo1 (wo1.alloc (.cells #[.int .i64 0, .int .u64 0] 41)) := (Below.refl _ _).alloc (Nat.le_refl _) _
        have hre := RowAt.new wo1 41 #[.int .i64 0, .int .u64 0]
        have HVN := hide (show RecF (fun j => w0.heap.size ≤ j ∧ j ≠ wo1.heap.size) (wo1.alloc (.cells #[.int .i64 0, .int .u64 0] 41)) A5 S5 n5 c5 m5 d5 B5 p5 f5 r2 from (HV.out.up (G := fun j => w0.heap.size ≤ j ∧ j ≠ wo1.heap.size) (fun j (hj : w0.heap.size ≤ j) hl => by omega)).below hb)
        clear HV
        obtain ⟨gb, hge⟩ : ∃ g, wo1.heap.size = g := ⟨_, rfl⟩
        have HGB := hide (show w0.heap.size ≤ gb from by rw [← hge]; exact HX.out.size)
        have hX2 := HX.out.trans (hb.mono HX.out.size)
        replace HX := hide hX2
        rw [hge] at hre HVN ⊢
        have HRB := hide hre
        have HV := HVN
        clear HVN
        clear hX2 hS0 hre hb hge
        have hS0 := HSX.out _ HX.out
        generalize (wo1.alloc (.cells #[.int .i64 0, .int .u64 0] 41)) = wa2 at *
        refine hK7.out _ _ (hS0) (fun _ => ?_)
        clear hK7 K7
        (try simp only [Act.put, List.getElem_toArray, List.getElem_cons_succ, List.getElem_cons_zero, List.setIfInBounds_toArray, List.set_cons_zero, List.set_cons_succ])
        refine wpAnyH_ready (rs := [9]) (by kernel_rfl) (by simp) ?_
        refine (AllReadyH.cons rfl (fun K12 hK12 => ?_) AllReadyH.nil)
        go_simp
        have hb : Below wa2.heap.size wa2 (wa2.alloc (.cells #[.slice none 0 0, .int .u64 0, .slice none 0 0, .int .u64 0, .slice none 0 0, .slice none 0 0, .slice none 0 0] 34)) := (Below.refl _ _).alloc (Nat.le_refl _) _
        have hre := RowAt.new wa2 34 #[.slice none 0 0, .int .u64 0, .slice none 0 0, .int .u64 0, .slice none 0 0, .slice none 0 0, .slice none 0 0]
        replace HRB := hide (HRB.out.below hb)
        have HVN := hide (show RecF (fun j => w0.heap.size ≤ j ∧ j ≠ gb ∧ j ≠ wa2.heap.size) (wa2.alloc (.cells #[.slice none 0 0, .int .u64 0, .slice none 0 0, .int .u64 0, .slice none 0 0, .slice none 0 0, .slice none 0 0] 34)) A5 S5 n5 c5 m5 d5 B5 p5 f5 r2 from (HV.out.up (G := fun j => w0.heap.size ≤ j ∧ j ≠ gb ∧ j ≠ wa2.heap.size) (fun j (hj : w0.heap.size ≤ j ∧ j ≠ gb) hl => by omega)).below hb)
        clear HV
        obtain ⟨ga, hge⟩ : ∃ g, wa2.heap.size = g := ⟨_, rfl⟩
        have HGA := hide (show w0.heap.size ≤ ga from by rw [← hge]; exact HX.out.size)
        have hX2 := HX.out.trans (hb.mono HX.out.size)
        replace HX := hide hX2
        rw [hge] at hre HVN ⊢
        have HRA := hide hre
        have HV := HVN
        clear HVN
        clear hX2 hS0 hre hb hge
        have hS0 := HSX.out _ HX.out
        generalize (wa2.alloc (.cells #[.slice none 0 0, .int .u64 0, .slice none 0 0, .int .u64 0, .slice none 0 0, .slice none 0 0, .slice none 0 0] 34)) = wa3 at *
        refine hK12.out _ _ (hS0) (fun _ => ?_)
        clear hK12 K12
        (try simp only [Act.put, List.getElem_toArray, List.getElem_cons_succ, List.getElem_cons_zero, List.setIfInBounds_toArray, List.set_cons_zero, List.set_cons_succ])
        refine wpAnyH_ready (rs := [11]) (by kernel_rfl) (by simp) ?_
        refine (AllReadyH.cons rfl (fun K13 hK13 => ?_) AllReadyH.nil)
        clear hS0
        have hra := HRA.out
        obtain ⟨y0, y1, y2, y3, y4, y5, y6⟩ := row7 hra
        have yl := hra.lt
        have yf0 := hra.frozen 0
        have yf1 := hra.frozen 1
        have yf2 := hra.frozen 2
        have yf3 := hra.frozen 3
        have yf4 := hra.frozen 4
        have yf5 := hra.frozen 5
        have yf6 := hra.frozen 6
        go_simp
        have HLD := hide (show LaidF ga wa3 (((((((wa3.setCell ⟨ga, 0, none⟩ (.slice A5 n5 c5)).setCell ⟨ga, 1, none⟩ (.int .u64 r2.e)).setCell ⟨ga, 2, none⟩ (.slice S5 m5 d5)).setCell ⟨ga, 3, none⟩ (.int .u64 (r2.l.E : Int))).setCell ⟨ga, 4, none⟩ (.slice (B5 0) (p5 0) (f5 0))).setCell ⟨ga, 5, none⟩ (.slice (B5 1) (p5 1) (f5 1))).setCell ⟨ga, 6, none⟩ (.slice (B5 2) (p5 2) (f5 2))) from ((((((((laid0 ga _).set 0 (.slice A5 n5 c5)).set 1 (.int .u64 r2.e)).set 2 (.slice S5 m5 d5)).set 3 (.int .u64 (r2.l.E : Int))).set 4 (.slice (B5 0) (p5 0) (f5 0))).set 5 (.slice (B5 1) (p5 1) (f5 1))).set 6 (.slice (B5 2) (p5 2) (f5 2))))
        have HKA := hide (show RowAt (((((((wa3.setCell ⟨ga, 0, none⟩ (.slice A5 n5 c5)).setCell ⟨ga, 1, none⟩ (.int .u64 r2.e)).setCell ⟨ga, 2, none⟩ (.slice S5 m5 d5)).setCell ⟨ga, 3, none⟩ (.int .u64 (r2.l.E : Int))).setCell ⟨ga, 4, none⟩ (.slice (B5 0) (p5 0) (f5 0))).setCell ⟨ga, 5, none⟩ (.slice (B5 1) (p5 1) (f5 1))).setCell ⟨ga, 6, none⟩ (.slice (B5 2) (p5 2) (f5 2))) ga 34 #[.slice A5 n5 c5, .int .u64 r2.e, .slice S5 m5 d5, .int .u64 (r2.l.E : Int), .slice (B5 0) (p5 0) (f5 0), .slice (B5 1) (p5 1) (f5 1), .slice (B5 2) (p5 2) (f5 2)] from by have h := (((((((hra.set 0 (.slice A5 n5 c5)).set 1 (.int .u64 r2.e)).set 2 (.slice S5 m5 d5)).set 3 (.int .u64 (r2.l.E : Int))).set 4 (.slice (B5 0) (p5 0) (f5 0))).set 5 (.slice (B5 1) (p5 1) (f5 1))).set 6 (.slice (B5 2) (p5 2) (f5 2))); simpa using h)
        have HX1 := hide (HX.out.trans (HLD.out.below.mono HGA.out))
        have hgab : gb ≠ ga := fun e => by have h1 := HRB.out; rw [e] at h1; exact absurd (row_typ h1 hra) (by decide)
        have HRB2 := hide (show RowAt _ gb 41 #[.int .i64 0, .int .u64 0] from (HLD.out.block gb hgab).trans HRB.out)
        have HV2 := hide (HV.out.stay (HLD.out.stay (fun h => h.2.2 rfl)))
        clear hra yl y0 yf0 y1 yf1 y2 yf2 y3 yf3 y4 yf4 y5 yf5 y6 yf6
        generalize (((((((wa3.setCell ⟨ga, 0, none⟩ (.slice A5 n5 c5)).setCell ⟨ga, 1, none⟩ (.int .u64 r2.e)).setCell ⟨ga, 2, none⟩ (.slice S5 m5 d5)).setCell ⟨ga, 3, none⟩ (.int .u64 (r2.l.E : Int))).setCell ⟨ga, 4, none⟩ (.slice (B5 0) (p5 0) (f5 0))).setCell ⟨ga, 5, none⟩ (.slice (B5 1) (p5 1) (f5 1))).setCell ⟨ga, 6, none⟩ (.slice (B5 2) (p5 2) (f5 2))) = wp at *
        refine hK13.out _ _ (HSX.out _ HX1.out) (fun _ => ?_)
        clear hK13 K13
        (try simp only [Act.put, List.getElem_toArray, List.getElem_cons_succ, List.getElem_cons_zero, List.setIfInBounds_toArray, List.set_cons_zero, List.set_cons_succ])
        refine wpAnyH_ready (rs := [12]) (by kernel_rfl) (by simp) ?_
        refine (AllReadyH.cons rfl (fun K14 hK14 => ?_) AllReadyH.nil)
        have u0 := row20 HRB2.out
        have u1 := row21 HRB2.out
        have ul := HRB2.out.lt
        have uf0 := HRB2.out.frozen 0
        have uf1 := HRB2.out.frozen 1
        go_simp
        have HL2 := hide (show LaidF gb wp ((wp.setCell ⟨gb, 0, none⟩ (.int .i64 y.1)).setCell ⟨gb, 1, none⟩ (.int .u64 y.2)) from (((laid0 gb _).set 0 (.int .i64 y.1)).set 1 (.int .u64 y.2)))
        have HX3 := hide (HX1.out.trans (HL2.out.below.mono HGB.out))
        have HV3 := hide (HV2.out.stay (HL2.out.stay (fun h => h.2.1 rfl)))
        have HKA2 := hide (show RowAt ((wp.setCell ⟨gb, 0, none⟩ (.int .i64 y.1)).setCell ⟨gb, 1, none⟩ (.int .u64 y.2)) ga 34 #[.slice A5 n5 c5, .int .u64 r2.e, .slice S5 m5 d5, .int .u64 (r2.l.E : Int), .slice (B5 0) (p5 0) (f5 0), .slice (B5 1) (p5 1) (f5 1), .slice (B5 2) (p5 2) (f5 2)] from (HL2.out.block ga (Ne.symm hgab)).trans HKA.out)
        clear u0 u1 ul uf0 uf1 hgab
        generalize ((wp.setCell ⟨gb, 0, none⟩ (.int .i64 y.1)).setCell ⟨gb, 1, none⟩ (.int .u64 y.2)) = wq at *
        refine hK14.out _ _ (HSX.out _ HX3.out) (fun _ => ?_)
        clear hK14 K14
        (try simp only [Act.put, List.getElem_toArray, List.getElem_cons_succ, List.getElem_cons_zero, List.setIfInBounds_toArray, List.set_cons_zero, List.set_cons_succ])
        refine wpAnyH_ready (rs := [13]) (by kernel_rfl) (by simp) ?_
        refine (AllReadyH.cons rfl (fun K15 hK15 => ?_) AllReadyH.nil)
        go_simp
        refine hK15.out _ _ (HSX.out _ HX3.out) (fun _ => ?_)
        clear hK15 K15
        (try simp only [Act.put, List.getElem_toArray, List.getElem_cons_succ, List.getElem_cons_zero, List.setIfInBounds_toArray, List.set_cons_zero, List.set_cons_succ])
        refine wpAnyH_done (by kernel_rfl) ?_ _
        go_wp2_with fail
        go_meet
        case rel => exact ⟨ga, rfl, rfl, ⟨HGA.out, _, _, _, _, _, _, _, _, _, HKA2.out, HV3.out.up (fun j hj _ => hj.1)⟩, HX3.out⟩
      ·
       go_simp
       have hb : Below wo0.heap.size wo0 (wo0.alloc (.cells #[.slice none 0 0, .int .u64 0, .slice none 0 0, .int .u64 0, .slice none 0 0, .slice none 0 0, .slice none 0 0] 34)) := (Below.refl _ _).alloc (Nat.le_refl _) _
       have hre := RowAt.new wo0 34 #[.slice none 0 0, .int .u64 0, .slice none 0 0, .int .u64 0, .slice none 0 0, .slice none 0 0, .slice none 0 0]
       obtain ⟨ga, hge⟩ : ∃ g, wo0.heap.size = g := ⟨_, rfl⟩
       have HGA := hide (show w0.heap.size ≤ ga from by rw [← hge]; exact HX.out.size)
       have hX2 := HX.out.trans (hb.mono HX.out.size)
       replace HX := hide hX2
       rw [hge] at hre ⊢
       have HRA := hide hre
       clear hX2 hS0 hre hb hge
       have hS0 := HSX.out _ HX.out
       generalize (wo0.alloc (.cells #[.slice none 0 0, .int .u64 0, .slice none 0 0, .int .u64 0, .slice none 0 0, .slice none 0 0, .slice none 0 0] 34)) = wa1 at *
       refine hK4.out _ _ (hS0) (fun _ => ?_)
       clear hK4 K4
       (try simp only [Act.put, List.getElem_toArray, List.getElem_cons_succ, List.getElem_cons_zero, List.setIfInBounds_toArray, List.set_cons_zero, List.set_cons_succ])
       refine wpAnyH_ready (rs := [4, 10]) (by kernel_rfl) (by simp) ?_
       refine (AllReadyH.cons rfl (fun K16 hK16 => ?_) (AllReadyH.cons rfl (fun K17 hK17 => ?_) AllReadyH.nil))
       ·
        go_simp
        with_reducible refine (doAs (HRC.out.below HX.out).val HFV.out 2 (k : Int) 0 0 0 (Int.le_refl _) u64z HT.out).mono ?_
        rintro e wo2 ⟨⟨v5, rfl, hv⟩, hb⟩
        obtain ⟨A5, S5, n5, c5, m5, d5, B5, p5, f5, rfl, hr⟩ := hv
        have hlga := HRA.out.lt
        have hxs := HX.out.size
        have HV := hide (hr.up (G := fun j => w0.heap.size ≤ j ∧ j ≠ ga) (fun j (hj : wa1.heap.size ≤ j) _ => by show w0.heap.size ≤ j ∧ j ≠ ga; omega))
        clear hr hxs hlga
        replace HRA := hide (HRA.out.below hb)
        have hX2 := HX.out.trans (hb.mono HX.out.size)
        replace HX := hide hX2
        clear hX2 hS0 hb
        have hS0 := HSX.out _ HX.out
        refine hK16.out _ _ (hS0) (fun _ => ?_)
        clear hK16 K16
        (try simp only [Act.put, List.getElem_toArray, List.getElem_cons_succ, List.getElem_cons_zero, List.setIfInBounds_toArray, List.set_cons_zero, List.set_cons_succ])
        (refine wpAnyH_take (i := 5) (v := ?_) rfl (by kernel_rfl) (by kernel_rfl) (by kernel_rfl) (fun _ _ _ h => h) (Or.inl ⟨by rfl, ?_⟩) (by assumption) ?_; rotate_left; (focus (intro w hSw; (try dsimp only at hSw); obtain ⟨kf0, kf1, kf2, kf3, kf4, kf5, kf6, kf7⟩ := hSw; go_simp; first | done | with_reducible rfl)); (try simp only [Act.put, List.getElem_toArray, List.getElem_cons_succ, List.getElem_cons_zero, List.setIfInBounds_toArray, List.set_cons_zero, List.set_cons_succ]))
        (refine wpAnyH_take (i := 6) (v := ?_) rfl (by kernel_rfl) (by kernel_rfl) (by kernel_rfl) (fun _ _ _ h => h) (Or.inl ⟨by rfl, ?_⟩) (by assumption) ?_; rotate_left; (focus (intro w hSw; (try dsimp only at hSw); obtain ⟨kf0, kf1, kf2, kf3, kf4, kf5, kf6, kf7⟩ := hSw; go_simp; first | done | with_reducible rfl)); (try simp only [Act.put, List.getElem_toArray, List.getElem_cons_succ, List.getElem_cons_zero, List.setIfInBounds_toArray, List.set_cons_zero, List.set_cons_succ]))
        (refine wpAnyH_take (i := 7) (v := ?_) rfl (by kernel_rfl) (by kernel_rfl) (by kernel_rfl) (fun _ _ _ h => h) (Or.inl ⟨by rfl, ?_⟩) (by assumption) ?_; rotate_left; (focus (intro w hSw; (try dsimp only at hSw); obtain ⟨kf0, kf1, kf2, kf3, kf4, kf5, kf6, kf7⟩ := hSw; go_simp; first | done | with_reducible rfl)); (try simp only [Act.put, List.getElem_toArray, List.getElem_cons_succ, List.getElem_cons_zero, List.setIfInBounds_toArray, List.set_cons_zero, List.set_cons_succ]))
        (refine wpAnyH_take (i := 8) (v := ?_) rfl (by kernel_rfl) (by kernel_rfl) (by kernel_rfl) (fun _ _ _ h => h) (Or.inl ⟨by rfl, ?_⟩) (by assumption) ?_; rotate_left; (focus (intro w hSw; (try dsimp only at hSw); obtain ⟨kf0, kf1, kf2, kf3, kf4, kf5, kf6, kf7⟩ := hSw; go_simp; first | done | with_reducible rfl)); (try simp only [Act.put, List.getElem_toArray, List.getElem_cons_succ, List.getElem_cons_zero, List.setIfInBounds_toArray, List.set_cons_zero, List.set_cons_succ]))
        refine wpAnyH_ready (rs := [10]) (by kernel_rfl) (by simp) ?_
        refine (AllReadyH.cons rfl (fun K18 hK18 => ?_) AllReadyH.nil)
        go_simp
        have hb : Below wo2.heap.size wo2 (wo2.alloc (.cells #[.int .i64 0, .int .u64 0] 41)) := (Below.refl _ _).alloc (Nat.le_refl _) _
        have hre := RowAt.new wo2 41 #[.int .i64 0, .int .u64 0]
        replace HRA := hide (HRA.out.below hb)
        have HVN := hide (show RecF (fun j => w0.heap.size ≤ j ∧ j ≠ ga ∧ j ≠ wo2.heap.size) (wo2.alloc (.cells #[.int .i64 0, .int .u64 0] 41)) A5 S5 n5 c5 m5 d5 B5 p5 f5 r2 from (HV.out.up (G := fun j => w0.heap.size ≤ j ∧ j ≠ ga ∧ j ≠ wo2.heap.size) (fun j (hj : w0.heap.size ≤ j ∧ j ≠ ga) hl => by omega)).below hb)
        clear HV
        obtain ⟨gb, hge⟩ : ∃ g, wo2.heap.size = g := ⟨_, rfl⟩
        have HGB := hide (show w0.heap.size ≤ gb from by rw [← hge]; exact HX.out.size)
        have hX2 := HX.out.trans (hb.mono HX.out.size)
        replace HX := hide hX2
        rw [hge] at hre HVN ⊢
        have HRB := hide hre
        have HV := HVN
        clear HVN
        clear hX2 hS0 hre hb hge
        have hS0 := HSX.out _ HX.out
        generalize (wo2.alloc (.cells #[.int .i64 0, .int .u64 0] 41)) = wa3 at *
        refine hK18.out _ _ (hS0) (fun _ => ?_)
        clear hK18 K18
        (try simp only [Act.put, List.getElem_toArray, List.getElem_cons_succ, List.getElem_cons_zero, List.setIfInBounds_toArray, List.set_cons_zero, List.set_cons_succ])
        refine wpAnyH_ready (rs := [11]) (by kernel_rfl) (by simp) ?_
        refine (AllReadyH.cons rfl (fun K19 hK19 => ?_) AllReadyH.nil)
        clear hS0
        have hra := HRA.out
        obtain ⟨y0, y1, y2, y3, y4, y5, y6⟩ := row7 hra
        have yl := hra.lt
        have yf0 := hra.frozen 0
        have yf1 := hra.frozen 1
        have yf2 := hra.frozen 2
        have yf3 := hra.frozen 3
        have yf4 := hra.frozen 4
        have yf5 := hra.frozen 5
        have yf6 := hra.frozen 6
        go_simp
        have HLD := hide (show LaidF ga wa3 (((((((wa3.setCell ⟨ga, 0, none⟩ (.slice A5 n5 c5)).setCell ⟨ga, 1, none⟩ (.int .u64 r2.e)).setCell ⟨ga, 2, none⟩ (.slice S5 m5 d5)).setCell ⟨ga, 3, none⟩ (.int .u64 (r2.l.E : Int))).setCell ⟨ga, 4, none⟩ (.slice (B5 0) (p5 0) (f5 0))).setCell ⟨ga, 5, none⟩ (.slice (B5 1) (p5 1) (f5 1))).setCell ⟨ga, 6, none⟩ (.slice (B5 2) (p5 2) (f5 2))) from ((((((((laid0 ga _).set 0 (.slice A5 n5 c5)).set 1 (.int .u64 r2.e)).set 2 (.slice S5 m5 d5)).set 3 (.int .u64 (r2.l.E : Int))).set 4 (.slice (B5 0) (p5 0) (f5 0))).set 5 (.slice (B5 1) (p5 1) (f5 1))).set 6 (.slice (B5 2) (p5 2) (f5 2))))
        have HKA := hide (show RowAt (((((((wa3.setCell ⟨ga, 0, none⟩ (.slice A5 n5 c5)).setCell ⟨ga, 1, none⟩ (.int .u64 r2.e)).setCell ⟨ga, 2, none⟩ (.slice S5 m5 d5)).setCell ⟨ga, 3, none⟩ (.int .u64 (r2.l.E : Int))).setCell ⟨ga, 4, none⟩ (.slice (B5 0) (p5 0) (f5 0))).setCell ⟨ga, 5, none⟩ (.slice (B5 1) (p5 1) (f5 1))).setCell ⟨ga, 6, none⟩ (.slice (B5 2) (p5 2) (f5 2))) ga 34 #[.slice A5 n5 c5, .int .u64 r2.e, .slice S5 m5 d5, .int .u64 (r2.l.E : Int), .slice (B5 0) (p5 0) (f5 0), .slice (B5 1) (p5 1) (f5 1), .slice (B5 2) (p5 2) (f5 2)] from by have h := (((((((hra.set 0 (.slice A5 n5 c5)).set 1 (.int .u64 r2.e)).set 2 (.slice S5 m5 d5)).set 3 (.int .u64 (r2.l.E : Int))).set 4 (.slice (B5 0) (p5 0) (f5 0))).set 5 (.slice (B5 1) (p5 1) (f5 1))).set 6 (.slice (B5 2) (p5 2) (f5 2))); simpa using h)
        have HX1 := hide (HX.out.trans (HLD.out.below.mono HGA.out))
        have hgab : gb ≠ ga := fun e => by have h1 := HRB.out; rw [e] at h1; exact absurd (row_typ h1 hra) (by decide)
        have HRB2 := hide (show RowAt _ gb 41 #[.int .i64 0, .int .u64 0] from (HLD.out.block gb hgab).trans HRB.out)
        have HV2 := hide (HV.out.stay (HLD.out.stay (fun h => h.2.1 rfl)))
        clear hra yl y0 yf0 y1 yf1 y2 yf2 y3 yf3 y4 yf4 y5 yf5 y6 yf6
        generalize (((((((wa3.setCell ⟨ga, 0, none⟩ (.slice A5 n5 c5)).setCell ⟨ga, 1, none⟩ (.int .u64 r2.e)).setCell ⟨ga, 2, none⟩ (.slice S5 m5 d5)).setCell ⟨ga, 3, none⟩ (.int .u64 (r2.l.E : Int))).setCell ⟨ga, 4, none⟩ (.slice (B5 0) (p5 0) (f5 0))).setCell ⟨ga, 5, none⟩ (.slice (B5 1) (p5 1) (f5 1))).setCell ⟨ga, 6, none⟩ (.slice (B5 2) (p5 2) (f5 2))) = wp at *
        refine hK19.out _ _ (HSX.out _ HX1.out) (fun _ => ?_)
        clear hK19 K19
        (try simp only [Act.put, List.getElem_toArray, List.getElem_cons_succ, List.getElem_cons_zero, List.setIfInBounds_toArray, List.set_cons_zero, List.set_cons_succ])
        refine wpAnyH_ready (rs := [12]) (by kernel_rfl) (by simp) ?_
        refine (AllReadyH.cons rfl (fun K20 hK20 => ?_) AllReadyH.nil)
        have u0 := row20 HRB2.out
        have u1 := row21 HRB2.out
        have ul := HRB2.out.lt
        have uf0 := HRB2.out.frozen 0
        have uf1 := HRB2.out.frozen 1
        go_simp
        have HL2 := hide (show LaidF gb wp ((wp.setCell ⟨gb, 0, none⟩ (.int .i64 y.1)).setCell ⟨gb, 1, none⟩ (.int .u64 y.2)) from (((laid0 gb _).set 0 (.int .i64 y.1)).set 1 (.int .u64 y.2)))
        have HX3 := hide (HX1.out.trans (HL2.out.below.mono HGB.out))
        have HV3 := hide (HV2.out.stay (HL2.out.stay (fun h => h.2.2 rfl)))
        have HKA2 := hide (show RowAt ((wp.setCell ⟨gb, 0, none⟩ (.int .i64 y.1)).setCell ⟨gb, 1, none⟩ (.int .u64 y.2)) ga 34 #[.slice A5 n5 c5, .int .u64 r2.e, .slice S5 m5 d5, .int .u64 (r2.l.E : Int), .slice (B5 0) (p5 0) (f5 0), .slice (B5 1) (p5 1) (f5 1), .slice (B5 2) (p5 2) (f5 2)] from (HL2.out.block ga (Ne.symm hgab)).trans HKA.out)
        clear u0 u1 ul uf0 uf1 hgab
        generalize ((wp.setCell ⟨gb, 0, none⟩ (.int .i64 y.1)).setCell ⟨gb, 1, none⟩ (.int .u64 y.2)) = wq at *
        refine hK20.out _ _ (HSX.out _ HX3.out) (fun _ => ?_)
        clear hK20 K20
        (try simp only [Act.put, List.getElem_toArray, List.getElem_cons_succ, List.getElem_cons_zero, List.setIfInBounds_toArray, List.set_cons_zero, List.set_cons_succ])
        refine wpAnyH_ready (rs := [13]) (by kernel_rfl) (by simp) ?_
        refine (AllReadyH.cons rfl (fun K21 hK21 => ?_) AllReadyH.nil)
        go_simp
        refine hK21.out _ _ (HSX.out _ HX3.out) (fun _ => ?_)
        clear hK21 K21
        (try simp only [Act.put, List.getElem_toArray, List.getElem_cons_succ, List.getElem_cons_zero, List.setIfInBounds_toArray, List.set_cons_zero, List.set_cons_succ])
        refine wpAnyH_done (by kernel_rfl) ?_ _
        go_wp2_with fail
        go_meet
        case rel => exact ⟨ga, rfl, rfl, ⟨HGA.out, _, _, _, _, _, _, _, _, _, HKA2.out, HV3.out.up (fun j hj _ => hj.1)⟩, HX3.out⟩
       ·
        go_simp
        have hb : Below wa1.heap.size wa1 (wa1.alloc (.cells #[.int .i64 0, .int .u64 0] 41)) := (Below.refl _ _).alloc (Nat.le_refl _) _
        have hre := RowAt.new wa1 41 #[.int .i64 0, .int .u64 0]
        replace HRA := hide (HRA.out.below hb)
        obtain ⟨gb, hge⟩ : ∃ g, wa1.heap.size = g := ⟨_, rfl⟩
        have HGB := hide (show w0.heap.size ≤ gb from by rw [← hge]; exact HX.out.size)
        have hX2 := HX.out.trans (hb.mono HX.out.size)
        replace HX := hide hX2
        rw [hge] at hre ⊢
        have HRB := hide hre
        clear hX2 hS0 hre hb hge
        have hS0 := HSX.out _ HX.out
        generalize (wa1.alloc (.cells #[.int .i64 0, .int .u64 0] 41)) = wa2 at *
        refine hK17.out _ _ (hS0) (fun _ => ?_)
        clear hK17 K17
        (try simp only [Act.put, List.getElem_toArray, List.getElem_cons_succ, List.getElem_cons_zero, List.setIfInBounds_toArray, List.set_cons_zero, List.set_cons_succ])
        refine wpAnyH_ready (rs := [4]) (by kernel_rfl) (by simp) ?_
        refine (AllReadyH.cons rfl (fun K22 hK22 => ?_) AllReadyH.nil)
        go_simp
        with_reducible refine (doAs (HRC.out.below HX.out).val HFV.out 2 (k : Int) 0 0 0 (Int.le_refl _) u64z HT.out).mono ?_
        rintro e wo3 ⟨⟨v5, rfl, hv⟩, hb⟩
        obtain ⟨A5, S5, n5, c5, m5, d5, B5, p5, f5, rfl, hr⟩ := hv
        have hlga := HRA.out.lt
        have hlgb := HRB.out.lt
        have hxs := HX.out.size
        have HV := hide (hr.up (G := fun j => w0.heap.size ≤ j ∧ j ≠ ga ∧ j ≠ gb) (fun j (hj : wa2.heap.size ≤ j) _ => by show w0.heap.size ≤ j ∧ j ≠ ga ∧ j ≠ gb; omega))
        clear hr hxs hlga hlgb
        replace HRA := hide (HRA.out.below hb)
        replace HRB := hide (HRB.out.below hb)
        have hX2 := HX.out.trans (hb.mono HX.out.size)
        replace HX := hide hX2
        clear hX2 hS0 hb
        have hS0 := HSX.out _ HX.out
        refine hK22.out _ _ (hS0) (fun _ => ?_)
        clear hK22 K22
        (try simp only [Act.put, List.getElem_toArray, List.getElem_cons_succ, List.getElem_cons_zero, List.setIfInBounds_toArray, List.set_cons_zero, List.set_cons_succ])
        (refine wpAnyH_take (i := 5) (v := ?_) rfl (by kernel_rfl) (by kernel_rfl) (by kernel_rfl) (fun _ _ _ h => h) (Or.inl ⟨by rfl, ?_⟩) (by assumption) ?_; rotate_left; (focus (intro w hSw; (try dsimp only at hSw); obtain ⟨kf0, kf1, kf2, kf3, kf4, kf5, kf6, kf7⟩ := hSw; go_simp; first | done | with_reducible rfl)); (try simp only [Act.put, List.getElem_toArray, List.getElem_cons_succ, List.getElem_cons_zero, List.setIfInBounds_toArray, List.set_cons_zero, List.set_cons_succ]))
        (refine wpAnyH_take (i := 6) (v := ?_) rfl (by kernel_rfl) (by kernel_rfl) (by kernel_rfl) (fun _ _ _ h => h) (Or.inl ⟨by rfl, ?_⟩) (by assumption) ?_; rotate_left; (focus (intro w hSw; (try dsimp only at hSw); obtain ⟨kf0, kf1, kf2, kf3, kf4, kf5, kf6, kf7⟩ := hSw; go_simp; first | done | with_reducible rfl)); (try simp only [Act.put, List.getElem_toArray, List.getElem_cons_succ, List.getElem_cons_zero, List.setIfInBounds_toArray, List.set_cons_zero, List.set_cons_succ]))
        (refine wpAnyH_take (i := 7) (v := ?_) rfl (by kernel_rfl) (by kernel_rfl) (by kernel_rfl) (fun _ _ _ h => h) (Or.inl ⟨by rfl, ?_⟩) (by assumption) ?_; rotate_left; (focus (intro w hSw; (try dsimp only at hSw); obtain ⟨kf0, kf1, kf2, kf3, kf4, kf5, kf6, kf7⟩ := hSw; go_simp; first | done | with_reducible rfl)); (try simp only [Act.put, List.getElem_toArray, List.getElem_cons_succ, List.getElem_cons_zero, List.setIfInBounds_toArray, List.set_cons_zero, List.set_cons_succ]))
        (refine wpAnyH_take (i := 8) (v := ?_) rfl (by kernel_rfl) (by kernel_rfl) (by kernel_rfl) (fun _ _ _ h => h) (Or.inl ⟨by rfl, ?_⟩) (by assumption) ?_; rotate_left; (focus (intro w hSw; (try dsimp only at hSw); obtain ⟨kf0, kf1, kf2, kf3, kf4, kf5, kf6, kf7⟩ := hSw; go_simp; first | done | with_reducible rfl)); (try simp only [Act.put, List.getElem_toArray, List.getElem_cons_succ, List.getElem_cons_zero, List.setIfInBounds_toArray, List.set_cons_zero, List.set_cons_succ]))
        refine wpAnyH_ready (rs := [11]) (by kernel_rfl) (by simp) ?_
        refine (AllReadyH.cons rfl (fun K23 hK23 => ?_) AllReadyH.nil)
        clear hS0
        have hra := HRA.out
        obtain ⟨y0, y1, y2, y3, y4, y5, y6⟩ := row7 hra
        have yl := hra.lt
        have yf0 := hra.frozen 0
        have yf1 := hra.frozen 1
        have yf2 := hra.frozen 2
        have yf3 := hra.frozen 3
        have yf4 := hra.frozen 4
        have yf5 := hra.frozen 5
        have yf6 := hra.frozen 6
        go_simp
        have HLD := hide (show LaidF ga wo3 (((((((wo3.setCell ⟨ga, 0, none⟩ (.slice A5 n5 c5)).setCell ⟨ga, 1, none⟩ (.int .u64 r2.e)).setCell ⟨ga, 2, none⟩ (.slice S5 m5 d5)).setCell ⟨ga, 3, none⟩ (.int .u64 (r2.l.E : Int))).setCell ⟨ga, 4, none⟩ (.slice (B5 0) (p5 0) (f5 0))).setCell ⟨ga, 5, none⟩ (.slice (B5 1) (p5 1) (f5 1))).setCell ⟨ga, 6, none⟩ (.slice (B5 2) (p5 2) (f5 2))) from ((((((((laid0 ga _).set 0 (.slice A5 n5 c5)).set 1 (.int .u64 r2.e)).set 2 (.slice S5 m5 d5)).set 3 (.int .u64 (r2.l.E : Int))).set 4 (.slice (B5 0) (p5 0) (f5 0))).set 5 (.slice (B5 1) (p5 1) (f5 1))).set 6 (.slice (B5 2) (p5 2) (f5 2))))
        have HKA := hide (show RowAt (((((((wo3.setCell ⟨ga, 0, none⟩ (.slice A5 n5 c5)).setCell ⟨ga, 1, none⟩ (.int .u64 r2.e)).setCell ⟨ga, 2, none⟩ (.slice S5 m5 d5)).setCell ⟨ga, 3, none⟩ (.int .u64 (r2.l.E : Int))).setCell ⟨ga, 4, none⟩ (.slice (B5 0) (p5 0) (f5 0))).setCell ⟨ga, 5, none⟩ (.slice (B5 1) (p5 1) (f5 1))).setCell ⟨ga, 6, none⟩ (.slice (B5 2) (p5 2) (f5 2))) ga 34 #[.slice A5 n5 c5, .int .u64 r2.e, .slice S5 m5 d5, .int .u64 (r2.l.E : Int), .slice (B5 0) (p5 0) (f5 0), .slice (B5 1) (p5 1) (f5 1), .slice (B5 2) (p5 2) (f5 2)] from by have h := (((((((hra.set 0 (.slice A5 n5 c5)).set 1 (.int .u64 r2.e)).set 2 (.slice S5 m5 d5)).set 3 (.int .u64 (r2.l.E : Int))).set 4 (.slice (B5 0) (p5 0) (f5 0))).set 5 (.slice (B5 1) (p5 1) (f5 1))).set 6 (.slice (B5 2) (p5 2) (f5 2))); simpa using h)
        have HX1 := hide (HX.out.trans (HLD.out.below.mono HGA.out))
        have hgab : gb ≠ ga := fun e => by have h1 := HRB.out; rw [e] at h1; exact absurd (row_typ h1 hra) (by decide)
        have HRB2 := hide (show RowAt _ gb 41 #[.int .i64 0, .int .u64 0] from (HLD.out.block gb hgab).trans HRB.out)
        have HV2 := hide (HV.out.stay (HLD.out.stay (fun h => h.2.1 rfl)))
        clear hra yl y0 yf0 y1 yf1 y2 yf2 y3 yf3 y4 yf4 y5 yf5 y6 yf6
        generalize (((((((wo3.setCell ⟨ga, 0, none⟩ (.slice A5 n5 c5)).setCell ⟨ga, 1, none⟩ (.int .u64 r2.e)).setCell ⟨ga, 2, none⟩ (.slice S5 m5 d5)).setCell ⟨ga, 3, none⟩ (.int .u64 (r2.l.E : Int))).setCell ⟨ga, 4, none⟩ (.slice (B5 0) (p5 0) (f5 0))).setCell ⟨ga, 5, none⟩ (.slice (B5 1) (p5 1) (f5 1))).setCell ⟨ga, 6, none⟩ (.slice (B5 2) (p5 2) (f5 2))) = wp at *
        refine hK23.out _ _ (HSX.out _ HX1.out) (fun _ => ?_)
        clear hK23 K23
        (try simp only [Act.put, List.getElem_toArray, List.getElem_cons_succ, List.getElem_cons_zero, List.setIfInBounds_toArray, List.set_cons_zero, List.set_cons_succ])
        refine wpAnyH_ready (rs := [12]) (by kernel_rfl) (by simp) ?_
        refine (AllReadyH.cons rfl (fun K24 hK24 => ?_) AllReadyH.nil)
        have u0 := row20 HRB2.out
        have u1 := row21 HRB2.out
        have ul := HRB2.out.lt
        have uf0 := HRB2.out.frozen 0
        have uf1 := HRB2.out.frozen 1
        go_simp
        have HL2 := hide (show LaidF gb wp ((wp.setCell ⟨gb, 0, none⟩ (.int .i64 y.1)).setCell ⟨gb, 1, none⟩ (.int .u64 y.2)) from (((laid0 gb _).set 0 (.int .i64 y.1)).set 1 (.int .u64 y.2)))
        have HX3 := hide (HX1.out.trans (HL2.out.below.mono HGB.out))
        have HV3 := hide (HV2.out.stay (HL2.out.stay (fun h => h.2.2 rfl)))
        have HKA2 := hide (show RowAt ((wp.setCell ⟨gb, 0, none⟩ (.int .i64 y.1)).setCell ⟨gb, 1, none⟩ (.int .u64 y.2)) ga 34 #[.slice A5 n5 c5, .int .u64 r2.e, .slice S5 m5 d5, .int .u64 (r2.l.E : Int), .slice (B5 0) (p5 0) (f5 0), .slice (B5 1) (p5 1) (f5 1), .slice (B5 2) (p5 2) (f5 2)] from (HL2.out.block ga (Ne.symm hgab)).trans HKA.out)
        clear u0 u1 ul uf0 uf1 hgab
        generalize ((wp.setCell ⟨gb, 0, none⟩ (.int .i64 y.1)).setCell ⟨gb, 1, none⟩ (.int .u64 y.2)) = wq at *
        refine hK24.out _ _ (HSX.out _ HX3.out) (fun _ => ?_)
        clear hK24 K24
        (try simp only [Act.put, List.getElem_toArray, List.getElem_cons_succ, List.getElem_cons_zero, List.setIfInBounds_toArray, List.set_cons_zero, List.set_cons_succ])
        refine wpAnyH_ready (rs := [13]) (by kernel_rfl) (by simp) ?_
        refine (AllReadyH.cons rfl (fun K25 hK25 => ?_) AllReadyH.nil)
        go_simp
        refine hK25.out _ _ (HSX.out _ HX3.out) (fun _ => ?_)
        clear hK25 K25
        (try simp only [Act.put, List.getElem_toArray, List.getElem_cons_succ, List.getElem_cons_zero, List.setIfInBounds_toArray, List.set_cons_zero, List.set_cons_succ])
        refine wpAnyH_done (by kernel_rfl) ?_ _
        go_wp2_with fail
        go_meet
        case rel => exact ⟨ga, rfl, rfl, ⟨HGA.out, _, _, _, _, _, _, _, _, _, HKA2.out, HV3.out.up (fun j hj _ => hj.1)⟩, HX3.out⟩
      ·
       go_simp
       have hb : Below wo0.heap.size wo0 (wo0.alloc (.cells #[.int .i64 0, .int .u64 0] 41)) := (Below.refl _ _).alloc (Nat.le_refl _) _
       have hre := RowAt.new wo0 41 #[.int .i64 0, .int .u64 0]
       obtain ⟨gb, hge⟩ : ∃ g, wo0.heap.size = g := ⟨_, rfl⟩
       have HGB := hide (show w0.heap.size ≤ gb from by rw [← hge]; exact HX.out.size)
       have hX2 := HX.out.trans (hb.mono HX.out.size)
       replace HX := hide hX2
       rw [hge] at hre ⊢
       have HRB := hide hre
       clear hX2 hS0 hre hb hge
       have hS0 := HSX.out _ HX.out
       generalize (wo0.alloc (.cells #[.int .i64 0, .int .u64 0] 41)) = wa1 at *
       refine hK5.out _ _ (hS0) (fun _ => ?_)
       clear hK5 K5
       (try simp only [Act.put, List.getElem_toArray, List.getElem_cons_succ, List.getElem_cons_zero, List.setIfInBounds_toArray, List.set_cons_zero, List.set_cons_succ])
       refine wpAnyH_ready (rs := [4, 9]) (by kernel_rfl) (by simp) ?_
       refine (AllReadyH.cons rfl (fun K26 hK26 => ?_) (AllReadyH.cons rfl (fun K27 hK27 => ?_) AllReadyH.nil))
       ·
        go_simp
        with_reducible refine (doAs (HRC.out.below HX.out).val HFV.out 2 (k : Int) 0 0 0 (Int.le_refl _) u64z HT.out).mono ?_
        rintro e wo2 ⟨⟨v5, rfl, hv⟩, hb⟩
        obtain ⟨A5, S5, n5, c5, m5, d5, B5, p5, f5, rfl, hr⟩ := hv
        have hlgb := HRB.out.lt
        have hxs := HX.out.size
        have HV := hide (hr.up (G := fun j => w0.heap.size ≤ j ∧ j ≠ gb) (fun j (hj : wa1.heap.size ≤ j) _ => by show w0.heap.size ≤ j ∧ j ≠ gb; omega))
        clear hr hxs hlgb
        replace HRB := hide (HRB.out.below hb)
        have hX2 := HX.out.trans (hb.mono HX.out.size)
        replace HX := hide hX2
        clear hX2 hS0 hb
        have hS0 := HSX.out _ HX.out
        refine hK26.out _ _ (hS0) (fun _ => ?_)
        clear hK26 K26
        (try simp only [Act.put, List.getElem_toArray, List.getElem_cons_succ, List.getElem_cons_zero, List.setIfInBounds_toArray, List.set_cons_zero, List.set_cons_succ])
        (refine wpAnyH_take (i := 5) (v := ?_) rfl (by kernel_rfl) (by kernel_rfl) (by kernel_rfl) (fun _ _ _ h => h) (Or.inl ⟨by rfl, ?_⟩) (by assumption) ?_; rotate_left; (focus (intro w hSw; (try dsimp only at hSw); obtain ⟨kf0, kf1, kf2, kf3, kf4, kf5, kf6, kf7⟩ := hSw; go_simp; first | done | with_reducible rfl)); (try simp only [Act.put, List.getElem_toArray, List.getElem_cons_succ, List.getElem_cons_zero, List.setIfInBounds_toArray, List.set_cons_zero, List.set_cons_succ]))
        (refine wpAnyH_take (i := 6) (v := ?_) rfl (by kernel_rfl) (by kernel_rfl) (by kernel_rfl) (fun _ _ _ h => h) (Or.inl ⟨by rfl, ?_⟩) (by assumption) ?_; rotate_left; (focus (intro w hSw; (try dsimp only at hSw); obtain ⟨kf0, kf1, kf2, kf3, kf4, kf5, kf6, kf7⟩ := hSw; go_simp; first | done | with_reducible rfl)); (try simp only [Act.put, List.getElem_toArray, List.getElem_cons_succ, List.getElem_cons_zero, List.setIfInBounds_toArray, List.set_cons_zero, List.set_cons_succ]))
        (refine wpAnyH_take (i := 7) (v := ?_) rfl (by kernel_rfl) (by kernel_rfl) (by kernel_rfl) (fun _ _ _ h => h) (Or.inl ⟨by rfl, ?_⟩) (by assumption) ?_; rotate_left; (focus (intro w hSw; (try dsimp only at hSw); obtain ⟨kf0, kf1, kf2, kf3, kf4, kf5, kf6, kf7⟩ := hSw; go_simp; first | done | with_reducible rfl)); (try simp only [Act.put, List.getElem_toArray, List.getElem_cons_succ, List.getElem_cons_zero, List.setIfInBounds_toArray, List.set_cons_zero, List.set_cons_succ]))
        (refine wpAnyH_take (i := 8) (v := ?_) rfl (by kernel_rfl) (by kernel_rfl) (by kernel_rfl) (fun _ _ _ h => h) (Or.inl ⟨by rfl, ?_⟩) (by assumption) ?_; rotate_left; (focus (intro w hSw; (try dsimp only at hSw); obtain ⟨kf0, kf1, kf2, kf3, kf4, kf5, kf6, kf7⟩ := hSw; go_simp; first | done | with_reducible rfl)); (try simp only [Act.put, List.getElem_toArray, List.getElem_cons_succ, List.getElem_cons_zero, List.setIfInBounds_toArray, List.set_cons_zero, List.set_cons_succ]))
        refine wpAnyH_ready (rs := [9]) (by kernel_rfl) (by simp) ?_
        refine (AllReadyH.cons rfl (fun K28 hK28 => ?_) AllReadyH.nil)
        go_simp
        have hb : Below wo2.heap.size wo2 (wo2.alloc (.cells #[.slice none 0 0, .int .u64 0, .slice none 0 0, .int .u64 0, .slice none 0 0, .slice none 0 0, .slice none 0 0] 34)) := (Below.refl _ _).alloc (Nat.le_refl _) _
        have hre := RowAt.new wo2 34 #[.slice none 0 0, .int .u64 0, .slice none 0 0, .int .u64 0, .slice none 0 0, .slice none 0 0, .slice none 0 0]
        replace HRB := hide (HRB.out.below hb)
        have HVN := hide (show RecF (fun j => w0.heap.size ≤ j ∧ j ≠ gb ∧ j ≠ wo2.heap.size) (wo2.alloc (.cells #[.slice none 0 0, .int .u64 0, .slice none 0 0, .int .u64 0, .slice none 0 0, .slice none 0 0, .slice none 0 0] 34)) A5 S5 n5 c5 m5 d5 B5 p5 f5 r2 from (HV.out.up (G := fun j => w0.heap.size ≤ j ∧ j ≠ gb ∧ j ≠ wo2.heap.size) (fun j (hj : w0.heap.size ≤ j ∧ j ≠ gb) hl => by omega)).below hb)
        clear HV
        obtain ⟨ga, hge⟩ : ∃ g, wo2.heap.size = g := ⟨_, rfl⟩
        have HGA := hide (show w0.heap.size ≤ ga from by rw [← hge]; exact HX.out.size)
        have hX2 := HX.out.trans (hb.mono HX.out.size)
        replace HX := hide hX2
        rw [hge] at hre HVN ⊢
        have HRA := hide hre
        have HV := HVN
        clear HVN
        clear hX2 hS0 hre hb hge
        have hS0 := HSX.out _ HX.out
        generalize (wo2.alloc (.cells #[.slice none 0 0, .int .u64 0, .slice none 0 0, .int .u64 0, .slice none 0 0, .slice none 0 0, .slice none 0 0] 34)) = wa3 at *
        refine hK28.out _ _ (hS0) (fun _ => ?_)
        clear hK28 K28
        (try simp only [Act.put, List.getElem_toArray, List.getElem_cons_succ, List.getElem_cons_zero, List.setIfInBounds_toArray, List.set_cons_zero, List.set_cons_succ])
        refine wpAnyH_ready (rs := [11]) (by kernel_rfl) (by simp) ?_
        refine (AllReadyH.cons rfl (fun K29 hK29 => ?_) AllReadyH.nil)
        clear hS0
        have hra := HRA.out
        obtain ⟨y0, y1, y2, y3, y4, y5, y6⟩ := row7 hra
        have yl := hra.lt
        have yf0 := hra.frozen 0
        have yf1 := hra.frozen 1
        have yf2 := hra.frozen 2
        have yf3 := hra.frozen 3
        have yf4 := hra.frozen 4
        have yf5 := hra.frozen 5
        have yf6 := hra.frozen 6
        go_simp
        have HLD := hide (show LaidF ga wa3 (((((((wa3.setCell ⟨ga, 0, none⟩ (.slice A5 n5 c5)).setCell ⟨ga, 1, none⟩ (.int .u64 r2.e)).setCell ⟨ga, 2, none⟩ (.slice S5 m5 d5)).setCell ⟨ga, 3, none⟩ (.int .u64 (r2.l.E : Int))).setCell ⟨ga, 4, none⟩ (.slice (B5 0) (p5 0) (f5 0))).setCell ⟨ga, 5, none⟩ (.slice (B5 1) (p5 1) (f5 1))).setCell ⟨ga, 6, none⟩ (.slice (B5 2) (p5 2) (f5 2))) from ((((((((laid0 ga _).set 0 (.slice A5 n5 c5)).set 1 (.int .u64 r2.e)).set 2 (.slice S5 m5 d5)).set 3 (.int .u64 (r2.l.E : Int))).set 4 (.slice (B5 0) (p5 0) (f5 0))).set 5 (.slice (B5 1) (p5 1) (f5 1))).set 6 (.slice (B5 2) (p5 2) (f5 2))))
        have HKA := hide (show RowAt (((((((wa3.setCell ⟨ga, 0, none⟩ (.slice A5 n5 c5)).setCell ⟨ga, 1, none⟩ (.int .u64 r2.e)).setCell ⟨ga, 2, none⟩ (.slice S5 m5 d5)).setCell ⟨ga, 3, none⟩ (.int .u64 (r2.l.E : Int))).setCell ⟨ga, 4, none⟩ (.slice (B5 0) (p5 0) (f5 0))).setCell ⟨ga, 5, none⟩ (.slice (B5 1) (p5 1) (f5 1))).setCell ⟨ga, 6, none⟩ (.slice (B5 2) (p5 2) (f5 2))) ga 34 #[.slice A5 n5 c5, .int .u64 r2.e, .slice S5 m5 d5, .int .u64 (r2.l.E : Int), .slice (B5 0) (p5 0) (f5 0), .slice (B5 1) (p5 1) (f5 1), .slice (B5 2) (p5 2) (f5 2)] from by have h := (((((((hra.set 0 (.slice A5 n5 c5)).set 1 (.int .u64 r2.e)).set 2 (.slice S5 m5 d5)).set 3 (.int .u64 (r2.l.E : Int))).set 4 (.slice (B5 0) (p5 0) (f5 0))).set 5 (.slice (B5 1) (p5 1) (f5 1))).set 6 (.slice (B5 2) (p5 2) (f5 2))); simpa using h)
        have HX1 := hide (HX.out.trans (HLD.out.below.mono HGA.out))
        have hgab : gb ≠ ga := fun e => by have h1 := HRB.out; rw [e] at h1; exact absurd (row_typ h1 hra) (by decide)
        have HRB2 := hide (show RowAt _ gb 41 #[.int .i64 0, .int .u64 0] from (HLD.out.block gb hgab).trans HRB.out)
        have HV2 := hide (HV.out.stay (HLD.out.stay (fun h => h.2.2 rfl)))
        clear hra yl y0 yf0 y1 yf1 y2 yf2 y3 yf3 y4 yf4 y5 yf5 y6 yf6
        generalize (((((((wa3.setCell ⟨ga, 0, none⟩ (.slice A5 n5 c5)).setCell ⟨ga, 1, none⟩ (.int .u64 r2.e)).setCell ⟨ga, 2, none⟩ (.slice S5 m5 d5)).setCell ⟨ga, 3, none⟩ (.int .u64 (r2.l.E : Int))).setCell ⟨ga, 4, none⟩ (.slice (B5 0) (p5 0) (f5 0))).setCell ⟨ga, 5, none⟩ (.slice (B5 1) (p5 1) (f5 1))).setCell ⟨ga, 6, none⟩ (.slice (B5 2) (p5 2) (f5 2))) = wp at *
        refine hK29.out _ _ (HSX.out _ HX1.out) (fun _ => ?_)
        clear hK29 K29
        (try simp only [Act.put, List.getElem_toArray, List.getElem_cons_succ, List.getElem_cons_zero, List.setIfInBounds_toArray, List.set_cons_zero, List.set_cons_succ])
        refine wpAnyH_ready (rs := [12]) (by kernel_rfl) (by simp) ?_
        refine (AllReadyH.cons rfl (fun K30 hK30 => ?_) AllReadyH.nil)
        have u0 := row20 HRB2.out
        have u1 := row21 HRB2.out
        have ul := HRB2.out.lt
        have uf0 := HRB2.out.frozen 0
        have uf1 := HRB2.out.frozen 1
        go_simp
        have HL2 := hide (show LaidF gb wp ((wp.setCell ⟨gb, 0, none⟩ (.int .i64 y.1)).setCell ⟨gb, 1, none⟩ (.int .u64 y.2)) from (((laid0 gb _).set 0 (.int .i64 y.1)).set 1 (.int .u64 y.2)))
        have HX3 := hide (HX1.out.trans (HL2.out.below.mono HGB.out))
        have HV3 := hide (HV2.out.stay (HL2.out.stay (fun h => h.2.1 rfl)))
        have HKA2 := hide (show RowAt ((wp.setCell ⟨gb, 0, none⟩ (.int .i64 y.1)).setCell ⟨gb, 1, none⟩ (.int .u64 y.2)) ga 34 #[.slice A5 n5 c5, .int .u64 r2.e, .slice S5 m5 d5, .int .u64 (r2.l.E : Int), .slice (B5 0) (p5 0) (f5 0), .slice (B5 1) (p5 1) (f5 1), .slice (B5 2) (p5 2) (f5 2)] from (HL2.out.block ga (Ne.symm hgab)).trans HKA.out)
        clear u0 u1 ul uf0 uf1 hgab
        generalize ((wp.setCell ⟨gb, 0, none⟩ (.int .i64 y.1)).setCell ⟨gb, 1, none⟩ (.int .u64 y.2)) = wq at *
        refine hK30.out _ _ (HSX.out _ HX3.out) (fun _ => ?_)
        clear hK30 K30
        (try simp only [Act.put, List.getElem_toArray, List.getElem_cons_succ, List.getElem_cons_zero, List.setIfInBounds_toArray, List.set_cons_zero, List.set_cons_succ])
        refine wpAnyH_ready (rs := [13]) (by kernel_rfl) (by simp) ?_
        refine (AllReadyH.cons rfl (fun K31 hK31 => ?_) AllReadyH.nil)
        go_simp
        refine hK31.out _ _ (HSX.out _ HX3.out) (fun _ => ?_)
        clear hK31 K31
        (try simp only [Act.put, List.getElem_toArray, List.getElem_cons_succ, List.getElem_cons_zero, List.setIfInBounds_toArray, List.set_cons_zero, List.set_cons_succ])
        refine wpAnyH_done (by kernel_rfl) ?_ _
        go_wp2_with fail
        go_meet
        case rel => exact ⟨ga, rfl, rfl, ⟨HGA.out, _, _, _, _, _, _, _, _, _, HKA2.out, HV3.out.up (fun j hj _ => hj.1)⟩, HX3.out⟩
       ·
        go_simp
        have hb : Below wa1.heap.size wa1 (wa1.alloc (.cells #[.slice none 0 0, .int .u64 0, .slice none 0 0, .int .u64 0, .slice none 0 0, .slice none 0 0, .slice none 0 0] 34)) := (Below.refl _ _).alloc (Nat.le_refl _) _
        have hre := RowAt.new wa1 34 #[.slice none 0 0, .int .u64 0, .slice none 0 0, .int .u64 0, .slice none 0 0, .slice none 0 0, .slice none 0 0]
        replace HRB := hide (HRB.out.below hb)
        obtain ⟨ga, hge⟩ : ∃ g, wa1.heap.size = g := ⟨_, rfl⟩
        have HGA := hide (show w0.heap.size ≤ ga from by rw [← hge]; exact HX.out.size)
        have hX2 := HX.out.trans (hb.mono HX.out.size)
        replace HX := hide hX2
        rw [hge] at hre ⊢
        have HRA := hide hre
        clear hX2 hS0 hre hb hge
        have hS0 := HSX.out _ HX.out
        generalize (wa1.alloc (.cells #[.slice none 0 0, .int .u64 0, .slice none 0 0, .int .u64 0, .slice none 0 0, .slice none 0 0, .slice none 0 0] 34)) = wa2 at *
        refine hK27.out _ _ (hS0) (fun _ => ?_)
        clear hK27 K27
        (try simp only [Act.put, List.getElem_toArray, List.getElem_cons_succ, List.getElem_cons_zero, List.setIfInBounds_toArray, List.set_cons_zero, List.set_cons_succ])
        refine wpAnyH_ready (rs := [4]) (by kernel_rfl) (by simp) ?_
        refine (AllReadyH.cons rfl (fun K32 hK32 => ?_) AllReadyH.nil)
        go_simp
        with_reducible refine (doAs (HRC.out.below HX.out).val HFV.out 2 (k : Int) 0 0 0 (Int.le_refl _) u64z HT.out).mono ?_
        rintro e wo3 ⟨⟨v5, rfl, hv⟩, hb⟩
        obtain ⟨A5, S5, n5, c5, m5, d5, B5, p5, f5, rfl, hr⟩ := hv
        have hlga := HRA.out.lt
        have hlgb := HRB.out.lt
        have hxs := HX.out.size
        have HV := hide (hr.up (G := fun j => w0.heap.size ≤ j ∧ j ≠ gb ∧ j ≠ ga) (fun j (hj : wa2.heap.size ≤ j) _ => by show w0.heap.size ≤ j ∧ j ≠ gb ∧ j ≠ ga; omega))
        clear hr hxs hlgb hlga
        replace HRA := hide (HRA.out.below hb)
        replace HRB := hide (HRB.out.below hb)
        have hX2 := HX.out.trans (hb.mono HX.out.size)
        replace HX := hide hX2
        clear hX2 hS0 hb
        have hS0 := HSX.out _ HX.out
        refine hK32.out _ _ (hS0) (fun _ => ?_)
        clear hK32 K32
        (try simp only [Act.put, List.getElem_toArray, List.getElem_cons_succ, List.getElem_cons_zero, List.setIfInBounds_toArray, List.set_cons_zero, List.set_cons_succ])
        (refine wpAnyH_take (i := 5) (v := ?_) rfl (by kernel_rfl) (by kernel_rfl) (by kernel_rfl) (fun _ _ _ h => h) (Or.inl ⟨by rfl, ?_⟩) (by assumption) ?_; rotate_left; (focus (intro w hSw; (try dsimp only at hSw); obtain ⟨kf0, kf1, kf2, kf3, kf4, kf5, kf6, kf7⟩ := hSw; go_simp; first | done | with_reducible rfl)); (try simp only [Act.put, List.getElem_toArray, List.getElem_cons_succ, List.getElem_cons_zero, List.setIfInBounds_toArray, List.set_cons_zero, List.set_cons_succ]))
        (refine wpAnyH_take (i := 6) (v := ?_) rfl (by kernel_rfl) (by kernel_rfl) (by kernel_rfl) (fun _ _ _ h => h) (Or.inl ⟨by rfl, ?_⟩) (by assumption) ?_; rotate_left; (focus (intro w hSw; (try dsimp only at hSw); obtain ⟨kf0, kf1, kf2, kf3, kf4, kf5, kf6, kf7⟩ := hSw; go_simp; first | done | with_reducible rfl)); (try simp only [Act.put, List.getElem_toArray, List.getElem_cons_succ, List.getElem_cons_zero, List.setIfInBounds_toArray, List.set_cons_zero, List.set_cons_succ]))
        (refine wpAnyH_take (i := 7) (v := ?_) rfl (by kernel_rfl) (by kernel_rfl) (by kernel_rfl) (fun _ _ _ h => h) (Or.inl ⟨by rfl, ?_⟩) (by assumption) ?_; rotate_left; (focus (intro w hSw; (try dsimp only at hSw); obtain ⟨kf0, kf1, kf2, kf3, kf4, kf5, kf6, kf7⟩ := hSw; go_simp; first | done | with_reducible rfl)); (try simp only [Act.put, List.getElem_toArray, List.getElem_cons_succ, List.getElem_cons_zero, List.setIfInBounds_toArray, List.set_cons_zero, List.set_cons_succ]))
        (refine wpAnyH_take (i := 8) (v := ?_) rfl (by kernel_rfl) (by kernel_rfl) (by kernel_rfl) (fun _ _ _ h => h) (Or.inl ⟨by rfl, ?_⟩) (by assumption) ?_; rotate_left; (focus (intro w hSw; (try dsimp only at hSw); obtain ⟨kf0, kf1, kf2, kf3, kf4, kf5, kf6, kf7⟩ := hSw; go_simp; first | done | with_reducible rfl)); (try simp only [Act.put, List.getElem_toArray, List.getElem_cons_succ, List.getElem_cons_zero, List.setIfInBounds_toArray, List.set_cons_zero, List.set_cons_succ]))
        refine wpAnyH_ready (rs := [11]) (by kernel_rfl) (by simp) ?_
        refine (AllReadyH.cons rfl (fun K33 hK33 => ?_) AllReadyH.nil)
        clear hS0
        have hra := HRA.out
        obtain ⟨y0, y1, y2, y3, y4, y5, y6⟩ := row7 hra
        have yl := hra.lt
        have yf0 := hra.frozen 0
        have yf1 := hra.frozen 1
        have yf2 := hra.frozen 2
        have yf3 := hra.frozen 3
        have yf4 := hra.frozen 4
        have yf5 := hra.frozen 5
        have yf6 := hra.frozen 6
        go_simp
        have HLD := hide (show LaidF ga wo3 (((((((wo3.setCell ⟨ga, 0, none⟩ (.slice A5 n5 c5)).setCell ⟨ga, 1, none⟩ (.int .u64 r2.e)).setCell ⟨ga, 2, none⟩ (.slice S5 m5 d5)).setCell ⟨ga, 3, none⟩ (.int .u64 (r2.l.E : Int))).setCell ⟨ga, 4, none⟩ (.slice (B5 0) (p5 0) (f5 0))).setCell ⟨ga, 5, none⟩ (.slice (B5 1) (p5 1) (f5 1))).setCell ⟨ga, 6, none⟩ (.slice (B5 2) (p5 2) (f5 2))) from ((((((((laid0 ga _).set 0 (.slice A5 n5 c5)).set 1 (.int .u64 r2.e)).set 2 (.slice S5 m5 d5)).set 3 (.int .u64 (r2.l.E : Int))).set 4 (.slice (B5 0) (p5 0) (f5 0))).set 5 (.slice (B5 1) (p5 1) (f5 1))).set 6 (.slice (B5 2) (p5 2) (f5 2))))
        have HKA := hide (show RowAt (((((((wo3.setCell ⟨ga, 0, none⟩ (.slice A5 n5 c5)).setCell ⟨ga, 1, none⟩ (.int .u64 r2.e)).setCell ⟨ga, 2, none⟩ (.slice S5 m5 d5)).setCell ⟨ga, 3, none⟩ (.int .u64 (r2.l.E : Int))).setCell ⟨ga, 4, none⟩ (.slice (B5 0) (p5 0) (f5 0))).setCell ⟨ga, 5, none⟩ (.slice (B5 1) (p5 1) (f5 1))).setCell ⟨ga, 6, none⟩ (.slice (B5 2) (p5 2) (f5 2))) ga 34 #[.slice A5 n5 c5, .int .u64 r2.e, .slice S5 m5 d5, .int .u64 (r2.l.E : Int), .slice (B5 0) (p5 0) (f5 0), .slice (B5 1) (p5 1) (f5 1), .slice (B5 2) (p5 2) (f5 2)] from by have h := (((((((hra.set 0 (.slice A5 n5 c5)).set 1 (.int .u64 r2.e)).set 2 (.slice S5 m5 d5)).set 3 (.int .u64 (r2.l.E : Int))).set 4 (.slice (B5 0) (p5 0) (f5 0))).set 5 (.slice (B5 1) (p5 1) (f5 1))).set 6 (.slice (B5 2) (p5 2) (f5 2))); simpa using h)
        have HX1 := hide (HX.out.trans (HLD.out.below.mono HGA.out))
        have hgab : gb ≠ ga := fun e => by have h1 := HRB.out; rw [e] at h1; exact absurd (row_typ h1 hra) (by decide)
        have HRB2 := hide (show RowAt _ gb 41 #[.int .i64 0, .int .u64 0] from (HLD.out.block gb hgab).trans HRB.out)
        have HV2 := hide (HV.out.stay (HLD.out.stay (fun h => h.2.2 rfl)))
        clear hra yl y0 yf0 y1 yf1 y2 yf2 y3 yf3 y4 yf4 y5 yf5 y6 yf6
        generalize (((((((wo3.setCell ⟨ga, 0, none⟩ (.slice A5 n5 c5)).setCell ⟨ga, 1, none⟩ (.int .u64 r2.e)).setCell ⟨ga, 2, none⟩ (.slice S5 m5 d5)).setCell ⟨ga, 3, none⟩ (.int .u64 (r2.l.E : Int))).setCell ⟨ga, 4, none⟩ (.slice (B5 0) (p5 0) (f5 0))).setCell ⟨ga, 5, none⟩ (.slice (B5 1) (p5 1) (f5 1))).setCell ⟨ga, 6, none⟩ (.slice (B5 2) (p5 2) (f5 2))) = wp at *
        refine hK33.out _ _ (HSX.out _ HX1.out) (fun _ => ?_)
        clear hK33 K33
        (try simp only [Act.put, List.getElem_toArray, List.getElem_cons_succ, List.getElem_cons_zero, List.setIfInBounds_toArray, List.set_cons_zero, List.set_cons_succ])
        refine wpAnyH_ready (rs := [12]) (by kernel_rfl) (by simp) ?_
        refine (AllReadyH.cons rfl (fun K34 hK34 => ?_) AllReadyH.nil)
        have u0 := row20 HRB2.out
        have u1 := row21 HRB2.out
        have ul := HRB2.out.lt
        have uf0 := HRB2.out.frozen 0
        have uf1 := HRB2.out.frozen 1
        go_simp
        have HL2 := hide (show LaidF gb wp ((wp.setCell ⟨gb, 0, none⟩ (.int .i64 y.1)).setCell ⟨gb, 1, none⟩ (.int .u64 y.2)) from (((laid0 gb _).set 0 (.int .i64 y.1)).set 1 (.int .u64 y.2)))
        have HX3 := hide (HX1.out.trans (HL2.out.below.mono HGB.out))
        have HV3 := hide (HV2.out.stay (HL2.out.stay (fun h => h.2.1 rfl)))
        have HKA2 := hide (show RowAt ((wp.setCell ⟨gb, 0, none⟩ (.int .i64 y.1)).setCell ⟨gb, 1, none⟩ (.int .u64 y.2)) ga 34 #[.slice A5 n5 c5, .int .u64 r2.e, .slice S5 m5 d5, .int .u64 (r2.l.E : Int), .slice (B5 0) (p5 0) (f5 0), .slice (B5 1) (p5 1) (f5 1), .slice (B5 2) (p5 2) (f5 2)] from (HL2.out.block ga (Ne.symm hgab)).trans HKA.out)
        clear u0 u1 ul uf0 uf1 hgab
        generalize ((wp.setCell ⟨gb, 0, none⟩ (.int .i64 y.1)).setCell ⟨gb, 1, none⟩ (.int .u64 y.2)) = wq at *
        refine hK34.out _ _ (HSX.out _ HX3.out) (fun _ => ?_)
        clear hK34 K34
        (try simp only [Act.put, List.getElem_toArray, List.getElem_cons_succ, List.getElem_cons_zero, List.setIfInBounds_toArray, List.set_cons_zero, List.set_cons_succ])
        refine wpAnyH_ready (rs := [13]) (by kernel_rfl) (by simp) ?_
        refine (AllReadyH.cons rfl (fun K35 hK35 => ?_) AllReadyH.nil)
        go_simp
        refine hK35.out _ _ (HSX.out _ HX3.out) (fun _ => ?_)
        clear hK35 K35
        (try simp only [Act.put, List.getElem_toArray, List.getElem_cons_succ, List.getElem_cons_zero, List.setIfInBounds_toArray, List.set_cons_zero, List.set_cons_succ])
        refine wpAnyH_done (by kernel_rfl) ?_ _
        go_wp2_with fail
        go_meet
        case rel => exact ⟨ga, rfl, rfl, ⟨HGA.out, _, _, _, _, _, _, _, _, _, HKA2.out, HV3.out.up (fun j hj _ => hj.1)⟩, HX3.out⟩
     ·
      go_simp
      have hb : Below wd.heap.size wd (wd.alloc (.cells #[.slice none 0 0, .int .u64 0, .slice none 0 0, .int .u64 0, .slice none 0 0, .slice none 0 0, .slice none 0 0] 34)) := (Below.refl _ _).alloc (Nat.le_refl _) _
      have hre := RowAt.new wd 34 #[.slice none 0 0, .int .u64 0, .slice none 0 0, .int .u64 0, .slice none 0 0, .slice none 0 0, .slice none 0 0]
      obtain ⟨ga, hge⟩ : ∃ g, wd.heap.size = g := ⟨_, rfl⟩
      have HGA := hide (show w0.heap.size ≤ ga from by rw [← hge]; exact HX.out.size)
      have hX2 := HX.out.trans (hb.mono HX.out.size)
      replace HX := hide hX2
      rw [hge] at hre ⊢
      have HRA := hide hre
      clear hX2 hS0 hre hb hge
      have hS0 := HSX.out _ HX.out
      generalize (wd.alloc (.cells #[.slice none 0 0, .int .u64 0, .slice none 0 0, .int .u64 0, .slice none 0 0, .slice none 0 0, .slice none 0 0] 34)) = wa0 at *
      refine hK1.out _ _ (hS0) (fun _ => ?_)
      clear hK1 K1
      (try simp only [Act.put, List.getElem_toArray, List.getElem_cons_succ, List.getElem_cons_zero, List.setIfInBounds_toArray, List.set_cons_zero, List.set_cons_succ])
      refine wpAnyH_ready (rs := [3, 10]) (by kernel_rfl) (by simp) ?_
      refine (AllReadyH.cons rfl (fun K36 hK36 => ?_) (AllReadyH.cons rfl (fun K37 hK37 => ?_) AllReadyH.nil))
      ·
       go_simp
       with_reducible refine (op_any 2 (k : Int) 0 0 wa0).mono ?_
       rintro e wo1 ⟨rfl, hb⟩
       replace HRA := hide (HRA.out.below hb)
       have hX2 := HX.out.trans (hb.mono HX.out.size)
       replace HX := hide hX2
       clear hX2 hS0 hb
       have hS0 := HSX.out _ HX.out
       refine hK36.out _ _ (hS0) (fun _ => ?_)
       clear hK36 K36
       (try simp only [Act.put, List.getElem_toArray, List.getElem_cons_succ, List.getElem_cons_zero, List.setIfInBounds_toArray, List.set_cons_zero, List.set_cons_succ])
       refine wpAnyH_ready (rs := [4, 10]) (by kernel_rfl) (by simp) ?_
       refine (AllReadyH.cons rfl (fun K38 hK38 => ?_) (AllReadyH.cons rfl (fun K39 hK39 => ?_) AllReadyH.nil))
       ·
        go_simp
        with_reducible refine (doAs (HRC.out.below HX.out).val HFV.out 2 (k : Int) 0 0 0 (Int.le_refl _) u64z HT.out).mono ?_
        rintro e wo2 ⟨⟨v5, rfl, hv⟩, hb⟩
        obtain ⟨A5, S5, n5, c5, m5, d5, B5, p5, f5, rfl, hr⟩ := hv
        have hlga := HRA.out.lt
        have hxs := HX.out.size
        have HV := hide (hr.up (G := fun j => w0.heap.size ≤ j ∧ j ≠ ga) (fun j (hj : wo1.heap.size ≤ j) _ => by show w0.heap.size ≤ j ∧ j ≠ ga; omega))
        clear hr hxs hlga
        replace HRA := hide (HRA.out.below hb)
        have hX2 := HX.out.trans (hb.mono HX.out.size)
        replace HX := hide hX2
        clear hX2 hS0 hb
        have hS0 := HSX.out _ HX.out
        refine hK38.out _ _ (hS0) (fun _ => ?_)
        clear hK38 K38
        (try simp only [Act.put, List.getElem_toArray, List.getElem_cons_succ, List.getElem_cons_zero, List.setIfInBounds_toArray, List.set_cons_zero, List.set_cons_succ])
        (refine wpAnyH_take (i := 5) (v := ?_) rfl (by kernel_rfl) (by kernel_rfl) (by kernel_rfl) (fun _ _ _ h => h) (Or.inl ⟨by rfl, ?_⟩) (by assumption) ?_; rotate_left; (focus (intro w hSw; (try dsimp only at hSw); obtain ⟨kf0, kf1, kf2, kf3, kf4, kf5, kf6, kf7⟩ := hSw; go_simp; first | done | with_reducible rfl)); (try simp only [Act.put, List.getElem_toArray, List.getElem_cons_succ, List.getElem_cons_zero, List.setIfInBounds_toArray, List.set_cons_zero, List.set_cons_succ]))
        (refine wpAnyH_take (i := 6) (v := ?_) rfl (by kernel_rfl) (by kernel_rfl) (by kernel_rfl) (fun _ _ _ h => h) (Or.inl ⟨by rfl, ?_⟩) (by assumption) ?_; rotate_left; (focus (intro w hSw; (try dsimp only at hSw); obtain ⟨kf0, kf1, kf2, kf3, kf4, kf5, kf6, kf7⟩ := hSw; go_simp; first | done | with_reducible rfl)); (try simp only [Act.put, List.getElem_toArray, List.getElem_cons_succ, List.getElem_cons_zero, List.setIfInBounds_toArray, List.set_cons_zero, List.set_cons_succ]))
        (refine wpAnyH_take (i := 7) (v := ?_) rfl (by kernel_rfl) (by kernel_rfl) (by kernel_rfl) (fun _ _ _ h => h) (Or.inl ⟨by rfl, ?_⟩) (by assumption) ?_; rotate_left; (focus (intro w hSw; (try dsimp only at hSw); obtain ⟨kf0, kf1, kf2, kf3, kf4, kf5, kf6, kf7⟩ := hSw; go_simp; first | done | with_reducible rfl)); (try simp only [Act.put, List.getElem_toArray, List.getElem_cons_succ, List.getElem_cons_zero, List.setIfInBounds_toArray, List.set_cons_zero, List.set_cons_succ]))
        (refine wpAnyH_take (i := 8) (v := ?_) rfl (by kernel_rfl) (by kernel_rfl) (by kernel_rfl) (fun _ _ _ h => h) (Or.inl ⟨by rfl, ?_⟩) (by assumption) ?_; rotate_left; (focus (intro w hSw; (try dsimp only at hSw); obtain ⟨kf0, kf1, kf2, kf3, kf4, kf5, kf6, kf7⟩ := hSw; go_simp; first | done | with_reducible rfl)); (try simp only [Act.put, List.getElem_toArray, List.getElem_cons_succ, List.getElem_cons_zero, List.setIfInBounds_toArray, List.set_cons_zero, List.set_cons_succ]))
        refine wpAnyH_ready (rs := [10]) (by kernel_rfl) (by simp) ?_
        refine (AllReadyH.cons rfl (fun K40 hK40 => ?_) AllReadyH.nil)
        go_simp
        have hb : Below wo2.heap.size wo2 (wo2.alloc (.cells #[.int .i64 0, .int .u64 0] 41)) := (Below.refl _ _).alloc (Nat.le_refl _) _
        have hre := RowAt.new wo2 41 #[.int .i64 0, .int .u64 0]
        replace HRA := hide (HRA.out.below hb)
        have HVN := hide (show RecF (fun j => w0.heap.size ≤ j ∧ j ≠ ga ∧ j ≠ wo2.heap.size) (wo2.alloc (.cells #[.int .i64 0, .int .u64 0] 41)) A5 S5 n5 c5 m5 d5 B5 p5 f5 r2 from (HV.out.up (G := fun j => w0.heap.size ≤ j ∧ j ≠ ga ∧ j ≠ wo2.heap.size) (fun j (hj : w0.heap.size ≤ j ∧ j ≠ ga) hl => by omega)).below hb)
        clear HV
        obtain ⟨gb, hge⟩ : ∃ g, wo2.heap.size = g := ⟨_, rfl⟩
        have HGB := hide (show w0.heap.size ≤ gb from by rw [← hge]; exact HX.out.size)
        have hX2 := HX.out.trans (hb.mono HX.out.size)
        replace HX := hide hX2
        rw [hge] at hre HVN ⊢
        have HRB := hide hre
        have HV := HVN
        clear HVN
        clear hX2 hS0 hre hb hge
        have hS0 := HSX.out _ HX.out
        generalize (wo2.alloc (.cells #[.int .i64 0, .int .u64 0] 41)) = wa3 at *
        refine hK40.out _ _ (hS0) (fun _ => ?_)
        clear hK40 K40
        (try simp only [Act.put, List.getElem_toArray, List.getElem_cons_succ, List.getElem_cons_zero, List.setIfInBounds_toArray, List.set_cons_zero, List.set_cons_succ])
        refine wpAnyH_ready (rs := [11]) (by kernel_rfl) (by simp) ?_
        refine (AllReadyH.cons rfl (fun K41 hK41 => ?_) AllReadyH.nil)
        clear hS0
        have hra := HRA.out
        obtain ⟨y0, y1, y2, y3, y4, y5, y6⟩ := row7 hra
        have yl := hra.lt
        have yf0 := hra.frozen 0
        have yf1 := hra.frozen 1
        have yf2 := hra.frozen 2
        have yf3 := hra.frozen 3
        have yf4 := hra.frozen 4
        have yf5 := hra.frozen 5
        have yf6 := hra.frozen 6
        go_simp
        have HLD := hide (show LaidF ga wa3 (((((((wa3.setCell ⟨ga, 0, none⟩ (.slice A5 n5 c5)).setCell ⟨ga, 1, none⟩ (.int .u64 r2.e)).setCell ⟨ga, 2, none⟩ (.slice S5 m5 d5)).setCell ⟨ga, 3, none⟩ (.int .u64 (r2.l.E : Int))).setCell ⟨ga, 4, none⟩ (.slice (B5 0) (p5 0) (f5 0))).setCell ⟨ga, 5, none⟩ (.slice (B5 1) (p5 1) (f5 1))).setCell ⟨ga, 6, none⟩ (.slice (B5 2) (p5 2) (f5 2))) from ((((((((laid0 ga _).set 0 (.slice A5 n5 c5)).set 1 (.int .u64 r2.e)).set 2 (.slice S5 m5 d5)).set 3 (.int .u64 (r2.l.E : Int))).set 4 (.slice (B5 0) (p5 0) (f5 0))).set 5 (.slice (B5 1) (p5 1) (f5 1))).set 6 (.slice (B5 2) (p5 2) (f5 2))))
        have HKA := hide (show RowAt (((((((wa3.setCell ⟨ga, 0, none⟩ (.slice A5 n5 c5)).setCell ⟨ga, 1, none⟩ (.int .u64 r2.e)).setCell ⟨ga, 2, none⟩ (.slice S5 m5 d5)).setCell ⟨ga, 3, none⟩ (.int .u64 (r2.l.E : Int))).setCell ⟨ga, 4, none⟩ (.slice (B5 0) (p5 0) (f5 0))).setCell ⟨ga, 5, none⟩ (.slice (B5 1) (p5 1) (f5 1))).setCell ⟨ga, 6, none⟩ (.slice (B5 2) (p5 2) (f5 2))) ga 34 #[.slice A5 n5 c5, .int .u64 r2.e, .slice S5 m5 d5, .int .u64 (r2.l.E : Int), .slice (B5 0) (p5 0) (f5 0), .slice (B5 1) (p5 1) (f5 1), .slice (B5 2) (p5 2) (f5 2)] from by have h := (((((((hra.set 0 (.slice A5 n5 c5)).set 1 (.int .u64 r2.e)).set 2 (.slice S5 m5 d5)).set 3 (.int .u64 (r2.l.E : Int))).set 4 (.slice (B5 0) (p5 0) (f5 0))).set 5 (.slice (B5 1) (p5 1) (f5 1))).set 6 (.slice (B5 2) (p5 2) (f5 2))); simpa using h)
        have HX1 := hide (HX.out.trans (HLD.out.below.mono HGA.out))
        have hgab : gb ≠ ga := fun e => by have h1 := HRB.out; rw [e] at h1; exact absurd (row_typ h1 hra) (by decide)
        have HRB2 := hide (show RowAt _ gb 41 #[.int .i64 0, .int .u64 0] from (HLD.out.block gb hgab).trans HRB.out)
        have HV2 := hide (HV.out.stay (HLD.out.stay (fun h => h.2.1 rfl)))
        clear hra yl y0 yf0 y1 yf1 y2 yf2 y3 yf3 y4 yf4 y5 yf5 y6 yf6
        generalize (((((((wa3.setCell ⟨ga, 0, none⟩ (.slice A5 n5 c5)).setCell ⟨ga, 1, none⟩ (.int .u64 r2.e)).setCell ⟨ga, 2, none⟩ (.slice S5 m5 d5)).setCell ⟨ga, 3, none⟩ (.int .u64 (r2.l.E : Int))).setCell ⟨ga, 4, none⟩ (.slice (B5 0) (p5 0) (f5 0))).setCell ⟨ga, 5, none⟩ (.slice (B5 1) (p5 1) (f5 1))).setCell ⟨ga, 6, none⟩ (.slice (B5 2) (p5 2) (f5 2))) = wp at *
        refine hK41.out _ _ (HSX.out _ HX1.out) (fun _ => ?_)
        clear hK41 K41
        (try simp only [Act.put, List.getElem_toArray, List.getElem_cons_succ, List.getElem_cons_zero, List.setIfInBounds_toArray, List.set_cons_zero, List.set_cons_succ])
        refine wpAnyH_ready (rs := [12]) (by kernel_rfl) (by simp) ?_
        refine (AllReadyH.cons rfl (fun K42 hK42 => ?_) AllReadyH.nil)
        have u0 := row20 HRB2.out
        have u1 := row21 HRB2.out
        have ul := HRB2.out.lt
        have uf0 := HRB2.out.frozen 0
        have uf1 := HRB2.out.frozen 1
        go_simp
        have HL2 := hide (show LaidF gb wp ((wp.setCell ⟨gb, 0, none⟩ (.int .i64 y.1)).setCell ⟨gb, 1, none⟩ (.int .u64 y.2)) from (((laid0 gb _).set 0 (.int .i64 y.1)).set 1 (.int .u64 y.2)))
        have HX3 := hide (HX1.out.trans (HL2.out.below.mono HGB.out))
        have HV3 := hide (HV2.out.stay (HL2.out.stay (fun h => h.2.2 rfl)))
        have HKA2 := hide (show RowAt ((wp.setCell ⟨gb, 0, none⟩ (.int .i64 y.1)).setCell ⟨gb, 1, none⟩ (.int .u64 y.2)) ga 34 #[.slice A5 n5 c5, .int .u64 r2.e, .slice S5 m5 d5, .int .u64 (r2.l.E : Int), .slice (B5 0) (p5 0) (f5 0), .slice (B5 1) (p5 1) (f5 1), .slice (B5 2) (p5 2) (f5 2)] from (HL2.out.block ga (Ne.symm hgab)).trans HKA.out)
        clear u0 u1 ul uf0 uf1 hgab
        generalize ((wp.setCell ⟨gb, 0, none⟩ (.int .i64 y.1)).setCell ⟨gb, 1, none⟩ (.int .u64 y.2)) = wq at *
        refine hK42.out _ _ (HSX.out _ HX3.out) (fun _ => ?_)
        clear hK42 K42
        (try simp only [Act.put, List.getElem_toArray, List.getElem_cons_succ, List.getElem_cons_zero, List.setIfInBounds_toArray, List.set_cons_zero, List.set_cons_succ])
        refine wpAnyH_ready (rs := [13]) (by kernel_rfl) (by simp) ?_
        refine (AllReadyH.cons rfl (fun K43 hK43 => ?_) AllReadyH.nil)
        go_simp
        refine hK43.out _ _ (HSX.out _ HX3.out) (fun _ => ?_)
        clear hK43 K43
        (try simp only [Act.put, List.getElem_toArray, List.getElem_cons_succ, List.getElem_cons_zero, List.setIfInBounds_toArray, List.set_cons_zero, List.set_cons_succ])
        refine wpAnyH_done (by kernel_rfl) ?_ _
        go_wp2_with fail
        go_meet
        case rel => exact ⟨ga, rfl, rfl, ⟨HGA.out, _, _, _, _, _, _, _, _, _, HKA2.out, HV3.out.up (fun j hj _ => hj.1)⟩, HX3.out⟩
       ·
        go_simp
        have hb : Below wo1.heap.size wo1 (wo1.alloc (.cells #[.int .i64 0, .int .u64 0] 41)) := (Below.refl _ _).alloc (Nat.le_refl _) _
        have hre := RowAt.new wo1 41 #[.int .i64 0, .int .u64 0]
        replace HRA := hide (HRA.out.below hb)
        obtain ⟨gb, hge⟩ : ∃ g, wo1.heap.size = g := ⟨_, rfl⟩
        have HGB := hide (show w0.heap.size ≤ gb from by rw [← hge]; exact HX.out.size)
        have hX2 := HX.out.trans (hb.mono HX.out.size)
        replace HX := hide hX2
        rw [hge] at hre ⊢
        have HRB := hide hre
        clear hX2 hS0 hre hb hge
        have hS0 := HSX.out _ HX.out
        generalize (wo1.alloc (.cells #[.int .i64 0, .int .u64 0] 41)) = wa2 at *
        refine hK39.out _ _ (hS0) (fun _ => ?_)
        clear hK39 K39
        (try simp only [Act.put, List.getElem_toArray, List.getElem_cons_succ, List.getElem_cons_zero, List.setIfInBounds_toArray, List.set_cons_zero, List.set_cons_succ])
        refine wpAnyH_ready (rs := [4]) (by kernel_rfl) (by simp) ?_
        refine (AllReadyH.cons rfl (fun K44 hK44 => ?_) AllReadyH.nil)
        go_simp
        with_reducible refine (doAs (HRC.out.below HX.out).val HFV.out 2 (k : Int) 0 0 0 (Int.le_refl _) u64z HT.out).mono ?_
        rintro e wo3 ⟨⟨v5, rfl, hv⟩, hb⟩
        obtain ⟨A5, S5, n5, c5, m5, d5, B5, p5, f5, rfl, hr⟩ := hv
        have hlga := HRA.out.lt
        have hlgb := HRB.out.lt
        have hxs := HX.out.size
        have HV := hide (hr.up (G := fun j => w0.heap.size ≤ j ∧ j ≠ ga ∧ j ≠ gb) (fun j (hj : wa2.heap.size ≤ j) _ => by show w0.heap.size ≤ j ∧ j ≠ ga ∧ j ≠ gb; omega))
        clear hr hxs hlga hlgb
        replace HRA := hide (HRA.out.below hb)
        replace HRB := hide (HRB.out.below hb)
        have hX2 := HX.out.trans (hb.mono HX.out.size)
        replace HX := hide hX2
        clear hX2 hS0 hb
        have hS0 := HSX.out _ HX.out
        refine hK44.out _ _ (hS0) (fun _ => ?_)
        clear hK44 K44
        (try simp only [Act.put, List.getElem_toArray, List.getElem_cons_succ, List.getElem_cons_zero, List.setIfInBounds_toArray, List.set_cons_zero, List.set_cons_succ])
        (refine wpAnyH_take (i := 5) (v := ?_) rfl (by kernel_rfl) (by kernel_rfl) (by kernel_rfl) (fun _ _ _ h => h) (Or.inl ⟨by rfl, ?_⟩) (by assumption) ?_; rotate_left; (focus (intro w hSw; (try dsimp only at hSw); obtain ⟨kf0, kf1, kf2, kf3, kf4, kf5, kf6, kf7⟩ := hSw; go_simp; first | done | with_reducible rfl)); (try simp only [Act.put, List.getElem_toArray, List.getElem_cons_succ, List.getElem_cons_zero, List.setIfInBounds_toArray, List.set_cons_zero, List.set_cons_succ]))
        (refine wpAnyH_take (i := 6) (v := ?_) rfl (by kernel_rfl) (by kernel_rfl) (by kernel_rfl) (fun _ _ _ h => h) (Or.inl ⟨by rfl, ?_⟩) (by assumption) ?_; rotate_left; (focus (intro w hSw; (try dsimp only at hSw); obtain ⟨kf0, kf1, kf2, kf3, kf4, kf5, kf6, kf7⟩ := hSw; go_simp; first | done | with_reducible rfl)); (try simp only [Act.put, List.getElem_toArray, List.getElem_cons_succ, List.getElem_cons_zero, List.setIfInBounds_toArray, List.set_cons_zero, List.set_cons_succ]))
        (refine wpAnyH_take (i := 7) (v := ?_) rfl (by kernel_rfl) (by kernel_rfl) (by kernel_rfl) (fun _ _ _ h => h) (Or.inl ⟨by rfl, ?_⟩) (by assumption) ?_; rotate_left; (focus (intro w hSw; (try dsimp only at hSw); obtain ⟨kf0, kf1, kf2, kf3, kf4, kf5, kf6, kf7⟩ := hSw; go_simp; first | done | with_reducible rfl)); (try simp only [Act.put, List.getElem_toArray, List.getElem_cons_succ, List.getElem_cons_zero, List.setIfInBounds_toArray, List.set_cons_zero, List.set_cons_succ]))
        (refine wpAnyH_take (i := 8) (v := ?_) rfl (by kernel_rfl) (by kernel_rfl) (by kernel_rfl) (fun _ _ _ h => h) (Or.inl ⟨by rfl, ?_⟩) (by assumption) ?_; rotate_left; (focus (intro w hSw; (try dsimp only at hSw); obtain ⟨kf0, kf1, kf2, kf3, kf4, kf5, kf6, kf7⟩ := hSw; go_simp; first | done | with_reducible rfl)); (try simp only [Act.put, List.getElem_toArray, List.getElem_cons_succ, List.getElem_cons_zero, List.setIfInBounds_toArray, List.set_cons_zero, List.set_cons_succ]))
        refine wpAnyH_ready (rs := [11]) (by kernel_rfl) (by simp) ?_
        refine (AllReadyH.cons rfl (fun K45 hK45 => ?_) AllReadyH.nil)
        clear hS0
        have hra := HRA.out
        obtain ⟨y0, y1, y2, y3, y4, y5, y6⟩ := row7 hra
        have yl := hra.lt
        have yf0 := hra.frozen 0
        have yf1 := hra.frozen 1
        have yf2 := hra.frozen 2
        have yf3 := hra.frozen 3
        have yf4 := hra.frozen 4
        have yf5 := hra.frozen 5
        have yf6 := hra.frozen 6
        go_simp
        have HLD := hide (show LaidF ga wo3 (((((((wo3.setCell ⟨ga, 0, none⟩ (.slice A5 n5 c5)).setCell ⟨ga, 1, none⟩ (.int .u64 r2.e)).setCell ⟨ga, 2, none⟩ (.slice S5 m5 d5)).setCell ⟨ga, 3, none⟩ (.int .u64 (r2.l.E : Int))).setCell ⟨ga, 4, none⟩ (.slice (B5 0) (p5 0) (f5 0))).setCell ⟨ga, 5, none⟩ (.slice (B5 1) (p5 1) (f5 1))).setCell ⟨ga, 6, none⟩ (.slice (B5 2) (p5 2) (f5 2))) from ((((((((laid0 ga _).set 0 (.slice A5 n5 c5)).set 1 (.int .u64 r2.e)).set 2 (.slice S5 m5 d5)).set 3 (.int .u64 (r2.l.E : Int))).set 4 (.slice (B5 0) (p5 0) (f5 0))).set 5 (.slice (B5 1) (p5 1) (f5 1))).set 6 (.slice (B5 2) (p5 2) (f5 2))))
        have HKA := hide (show RowAt (((((((wo3.setCell ⟨ga, 0, none⟩ (.slice A5 n5 c5)).setCell ⟨ga, 1, none⟩ (.int .u64 r2.e)).setCell ⟨ga, 2, none⟩ (.slice S5 m5 d5)).setCell ⟨ga, 3, none⟩ (.int .u64 (r2.l.E : Int))).setCell ⟨ga, 4, none⟩ (.slice (B5 0) (p5 0) (f5 0))).setCell ⟨ga, 5, none⟩ (.slice (B5 1) (p5 1) (f5 1))).setCell ⟨ga, 6, none⟩ (.slice (B5 2) (p5 2) (f5 2))) ga 34 #[.slice A5 n5 c5, .int .u64 r2.e, .slice S5 m5 d5, .int .u64 (r2.l.E : Int), .slice (B5 0) (p5 0) (f5 0), .slice (B5 1) (p5 1) (f5 1), .slice (B5 2) (p5 2) (f5 2)] from by have h := (((((((hra.set 0 (.slice A5 n5 c5)).set 1 (.int .u64 r2.e)).set 2 (.slice S5 m5 d5)).set 3 (.int .u64 (r2.l.E : Int))).set 4 (.slice (B5 0) (p5 0) (f5 0))).set 5 (.slice (B5 1) (p5 1) (f5 1))).set 6 (.slice (B5 2) (p5 2) (f5 2))); simpa using h)
        have HX1 := hide (HX.out.trans (HLD.out.below.mono HGA.out))
        have hgab : gb ≠ ga := fun e => by have h1 := HRB.out; rw [e] at h1; exact absurd (row_typ h1 hra) (by decide)
        have HRB2 := hide (show RowAt _ gb 41 #[.int .i64 0, .int .u64 0] from (HLD.out.block gb hgab).trans HRB.out)
        have HV2 := hide (HV.out.stay (HLD.out.stay (fun h => h.2.1 rfl)))
        clear hra yl y0 yf0 y1 yf1 y2 yf2 y3 yf3 y4 yf4 y5 yf5 y6 yf6
        generalize (((((((wo3.setCell ⟨ga, 0, none⟩ (.slice A5 n5 c5)).setCell ⟨ga, 1, none⟩ (.int .u64 r2.e)).setCell ⟨ga, 2, none⟩ (.slice S5 m5 d5)).setCell ⟨ga, 3, none⟩ (.int .u64 (r2.l.E : Int))).setCell ⟨ga, 4, none⟩ (.slice (B5 0) (p5 0) (f5 0))).setCell ⟨ga, 5, none⟩ (.slice (B5 1) (p5 1) (f5 1))).setCell ⟨ga, 6, none⟩ (.slice (B5 2) (p5 2) (f5 2))) = wp at *
        refine hK45.out _ _ (HSX.out _ HX1.out) (fun _ => ?_)
        clear hK45 K45
        (try simp only [Act.put, List.getElem_toArray, List.getElem_cons_succ, List.getElem_cons_zero, List.setIfInBounds_toArray, List.set_cons_zero, List.set_cons_succ])
        refine wpAnyH_ready (rs := [12]) (by kernel_rfl) (by simp) ?_
        refine (AllReadyH.cons rfl (fun K46 hK46 => ?_) AllReadyH.nil)
        have u0 := row20 HRB2.out
        have u1 := row21 HRB2.out
        have ul := HRB2.out.lt
        have uf0 := HRB2.out.frozen 0
        have uf1 := HRB2.out.frozen 1
        go_simp
        have HL2 := hide (show LaidF gb wp ((wp.setCell ⟨gb, 0, none⟩ (.int .i64 y.1)).setCell ⟨gb, 1, none⟩ (.int .u64 y.2)) from (((laid0 gb _).set 0 (.int .i64 y.1)).set 1 (.int .u64 y.2)))
        have HX3 := hide (HX1.out.trans (HL2.out.below.mono HGB.out))
        have HV3 := hide (HV2.out.stay (HL2.out.stay (fun h => h.2.2 rfl)))
        have HKA2 := hide (show RowAt ((wp.setCell ⟨gb, 0, none⟩ (.int .i64 y.1)).setCell ⟨gb, 1, none⟩ (.int .u64 y.2)) ga 34 #[.slice A5 n5 c5, .int .u64 r2.e, .slice S5 m5 d5, .int .u64 (r2.l.E : Int), .slice (B5 0) (p5 0) (f5 0), .slice (B5 1) (p5 1) (f5 1), .slice (B5 2) (p5 2) (f5 2)] from (HL2.out.block ga (Ne.symm hgab)).trans HKA.out)
        clear u0 u1 ul uf0 uf1 hgab
        generalize ((wp.setCell ⟨gb, 0, none⟩ (.int .i64 y.1)).setCell ⟨gb, 1, none⟩ (.int .u64 y.2)) = wq at *
        refine hK46.out _ _ (HSX.out _ HX3.out) (fun _ => ?_)
        clear hK46 K46
        (try simp only [Act.put, List.getElem_toArray, List.getElem_cons_succ, List.getElem_cons_zero, List.setIfInBounds_toArray, List.set_cons_zero, List.set_cons_succ])
        refine wpAnyH_ready (rs := [13]) (by kernel_rfl) (by simp) ?_
        refine (AllReadyH.cons rfl (fun K47 hK47 => ?_) AllReadyH.nil)
        go_simp
        refine hK47.out _ _ (HSX.out _ HX3.out) (fun _ => ?_)
        clear hK47 K47
        (try simp only [Act.put, List.getElem_toArray, List.getElem_cons_succ, List.getElem_cons_zero, List.setIfInBounds_toArray, List.set_cons_zero, List.set_cons_succ])
        refine wpAnyH_done (by kernel_rfl) ?_ _
        go_wp2_with fail
        go_meet
        case rel => exact ⟨ga, rfl, rfl, ⟨HGA.out, _, _, _, _, _, _, _, _, _, HKA2.out, HV3.out.up (fun j hj _ => hj.1)⟩, HX3.out⟩
      ·
       go_simp
       have hb : Below wa0.heap.size wa0 (wa0.alloc (.cells #[.int .i64 0, .int .u64 0] 41)) := (Below.refl _ _).alloc (Nat.le_refl _) _
       have hre := RowAt.new wa0 41 #[.int .i64 0, .int .u64 0]
       replace HRA := hide (HRA.out.below hb)
       obtain ⟨gb, hge⟩ : ∃ g, wa0.heap.size = g := ⟨_, rfl⟩
       have HGB := hide (show w0.heap.size ≤ gb from by rw [← hge]; exact HX.out.size)
       have hX2 := HX.out.trans (hb.mono HX.out.size)
       replace HX := hide hX2
       rw [hge] at hre ⊢
       have HRB := hide hre
       clear hX2 hS0 hre hb hge
       have hS0 := HSX.out _ HX.out
       generalize (wa0.alloc (.cells #[.int .i64 0, .int .u64 0] 41)) = wa1 at *
       refine hK37.out _ _ (hS0) (fun _ => ?_)
       clear hK37 K37
       (try simp only [Act.put, List.getElem_toArray, List.getElem_cons_succ, List.getElem_cons_zero, List.setIfInBounds_toArray, List.set_cons_zero, List.set_cons_succ])
       refine wpAnyH_ready (rs := [3]) (by kernel_rfl) (by simp) ?_
       refine (AllReadyH.cons rfl (fun K48 hK48 => ?_) AllReadyH.nil)
       go_simp
       with_reducible refine (op_any 2 (k : Int) 0 0 wa1).mono ?_
       rintro e wo2 ⟨rfl, hb⟩
       replace HRA := hide (HRA.out.below hb)
       replace HRB := hide (HRB.out.below hb)
       have hX2 := HX.out.trans (hb.mono HX.out.size)
       replace HX := hide hX2
       clear hX2 hS0 hb
       have hS0 := HSX.out _ HX.out
       refine hK48.out _ _ (hS0) (fun _ => ?_)
       clear hK48 K48
       (try simp only [Act.put, List.getElem_toArray, List.getElem_cons_succ, List.getElem_cons_zero, List.setIfInBounds_toArray, List.set_cons_zero, List.set_cons_succ])
       refine wpAnyH_ready (rs := [4]) (by kernel_rfl) (by simp) ?_
       refine (AllReadyH.cons rfl (fun K49 hK49 => ?_) AllReadyH.nil)
       go_simp
       with_reducible refine (doAs (HRC.out.below HX.out).val HFV.out 2 (k : Int) 0 0 0 (Int.le_refl _) u64z HT.out).mono ?_
       rintro e wo3 ⟨⟨v5, rfl, hv⟩, hb⟩
       obtain ⟨A5, S5, n5, c5, m5, d5, B5, p5, f5, rfl, hr⟩ := hv
       have hlga := HRA.out.lt
       have hlgb := HRB.out.lt
       have hxs := HX.out.size
       have HV := hide (hr.up (G := fun j => w0.heap.size ≤ j ∧ j ≠ ga ∧ j ≠ gb) (fun j (hj : wo2.heap.size ≤ j) _ => by show w0.heap.size ≤ j ∧ j ≠ ga ∧ j ≠ gb; omega))
       clear hr hxs hlga hlgb
       replace HRA := hide (HRA.out.below hb)
       replace HRB := hide (HRB.out.below hb)
       have hX2 := HX.out.trans (hb.mono HX.out.size)
       replace HX := hide hX2
       clear hX2 hS0 hb
       have hS0 := HSX.out _ HX.out
       refine hK49.out _ _ (hS0) (fun _ => ?_)
       clear hK49 K49
       (try simp only [Act.put, List.getElem_toArray, List.getElem_cons_succ, List.getElem_cons_zero, List.setIfInBounds_toArray, List.set_cons_zero, List.set_cons_succ])
       (refine wpAnyH_take (i := 5) (v := ?_) rfl (by kernel_rfl) (by kernel_rfl) (by kernel_rfl) (fun _ _ _ h => h) (Or.inl ⟨by rfl, ?_⟩) (by assumption) ?_; rotate_left; (focus (intro w hSw; (try dsimp only at hSw); obtain ⟨kf0, kf1, kf2, kf3, kf4, kf5, kf6, kf7⟩ := hSw; go_simp; first | done | with_reducible rfl)); (try simp only [Act.put, List.getElem_toArray, List.getElem_cons_succ, List.getElem_cons_zero, List.setIfInBounds_toArray, List.set_cons_zero, List.set_cons_succ]))
       (refine wpAnyH_take (i := 6) (v := ?_) rfl (by kernel_rfl) (by kernel_rfl) (by kernel_rfl) (fun _ _ _ h => h) (Or.inl ⟨by rfl, ?_⟩) (by assumption) ?_; rotate_left; (focus (intro w hSw; (try dsimp only at hSw); obtain ⟨kf0, kf1, kf2, kf3, kf4, kf5, kf6, kf7⟩ := hSw; go_simp; first | done | with_reducible rfl)); (try simp only [Act.put, List.getElem_toArray, List.getElem_cons_succ, List.getElem_cons_zero, List.setIfInBounds_toArray, List.set_cons_zero, List.set_cons_succ]))
       (refine wpAnyH_take (i := 7) (v := ?_) rfl (by kernel_rfl) (by kernel_rfl) (by kernel_rfl) (fun _ _ _ h => h) (Or.inl ⟨by rfl, ?_⟩) (by assumption) ?_; rotate_left; (focus (intro w hSw; (try dsimp only at hSw); obtain ⟨kf0, kf1, kf2, kf3, kf4, kf5, kf6, kf7⟩ := hSw; go_simp; first | done | with_reducible rfl)); (try simp only [Act.put, List.getElem_toArray, List.getElem_cons_succ, List.getElem_cons_zero, List.setIfInBounds_toArray, List.set_cons_zero, List.set_cons_succ]))
       (refine wpAnyH_take (i := 8) (v := ?_) rfl (by kernel_rfl) (by kernel_rfl) (by kernel_rfl) (fun _ _ _ h => h) (Or.inl ⟨by rfl, ?_⟩) (by assumption) ?_; rotate_left; (focus (intro w hSw; (try dsimp only at hSw); obtain ⟨kf0, kf1, kf2, kf3, kf4, kf5, kf6, kf7⟩ := hSw; go_simp; first | done | with_reducible rfl)); (try simp only [Act.put, List.getElem_toArray, List.getElem_cons_succ, List.getElem_cons_zero, List.setIfInBounds_toArray, List.set_cons_zero, List.set_cons_succ]))
       refine wpAnyH_ready (rs := [11]) (by kernel_rfl) (by simp) ?_
       refine (AllReadyH.cons rfl (fun K50 hK50 => ?_) AllReadyH.nil)
       clear hS0
       have hra := HRA.out
       obtain ⟨y0, y1, y2, y3, y4, y5, y6⟩ := row7 hra
       have yl := hra.lt
       have yf0 := hra.frozen 0
       have yf1 := hra.frozen 1
       have yf2 := hra.frozen 2
       have yf3 := hra.frozen 3
       have yf4 := hra.frozen 4
       have yf5 := hra.frozen 5
       have yf6 := hra.frozen 6
       go_simp
       have HLD := hide (show LaidF ga wo3 (((((((wo3.setCell ⟨ga, 0, none⟩ (.slice A5 n5 c5)).setCell ⟨ga, 1, none⟩ (.int .u64 r2.e)).setCell ⟨ga, 2, none⟩ (.slice S5 m5 d5)).setCell ⟨ga, 3, none⟩ (.int .u64 (r2.l.E : Int))).setCell ⟨ga, 4, none⟩ (.slice (B5 0) (p5 0) (f5 0))).setCell ⟨ga, 5, none⟩ (.slice (B5 1) (p5 1) (f5 1))).setCell ⟨ga, 6, none⟩ (.slice (B5 2) (p5 2) (f5 2))) from ((((((((laid0 ga _).set 0 (.slice A5 n5 c5)).set 1 (.int .u64 r2.e)).set 2 (.slice S5 m5 d5)).set 3 (.int .u64 (r2.l.E : Int))).set 4 (.slice (B5 0) (p5 0) (f5 0))).set 5 (.slice (B5 1) (p5 1) (f5 1))).set 6 (.slice (B5 2) (p5 2) (f5 2))))
       have HKA := hide (show RowAt (((((((wo3.setCell ⟨ga, 0, none⟩ (.slice A5 n5 c5)).setCell ⟨ga, 1, none⟩ (.int .u64 r2.e)).setCell ⟨ga, 2, none⟩ (.slice S5 m5 d5)).setCell ⟨ga, 3, none⟩ (.int .u64 (r2.l.E : Int))).setCell ⟨ga, 4, none⟩ (.slice (B5 0) (p5 0) (f5 0))).setCell ⟨ga, 5, none⟩ (.slice (B5 1) (p5 1) (f5 1))).setCell ⟨ga, 6, none⟩ (.slice (B5 2) (p5 2) (f5 2))) ga 34 #[.slice A5 n5 c5, .int .u64 r2.e, .slice S5 m5 d5, .int .u64 (r2.l.E : Int), .slice (B5 0) (p5 0) (f5 0), .slice (B5 1) (p5 1) (f5 1), .slice (B5 2) (p5 2) (f5 2)] from by have h := (((((((hra.set 0 (.slice A5 n5 c5)).set 1 (.int .u64 r2.e)).set 2 (.slice S5 m5 d5)).set 3 (.int .u64 (r2.l.E : Int))).set 4 (.slice (B5 0) (p5 0) (f5 0))).set 5 (.slice (B5 1) (p5 1) (f5 1))).set 6 (.slice (B5 2) (p5 2) (f5 2))); simpa using h)
       have HX1 := hide (HX.out.trans (HLD.out.below.mono HGA.out))
       have hgab : gb ≠ ga := fun e => by have h1 := HRB.out; rw [e] at h1; exact absurd (row_typ h1 hra) (by decide)
       have HRB2 := hide (show RowAt _ gb 41 #[.int .i64 0, .int .u64 0] from (HLD.out.block gb hgab).trans HRB.out)
       have HV2 := hide (HV.out.stay (HLD.out.stay (fun h => h.2.1 rfl)))
       clear hra yl y0 yf0 y1 yf1 y2 yf2 y3 yf3 y4 yf4 y5 yf5 y6 yf6
       generalize (((((((wo3.setCell ⟨ga, 0, none⟩ (.slice A5 n5 c5)).setCell ⟨ga, 1, none⟩ (.int .u64 r2.e)).setCell ⟨ga, 2, none⟩ (.slice S5 m5 d5)).setCell ⟨ga, 3, none⟩ (.int .u64 (r2.l.E : Int))).setCell ⟨ga, 4, none⟩ (.slice (B5 0) (p5 0) (f5 0))).setCell ⟨ga, 5, none⟩ (.slice (B5 1) (p5 1) (f5 1))).setCell ⟨ga, 6, none⟩ (.slice (B5 2) (p5 2) (f5 2))) = wp at *
       refine hK50.out _ _ (HSX.out _ HX1.out) (fun _ => ?_)
       clear hK50 K50
       (try simp only [Act.put, List.getElem_toArray, List.getElem_cons_succ, List.getElem_cons_zero, List.setIfInBounds_toArray, List.set_cons_zero, List.set_cons_succ])
       refine wpAnyH_ready (rs := [12]) (by kernel_rfl) (by simp) ?_
       refine (AllReadyH.cons rfl (fun K51 hK51 => ?_) AllReadyH.nil)
       have u0 := row20 HRB2.out
       have u1 := row21 HRB2.out
       have ul := HRB2.out.lt
       have uf0 := HRB2.out.frozen 0
       have uf1 := HRB2.out.frozen 1
       go_simp
       have HL2 := hide (show LaidF gb wp ((wp.setCell ⟨gb, 0, none⟩ (.int .i64 y.1)).setCell ⟨gb, 1, none⟩ (.int .u64 y.2)) from (((laid0 gb _).set 0 (.int .i64 y.1)).set 1 (.int .u64 y.2)))
       have HX3 := hide (HX1.out.trans (HL2.out.below.mono HGB.out))
       have HV3 := hide (HV2.out.stay (HL2.out.stay (fun h => h.2.2 rfl)))
       have HKA2 := hide (show RowAt ((wp.setCell ⟨gb, 0, none⟩ (.int .i64 y.1)).setCell ⟨gb, 1, none⟩ (.int .u64 y.2)) ga 34 #[.slice A5 n5 c5, .int .u64 r2.e, .slice S5 m5 d5, .int .u64 (r2.l.E : Int), .slice (B5 0) (p5 0) (f5 0), .slice (B5 1) (p5 1) (f5 1), .slice (B5 2) (p5 2) (f5 2)] from (HL2.out.block ga (Ne.symm hgab)).trans HKA.out)
       clear u0 u1 ul uf0 uf1 hgab
       generalize ((wp.setCell ⟨gb, 0, none⟩ (.int .i64 y.1)).setCell ⟨gb, 1, none⟩ (.int .u64 y.2)) = wq at *
       refine hK51.out _ _ (HSX.out _ HX3.out) (fun _ => ?_)
       clear hK51 K51
       (try simp only [Act.put, List.getElem_toArray, List.getElem_cons_succ, List.getElem_cons_zero, List.setIfInBounds_toArray, List.set_cons_zero, List.set_cons_succ])
       refine wpAnyH_ready (rs := [13]) (by kernel_rfl) (by simp) ?_
       refine (AllReadyH.cons rfl (fun K52 hK52 => ?_) AllReadyH.nil)
       go_simp
       refine hK52.out _ _ (HSX.out _ HX3.out) (fun _ => ?_)
       clear hK52 K52
       (try simp only [Act.put, List.getElem_toArray, List.getElem_cons_succ, List.getElem_cons_zero, List.setIfInBounds_toArray, List.set_cons_zero, List.set_cons_succ])
       refine wpAnyH_done (by kernel_rfl) ?_ _
       go_wp2_with fail
       go_meet
       case rel => exact ⟨ga, rfl, rfl, ⟨HGA.out, _, _, _, _, _, _, _, _, _, HKA2.out, HV3.out.up (fun j hj _ => hj.1)⟩, HX3.out⟩
     ·
      go_simp
      have hb : Below wd.heap.size wd (wd.alloc (.cells #[.int .i64 0, .int .u64 0] 41)) := (Below.refl _ _).alloc (Nat.le_refl _) _
      have hre := RowAt.new wd 41 #[.int .i64 0, .int .u64 0]
      obtain ⟨gb, hge⟩ : ∃ g, wd.heap.size = g := ⟨_, rfl⟩
      have HGB := hide (show w0.heap.size ≤ gb from by rw [← hge]; exact HX.out.size)
      have hX2 := HX.out.trans (hb.mono HX.out.size)
      replace HX := hide hX2
      rw [hge] at hre ⊢
      have HRB := hide hre
      clear hX2 hS0 hre hb hge
      have hS0 := HSX.out _ HX.out
      generalize (wd.alloc (.cells #[.int .i64 0, .int .u64 0] 41)) = wa0 at *
      refine hK2.out _ _ (hS0) (fun _ => ?_)
      clear hK2 K2
      (try simp only [Act.put, List.getElem_toArray, List.getElem_cons_succ, List.getElem_cons_zero, List.setIfInBounds_toArray, List.set_cons_zero, List.set_cons_succ])
      refine wpAnyH_ready (rs := [3, 9]) (by kernel_rfl) (by simp) ?_
      refine (AllReadyH.cons rfl (fun K53 hK53 => ?_) (AllReadyH.cons rfl (fun K54 hK54 => ?_) AllReadyH.nil))
      ·
       go_simp
       with_reducible refine (op_any 2 (k : Int) 0 0 wa0).mono ?_
       rintro e wo1 ⟨rfl, hb⟩
       replace HRB := hide (HRB.out.below hb)
       have hX2 := HX.out.trans (hb.mono HX.out.size)
       replace HX := hide hX2
       clear hX2 hS0 hb
       have hS0 := HSX.out _ HX.out
       refine hK53.out _ _ (hS0) (fun _ => ?_)
       clear hK53 K53
       (try simp only [Act.put, List.getElem_toArray, List.getElem_cons_succ, List.getElem_cons_zero, List.setIfInBounds_toArray, List.set_cons_zero, List.set_cons_succ])
       refine wpAnyH_ready (rs := [4, 9]) (by kernel_rfl) (by simp) ?_
       refine (AllReadyH.cons rfl (fun K55 hK55 => ?_) (AllReadyH.cons rfl (fun K56 hK56 => ?_) AllReadyH.nil))
       ·
        go_simp
        with_reducible refine (doAs (HRC.out.below HX.out).val HFV.out 2 (k : Int) 0 0 0 (Int.le_refl _) u64z HT.out).mono ?_
        rintro e wo2 ⟨⟨v5, rfl, hv⟩, hb⟩
        obtain ⟨A5, S5, n5, c5, m5, d5, B5, p5, f5, rfl, hr⟩ := hv
        have hlgb := HRB.out.lt
        have hxs := HX.out.size
        have HV := hide (hr.up (G := fun j => w0.heap.size ≤ j ∧ j ≠ gb) (fun j (hj : wo1.heap.size ≤ j) _ => by show w0.heap.size ≤ j ∧ j ≠ gb; omega))
        clear hr hxs hlgb
        replace HRB := hide (HRB.out.below hb)
        have hX2 := HX.out.trans (hb.mono HX.out.size)
        replace HX := hide hX2
        clear hX2 hS0 hb
        have hS0 := HSX.out _ HX.out
        refine hK55.out _ _ (hS0) (fun _ => ?_)
        clear hK55 K55
        (try simp only [Act.put, List.getElem_toArray, List.getElem_cons_succ, List.getElem_cons_zero, List.setIfInBounds_toArray, List.set_cons_zero, List.set_cons_succ])
        (refine wpAnyH_take (i := 5) (v := ?_) rfl (by kernel_rfl) (by kernel_rfl) (by kernel_rfl) (fun _ _ _ h => h) (Or.inl ⟨by rfl, ?_⟩) (by assumption) ?_; rotate_left; (focus (intro w hSw; (try dsimp only at hSw); obtain ⟨kf0, kf1, kf2, kf3, kf4, kf5, kf6, kf7⟩ := hSw; go_simp; first | done | with_reducible rfl)); (try simp only [Act.put, List.getElem_toArray, List.getElem_cons_succ, List.getElem_cons_zero, List.setIfInBounds_toArray, List.set_cons_zero, List.set_cons_succ]))
        (refine wpAnyH_take (i := 6) (v := ?_) rfl (by kernel_rfl) (by kernel_rfl) (by kernel_rfl) (fun _ _ _ h => h) (Or.inl ⟨by rfl, ?_⟩) (by assumption) ?_; rotate_left; (focus (intro w hSw; (try dsimp only at hSw); obtain ⟨kf0, kf1, kf2, kf3, kf4, kf5, kf6, kf7⟩ := hSw; go_simp; first | done | with_reducible rfl)); (try simp only [Act.put, List.getElem_toArray, List.getElem_cons_succ, List.getElem_cons_zero, List.setIfInBounds_toArray, List.set_cons_zero, List.set_cons_succ]))
        (refine wpAnyH_take (i := 7) (v := ?_) rfl (by kernel_rfl) (by kernel_rfl) (by kernel_rfl) (fun _ _ _ h => h) (Or.inl ⟨by rfl, ?_⟩) (by assumption) ?_; rotate_left; (focus (intro w hSw; (try dsimp only at hSw); obtain ⟨kf0, kf1, kf2, kf3, kf4, kf5, kf6, kf7⟩ := hSw; go_simp; first | done | with_reducible rfl)); (try simp only [Act.put, List.getElem_toArray, List.getElem_cons_succ, List.getElem_cons_zero, List.setIfInBounds_toArray, List.set_cons_zero, List.set_cons_succ]))
        (refine wpAnyH_take (i := 8) (v := ?_) rfl (by kernel_rfl) (by kernel_rfl) (by kernel_rfl) (fun _ _ _ h => h) (Or.inl ⟨by rfl, ?_⟩) (by assumption) ?_; rotate_left; (focus (intro w hSw; (try dsimp only at hSw); obtain ⟨kf0, kf1, kf2, kf3, kf4, kf5, kf6, kf7⟩ := hSw; go_simp; first | done | with_reducible rfl)); (try simp only [Act.put, List.getElem_toArray, List.getElem_cons_succ, List.getElem_cons_zero, List.setIfInBounds_toArray, List.set_cons_zero, List.set_cons_succ]))
        refine wpAnyH_ready (rs := [9]) (by kernel_rfl) (by simp) ?_
        refine (AllReadyH.cons rfl (fun K57 hK57 => ?_) AllReadyH.nil)
        go_simp
        have hb : Below wo2.heap.size wo2 (wo2.alloc (.cells #[.slice none 0 0, .int .u64 0, .slice none 0 0, .int .u64 0, .slice none 0 0, .slice none 0 0, .slice none 0 0] 34)) := (Below.refl _ _).alloc (Nat.le_refl _) _
        have hre := RowAt.new wo2 34 #[.slice none 0 0, .int .u64 0, .slice none 0 0, .int .u64 0, .slice none 0 0, .slice none 0 0, .slice none 0 0]
        replace HRB := hide (HRB.out.below hb)
        have HVN := hide (show RecF (fun j => w0.heap.size ≤ j ∧ j ≠ gb ∧ j ≠ wo2.heap.size) (wo2.alloc (.cells #[.slice none 0 0, .int .u64 0, .slice none 0 0, .int .u64 0, .slice none 0 0, .slice none 0 0, .slice none 0 0] 34)) A5 S5 n5 c5 m5 d5 B5 p5 f5 r2 from (HV.out.up (G := fun j => w0.heap.size ≤ j ∧ j ≠ gb ∧ j ≠ wo2.heap.size) (fun j (hj : w0.heap.size ≤ j ∧ j ≠ gb) hl => by omega)).below hb)
        clear HV
        obtain ⟨ga, hge⟩ : ∃ g, wo2.heap.size = g := ⟨_, rfl⟩
        have HGA := hide (show w0.heap.size ≤ ga from by rw [← hge]; exact HX.out.size)
        have hX2 := HX.out.trans (hb.mono HX.out.size)
        replace HX := hide hX2
        rw [hge] at hre HVN ⊢
        have HRA := hide hre
        have HV := HVN
        clear HVN
        clear hX2 hS0 hre hb hge
        have hS0 := HSX.out _ HX.out
        generalize (wo2.alloc (.cells #[.slice none 0 0, .int .u64 0, .slice none 0 0, .int .u64 0, .slice none 0 0, .slice none 0 0, .slice none 0 0] 34)) = wa3 at *
        refine hK57.out _ _ (hS0) (fun _ => ?_)
        clear hK57 K57
        (try simp only [Act.put, List.getElem_toArray, List.getElem_cons_succ, List.getElem_cons_zero, List.setIfInBounds_toArray, List.set_cons_zero, List.set_cons_succ])
        refine wpAnyH_ready (rs := [11]) (by kernel_rfl) (by simp) ?_
        refine (AllReadyH.cons rfl (fun K58 hK58 => ?_) AllReadyH.nil)
        clear hS0
        have hra := HRA.out
        obtain ⟨y0, y1, y2, y3, y4, y5, y6⟩ := row7 hra
        have yl := hra.lt
        have yf0 := hra.frozen 0
        have yf1 := hra.frozen 1
        have yf2 := hra.frozen 2
        have yf3 := hra.frozen 3
        have yf4 := hra.frozen 4
        have yf5 := hra.frozen 5
        have yf6 := hra.frozen 6
        go_simp
        have HLD := hide (show LaidF ga wa3 (((((((wa3.setCell ⟨ga, 0, none⟩ (.slice A5 n5 c5)).setCell ⟨ga, 1, none⟩ (.int .u64 r2.e)).setCell ⟨ga, 2, none⟩ (.slice S5 m5 d5)).setCell ⟨ga, 3, none⟩ (.int .u64 (r2.l.E : Int))).setCell ⟨ga, 4, none⟩ (.slice (B5 0) (p5 0) (f5 0))).setCell ⟨ga, 5, none⟩ (.slice (B5 1) (p5 1) (f5 1))).setCell ⟨ga, 6, none⟩ (.slice (B5 2) (p5 2) (f5 2))) from ((((((((laid0 ga _).set 0 (.slice A5 n5 c5)).set 1 (.int .u64 r2.e)).set 2 (.slice S5 m5 d5)).set 3 (.int .u64 (r2.l.E : Int))).set 4 (.slice (B5 0) (p5 0) (f5 0))).set 5 (.slice (B5 1) (p5 1) (f5 1))).set 6 (.slice (B5 2) (p5 2) (f5 2))))
        have HKA := hide (show RowAt (((((((wa3.setCell ⟨ga, 0, none⟩ (.slice A5 n5 c5)).setCell ⟨ga, 1, none⟩ (.int .u64 r2.e)).setCell ⟨ga, 2, none⟩ (.slice S5 m5 d5)).setCell ⟨ga, 3, none⟩ (.int .u64 (r2.l.E : Int))).setCell ⟨ga, 4, none⟩ (.slice (B5 0) (p5 0) (f5 0))).setCell ⟨ga, 5, none⟩ (.slice (B5 1) (p5 1) (f5 1))).setCell ⟨ga, 6, none⟩ (.slice (B5 2) (p5 2) (f5 2))) ga 34 #[.slice A5 n5 c5, .int .u64 r2.e, .slice S5 m5 d5, .int .u64 (r2.l.E : Int), .slice (B5 0) (p5 0) (f5 0), .slice (B5 1) (p5 1) (f5 1), .slice (B5 2) (p5 2) (f5 2)] from by have h := (((((((hra.set 0 (.slice A5 n5 c5)).set 1 (.int .u64 r2.e)).set 2 (.slice S5 m5 d5)).set 3 (.int .u64 (r2.l.E : Int))).set 4 (.slice (B5 0) (p5 0) (f5 0))).set 5 (.slice (B5 1) (p5 1) (f5 1))).set 6 (.slice (B5 2) (p5 2) (f5 2))); simpa using h)
        have HX1 := hide (HX.out.trans (HLD.out.below.mono HGA.out))
        have hgab : gb ≠ ga := fun e => by have h1 := HRB.out; rw [e] at h1; exact absurd (row_typ h1 hra) (by decide)
        have HRB2 := hide (show RowAt _ gb 41 #[.int .i64 0, .int .u64 0] from (HLD.out.block gb hgab).trans HRB.out)
        have HV2 := hide (HV.out.stay (HLD.out.stay (fun h => h.2.2 rfl)))
        clear hra yl y0 yf0 y1 yf1 y2 yf2 y3 yf3 y4 yf4 y5 yf5 y6 yf6
        generalize (((((((wa3.setCell ⟨ga, 0, none⟩ (.slice A5 n5 c5)).setCell ⟨ga, 1, none⟩ (.int .u64 r2.e)).setCell ⟨ga, 2, none⟩ (.slice S5 m5 d5)).setCell ⟨ga, 3, none⟩ (.int .u64 (r2.l.E : Int))).setCell ⟨ga, 4, none⟩ (.slice (B5 0) (p5 0) (f5 0))).setCell ⟨ga, 5, none⟩ (.slice (B5 1) (p5 1) (f5 1))).setCell ⟨ga, 6, none⟩ (.slice (B5 2) (p5 2) (f5 2))) = wp at *
        refine hK58.out _ _ (HSX.out _ HX1.out) (fun _ => ?_)
        clear hK58 K58
        (try simp only [Act.put, List.getElem_toArray, List.getElem_cons_succ, List.getElem_cons_zero, List.setIfInBounds_toArray, List.set_cons_zero, List.set_cons_succ])
        refine wpAnyH_ready (rs := [12]) (by kernel_rfl) (by simp) ?_
        refine (AllReadyH.cons rfl (fun K59 hK59 => ?_) AllReadyH.nil)
        have u0 := row20 HRB2.out
        have u1 := row21 HRB2.out
        have ul := HRB2.out.lt
        have uf0 := HRB2.out.frozen 0
        have uf1 := HRB2.out.frozen 1
        go_simp
        have HL2 := hide (show LaidF gb wp ((wp.setCell ⟨gb, 0, none⟩ (.int .i64 y.1)).setCell ⟨gb, 1, none⟩ (.int .u64 y.2)) from (((laid0 gb _).set 0 (.int .i64 y.1)).set 1 (.int .u64 y.2)))
        have HX3 := hide (HX1.out.trans (HL2.out.below.mono HGB.out))
        have HV3 := hide (HV2.out.stay (HL2.out.stay (fun h => h.2.1 rfl)))
        have HKA2 := hide (show RowAt ((wp.setCell ⟨gb, 0, none⟩ (.int .i64 y.1)).setCell ⟨gb, 1, none⟩ (.int .u64 y.2)) ga 34 #[.slice A5 n5 c5, .int .u64 r2.e, .slice S5 m5 d5, .int .u64 (r2.l.E : Int), .slice (B5 0) (p5 0) (f5 0), .slice (B5 1) (p5 1) (f5 1), .slice (B5 2) (p5 2) (f5 2)] from (HL2.out.block ga (Ne.symm hgab)).trans HKA.out)
        clear u0 u1 ul uf0 uf1 hgab
        generalize ((wp.setCell ⟨gb, 0, none⟩ (.int .i64 y.1)).setCell ⟨gb, 1, none⟩ (.int .u64 y.2)) = wq at *
        refine hK59.out _ _ (HSX.out _ HX3.out) (fun _ => ?_)
        clear hK59 K59
        (try simp only [Act.put, List.getElem_toArray, List.getElem_cons_succ, List.getElem_cons_zero, List.setIfInBounds_toArray, List.set_cons_zero, List.set_cons_succ])
        refine wpAnyH_ready (rs := [13]) (by kernel_rfl) (by simp) ?_
        refine (AllReadyH.cons rfl (fun K60 hK60 => ?_) AllReadyH.nil)
        go_simp
        refine hK60.out _ _ (HSX.out _ HX3.out) (fun _ => ?_)
        clear hK60 K60
        (try simp only [Act.put, List.getElem_toArray, List.getElem_cons_succ, List.getElem_cons_zero, List.setIfInBounds_toArray, List.set_cons_zero, List.set_cons_succ])
        refine wpAnyH_done (by kernel_rfl) ?_ _
        go_wp2_with fail
        go_meet
        case rel => exact ⟨ga, rfl, rfl, ⟨HGA.out, _, _, _, _, _, _, _, _, _, HKA2.out, HV3.out.up (fun j hj _ => hj.1)⟩, HX3.out⟩
       ·
        go_simp
        have hb : Below wo1.heap.size wo1 (wo1.alloc (.cells #[.slice none 0 0, .int .u64 0, .slice none 0 0, .int .u64 0, .slice none 0 0, .slice none 0 0, .slice none 0 0] 34)) := (Below.refl _ _).alloc (Nat.le_refl _) _
        have hre := RowAt.new wo1 34 #[.slice none 0 0, .int .u64 0, .slice none 0 0, .int .u64 0, .slice none 0 0, .slice none 0 0, .slice none 0 0]
        replace HRB := hide (HRB.out.below hb)
        obtain ⟨ga, hge⟩ : ∃ g, wo1.heap.size = g := ⟨_, rfl⟩
        have HGA := hide (show w0.heap.size ≤ ga from by rw [← hge]; exact HX.out.size)
        have hX2 := HX.out.trans (hb.mono HX.out.size)
        replace HX := hide hX2
        rw [hge] at hre ⊢
        have HRA := hide hre
        clear hX2 hS0 hre hb hge
        have hS0 := HSX.out _ HX.out
        generalize (wo1.alloc (.cells #[.slice none 0 0, .int .u64 0, .slice none 0 0, .int .u64 0, .slice none 0 0, .slice none 0 0, .slice none 0 0] 34)) = wa2 at *
        refine hK56.out _ _ (hS0) (fun _ => ?_)
        clear hK56 K56
        (try simp only [Act.put, List.getElem_toArray, List.getElem_cons_succ, List.getElem_cons_zero, List.setIfInBounds_toArray, List.set_cons_zero, List.set_cons_succ])
        refine wpAnyH_ready (rs := [4]) (by kernel_rfl) (by simp) ?_
        refine (AllReadyH.cons rfl (fun K61 hK61 => ?_) AllReadyH.nil)
        go_simp
        with_reducible refine (doAs (HRC.out.below HX.out).val HFV.out 2 (k : Int) 0 0 0 (Int.le_refl _) u64z HT.out).mono ?_
        rintro e wo3 ⟨⟨v5, rfl, hv⟩, hb⟩
        obtain ⟨A5, S5, n5, c5, m5, d5, B5, p5, f5, rfl, hr⟩ := hv
        have hlga := HRA.out.lt
        have hlgb := HRB.out.lt
        have hxs := HX.out.size
        have HV := hide (hr.up (G := fun j => w0.heap.size ≤ j ∧ j ≠ gb ∧ j ≠ ga) (fun j (hj : wa2.heap.size ≤ j) _ => by show w0.heap.size ≤ j ∧ j ≠ gb ∧ j ≠ ga; omega))
        clear hr hxs hlgb hlga
        replace HRA := hide (HRA.out.below hb)
        replace HRB := hide (HRB.out.below hb)
        have hX2 := HX.out.trans (hb.mono HX.out.size)
        replace HX := hide hX2
        clear hX2 hS0 hb
        have hS0 := HSX.out _ HX.out
        refine hK61.out _ _ (hS0) (fun _ => ?_)
        clear hK61 K61
        (try simp only [Act.put, List.getElem_toArray, List.getElem_cons_succ, List.getElem_cons_zero, List.setIfInBounds_toArray, List.set_cons_zero, List.set_cons_succ])
        (refine wpAnyH_take (i := 5) (v := ?_) rfl (by kernel_rfl) (by kernel_rfl) (by kernel_rfl) (fun _ _ _ h => h) (Or.inl ⟨by rfl, ?_⟩) (by assumption) ?_; rotate_left; (focus (intro w hSw; (try dsimp only at hSw); obtain ⟨kf0, kf1, kf2, kf3, kf4, kf5, kf6, kf7⟩ := hSw; go_simp; first | done | with_reducible rfl)); (try simp only [Act.put, List.getElem_toArray, List.getElem_cons_succ, List.getElem_cons_zero, List.setIfInBounds_toArray, List.set_cons_zero, List.set_cons_succ]))
        (refine wpAnyH_take (i := 6) (v := ?_) rfl (by kernel_rfl) (by kernel_rfl) (by kernel_rfl) (fun _ _ _ h => h) (Or.inl ⟨by rfl, ?_⟩) (by assumption) ?_; rotate_left; (focus (intro w hSw; (try dsimp only at hSw); obtain ⟨kf0, kf1, kf2, kf3, kf4, kf5, kf6, kf7⟩ := hSw; go_simp; first | done | with_reducible rfl)); (try simp only [Act.put, List.getElem_toArray, List.getElem_cons_succ, List.getElem_cons_zero, List.setIfInBounds_toArray, List.set_cons_zero, List.set_cons_succ]))
        (refine wpAnyH_take (i := 7) (v := ?_) rfl (by kernel_rfl) (by kernel_rfl) (by kernel_rfl) (fun _ _ _ h => h) (Or.inl ⟨by rfl, ?_⟩) (by assumption) ?_; rotate_left; (focus (intro w hSw; (try dsimp only at hSw); obtain ⟨kf0, kf1, kf2, kf3, kf4, kf5, kf6, kf7⟩ := hSw; go_simp; first | done | with_reducible rfl)); (try simp only [Act.put, List.getElem_toArray, List.getElem_cons_succ, List.getElem_cons_zero, List.setIfInBounds_toArray, List.set_cons_zero, List.set_cons_succ]))
        (refine wpAnyH_take (i := 8) (v := ?_) rfl (by kernel_rfl) (by kernel_rfl) (by kernel_rfl) (fun _ _ _ h => h) (Or.inl ⟨by rfl, ?_⟩) (by assumption) ?_; rotate_left; (focus (intro w hSw; (try dsimp only at hSw); obtain ⟨kf0, kf1, kf2, kf3, kf4, kf5, kf6, kf7⟩ := hSw; go_simp; first | done | with_reducible rfl)); (try simp only [Act.put, List.getElem_toArray, List.getElem_cons_succ, List.getElem_cons_zero, List.setIfInBounds_toArray, List.set_cons_zero, List.set_cons_succ]))
        refine wpAnyH_ready (rs := [11]) (by kernel_rfl) (by simp) ?_
        refine (AllReadyH.cons rfl (fun K62 hK62 => ?_) AllReadyH.nil)
        clear hS0
        have hra := HRA.out
        obtain ⟨y0, y1, y2, y3, y4, y5, y6⟩ := row7 hra
        have yl := hra.lt
        have yf0 := hra.frozen 0
        have yf1 := hra.frozen 1
        have yf2 := hra.frozen 2
        have yf3 := hra.frozen 3
        have yf4 := hra.frozen 4
        have yf5 := hra.frozen 5
        have yf6 := hra.frozen 6
        go_simp
        have HLD := hide (show LaidF ga wo3 (((((((wo3.setCell ⟨ga, 0, none⟩ (.slice A5 n5 c5)).setCell ⟨ga, 1, none⟩ (.int .u64 r2.e)).setCell ⟨ga, 2, none⟩ (.slice S5 m5 d5)).setCell ⟨ga, 3, none⟩ (.int .u64 (r2.l.E : Int))).setCell ⟨ga, 4, none⟩ (.slice (B5 0) (p5 0) (f5 0))).setCell ⟨ga, 5, none⟩ (.slice (B5 1) (p5 1) (f5 1))).setCell ⟨ga, 6, none⟩ (.slice (B5 2) (p5 2) (f5 2))) from ((((((((laid0 ga _).set 0 (.slice A5 n5 c5)).set 1 (.int .u64 r2.e)).set 2 (.slice S5 m5 d5)).set 3 (.int .u64 (r2.l.E : Int))).set 4 (.slice (B5 0) (p5 0) (f5 0))).set 5 (.slice (B5 1) (p5 1) (f5 1))).set 6 (.slice (B5 2) (p5 2) (f5 2))))
        have HKA := hide (show RowAt (((((((wo3.setCell ⟨ga, 0, none⟩ (.slice A5 n5 c5)).setCell ⟨ga, 1, none⟩ (.int .u64 r2.e)).setCell ⟨ga, 2, none⟩ (.slice S5 m5 d5)).setCell ⟨ga, 3, none⟩ (.int .u64 (r2.l.E : Int))).setCell ⟨ga, 4, none⟩ (.slice (B5 0) (p5 0) (f5 0))).setCell ⟨ga, 5, none⟩ (.slice (B5 1) (p5 1) (f5 1))).setCell ⟨ga, 6, none⟩ (.slice (B5 2) (p5 2) (f5 2))) ga 34 #[.slice A5 n5 c5, .int .u64 r2.e, .slice S5 m5 d5, .int .u64 (r2.l.E : Int), .slice (B5 0) (p5 0) (f5 0), .slice (B5 1) (p5 1) (f5 1), .slice (B5 2) (p5 2) (f5 2)] from by have h := (((((((hra.set 0 (.slice A5 n5 c5)).set 1 (.int .u64 r2.e)).set 2 (.slice S5 m5 d5)).set 3 (.int .u64 (r2.l.E : Int))).set 4 (.slice (B5 0) (p5 0) (f5 0))).set 5 (.slice (B5 1) (p5 1) (f5 1))).set 6 (.slice (B5 2) (p5 2) (f5 2))); simpa using h)
        have HX1 := hide (HX.out.trans (HLD.out.below.mono HGA.out))
        have hgab : gb ≠ ga := fun e => by have h1 := HRB.out; rw [e] at h1; exact absurd (row_typ h1 hra) (by decide)
        have HRB2 := hide (show RowAt _ gb 41 #[.int .i64 0, .int .u64 0] from (HLD.out.block gb hgab).trans HRB.out)
        have HV2 := hide (HV.out.stay (HLD.out.stay (fun h => h.2.2 rfl)))
        clear hra yl y0 yf0 y1 yf1 y2 yf2 y3 yf3 y4 yf4 y5 yf5 y6 yf6
        generalize (((((((wo3.setCell ⟨ga, 0, none⟩ (.slice A5 n5 c5)).setCell ⟨ga, 1, none⟩ (.int .u64 r2.e)).setCell ⟨ga, 2, none⟩ (.slice S5 m5 d5)).setCell ⟨ga, 3, none⟩ (.int .u64 (r2.l.E : Int))).setCell ⟨ga, 4, none⟩ (.slice (B5 0) (p5 0) (f5 0))).setCell ⟨ga, 5, none⟩ (.slice (B5 1) (p5 1) (f5 1))).setCell ⟨ga, 6, none⟩ (.slice (B5 2) (p5 2) (f5 2))) = wp at *
        refine hK62.out _ _ (HSX.out _ HX1.out) (fun _ => ?_)
        clear hK62 K62
        (try simp only [Act.put, List.getElem_toArray, List.getElem_cons_succ, List.getElem_cons_zero, List.setIfInBounds_toArray, List.set_cons_zero, List.set_cons_succ])
        refine wpAnyH_ready (rs := [12]) (by kernel_rfl) (by simp) ?_
        refine (AllReadyH.cons rfl (fun K63 hK63 => ?_) AllReadyH.nil)
        have u0 := row20 HRB2.out
        have u1 := row21 HRB2.out
        have ul := HRB2.out.lt
        have uf0 := HRB2.out.frozen 0
        have uf1 := HRB2.out.frozen 1
        go_simp
        have HL2 := hide (show LaidF gb wp ((wp.setCell ⟨gb, 0, none⟩ (.int .i64 y.1)).setCell ⟨gb, 1, none⟩ (.int .u64 y.2)) from (((laid0 gb _).set 0 (.int .i64 y.1)).set 1 (.int .u64 y.2)))
        have HX3 := hide (HX1.out.trans (HL2.out.below.mono HGB.out))
        have HV3 := hide (HV2.out.stay (HL2.out.stay (fun h => h.2.1 rfl)))
        have HKA2 := hide (show RowAt ((wp.setCell ⟨gb, 0, none⟩ (.int .i64 y.1)).setCell ⟨gb, 1, none⟩ (.int .u64 y.2)) ga 34 #[.slice A5 n5 c5, .int .u64 r2.e, .slice S5 m5 d5, .int .u64 (r2.l.E : Int), .slice (B5 0) (p5 0) (f5 0), .slice (B5 1) (p5 1) (f5 1), .slice (B5 2) (p5 2) (f5 2)] from (HL2.out.block ga (Ne.symm hgab)).trans HKA.out)
        clear u0 u1 ul uf0 uf1 hgab
        generalize ((wp.setCell ⟨gb, 0, none⟩ (.int .i64 y.1)).setCell ⟨gb, 1, none⟩ (.int .u64 y.2)) = wq at *
        refine hK63.out _ _ (HSX.out _ HX3.out) (fun _ => ?_)
        clear hK63 K63
        (try simp only [Act.put, List.getElem_toArray, List.getElem_cons_succ, List.getElem_cons_zero, List.setIfInBounds_toArray, List.set_cons_zero, List.set_cons_succ])
        refine wpAnyH_ready (rs := [13]) (by kernel_rfl) (by simp) ?_
        refine (AllReadyH.cons rfl (fun K64 hK64 => ?_) AllReadyH.nil)
        go_simp
        refine hK64.out _ _ (HSX.out _ HX3.out) (fun _ => ?_)
        clear hK64 K64
        (try simp only [Act.put, List.getElem_toArray, List.getElem_cons_succ, List.getElem_cons_zero, List.setIfInBounds_toArray, List.set_cons_zero, List.set_cons_succ])
        refine wpAnyH_done (by kernel_rfl) ?_ _
        go_wp2_with fail
        go_meet
        case rel => exact ⟨ga, rfl, rfl, ⟨HGA.out, _, _, _, _, _, _, _, _, _, HKA2.out, HV3.out.up (fun j hj _ => hj.1)⟩, HX3.out⟩
      ·
       go_simp
       have hb : Below wa0.heap.size wa0 (wa0.alloc (.cells #[.slice none 0 0, .int .u64 0, .slice none 0 0, .int .u64 0, .slice none 0 0, .slice none 0 0, .slice none 0 0] 34)) := (Below.refl _ _).alloc (Nat.le_refl _) _
       have hre := RowAt.new wa0 34 #[.slice none 0 0, .int .u64 0, .slice none 0 0, .int .u64 0, .slice none 0 0, .slice none 0 0, .slice none 0 0]
       replace HRB := hide (HRB.out.below hb)
       obtain ⟨ga, hge⟩ : ∃ g, wa0.heap.size = g := ⟨_, rfl⟩
       have HGA := hide (show w0.heap.size ≤ ga from by rw [← hge]; exact HX.out.size)
       have hX2 := HX.out.trans (hb.mono HX.out.size)
       replace HX := hide hX2
       rw [hge] at hre ⊢
       have HRA := hide hre
       clear hX2 hS0 hre hb hge
       have hS0 := HSX.out _ HX.out
       generalize (wa0.alloc (.cells #[.slice none 0 0, .int .u64 0, .slice none 0 0, .int .u64 0, .slice none 0 0, .slice none 0 0, .slice none 0 0] 34)) = wa1 at *
       refine hK54.out _ _ (hS0) (fun _ => ?_)
       clear hK54 K54
       (try simp only [Act.put, List.getElem_toArray, List.getElem_cons_succ, List.getElem_cons_zero, List.setIfInBounds_toArray, List.set_cons_zero, List.set_cons_succ])
       refine wpAnyH_ready (rs := [3]) (by kernel_rfl) (by simp) ?_
       refine (AllReadyH.cons rfl (fun K65 hK65 => ?_) AllReadyH.nil)
       go_simp
       with_reducible refine (op_any 2 (k : Int) 0 0 wa1).mono ?_
       rintro e wo2 ⟨rfl, hb⟩
       replace HRA := hide (HRA.out.below hb)
       replace HRB := hide (HRB.out.below hb)
       have hX2 := HX.out.trans (hb.mono HX.out.size)
       replace HX := hide hX2
       clear hX2 hS0 hb
       have hS0 := HSX.out _ HX.out
       refine hK65.out _ _ (hS0) (fun _ => ?_)
       clear hK65 K65
       (try simp only [Act.put, List.getElem_toArray, List.getElem_cons_succ, List.getElem_cons_zero, List.setIfInBounds_toArray, List.set_cons_zero, List.set_cons_succ])
       refine wpAnyH_ready (rs := [4]) (by kernel_rfl) (by simp) ?_
       refine (AllReadyH.cons rfl (fun K66 hK66 => ?_) AllReadyH.nil)
       go_simp
       with_reducible refine (doAs (HRC.out.below HX.out).val HFV.out 2 (k : Int) 0 0 0 (Int.le_refl _) u64z HT.out).mono ?_
       rintro e wo3 ⟨⟨v5, rfl, hv⟩, hb⟩
       obtain ⟨A5, S5, n5, c5, m5, d5, B5, p5, f5, rfl, hr⟩ := hv
       have hlga := HRA.out.lt
       have hlgb := HRB.out.lt
       have hxs := HX.out.size
       have HV := hide (hr.up (G := fun j => w0.heap.size ≤ j ∧ j ≠ gb ∧ j ≠ ga) (fun j (hj : wo2.heap.size ≤ j) _ => by show w0.heap.size ≤ j ∧ j ≠ gb ∧ j ≠ ga; omega))
       clear hr hxs hlgb hlga
       replace HRA := hide (HRA.out.below hb)
       replace HRB := hide (HRB.out.below hb)
       have hX2 := HX.out.trans (hb.mono HX.out.size)
       replace HX := hide hX2
       clear hX2 hS0 hb
       have hS0 := HSX.out _ HX.out
       refine hK66.out _ _ (hS0) (fun _ => ?_)
       clear hK66 K66
       (try simp only [Act.put, List.getElem_toArray, List.getElem_cons_succ, List.getElem_cons_zero, List.setIfInBounds_toArray, List.set_cons_zero, List.set_cons_succ])
       (refine wpAnyH_take (i := 5) (v := ?_) rfl (by kernel_rfl) (by kernel_rfl) (by kernel_rfl) (fun _ _ _ h => h) (Or.inl ⟨by rfl, ?_⟩) (by assumption) ?_; rotate_left; (focus (intro w hSw; (try dsimp only at hSw); obtain ⟨kf0, kf1, kf2, kf3, kf4, kf5, kf6, kf7⟩ := hSw; go_simp; first | done | with_reducible rfl)); (try simp only [Act.put, List.getElem_toArray, List.getElem_cons_succ, List.getElem_cons_zero, List.setIfInBounds_toArray, List.set_cons_zero, List.set_cons_succ]))
       (refine wpAnyH_take (i := 6) (v := ?_) rfl (by kernel_rfl) (by kernel_rfl) (by kernel_rfl) (fun _ _ _ h => h) (Or.inl ⟨by rfl, ?_⟩) (by assumption) ?_; rotate_left; (focus (intro w hSw; (try dsimp only at hSw); obtain ⟨kf0, kf1, kf2, kf3, kf4, kf5, kf6, kf7⟩ := hSw; go_simp; first | done | with_reducible rfl)); (try simp only [Act.put, List.getElem_toArray, List.getElem_cons_succ, List.getElem_cons_zero, List.setIfInBounds_toArray, List.set_cons_zero, List.set_cons_succ]))
       (refine wpAnyH_take (i := 7) (v := ?_) rfl (by kernel_rfl) (by kernel_rfl) (by kernel_rfl) (fun _ _ _ h => h) (Or.inl ⟨by rfl, ?_⟩) (by assumption) ?_; rotate_left; (focus (intro w hSw; (try dsimp only at hSw); obtain ⟨kf0, kf1, kf2, kf3, kf4, kf5, kf6, kf7⟩ := hSw; go_simp; first | done | with_reducible rfl)); (try simp only [Act.put, List.getElem_toArray, List.getElem_cons_succ, List.getElem_cons_zero, List.setIfInBounds_toArray, List.set_cons_zero, List.set_cons_succ]))
       (refine wpAnyH_take (i := 8) (v := ?_) rfl (by kernel_rfl) (by kernel_rfl) (by kernel_rfl) (fun _ _ _ h => h) (Or.inl ⟨by rfl, ?_⟩) (by assumption) ?_; rotate_left; (focus (intro w hSw; (try dsimp only at hSw); obtain ⟨kf0, kf1, kf2, kf3, kf4, kf5, kf6, kf7⟩ := hSw; go_simp; first | done | with_reducible rfl)); (try simp only [Act.put, List.getElem_toArray, List.getElem_cons_succ, List.getElem_cons_zero, List.setIfInBounds_toArray, List.set_cons_zero, List.set_cons_succ]))
       refine wpAnyH_ready (rs := [11]) (by kernel_rfl) (by simp) ?_
       refine (AllReadyH.cons rfl (fun K67 hK67 => ?_) AllReadyH.nil)
       clear hS0
       have hra := HRA.out
       obtain ⟨y0, y1, y2, y3, y4, y5, y6⟩ := row7 hra
       have yl := hra.lt
       have yf0 := hra.frozen 0
       have yf1 := hra.frozen 1
       have yf2 := hra.frozen 2
       have yf3 := hra.frozen 3
       have yf4 := hra.frozen 4
       have yf5 := hra.frozen 5
       have yf6 := hra.frozen 6
       go_simp
       have HLD := hide (show LaidF ga wo3 (((((((wo3.setCell ⟨ga, 0, none⟩ (.slice A5 n5 c5)).setCell ⟨ga, 1, none⟩ (.int .u64 r2.e)).setCell ⟨ga, 2, none⟩ (.slice S5 m5 d5)).setCell ⟨ga, 3, none⟩ (.int .u64 (r2.l.E : Int))).setCell ⟨ga, 4, none⟩ (.slice (B5 0) (p5 0) (f5 0))).setCell ⟨ga, 5, none⟩ (.slice (B5 1) (p5 1) (f5 1))).setCell ⟨ga, 6, none⟩ (.slice (B5 2) (p5 2) (f5 2))) from ((((((((laid0 ga _).set 0 (.slice A5 n5 c5)).set 1 (.int .u64 r2.e)).set 2 (.slice S5 m5 d5)).set 3 (.int .u64 (r2.l.E : Int))).set 4 (.slice (B5 0) (p5 0) (f5 0))).set 5 (.slice (B5 1) (p5 1) (f5 1))).set 6 (.slice (B5 2) (p5 2) (f5 2))))
       have HKA := hide (show RowAt (((((((wo3.setCell ⟨ga, 0, none⟩ (.slice A5 n5 c5)).setCell ⟨ga, 1, none⟩ (.int .u64 r2.e)).setCell ⟨ga, 2, none⟩ (.slice S5 m5 d5)).setCell ⟨ga, 3, none⟩ (.int .u64 (r2.l.E : Int))).setCell ⟨ga, 4, none⟩ (.slice (B5 0) (p5 0) (f5 0))).setCell ⟨ga, 5, none⟩ (.slice (B5 1) (p5 1) (f5 1))).setCell ⟨ga, 6, none⟩ (.slice (B5 2) (p5 2) (f5 2))) ga 34 #[.slice A5 n5 c5, .int .u64 r2.e, .slice S5 m5 d5, .int .u64 (r2.l.E : Int), .slice (B5 0) (p5 0) (f5 0), .slice (B5 1) (p5 1) (f5 1), .slice (B5 2) (p5 2) (f5 2)] from by have h := (((((((hra.set 0 (.slice A5 n5 c5)).set 1 (.int .u64 r2.e)).set 2 (.slice S5 m5 d5)).set 3 (.int .u64 (r2.l.E : Int))).set 4 (.slice (B5 0) (p5 0) (f5 0))).set 5 (.slice (B5 1) (p5 1) (f5 1))).set 6 (.slice (B5 2) (p5 2) (f5 2))); simpa using h)
       have HX1 := hide (HX.out.trans (HLD.out.below.mono HGA.out))
       have hgab : gb ≠ ga := fun e => by have h1 := HRB.out; rw [e] at h1; exact absurd (row_typ h1 hra) (by decide)
       have HRB2 := hide (show RowAt _ gb 41 #[.int .i64 0, .int .u64 0] from (HLD.out.block gb hgab).trans HRB.out)
       have HV2 := hide (HV.out.stay (HLD.out.stay (fun h => h.2.2 rfl)))
       clear hra yl y0 yf0 y1 yf1 y2 yf2 y3 yf3 y4 yf4 y5 yf5 y6 yf6
       generalize (((((((wo3.setCell ⟨ga, 0, none⟩ (.slice A5 n5 c5)).setCell ⟨ga, 1, none⟩ (.int .u64 r2.e)).setCell ⟨ga, 2, none⟩ (.slice S5 m5 d5)).setCell ⟨ga, 3, none⟩ (.int .u64 (r2.l.E : Int))).setCell ⟨ga, 4, none⟩ (.slice (B5 0) (p5 0) (f5 0))).setCell ⟨ga, 5, none⟩ (.slice (B5 1) (p5 1) (f5 1))).setCell ⟨ga, 6, none⟩ (.slice (B5 2) (p5 2) (f5 2))) = wp at *
       refine hK67.out _ _ (HSX.out _ HX1.out) (fun _ => ?_)
       clear hK67 K67
       (try simp only [Act.put, List.getElem_toArray, List.getElem_cons_succ, List.getElem_cons_zero, List.setIfInBounds_toArray, List.set_cons_zero, List.set_cons_succ])
       refine wpAnyH_ready (rs := [12]) (by kernel_rfl) (by simp) ?_
       refine (AllReadyH.cons rfl (fun K68 hK68 => ?_) AllReadyH.nil)
       have u0 := row20 HRB2.out
       have u1 := row21 HRB2.out
       have ul := HRB2.out.lt
       have uf0 := HRB2.out.frozen 0
       have uf1 := HRB2.out.frozen 1
       go_simp
       have HL2 := hide (show LaidF gb wp ((wp.setCell ⟨gb, 0, none⟩ (.int .i64 y.1)).setCell ⟨gb, 1, none⟩ (.int .u64 y.2)) from (((laid0 gb _).set 0 (.int .i64 y.1)).set 1 (.int .u64 y.2)))
       have HX3 := hide (HX1.out.trans (HL2.out.below.mono HGB.out))
       have HV3 := hide (HV2.out.stay (HL2.out.stay (fun h => h.2.1 rfl)))
       have HKA2 := hide (show RowAt ((wp.setCell ⟨gb, 0, none⟩ (.int .i64 y.1)).setCell ⟨gb, 1, none⟩ (.int .u64 y.2)) ga 34 #[.slice A5 n5 c5, .int .u64 r2.e, .slice S5 m5 d5, .int .u64 (r2.l.E : Int), .slice (B5 0) (p5 0) (f5 0), .slice (B5 1) (p5 1) (f5 1), .slice (B5 2) (p5 2) (f5 2)] from (HL2.out.block ga (Ne.symm hgab)).trans HKA.out)
       clear u0 u1 ul uf0 uf1 hgab
       generalize ((wp.setCell ⟨gb, 0, none⟩ (.int .i64 y.1)).setCell ⟨gb, 1, none⟩ (.int .u64 y.2)) = wq at *
       refine hK68.out _ _ (HSX.out _ HX3.out) (fun _ => ?_)
       clear hK68 K68
       (try simp only [Act.put, List.getElem_toArray, List.getElem_cons_succ, List.getElem_cons_zero, List.setIfInBounds_toArray, List.set_cons_zero, List.set_cons_succ])
       refine wpAnyH_ready (rs := [13]) (by kernel_rfl) (by simp) ?_
       refine (AllReadyH.cons rfl (fun K69 hK69 => ?_) AllReadyH.nil)
       go_simp
       refine hK69.out _ _ (HSX.out _ HX3.out) (fun _ => ?_)
       clear hK69 K69
       (try simp only [Act.put, List.getElem_toArray, List.getElem_cons_succ, List.getElem_cons_zero, List.setIfInBounds_toArray, List.set_cons_zero, List.set_cons_succ])
       refine wpAnyH_done (by kernel_rfl) ?_ _
       go_wp2_with fail
       go_meet
       case rel => exact ⟨ga, rfl, rfl, ⟨HGA.out, _, _, _, _, _, _, _, _, _, HKA2.out, HV3.out.up (fun j hj _ => hj.1)⟩, HX3.out⟩
    case rest =>
     rename_i K hK
     refine hK _ _ ?_
     clear hK K
     obtain ⟨wx, hwx⟩ : ∃ w, w = wc := ⟨_, rfl⟩
     subst hwx
     obtain ⟨g5, rfl, rfl, hob, hb⟩ := hcut
     have HOB := hide hob
     replace HST := hide (HST.out.keep hb)
     clear hob hb HFV HT
     by_cases hk2 : k2 = 0
     case neg =>
      have e2 : (k2 == 0) = false := by simpa using hk2
      have HO2 := hide (HSP.out.2 hk2)
      clear hk2 HSP HOB
      have hk8 : (k : Int) < 9 := by have := HK.out; have := HMS.out; omega
      go_wp2_with fail
      go_roundw
      case rel => exact ⟨k + 1, r1, HK.out, by have := HK.out; have := HMS.out; go_num, HST.out, HO2.out⟩
      case measure => have := HK.out; have h3 := HMS.out; simp [intOf]; omega
     case pos =>
      subst hk2
      have HO2 := hide (HSP.out.1 rfl)
      clear HSP
      obtain ⟨hg5, A5, S5, n5, c5, m5, d5, B5, p5, f5, hrow5, hrec5⟩ := HOB.out
      have K5 := hide hrow5
      have R5 := hide hrec5
      have HG5 := hide hg5
      clear hrow5 hrec5 hg5 HOB
      go_upto_region 10 with (fail)
      obtain ⟨C0, Cs0, q0, f0, qs, fs, C, Cq, Cf, hrow, hrec⟩ := HST.out.box
      obtain ⟨z0, z1, z2, z3, z4, z5, z6⟩ := row7 hrow
      have zl := hrow.lt
      have zf0 := hrow.frozen 0
      have zf1 := hrow.frozen 1
      have zf2 := hrow.frozen 2
      have zf3 := hrow.frozen 3
      have zf4 := hrow.frozen 4
      have zf5 := hrow.frozen 5
      have zf6 := hrow.frozen 6
      obtain ⟨v0, v1, v2, v3, v4, v5, v6⟩ := row7 K5.out
      have vl := K5.out.lt
      have HLD := hide (show LaidF g1 wx (((((((wx.setCell ⟨g1, 0, none⟩ (.slice A5 n5 c5)).setCell ⟨g1, 1, none⟩ (.int .u64 r2.e)).setCell ⟨g1, 2, none⟩ (.slice S5 m5 d5)).setCell ⟨g1, 3, none⟩ (.int .u64 (r2.l.E : Int))).setCell ⟨g1, 4, none⟩ (.slice (B5 0) (p5 0) (f5 0))).setCell ⟨g1, 5, none⟩ (.slice (B5 1) (p5 1) (f5 1))).setCell ⟨g1, 6, none⟩ (.slice (B5 2) (p5 2) (f5 2))) from ((((((((laid0 g1 _).set 0 (.slice A5 n5 c5)).set 1 (.int .u64 r2.e)).set 2 (.slice S5 m5 d5)).set 3 (.int .u64 (r2.l.E : Int))).set 4 (.slice (B5 0) (p5 0) (f5 0))).set 5 (.slice (B5 1) (p5 1) (f5 1))).set 6 (.slice (B5 2) (p5 2) (f5 2))))
      have HRN := hide (show RowAt (((((((wx.setCell ⟨g1, 0, none⟩ (.slice A5 n5 c5)).setCell ⟨g1, 1, none⟩ (.int .u64 r2.e)).setCell ⟨g1, 2, none⟩ (.slice S5 m5 d5)).setCell ⟨g1, 3, none⟩ (.int .u64 (r2.l.E : Int))).setCell ⟨g1, 4, none⟩ (.slice (B5 0) (p5 0) (f5 0))).setCell ⟨g1, 5, none⟩ (.slice (B5 1) (p5 1) (f5 1))).setCell ⟨g1, 6, none⟩ (.slice (B5 2) (p5 2) (f5 2))) g1 34 #[.slice A5 n5 c5, .int .u64 r2.e, .slice S5 m5 d5, .int .u64 (r2.l.E : Int), .slice (B5 0) (p5 0) (f5 0), .slice (B5 1) (p5 1) (f5 1), .slice (B5 2) (p5 2) (f5 2)] from by have h := (((((((hrow.set 0 (.slice A5 n5 c5)).set 1 (.int .u64 r2.e)).set 2 (.slice S5 m5 d5)).set 3 (.int .u64 (r2.l.E : Int))).set 4 (.slice (B5 0) (p5 0) (f5 0))).set 5 (.slice (B5 1) (p5 1) (f5 1))).set 6 (.slice (B5 2) (p5 2) (f5 2))); simpa using h)
      have hk8 : (k : Int) < 9 := by have := HK.out; have := HMS.out; omega
      go_wp2_with fail
      clear z0 z1 z2 z3 z4 z5 z6 zl v0 v1 v2 v3 v4 v5 v6 vl hrow hrec zf0 zf1 zf2 zf3 zf4 zf5 zf6
      have HS2 := hide (HST.out.put HLD.out HRN.out R5.out (fun j (hj : w0.heap.size ≤ j) => by have := HG1.out; omega))
      clear HLD HRN R5 K5 HST HG5 HG1
      generalize (((((((wx.setCell ⟨g1, 0, none⟩ (.slice A5 n5 c5)).setCell ⟨g1, 1, none⟩ (.int .u64 r2.e)).setCell ⟨g1, 2, none⟩ (.slice S5 m5 d5)).setCell ⟨g1, 3, none⟩ (.int .u64 (r2.l.E : Int))).setCell ⟨g1, 4, none⟩ (.slice (B5 0) (p5 0) (f5 0))).setCell ⟨g1, 5, none⟩ (.slice (B5 1) (p5 1) (f5 1))).setCell ⟨g1, 6, none⟩ (.slice (B5 2) (p5 2) (f5 2))) = wy at *
      go_roundw
      case rel => exact ⟨k + 1, r2, HK.out, by have := HK.out; have := HMS.out; go_num, HS2.out, HO2.out⟩
      case measure => have := HK.out; have h3 := HMS.out; simp [intOf]; omega
   case neg =>
    have hkn : m1 = k := by omega
    subst hkn
    have HOF2 : Hid (OffP a r1 a.S.length) := by rw [HLS.out]; exact HOF
    clear HOF hk hlt
    obtain ⟨r, hr⟩ : ∃ r, r1 = r := ⟨_, rfl⟩
    subst hr
    obtain ⟨A3, S3, n3, c3, m3, d3, B3, p3, f3, hrow, hrec⟩ := HST.out.box
    have K3 := hide hrow
    have R3 := hide hrec
    clear hrow hrec
    have HWF := hide HOF2.out.wf
    obtain ⟨wa, hwa⟩ : ∃ w, w = wr := ⟨_, rfl⟩
    subst hwa
    obtain ⟨z0, z1, z2, z3, z4, z5, z6⟩ := row7 K3.out
    have zl := K3.out.lt
    go_wp2_with fail
    clear z0 z1 z2 z3 z4 z5 z6 zl
    obtain ⟨L0, hL0⟩ : ∃ L, ents r1.sl 2 = L := ⟨_, rfl⟩
    obtain ⟨m8, hm8⟩ : ∃ m, L0.length = m := ⟨_, rfl⟩
    have HLN := hide (show m8 ≤ 4096 from by rw [← hm8, ← hL0]; exact Nat.le_trans (ents_length r1.sl 2) HWF.out.fit.sl)
    with_reducible refine (entries_any A3 c3 n3 2 r1.sl wa R3.out.sl.rd R3.out.l0 (by have := R3.out.l0; have := HWF.out.fit.sl; omega) L0 (by rw [if_pos HWF.out.ok.ar]; exact hL0) m8 hm8).mono ?_
    rintro e wb ⟨A8, c8, rfl, _, _, hrd, hb⟩
    replace HST := hide (HST.out.keep hb)
    have HW8 := hide hrd
    have HM8 := hide hm8
    have HL0 := hide hL0
    clear hrd hb hm8 hL0 K3 R3
    go_upto_region 16 with (fail)
    have HAL := hide (show wb.ownsRow wb.heap.size 41 2 (.slice none 0 0) 0 (Cs encE []) from World.ownsRow_nil _ _ _ _)
    obtain ⟨wv, hwv⟩ : ∃ w, w = wb := ⟨_, rfl⟩
    subst hwv
    go_loopw [9, 52] (fun q i wr => ∃ (k na ca : Nat) (Ax : Option Addr), k ≤ 3 ∧ q = .slice Ax na ca ∧ i = .int .i64 k ∧ TryL W wv wr g1 m8 A8 L0 r1 k Ax na ca) (fun _ i _ => 3 - (intOf i).toNat)
    case atStart => exact ⟨0, 0, 0, none, Nat.zero_le _, rfl, rfl, ⟨HST.out, HAL.out, rfl, HW8.out, HM8.out, Nat.le_refl _, HST.out.box.lt⟩⟩
    case round =>
     obtain ⟨k, na, ca, Ax, hk, rfl, rfl, htl⟩ := hrel
     have HT := hide htl
     clear htl HAL HST HW8
     by_cases hlt : k < 3
     case pos =>
      have hki : (k : Int) < 3 := by omega
      have HK := hide hlt
      clear hk hlt
      have HWK := hide (many_wf HWF.out k)
      have HFK := hide HWK.out.fitV
      obtain ⟨rk, hrk⟩ : ∃ r, (manyT r1 k).1 = r := ⟨_, rfl⟩
      obtain ⟨tk, htk⟩ : ∃ t, (manyT r1 k).2 = t := ⟨_, rfl⟩
      have hTR : tryR rk = ((manyT r1 (k + 1)).1, (triesR rk []).2.1, (triesR rk []).2.2, 0) := by
       unfold tryR
       rw [← hrk, if_pos (ok_iff.2 HWK.out.ok), many_succ]
      have HTR := hide hTR
      have HT2 := hide (show (manyT r1 (k + 1)).2 = tk ++ (triesR rk []).2.1 from by rw [many_succ, hrk, htk])
      obtain ⟨rn, hrn⟩ : ∃ r, (manyT r1 (k + 1)).1 = r := ⟨_, rfl⟩
      have HRN0 := hide hrn
      rw [hrn] at HTR
      obtain ⟨l, hl⟩ : ∃ l, (triesR rk []).2.1 = l := ⟨_, rfl⟩
      rw [hl] at HTR HT2
      obtain ⟨bw, hbw⟩ : ∃ b, (triesR rk []).2.2 = b := ⟨_, rfl⟩
      rw [hbw] at HTR
      have HRK := hide hrk
      have HTK := hide htk
      rw [hrk] at HFK HWK
      clear hTR hl hbw hrn hrk htk
      obtain ⟨A4, S4, n4, c4, m4, d4, B4, p4, f4, hrow, hrec⟩ := HT.out.box.box
      rw [HRK.out] at hrow hrec
      have K4 := hide hrow
      have R4 := hide hrec
      clear hrow hrec
      obtain ⟨wa, hwa⟩ : ∃ w, w = wr := ⟨_, rfl⟩
      subst hwa
      obtain ⟨z0, z1, z2, z3, z4, z5, z6⟩ := row7 K4.out
      have zl := K4.out.lt
      go_wp2_with fail
      clear z0 z1 z2 z3 z4 z5 z6 zl
      have HG1 := hide K4.out.lt
      with_reducible refine (tryAs R4.out.val HFK.out HTR.out).mono ?_
      rintro e wb ⟨⟨v, At, nt, ct, rfl, hv, ho, hn⟩, hb⟩
      obtain ⟨A5, S5, n5, c5, m5, d5, B5, p5, f5, rfl, hr⟩ := hv
      have R5 := hide hr
      have HOL := hide ho
      have HN := hide hn
      have HOL0 := hide hb.size
      have HTOL := hide (fun q hq => told_lt HT.out.own q hq)
      have HT5 := hide (HT.out.keep hb)
      have HG5 := hide (show g1 < wb.heap.size from Nat.lt_of_lt_of_le HG1.out hb.size)
      clear hr ho hn hb K4 R4 HT
      go_upto_region 18 with (fail)
      have hb : Below wb.heap.size wb (wb.alloc (.cells #[.slice A5 n5 c5, .int .u64 rn.e, .slice S5 m5 d5, .int .u64 (rn.l.E : Int), .slice (B5 0) (p5 0) (f5 0), .slice (B5 1) (p5 1) (f5 1), .slice (B5 2) (p5 2) (f5 2)] 34)) := (Below.refl _ _).alloc (Nat.le_refl _) _
      have K10 := hide (RowAt.new wb 34 #[.slice A5 n5 c5, .int .u64 rn.e, .slice S5 m5 d5, .int .u64 (rn.l.E : Int), .slice (B5 0) (p5 0) (f5 0), .slice (B5 1) (p5 1) (f5 1), .slice (B5 2) (p5 2) (f5 2)])
      replace R5 := hide (R5.out.below hb)
      replace HT5 := hide (HT5.out.keep hb)
      replace HOL := hide (own_keepB HOL.out hb)
      have HG10 := hide (show wa.heap.size ≤ wb.heap.size from HOL0.out)
      clear hb
      generalize (wb.alloc (.cells #[.slice A5 n5 c5, .int .u64 rn.e, .slice S5 m5 d5, .int .u64 (rn.l.E : Int), .slice (B5 0) (p5 0) (f5 0), .slice (B5 1) (p5 1) (f5 1), .slice (B5 2) (p5 2) (f5 2)] 34)) = wc at *
      generalize wb.heap.size = g10 at *
      go_upto_region 20 with (fail)
      have HSX := hide (fun (wX : World) (hgX : RowAt wX g10 34 #[.slice A5 n5 c5, .int .u64 rn.e, .slice S5 m5 d5, .int .u64 (rn.l.E : Int), .slice (B5 0) (p5 0) (f5 0), .slice (B5 1) (p5 1) (f5 1), .slice (B5 2) (p5 2) (f5 2)]) => show wX.cell? ⟨g10, 0, none⟩ = some (.slice A5 n5 c5) ∧ wX.cell? ⟨g10, 1, none⟩ = some (.int .u64 rn.e) ∧ wX.cell? ⟨g10, 2, none⟩ = some (.slice S5 m5 d5) ∧ wX.cell? ⟨g10, 3, none⟩ = some (.int .u64 (rn.l.E : Int)) ∧ wX.cell? ⟨g10, 4, none⟩ = some (.slice (B5 0) (p5 0) (f5 0)) ∧ wX.cell? ⟨g10, 5, none⟩ = some (.slice (B5 1) (p5 1) (f5 1)) ∧ wX.cell? ⟨g10, 6, none⟩ = some (.slice (B5 2) (p5 2) (f5 2)) ∧ g10 < wX.heap.size from by
       obtain ⟨z0, z1, z2, z3, z4, z5, z6⟩ := row7 hgX
       exact ⟨z0, z1, z2, z3, z4, z5, z6, hgX.lt⟩)
      have HX := hide ((Below.refl wc.heap.size wc).drew)
      have K10d := hide (K10.out.below HX.out)
      refine wp_region_held_drew (S := fun wX => wX.cell? ⟨g10, 0, none⟩ = some (.slice A5 n5 c5) ∧ wX.cell? ⟨g10, 1, none⟩ = some (.int .u64 rn.e) ∧ wX.cell? ⟨g10, 2, none⟩ = some (.slice S5 m5 d5) ∧ wX.cell? ⟨g10, 3, none⟩ = some (.int .u64 (rn.l.E : Int)) ∧ wX.cell? ⟨g10, 4, none⟩ = some (.slice (B5 0) (p5 0) (f5 0)) ∧ wX.cell? ⟨g10, 5, none⟩ = some (.slice (B5 1) (p5 1) (f5 1)) ∧ wX.cell? ⟨g10, 6, none⟩ = some (.slice (B5 2) (p5 2) (f5 2)) ∧ g10 < wX.heap.size) (by kernel_rfl) (HSX.out _ K10d.out) (fun hHeld => ?_)
      clear hHeld
      have hS0 := HSX.out _ K10d.out
      replace HT5 := hide (HT5.out.keep HX.out)
      replace HOL := hide (own_keepB HOL.out HX.out)
      replace R5 := hide (R5.out.below HX.out)
      clear HX K10
      generalize wc.drew = wd at *
      (refine wpAnyH_take (i := 0) (v := ?_) rfl (by kernel_rfl) (by kernel_rfl) (by kernel_rfl) (fun _ _ _ h => h) (Or.inl ⟨by rfl, ?_⟩) (by assumption) ?_; rotate_left; (focus (intro w hSw; (try dsimp only at hSw); obtain ⟨kf0, kf1, kf2, kf3, kf4, kf5, kf6, kf7⟩ := hSw; go_simp; first | done | with_reducible rfl)); (try simp only [Act.put, List.getElem_toArray, List.getElem_cons_succ, List.getElem_cons_zero, List.setIfInBounds_toArray, List.set_cons_zero, List.set_cons_succ]))
      (refine wpAnyH_take (i := 1) (v := ?_) rfl (by kernel_rfl) (by kernel_rfl) (by kernel_rfl) (fun _ _ _ h => h) (Or.inl ⟨by rfl, ?_⟩) (by assumption) ?_; rotate_left; (focus (intro w hSw; (try dsimp only at hSw); obtain ⟨kf0, kf1, kf2, kf3, kf4, kf5, kf6, kf7⟩ := hSw; go_simp; first | done | with_reducible rfl)); (try simp only [Act.put, List.getElem_toArray, List.getElem_cons_succ, List.getElem_cons_zero, List.setIfInBounds_toArray, List.set_cons_zero, List.set_cons_succ]))
      (refine wpAnyH_take (i := 2) (v := ?_) rfl (by kernel_rfl) (by kernel_rfl) (by kernel_rfl) (fun _ _ _ h => h) (Or.inl ⟨by rfl, ?_⟩) (by assumption) ?_; rotate_left; (focus (intro w hSw; (try dsimp only at hSw); obtain ⟨kf0, kf1, kf2, kf3, kf4, kf5, kf6, kf7⟩ := hSw; go_simp; first | done | with_reducible rfl)); (try simp only [Act.put, List.getElem_toArray, List.getElem_cons_succ, List.getElem_cons_zero, List.setIfInBounds_toArray, List.set_cons_zero, List.set_cons_succ]))
      refine wpAnyH_ready (rs := [3]) (by kernel_rfl) (by simp) ?_
      refine (AllReadyH.cons rfl (fun K0 hK0 => ?_) AllReadyH.nil)
      rw [if_pos (by rfl)]
      have hlen := many_len HWF.out (k + 1)
      have hna := HT5.out.len
      have hnt := HN.out
      rw [HT2.out, List.length_append] at hlen
      rw [HTK.out] at hna
      refine wp_app (m := nt) (n := na) (v := .slice Ax na ca) elE _ _ rfl rfl HT5.out.own rfl (Rd.of_own HOL.out) (Cs_one_cell encE_one _) (by omega) HT5.out.size ?_
      clear hlen hna hnt
      intro v6 w6 hown6 hb6 hg6 hv6
      obtain ⟨A7, c7, rfl, hc7, hcm7⟩ := own_form2 hown6
      have hob : ∀ q, Ax = some q → wv.heap.size ≤ q.block ∧ q.block < wa.heap.size := HTOL.out
      have K106 := hide (K10d.out.heap (hg6.block _ K10d.out.lt (fun e => by rw [own_block] at e; cases Ax with | none => cases e | some q => (injection e with e; have e2 : g10 = q.block := e; have := (hob q rfl).2; have := HG10.out; omega))))
      have R56 := hide (R5.out.stay (show StayF (From wa.heap.size) wd w6 from ⟨hg6.size, fun j hj hl => hg6.block j hl (fun e => by rw [own_block] at e; cases Ax with | none => cases e | some q => (injection e with e; have e2 : j = q.block := e; have := (hob q rfl).2; have hj2 : wa.heap.size ≤ j := hj; omega))⟩))
      obtain ⟨C0, Cs0, q0, f0, qs, fs, C, Cq, Cf, hrow, _⟩ := HT5.out.box.box
      have K16 := hide (hrow.belowB HT5.out.glt hb6)
      have HL6 := hide (HT5.out.live.below hb6)
      have HO6 := hide hown6
      have HB6 := hide (HT5.out.box.below.trans (hb6.mono (Nat.le_trans HT5.out.box.lo (Nat.le_of_lt HT5.out.glt))))
      have HZ6 := hide (Nat.le_trans HT5.out.size hg6.size)
      clear hown6 hb6 hg6 hv6 hS0 hob hrow
      have hS0 := HSX.out _ K106.out
      refine hK0.out _ _ (hS0) (fun _ => ?_)
      clear hK0 K0
      (try simp only [Act.put, List.getElem_toArray, List.getElem_cons_succ, List.getElem_cons_zero, List.setIfInBounds_toArray, List.set_cons_zero, List.set_cons_succ])
      refine wpAnyH_ready (rs := [4]) (by kernel_rfl) (by simp) ?_
      refine (AllReadyH.cons rfl (fun K1 hK1 => ?_) AllReadyH.nil)
      clear hS0
      obtain ⟨y0, y1, y2, y3, y4, y5, y6⟩ := row7 K16.out
      have yl := K16.out.lt
      have yf0 := K16.out.frozen 0
      have yf1 := K16.out.frozen 1
      have yf2 := K16.out.frozen 2
      have yf3 := K16.out.frozen 3
      have yf4 := K16.out.frozen 4
      have yf5 := K16.out.frozen 5
      have yf6 := K16.out.frozen 6
      go_simp
      have HLD := hide (show LaidF g1 w6 (((((((w6.setCell ⟨g1, 0, none⟩ (.slice A5 n5 c5)).setCell ⟨g1, 1, none⟩ (.int .u64 rn.e)).setCell ⟨g1, 2, none⟩ (.slice S5 m5 d5)).setCell ⟨g1, 3, none⟩ (.int .u64 (rn.l.E : Int))).setCell ⟨g1, 4, none⟩ (.slice (B5 0) (p5 0) (f5 0))).setCell ⟨g1, 5, none⟩ (.slice (B5 1) (p5 1) (f5 1))).setCell ⟨g1, 6, none⟩ (.slice (B5 2) (p5 2) (f5 2))) from ((((((((laid0 g1 _).set 0 (.slice A5 n5 c5)).set 1 (.int .u64 rn.e)).set 2 (.slice S5 m5 d5)).set 3 (.int .u64 (rn.l.E : Int))).set 4 (.slice (B5 0) (p5 0) (f5 0))).set 5 (.slice (B5 1) (p5 1) (f5 1))).set 6 (.slice (B5 2) (p5 2) (f5 2))))
      have HRN := hide (show RowAt (((((((w6.setCell ⟨g1, 0, none⟩ (.slice A5 n5 c5)).setCell ⟨g1, 1, none⟩ (.int .u64 rn.e)).setCell ⟨g1, 2, none⟩ (.slice S5 m5 d5)).setCell ⟨g1, 3, none⟩ (.int .u64 (rn.l.E : Int))).setCell ⟨g1, 4, none⟩ (.slice (B5 0) (p5 0) (f5 0))).setCell ⟨g1, 5, none⟩ (.slice (B5 1) (p5 1) (f5 1))).setCell ⟨g1, 6, none⟩ (.slice (B5 2) (p5 2) (f5 2))) g1 34 #[.slice A5 n5 c5, .int .u64 rn.e, .slice S5 m5 d5, .int .u64 (rn.l.E : Int), .slice (B5 0) (p5 0) (f5 0), .slice (B5 1) (p5 1) (f5 1), .slice (B5 2) (p5 2) (f5 2)] from by have h := (((((((K16.out.set 0 (.slice A5 n5 c5)).set 1 (.int .u64 rn.e)).set 2 (.slice S5 m5 d5)).set 3 (.int .u64 (rn.l.E : Int))).set 4 (.slice (B5 0) (p5 0) (f5 0))).set 5 (.slice (B5 1) (p5 1) (f5 1))).set 6 (.slice (B5 2) (p5 2) (f5 2))); simpa using h)
      have K10z := hide (show RowAt (((((((w6.setCell ⟨g1, 0, none⟩ (.slice A5 n5 c5)).setCell ⟨g1, 1, none⟩ (.int .u64 rn.e)).setCell ⟨g1, 2, none⟩ (.slice S5 m5 d5)).setCell ⟨g1, 3, none⟩ (.int .u64 (rn.l.E : Int))).setCell ⟨g1, 4, none⟩ (.slice (B5 0) (p5 0) (f5 0))).setCell ⟨g1, 5, none⟩ (.slice (B5 1) (p5 1) (f5 1))).setCell ⟨g1, 6, none⟩ (.slice (B5 2) (p5 2) (f5 2))) g10 34 #[.slice A5 n5 c5, .int .u64 rn.e, .slice S5 m5 d5, .int .u64 (rn.l.E : Int), .slice (B5 0) (p5 0) (f5 0), .slice (B5 1) (p5 1) (f5 1), .slice (B5 2) (p5 2) (f5 2)] from (HLD.out.block g10 (by have := HG1.out; have := HG10.out; omega)).trans K106.out)
      have HBX := hide (AtB.of HB6.out HT5.out.box.lo HLD.out HRN.out R56.out (fun j (hj : wa.heap.size ≤ j) => by have := HG1.out; omega))
      have HOX := hide (own_laid HO6.out K16.out HLD.out)
      have HLX := hide (HL6.out.laid (rec_apart HL6.out HT5.out.lm K16.out) HLD.out)
      have HZX := hide (Nat.le_trans HZ6.out HLD.out.size)
      clear yl y0 yf0 y1 yf1 y2 yf2 y3 yf3 y4 yf4 y5 yf5 y6 yf6
      generalize (((((((w6.setCell ⟨g1, 0, none⟩ (.slice A5 n5 c5)).setCell ⟨g1, 1, none⟩ (.int .u64 rn.e)).setCell ⟨g1, 2, none⟩ (.slice S5 m5 d5)).setCell ⟨g1, 3, none⟩ (.int .u64 (rn.l.E : Int))).setCell ⟨g1, 4, none⟩ (.slice (B5 0) (p5 0) (f5 0))).setCell ⟨g1, 5, none⟩ (.slice (B5 1) (p5 1) (f5 1))).setCell ⟨g1, 6, none⟩ (.slice (B5 2) (p5 2) (f5 2))) = w7 at *
      have hS0 := HSX.out _ K10z.out
      refine hK1.out _ _ (hS0) (fun _ => ?_)
      clear hK1 K1
      (try simp only [Act.put, List.getElem_toArray, List.getElem_cons_succ, List.getElem_cons_zero, List.setIfInBounds_toArray, List.set_cons_zero, List.set_cons_succ])
      refine wpAnyH_ready (rs := [5]) (by kernel_rfl) (by simp) ?_
      refine (AllReadyH.cons rfl (fun K2 hK2 => ?_) AllReadyH.nil)
      go_simp
      refine hK2.out _ _ (hS0) (fun _ => ?_)
      clear hK2 K2
      (try simp only [Act.put, List.getElem_toArray, List.getElem_cons_succ, List.getElem_cons_zero, List.setIfInBounds_toArray, List.set_cons_zero, List.set_cons_succ])
      refine wpAnyH_done (by kernel_rfl) ?_ _
      have hk8 : (k : Int) < 9 := by have := HK.out; omega
      go_wp2_with fail
      go_roundw
      case rel =>
       have hmm := HT2.out
       have hrr := HRN0.out
       exact ⟨k + 1, na + nt, c7, A7, HK.out, rfl, by have := HK.out; go_num, ⟨by rw [hrr]; exact HBX.out, by rw [hmm, Cs_append]; have h := HOX.out; rw [HTK.out] at h; exact h, by rw [hmm, List.length_append, HN.out]; have h := HT5.out.len; rw [HTK.out] at h; rw [h], HLX.out, HT5.out.lm, HZX.out, HT5.out.glt⟩⟩
      case measure => have := HK.out; simp [intOf]; omega
     case neg =>
      have hk3 : k = 3 := by omega
      subst hk3
      clear hk hlt
      obtain ⟨wt, hwt⟩ : ∃ w, w = wr := ⟨_, rfl⟩
      subst hwt
      have HAO := hide (all_ok HWF.out 3)
      obtain ⟨T3, hT3⟩ : ∃ t, (manyT r1 3).2 = t := ⟨_, rfl⟩
      have HT3 := hide hT3
      have HSB := hide HAO.out.sub
      have HND := hide HAO.out.nodup
      rw [hT3] at HSB HND
      have HOWN := hide HT.out.own
      have HLT := hide HT.out.len
      have HLIV := hide (HT.out.live.more HT.out.size)
      rw [hT3] at HOWN HLT
      have hnl := many_len HWF.out 3
      rw [hT3, HLT.out] at hnl
      have HNA := hide hnl
      clear hT3 hnl HAO
      obtain ⟨hcap1, hcap2⟩ : na ≤ ca ∧ ca ≤ 9223372036854775807 := own_caps HOWN.out
      have HCAP := hide hcap1
      have HCAP2 := hide hcap2
      clear hcap1 hcap2
      have HKB := hide (Below.refl wt.heap.size wt)
      go_upto_region 23 with (fail)
      go_loopw [70] (fun i wr => ∃ j : Nat, j ≤ na ∧ i = .int .i64 j ∧ Below wt.heap.size wt wr) (fun i _ => na - (intOf i).toNat)
      case atStart => exact ⟨0, Nat.zero_le _, rfl, Below.refl _ _⟩
      case round =>
       obtain ⟨j, hj, rfl, hbj⟩ := hrel
       have HBJ := hide hbj
       clear hbj
       by_cases hj2 : j < na
       case pos =>
        have hji : (j : Int) < (na : Int) := by omega
        have HJ2 := hide hj2
        have HOJ := hide (own_keepB HOWN.out HBJ.out)
        obtain ⟨b2, o2, hA, hbl, d0, d1⟩ := Rd.ent (Rd.of_own HOJ.out) HLT.out hj2
        have hbl2 : b2 < wr.heap.size := hbl
        obtain ⟨e, hee⟩ : ∃ e, T3.getD j (0, 0) = e := ⟨_, rfl⟩
        have hem : e = T3[j]'(by rw [HLT.out]; exact hj2) := by rw [← hee, List.getD_eq_getElem?_getD, List.getElem?_eq_getElem (by rw [HLT.out]; exact hj2)]; rfl
        rw [hee] at d0 d1
        have HC1 : Hid (L0.any (fun y => decide (y = (e.1, e.2))) = true) := hide (by
         rw [List.any_eq_true]
         exact ⟨e, by rw [← HL0.out]; exact HSB.out e (by rw [hem]; exact List.getElem_mem _), by simp⟩)
        have HC2 : Hid ((T3.take j).any (fun y => decide (y = (e.1, e.2))) = false) := hide (by
         rw [List.any_eq_false]
         intro y hy
         simp only [decide_eq_true_eq]
         intro hye
         have hye : y = e := hye
         rw [hye, hem] at hy
         exact nodup_take HND.out (by rw [HLT.out]; exact hj2) hy)
        clear hee hem hbl hj2 hj
        have hba : Below wr.heap.size wr (wr.alloc (.cells #[.int .i64 e.1, .int .u64 e.2] 41)) := (Below.refl _ _).alloc (Nat.le_refl _) _
        have hre := RowAt.new wr 41 #[.int .i64 e.1, .int .u64 e.2]
        replace HOJ := hide (own_keepB HOJ.out hba)
        replace HBJ := hide (HBJ.out.trans (hba.mono HBJ.out.size))
        have K15 := hide hre
        clear hre hba
        have HAx := hide hA
        obtain ⟨A9, hA9⟩ : ∃ A, A = Ax := ⟨_, rfl⟩
        clear hA9 A9
        subst hA
        go_upto_region 25 with (fail)
        clear d0 d1 hbl2
        generalize (wr.alloc (.cells #[.int .i64 e.1, .int .u64 e.2] 41)) = wk at *
        generalize wr.heap.size = g15 at *
        have hjc : (j : Int) ≤ (ca : Int) := by have := HJ2.out; have := HCAP.out; omega
        have u0 := row20 K15.out
        have u1 := row21 K15.out
        have ul := K15.out.lt
        have HLK := hide (((HLIV.out.below HBJ.out).more HBJ.out.size))
        have hj4 : j ≤ 4096 := by have := HJ2.out; have := HNA.out; omega
        have Q1 := hide (fun z => containsAs (w := via wk z) (c := c8) ((HLK.out.below (via_below wk z)).more (via_below wk z).size) HM8.out HLN.out e.1 e.2 HC1.out)
        have Q2 := hide (fun z => containsAs (w := via wk z) (c := ca) ((((Rd.of_own HOJ.out).firstE HLT.out (Nat.le_of_lt HJ2.out)).below (via_below wk z)).more (via_below wk z).size) (by rw [List.length_take, HLT.out]; have := HJ2.out; omega) hj4 e.1 e.2 HC2.out)
        refine wp_region_via (by kernel_rfl) (by kernel_rfl) ?_
        repeat (go_big_quiet_step (first | (go_at_call 25; with_reducible first | exact via_of (Q1.out _) | exact via_of (Q2.out _))))
        refine via_out fun w9 hb => ?_
        replace HBJ := hide (HBJ.out.trans (hb.mono HBJ.out.size))
        clear hb Q1 Q2 u0 u1 ul hjc HLK
        have hj5 : (j : Int) ≤ 4096 := by omega
        go_wp2_with fail
        go_roundw
        case rel => exact ⟨j + 1, HJ2.out, by have := HJ2.out; have := HNA.out; go_num, HBJ.out⟩
        case measure => have := HJ2.out; simp [intOf]; omega
       case neg =>
        have hjn : na = j := by omega
        subst hjn
        clear hj hj2
        obtain ⟨wu, hwu⟩ : ∃ w, w = wr := ⟨_, rfl⟩
        subst hwu
        replace HT := hide (HT.out.keep HBJ.out)
        replace HLIV := hide ((HLIV.out.below HBJ.out).more HBJ.out.size)
        go_upto_region 30 with (fail)
        go_loopw [16, 89] (fun q i wr => ∃ j : Nat, j ≤ m8 ∧ q = .bool ((L0.take j).any (fun e => decide (e.2 = 1099511627775))) ∧ i = .int .i64 j ∧ Below wu.heap.size wu wr) (fun _ i _ => m8 - (intOf i).toNat)
        case atStart => exact ⟨0, Nat.zero_le _, rfl, rfl, Below.refl _ _⟩
        case round =>
         obtain ⟨j, hj, rfl, rfl, hbj⟩ := hrel
         have HBJ2 := hide hbj
         clear hbj
         by_cases hj2 : j < m8
         case pos =>
          have hji : (j : Int) < (m8 : Int) := by omega
          have HJ2 := hide hj2
          have HLJ := hide ((HLIV.out.below HBJ2.out).more HBJ2.out.size)
          obtain ⟨b2, o2, hA, hbl, d0, d1⟩ := Rd.ent HLJ.out HM8.out hj2
          have hbl2 : b2 < wr.heap.size := hbl
          obtain ⟨e, hee⟩ : ∃ e, L0.getD j (0, 0) = e := ⟨_, rfl⟩
          have HSN := hide (show (L0.take (j + 1)).any (fun e => decide (e.2 = 1099511627775)) = ((L0.take j).any (fun e => decide (e.2 = 1099511627775)) || decide (e.2 = 1099511627775)) from by
           rw [List.take_succ_eq_append_getElem (by rw [HM8.out]; exact hj2), List.any_append, ← hee, List.getD_eq_getElem?_getD, List.getElem?_eq_getElem (by rw [HM8.out]; exact hj2)]
           simp)
          rw [hee] at d0 d1
          obtain ⟨q0, hq0⟩ : ∃ q, (L0.take j).any (fun e => decide (e.2 = 1099511627775)) = q := ⟨_, rfl⟩
          rw [hq0] at HSN
          simp only [hq0]
          clear hee hbl hq0 hj hj2 HLJ
          have hba : Below wr.heap.size wr (wr.alloc (.cells #[.int .i64 e.1, .int .u64 e.2] 41)) := (Below.refl _ _).alloc (Nat.le_refl _) _
          have hre := RowAt.new wr 41 #[.int .i64 e.1, .int .u64 e.2]
          replace HBJ2 := hide (HBJ2.out.trans (hba.mono HBJ2.out.size))
          have K18 := hide hre
          clear hre hba
          subst hA
          go_upto_region 32 with (fail)
          clear d0 d1 hbl2
          generalize (wr.alloc (.cells #[.int .i64 e.1, .int .u64 e.2] 41)) = wk at *
          generalize wr.heap.size = g18 at *
          have u0 := row20 K18.out
          have u1 := row21 K18.out
          have ul := K18.out.lt
          have hj5 : (j : Int) ≤ 4096 := by have := HJ2.out; have := HLN.out; omega
          cases q0 with
          | true =>
           go_wp2_with fail
           go_roundw
           case rel => exact ⟨j + 1, HJ2.out, by rw [HSN.out]; simp, by have := HJ2.out; have := HLN.out; go_num, HBJ2.out⟩
           case measure => have := HJ2.out; simp [intOf]; omega
          | false =>
           by_cases he : e.2 = 1099511627775
           ·
            have e1 : (e.2 == 1099511627775) = true := by simpa using he
            have HE := hide he
            clear he
            go_wp2_with fail
            go_roundw
            case rel => exact ⟨j + 1, HJ2.out, by rw [HSN.out]; simp [HE.out], by have := HJ2.out; have := HLN.out; go_num, HBJ2.out⟩
            case measure => have := HJ2.out; simp [intOf]; omega
           ·
            have e1 : (e.2 == 1099511627775) = false := by simpa using he
            have HE := hide he
            clear he
            go_wp2_with fail
            go_roundw
            case rel => exact ⟨j + 1, HJ2.out, by rw [HSN.out]; simp [HE.out], by have := HJ2.out; have := HLN.out; go_num, HBJ2.out⟩
            case measure => have := HJ2.out; simp [intOf]; omega
         case neg =>
          have hjn : m8 = j := by omega
          subst hjn
          clear hj hj2
          replace HT := hide (HT.out.keep HBJ2.out)
          have htk : L0.take m8 = L0 := by rw [← HM8.out]; exact List.take_length
          simp only [htk]
          clear htk
          obtain ⟨q0, hq0⟩ : ∃ q, L0.any (fun e => decide (e.2 = 1099511627775)) = q := ⟨_, rfl⟩
          simp only [hq0]
          have HBF := hide HT.out.box.below
          obtain ⟨A6, S6, n6, c6, m6, d6, B6, p6, f6, hrow, hrec⟩ := HT.out.box.box
          have HW3 := hide (many_wf HWF.out 3)
          obtain ⟨r9, hr9⟩ : ∃ r, (manyT r1 3).1 = r := ⟨_, rfl⟩
          have HR9 := hide hr9
          rw [hr9] at hrow hrec HW3
          have K6 := hide hrow
          have R6 := hide hrec
          clear hrow hrec hr9
          cases q0 with
          | true =>
           obtain ⟨z0, z1, z2, z3, z4, z5, z6⟩ := row7 K6.out
           have zl := K6.out.lt
           go_wp2_with fail
           go_ret
           exact ⟨rfl, HBF.out⟩
          | false =>
           by_cases he : r9.e ≤ 4611686018427387901
           case neg =>
            have e1 : decide ((4611686018427387901 : Int) < r9.e) = true := by simp; omega
            clear he
            obtain ⟨z0, z1, z2, z3, z4, z5, z6⟩ := row7 K6.out
            have zl := K6.out.lt
            go_wp2_with fail
            go_ret
            exact ⟨rfl, HBF.out⟩
           case pos =>
            have hae := all_end HWF.out HOF2.out.zero (fun x hx hxe => by
             rw [HL0.out] at hx
             rw [List.any_eq_false] at hq0
             exact hq0 x hx (by simpa using hxe)) (by rw [HR9.out]; exact he)
            rw [HR9.out, HT3.out, HLT.out, HL0.out, HM8.out] at hae
            obtain ⟨rfl, hw0⟩ := hae
            have HW0 := hide hw0
            have e1 : decide ((4611686018427387901 : Int) < r9.e) = false := by simp; omega
            have HFV := hide HW3.out.fitV
            clear he hw0
            obtain ⟨z0, z1, z2, z3, z4, z5, z6⟩ := row7 K6.out
            have zl := K6.out.lt
            go_wp2_with fail
            clear z0 z1 z2 z3 z4 z5 z6 zl
            with_reducible refine (vWaits R6.out.val HFV.out.fit 0 HW0.out).mono ?_
            rintro e wz ⟨rfl, hb⟩
            replace HBF := hide (HBF.out.trans (hb.mono HBF.out.size))
            clear hb
            go_wp2_with fail
            go_ret
            exact ⟨rfl, HBF.out⟩
end Go.Proofs.YtkicidopjihjmaaGreat
namespace Go.Proofs.YtkicidopjihjmaaGreat
open Go Go.RowKit Go.WideShapes Go.ChangeShapes Go.ChangeAt Go.Joins
set_option linter.unusedVariables false
set_option linter.unusedSimpArgs false
set_option maxRecDepth 100000 in
theorem epochAll_lifted (os : Os) (started : os.Started) (H : Type) (enc : TypeId × Value → H) :
  ReturnsInHanded {} Tryz.checked os 4 .any (Rows.epochAllSpec.pre6 enc Tryz.prog Tryz.f4 Rows.epochAllRow.domain false) (Rows.epochAllSpec.post enc Tryz.prog Tryz.f4 false true false false) := by
 refine returnsInHanded_of_change (C := Tryz.checked) own_knob started (by kernel_rfl) Tryz.func4
  (ChangeSpec.witness6 (enc := enc) (C := Tryz.checked) false ⟨#[], #[.agg #[.slice none 0 0, .int .u64 0, .slice none 0 0, .int .u64 0, .slice none 0 0, .slice none 0 0, .slice none 0 0]], []⟩ 8 (by kernel_rfl) (by kernel_rfl) (by kernel_rfl) (by kernel_rfl)) ?_
 intro W base args ds gs before hval0 hW hcnd _
 have hval : ∀ (j : Nat) t v, Tryz.f4.params[j]? = some t → args[j]? = some v → Value.okWide Tryz.prog W .any base t v := hval0
 have hW' := hW
 obtain ⟨p, q, hA0, hV, rfl, hfz, hnd⟩ := hW
 have hA : DataW.TrodAll enc Tryz.prog W 0 (fun _ => true) true Tryz.f4.params.toList args.toList ds p := hA0
 rw [Tryz.params4] at hA hval
 obtain ⟨v0, d0, rfl, rfl, h0⟩ := trodAll_one hA
 obtain ⟨x0, hx0, hn0⟩ := open_rec (hval 0 34 v0 rfl rfl) h0
 clear hA0 hval0
 refine (All_walk v0 x0 W hx0 hn0).mono fun e W' ⟨he, hb⟩ => ?_
 subst he
 exact ⟨_, rfl, law_done laid_out hW' rfl (fun ds' h => by match ds', h with | [x], _ => rfl) rfl (by rw [Tryz.params4]; decide +kernel) hb (fun _ _ _ => trodAll_mk1 (shut_bool Tryz.underlying4 true)) (ok_one (by kernel_rfl) rfl (okWide_bool_mk Tryz.underlying4 true))⟩
theorem epochAll_holds : Rows.EpochAllSaid :=
 OpenClaim.holds_of_wide 4 Tryz.f4 rfl rfl rfl rfl rfl rfl rfl ⟨rfl, rfl, rfl, rfl, rfl⟩ rfl rfl rfl rfl rfl (by kernel_rfl) Tryz.func4 (by kernel_rfl)
  (of_decide_eq_true (by kernel_rfl)) (by unfold Func.isWrapper; first | (rw [if_pos (by decide +kernel)]; kernel_rfl) | (rw [if_neg (by decide +kernel)]; exact ⟨rfl, rfl⟩))
  (fun os started H enc _ => epochAll_lifted os started H enc)
end Go.Proofs.YtkicidopjihjmaaGreat
