/-
  Part of a proof: ZTries says of what.
-/
import Derived.Test.YtkicidopjihjmaaGreatZTriesC
set_option maxHeartbeats 16000000
set_option linter.unusedSimpArgs false
set_option linter.unusedVariables false
namespace Go.Proofs.YtkicidopjihjmaaGreat
open Go Go.RowKit
attribute [local go_sem] via_cell via_frozen
theorem row4 {w : World} {g : Nat} {t : TypeId} {v0 v1 v2 v3 : Value} (h : RowAt w g t #[v0, v1, v2, v3]) : w.cell? ⟨g, 0, none⟩ = some v0 ∧ w.cell? ⟨g, 1, none⟩ = some v1 ∧ w.cell? ⟨g, 2, none⟩ = some v2 ∧ w.cell? ⟨g, 3, none⟩ = some v3 :=
 ⟨by have := h.cell 0; simpa using this, by have := h.cell 1; simpa using this, by have := h.cell 2; simpa using this, by have := h.cell 3; simpa using this⟩
set_option maxRecDepth 20000 in
theorem efree_any (base gh : Nat) (A0 As : Option Addr) (n0 c0 ns cs : Nat) (A : Nat → Option Addr) (n c : Nat → Nat) (o : EOp) (At : Option Addr) (nt ct : Nat) (r : Rec) (told : List Ent) (W : World) (h : HandR W base gh A0 As n0 c0 ns cs A n c o At nt ct r told) (hf : FitR r) (ht : (nt : Int) ≤ 1000000) (res : Except Int (Rec × List Ent)) (hres : freeR r told = res) :
  Calls Tryz.prog 81 #[.pointer (some ⟨gh, 0, none⟩)] W (MthRes gh base o At res W) := by
 have H := Hi h
 have HF := Hi hf
 have HR := Hi hres
 have HT := Hi ht
 obtain ⟨tk, htk⟩ : ∃ tk, Li.takR r.l = tk := ⟨_, rfl⟩
 have HTK := Hi htk
 clear h hf hres ht htk
 go_enter Tryz.func81, Tryz.ntmps81
 obtain ⟨z0, z1, z2, z3, z4, z5, z6, z7, z8, z9, z10, z11, z12⟩ := row13 H.out.row
 have zl := H.out.row.lt
 go_wp2_with fail
 with_reducible refine (Li.Take_any W.heap.size A n c r.l W H.out.all.lim HF.out.E (Nat.le_refl _) (fun k hk => by rw [← H.out.all.ll k hk]; exact HF.out.rw k hk) HF.out.g).mono ?_
 rw [HTK.out]
 rintro e w1 ⟨hb, (⟨l', x, A4, n4, c4, hr4, rfl, hown⟩ | ⟨kk, hr4, rfl⟩)⟩
 case inr =>
  have HRR := Hi (show res = Except.error kk from by rw [← HR.out]; unfold freeR; rw [HTK.out, hr4])
  have HKK := Hi (show kk ≠ 0 from by have h := HTK.out; rw [hr4] at h; unfold Li.takR at h; split at h; (· unfold Li.doTake at h; split at h; (· injection h with h; omega); (· cases h)); (· injection h with h; omega))
  go_upto_region 1 with (fail)
  have hb2 : Below w1.heap.size w1 ((w1.alloc (.cells #[.int .u64 0, .slice none 0 0, .slice none 0 0, .slice none 0 0] 32)).alloc (.cells #[.int .i64 0, .int .u64 0] 41)) := ((Below.refl _ _).alloc (Nat.le_refl _) _).alloc (by simp) _
  have HB2 := Hi (hb.trans (hb2.mono hb.size))
  have H2 := Hi (H.out.below HB2.out)
  have hd : (kk == 0) = false := by simpa using HKK.out
  clear hb hb2 hr4
  clear z0 z1 z2 z3 z4 z5 z6 z7 z8 z9 z10 z11 z12 zl
  generalize (w1.alloc _).alloc _ = w3 at *
  go_wp2_with fail
  with_reducible refine (eneed_no kk _).mono ?_
  rintro e w4 ⟨rfl, rfl⟩
  exact ⟨rfl, .inr ⟨kk, HRR.out, rfl, ⟨_, H2.out.row, rfl⟩, Past.of_below H.out.row.lt HB2.out⟩⟩
 case inl =>
  have HRT := Hi (show freeR r told = (if gvE r.sl [x] = 0 then .ok ((⟨gvA r.sl [x], r.e, r.S, l'⟩ : Rec), told ++ [x]) else .error (gvE r.sl [x])) from by unfold freeR; rw [HTK.out, hr4])
  have HZ := Hi (show U64 x.2 from by have h := HTK.out; rw [hr4] at h; unfold Li.takR at h; split at h; (· exact (Li.gen_take HF.out.g h).2); (· cases h))
  go_upto_region 1 with (fail)
  have al := al2 w1 #[.int .u64 (l'.E : Int), .slice (A4 0) (n4 0) (c4 0), .slice (A4 1) (n4 1) (c4 1), .slice (A4 2) (n4 2) (c4 2)] 32 #[.int .i64 x.1, .int .u64 x.2] 41
  have b2 := al.2.1
  have b3 := al.2.2
  have hb2 := b2.trans (b3.mono b2.size)
  have R2 := Hi al.1.1
  have R3 := Hi al.1.2
  clear al
  have HB2 := Hi (hb.trans (hb2.mono hb.size))
  have H2 := Hi (H.out.below HB2.out)
  have HOW := Hi (hown.keepB hb2)
  have HWL := Hi hb.size
  clear hb hb2 b2 b3 hr4 hown
  clear z0 z1 z2 z3 z4 z5 z6 z7 z8 z9 z10 z11 z12 zl
  generalize (w1.alloc _).alloc _ = w3 at *
  generalize w1.heap.size = g2 at *
  have HP3 := Hi (Past.of_below H.out.row.lt HB2.out)
  have HLT := Hi H.out.row.lt
  have HT3 := Hi (show ∀ q, At = some q → q.block ≠ g2 + 1 from fun q hq => by have := (told_lt H.out.own q hq).2; have := HWL.out; omega)
  go_wp2_with fail
  with_reducible refine (eneed_ok 0 _).mono ?_
  rintro e w4 ⟨rfl, hw⟩
  subst hw
  obtain ⟨E, hE⟩ : ∃ E, gvE r.sl [(x.1, x.2)] = E := ⟨_, rfl⟩
  obtain ⟨Y, hY⟩ : ∃ Y, gvA r.sl [(x.1, x.2)] = Y := ⟨_, rfl⟩
  obtain ⟨k, hk⟩ : ∃ k, Y.length = k := ⟨_, rfl⟩
  have HE := Hi hE
  have HY := Hi hY
  have HK := Hi hk
  clear hE hY hk
  go_upto_region 2 with (fail)
  have HSX := Hi (fun (wX : World) (hgX : Below w3.heap.size w3 wX) => show wX.cell? ⟨gh, 0, none⟩ = some (.slice A0 n0 c0) ∧ wX.cell? ⟨g2 + 1, 0, none⟩ = some (.int .i64 x.1) ∧ wX.cell? ⟨g2 + 1, 1, none⟩ = some (.int .u64 x.2) ∧ gh < wX.heap.size ∧ g2 + 1 < wX.heap.size from by
   obtain ⟨z0, z1, z2, z3, z4, z5, z6, z7, z8, z9, z10, z11, z12⟩ := row13 H2.out.row
   exact ⟨kept hgX z0, kept hgX (row20 R3.out), kept hgX (row21 R3.out), Nat.lt_of_lt_of_le H2.out.row.lt hgX.size, Nat.lt_of_lt_of_le R3.out.lt hgX.size⟩)
  have HGR := Hi ((Below.refl w3.heap.size w3).drew)
  have HP0 := Hi (Past.refl gh w3)
  refine wp_region_T (fun wX => wX.cell? ⟨gh, 0, none⟩ = some (.slice A0 n0 c0) ∧ wX.cell? ⟨g2 + 1, 0, none⟩ = some (.int .i64 x.1) ∧ wX.cell? ⟨g2 + 1, 1, none⟩ = some (.int .u64 x.2) ∧ gh < wX.heap.size ∧ g2 + 1 < wX.heap.size) 15 (by kernel_rfl) (HSX.out _ HGR.out) (fun hHeld => ?_)
  clear hHeld
  have hS0 := HSX.out _ HGR.out
  refine tkT (i := 0) rfl ?_
  refine tkT (i := 1) rfl ?_
  refine tkT (i := 2) rfl ?_
  refine tkT (i := 3) rfl ?_
  refine tkT (i := 4) rfl ?_
  refine tkT (i := 5) rfl ?_
  refine tkT (i := 6) rfl ?_
  refine wpAnyT_one (i := 7) rfl (by kernel_rfl) (fun K0 hK0 => ?_)
  go_simp
  have HAL := Hi (((Below.refl w3.heap.size w3).alloc (Nat.le_refl _) (.cells #[.int .i64 x.1, .int .u64 x.2] 41)).drew)
  have HSRC := Hi (show Rd (w3.alloc (.cells #[.int .i64 x.1, .int .u64 x.2] 41)).drew (w3.alloc (.cells #[.int .i64 x.1, .int .u64 x.2] 41)).drew.heap.size 2 (some ⟨w3.heap.size, 0, none⟩) 1 (Cs encE [(x.1, x.2)]) from ((Rd.new w3 #[.int .i64 x.1, .int .u64 x.2] 41 2 1 rfl).below (Below.refl (w3.heap.size + 1) _).drew).more (Nat.le_of_eq (World.size_alloc w3 (.cells #[.int .i64 x.1, .int .u64 x.2] 41)).symm))
  clear hS0
  have hS0 := HSX.out _ HAL.out
  refine hK0.out _ _ (fun _ => hS0) ?_
  clear hK0 K0
  (try simp only [Act.put, Na, Nb, Nc, Nd, Nx, Nf])
  generalize (w3.alloc (.cells #[.int .i64 x.1, .int .u64 x.2] 41)).drew = wb at *
  skip
  refine wpAnyT_one (i := 8) rfl (by kernel_rfl) (fun K1 hK1 => ?_)
  go_simp
  have HB4 := Hi (H2.out.below HAL.out)
  with_reducible refine (GiveK A0 c0 n0 (some ⟨w3.heap.size, 0, none⟩) 1 1 r.sl [(x.1, x.2)] wb HB4.out.all.sl.rd HB4.out.all.l0 (by rw [← HB4.out.all.l0]; exact HF.out.sl) HSRC.out rfl (by omega) (by intro x hx; rw [List.mem_singleton] at hx; subst hx; exact HZ.out) E Y k HE.out HY.out HK.out).mono ?_
  rintro e w5 ⟨A1, c1, rfl, hkc, hao, hb⟩
  have HAO := Hi (ArOut.rdF hao)
  have HKC := Hi hkc
  have HX5 := bt HAL hb
  clear hS0 hb hkc hao
  have hS0 := HSX.out _ HX5.out
  refine hK1.out _ _ (fun _ => hS0) ?_
  clear hK1 K1
  (try simp only [Act.put, Na, Nb, Nc, Nd, Nx, Nf])
  refine tkT (i := 9) rfl ?_
  refine tkT (i := 10) rfl ?_
  by_cases hE0 : E = 0
  case neg =>
   refine wpAnyT_one (i := 11) rfl (by kernel_rfl) (fun K2 hK2 => ?_)
   go_simp
   with_reducible refine (sureA_no A1 k c1 E hE0 w5).mono ?_
   rintro e w6 ⟨rfl, hb⟩
   have HX6 := bt HX5 hb
   have HRR := Hi (show res = Except.error E from by rw [← HR.out]; rw [HRT.out, if_neg (by rw [show gvE r.sl [x] = E from HE.out]; exact hE0), show gvE r.sl [x] = E from HE.out])
   have HP := Hi (HP3.out.trans (Past.of_below H2.out.row.lt HX6.out))
   exact ⟨rfl, .inr ⟨E, HRR.out, rfl, ⟨_, (H2.out.below HX6.out).row, rfl⟩, HP.out⟩⟩
  case pos =>
   subst hE0
   refine wpAnyT_one (i := 11) rfl (by kernel_rfl) (fun K3 hK3 => ?_)
   go_simp
   with_reducible refine (sureA_ok A1 k c1 w5).mono ?_
   rintro e w6 ⟨rfl, hb⟩
   have HX6 := bt HX5 hb
   have HAO6 := Hi (HAO.out.below hb)
   clear hS0 hb
   have hS0 := HSX.out _ HX6.out
   refine hK3.out _ _ (fun _ => hS0) ?_
   clear hK3 K3
   (try simp only [Act.put, Na, Nb, Nc, Nd, Nx, Nf])
   refine wpAnyT_one (i := 12) rfl (by kernel_rfl) (fun K4 hK4 => ?_)
   go_simp
   refine hK4.out _ _ (fun _ => hS0) ?_
   clear hK4 K4
   (try simp only [Act.put, Na, Nb, Nc, Nd, Nx, Nf])
   refine wpAnyT_one (i := 13) rfl (by kernel_rfl) (fun K5 hK5 => ?_)
   go_simp
   refine hK5.out _ _ (fun _ => hS0) ?_
   clear hK5 K5
   (try simp only [Act.put, Na, Nb, Nc, Nd, Nx, Nf])
   refine wpAnyT_one (i := 14) rfl (by kernel_rfl) (fun K6 hK6 => ?_)
   go_simp
   refine hK6.out _ _ (fun _ => hS0) ?_
   clear hK6 K6
   (try simp only [Act.put, Na, Nb, Nc, Nd, Nx, Nf])
   refine wpAnyT_one (i := 15) rfl (by kernel_rfl) (fun K7 hK7 => ?_)
   have H6 := Hi (H2.out.below HX6.out)
   obtain ⟨z0, z1, z2, z3, z4, z5, z6, z7, z8, z9, z10, z11, z12⟩ := row13 H6.out.row
   have zl := H6.out.row.lt
   have f0 := H6.out.row.frozen 0
   go_simp
   have HPS := Hi (show Past gh w6 (w6.setCell ⟨gh, 0, none⟩ (.slice A1 k c1)) from ((Past.refl gh w6).trans (Past.set 0 (.slice A1 k c1))))
   have HN := Hi (show RowAt (w6.setCell ⟨gh, 0, none⟩ (.slice A1 k c1)) gh 95 #[.slice A1 k c1, .int .u64 r.e, .slice As ns cs, .int .u64 (r.l.E : Int), .slice (A 0) (n 0) (c 0), .slice (A 1) (n 1) (c 1), .slice (A 2) (n 2) (c 2), .int .i64 o.k, .int .i64 o.g, .int .u64 o.b, .int .i64 o.x.1, .int .u64 o.x.2, .slice At nt ct] from by have h := (H6.out.row.set 0 (.slice A1 k c1)); simpa using h)
   clear z0 z1 z2 z3 z4 z5 z6 z7 z8 z9 z10 z11 z12 zl
   clear f0 hS0
   generalize (w6.setCell ⟨gh, 0, none⟩ (.slice A1 k c1)) = wn at *
   refine hK7.out _ _ (fun h => absurd rfl h) ?_
   clear hK7 K7
   (try simp only [Act.put, Na, Nb, Nc, Nd, Nx, Nf])
   refine wpAnyT_done (by kernel_rfl) ?_ _
   have HFR := off_from (Nat.lt_of_lt_of_le H2.out.row.lt HAL.out.size) (own_keepB H2.out.own HAL.out) H2.out.lo
   have HNW := Hi (H6.out.past (r' := (⟨Y, r.e, r.S, r.l⟩ : Rec)) HPS.out HN.out ⟨HAO6.out.up (fun j hj _ => HFR j hj), HK.out, HKC.out, H6.out.all.S, H6.out.all.ls, H6.out.all.hs, H6.out.all.rw, H6.out.all.ll, H6.out.all.hl⟩)
   have HPW := Hi ((HP0.out.trans (Past.of_below H2.out.row.lt HX6.out)).trans HPS.out)
   clear HFR HN HPS HX6 HX5 HAL HSRC HAO HAO6 HB4 H6
   have HRR := Hi (show res = Except.ok ((⟨Y, r.e, r.S, l'⟩ : Rec), told ++ [x]) from by rw [← HR.out, HRT.out, if_pos (show gvE r.sl [x] = 0 from HE.out), show gvA r.sl [x] = Y from HY.out])
   have R2n := Hi (R2.out.past HPW.out (fun e => by have h := R2.out; rw [e] at h; exact absurd (row_typ h H2.out.row) (by decide)))
   have R3n := Hi (R3.out.past HPW.out (fun e => by have h := R3.out; rw [e] at h; exact absurd (row_typ h H2.out.row) (by decide)))
   have HOWn := Hi (HOW.out.other (fun g hg hl => HPW.out.block g (by have := HLT.out; have := HWL.out; omega) hl))
   clear HSX HGR HOW
   obtain ⟨l0, l1, l2, l3⟩ := row4 R2n.out
   have ll := R2n.out.lt
   obtain ⟨z0, z1, z2, z3, z4, z5, z6, z7, z8, z9, z10, z11, z12⟩ := row13 HNW.out.row
   have zl := HNW.out.row.lt
   have f3 := HNW.out.row.frozen 3
   have f4 := HNW.out.row.frozen 4
   have f5 := HNW.out.row.frozen 5
   have f6 := HNW.out.row.frozen 6
   go_upto_region 4 with (fail)
   have HPS := Hi (show Past gh wn ((((wn.setCell ⟨gh, 3, none⟩ (.int .u64 (l'.E : Int))).setCell ⟨gh, 4, none⟩ (.slice (A4 0) (n4 0) (c4 0))).setCell ⟨gh, 5, none⟩ (.slice (A4 1) (n4 1) (c4 1))).setCell ⟨gh, 6, none⟩ (.slice (A4 2) (n4 2) (c4 2))) from (((((Past.refl gh wn).trans (Past.set 3 (.int .u64 (l'.E : Int)))).trans (Past.set 4 (.slice (A4 0) (n4 0) (c4 0)))).trans (Past.set 5 (.slice (A4 1) (n4 1) (c4 1)))).trans (Past.set 6 (.slice (A4 2) (n4 2) (c4 2)))))
   have HN := Hi (show RowAt ((((wn.setCell ⟨gh, 3, none⟩ (.int .u64 (l'.E : Int))).setCell ⟨gh, 4, none⟩ (.slice (A4 0) (n4 0) (c4 0))).setCell ⟨gh, 5, none⟩ (.slice (A4 1) (n4 1) (c4 1))).setCell ⟨gh, 6, none⟩ (.slice (A4 2) (n4 2) (c4 2))) gh 95 #[.slice A1 k c1, .int .u64 r.e, .slice As ns cs, .int .u64 (l'.E : Int), .slice (A4 0) (n4 0) (c4 0), .slice (A4 1) (n4 1) (c4 1), .slice (A4 2) (n4 2) (c4 2), .int .i64 o.k, .int .i64 o.g, .int .u64 o.b, .int .i64 o.x.1, .int .u64 o.x.2, .slice At nt ct] from by have h := ((((HNW.out.row.set 3 (.int .u64 (l'.E : Int))).set 4 (.slice (A4 0) (n4 0) (c4 0))).set 5 (.slice (A4 1) (n4 1) (c4 1))).set 6 (.slice (A4 2) (n4 2) (c4 2))); simpa using h)
   clear z0 z1 z2 z3 z4 z5 z6 z7 z8 z9 z10 z11 z12 zl
   clear f3 f4 f5 f6 l0 l1 l2 l3 ll
   generalize (((wn.setCell _ _).setCell _ _).setCell _ _).setCell _ _ = wq at *
   have HFR := off_from HLT.out H.out.own H.out.lo
   have HQ := Hi (HNW.out.past (r' := (⟨Y, r.e, r.S, l'⟩ : Rec)) HPS.out HN.out ⟨HNW.out.all.sl, HNW.out.all.l0, HNW.out.all.h0, HNW.out.all.S, HNW.out.all.ls, HNW.out.all.hs, fun k hk => ((LimOwn.rdF HOWn.out k hk).1).up (fun j hj _ => HFR j hj), fun k hk => HOWn.out.len k hk, fun k hk => (LimOwn.rdF HOWn.out k hk).2⟩)
   have R3q := Hi (R3n.out.past HPS.out (fun e => by have h := R3n.out; rw [e] at h; exact absurd (row_typ h HNW.out.row) (by decide)))
   have HPQ := Hi ((HP3.out.trans HPW.out).trans HPS.out)
   clear HFR HN HPS HOWn R2n R3n
   have HBW := Hi (show base ≤ wq.heap.size from by have := HQ.out.lo; have := HQ.out.row.lt; omega)
   have HSX := Hi (fun (wX : World) (hgX : Below wq.heap.size wq wX) => show wX.cell? ⟨gh, 12, none⟩ = some (.slice At nt ct) ∧ wX.cell? ⟨g2 + 1, 0, none⟩ = some (.int .i64 x.1) ∧ wX.cell? ⟨g2 + 1, 1, none⟩ = some (.int .u64 x.2) ∧ gh < wX.heap.size ∧ g2 + 1 < wX.heap.size from by
    obtain ⟨z0, z1, z2, z3, z4, z5, z6, z7, z8, z9, z10, z11, z12⟩ := row13 HQ.out.row
    exact ⟨kept hgX z12, kept hgX (row20 R3q.out), kept hgX (row21 R3q.out), Nat.lt_of_lt_of_le HQ.out.row.lt hgX.size, Nat.lt_of_lt_of_le R3q.out.lt hgX.size⟩)
   have HGR := Hi ((Below.refl wq.heap.size wq).drew)
   refine wp_region_T (fun wX => wX.cell? ⟨gh, 12, none⟩ = some (.slice At nt ct) ∧ wX.cell? ⟨g2 + 1, 0, none⟩ = some (.int .i64 x.1) ∧ wX.cell? ⟨g2 + 1, 1, none⟩ = some (.int .u64 x.2) ∧ gh < wX.heap.size ∧ g2 + 1 < wX.heap.size) 10 (by kernel_rfl) (HSX.out _ HGR.out) (fun hHeld => ?_)
   clear hHeld
   have hS0 := HSX.out _ HGR.out
   refine tkT (i := 0) rfl ?_
   refine tkT (i := 1) rfl ?_
   refine tkT (i := 2) rfl ?_
   refine tkT (i := 3) rfl ?_
   refine tkT (i := 4) rfl ?_
   refine tkT (i := 5) rfl ?_
   refine wpAnyT_one (i := 6) rfl (by kernel_rfl) (fun K0 hK0 => ?_)
   go_simp
   have HAL := Hi (((Below.refl wq.heap.size wq).alloc (Nat.le_refl _) (.cells #[.int .i64 x.1, .int .u64 x.2] 41)).drew)
   have HSRC := Hi (show Rd (wq.alloc (.cells #[.int .i64 x.1, .int .u64 x.2] 41)).drew (wq.alloc (.cells #[.int .i64 x.1, .int .u64 x.2] 41)).drew.heap.size 2 (some ⟨wq.heap.size, 0, none⟩) 1 (Cs encE [x]) from ((Rd.new wq #[.int .i64 x.1, .int .u64 x.2] 41 2 1 rfl).below (Below.refl (wq.heap.size + 1) _).drew).more (Nat.le_of_eq (World.size_alloc wq (.cells #[.int .i64 x.1, .int .u64 x.2] 41)).symm))
   clear hS0
   have hS0 := HSX.out _ HAL.out
   have HQb := Hi (HQ.out.below HAL.out)
   have R3b := Hi (R3q.out.below HAL.out)
   refine hK0.out _ _ (fun _ => hS0) ?_
   clear hK0 K0
   (try simp only [Act.put, Na, Nb, Nc, Nd, Nx, Nf])
   generalize (wq.alloc (.cells #[.int .i64 x.1, .int .u64 x.2] 41)).drew = wb at *
   refine wpAnyT_one (i := 7) rfl (by kernel_rfl) (fun K1 hK1 => ?_)
   rw [if_pos (by rfl)]
   refine wp_app (m := 1) (n := nt) (v := .slice At nt ct) elE _ _ rfl rfl HQb.out.own rfl HSRC.out (Cs_one_cell encE_one _) (by have := HT.out; omega) (Nat.le_trans HBW.out HAL.out.size) ?_
   intro v6 w6 hown6 hb6 hg6 hv6
   obtain ⟨A7, c7, rfl, hc7, hcm7⟩ := own_form2 hown6
   have HR6 := Hi (HandR.kept HQb.out hg6)
   have R36 := Hi (R3b.out.heap (hg6.block _ R3b.out.lt (fun e => by rw [own_block] at e; cases At with | none => cases e | some q => (injection e with e; exact HT3.out q rfl e.symm))))
   have HO6 := Hi hown6
   have HG6 := Hi hg6
   have HV6 := Hi hv6
   clear hown6 hb6 hg6 hv6 hS0
   obtain ⟨z0, z1, z2, z3, z4, z5, z6, z7, z8, z9, z10, z11, z12⟩ := row13 HR6.out
   have hS0 : w6.cell? ⟨gh, 12, none⟩ = some (.slice At nt ct) ∧ w6.cell? ⟨g2 + 1, 0, none⟩ = some (.int .i64 x.1) ∧ w6.cell? ⟨g2 + 1, 1, none⟩ = some (.int .u64 x.2) ∧ gh < w6.heap.size ∧ g2 + 1 < w6.heap.size := ⟨z12, row20 R36.out, row21 R36.out, HR6.out.lt, R36.out.lt⟩
   clear z0 z1 z2 z3 z4 z5 z6 z7 z8 z9 z10 z11 z12
   refine hK1.out _ _ (fun _ => hS0) ?_
   clear hK1 K1
   (try simp only [Act.put, Na, Nb, Nc, Nd, Nx, Nf])
   refine wpAnyT_one (i := 8) rfl (by kernel_rfl) (fun K2 hK2 => ?_)
   go_simp
   refine hK2.out _ _ (fun _ => hS0) ?_
   clear hK2 K2
   (try simp only [Act.put, Na, Nb, Nc, Nd, Nx, Nf])
   refine wpAnyT_one (i := 9) rfl (by kernel_rfl) (fun K3 hK3 => ?_)
   go_simp
   refine hK3.out _ _ (fun _ => hS0) ?_
   clear hK3 K3
   (try simp only [Act.put, Na, Nb, Nc, Nd, Nx, Nf])
   refine wpAnyT_one (i := 10) rfl (by kernel_rfl) (fun K4 hK4 => ?_)
   obtain ⟨z0, z1, z2, z3, z4, z5, z6, z7, z8, z9, z10, z11, z12⟩ := row13 HR6.out
   have zl := HR6.out.lt
   have f12 := HR6.out.frozen 12
   clear hS0
   go_simp
   have HPS := Hi (show Past gh w6 (w6.setCell ⟨gh, 12, none⟩ (.slice A7 (nt + 1) c7)) from ((Past.refl gh w6).trans (Past.set 12 (.slice A7 (nt + 1) c7))))
   have HN := Hi (show RowAt (w6.setCell ⟨gh, 12, none⟩ (.slice A7 (nt + 1) c7)) gh 95 #[.slice A1 k c1, .int .u64 r.e, .slice As ns cs, .int .u64 (l'.E : Int), .slice (A4 0) (n4 0) (c4 0), .slice (A4 1) (n4 1) (c4 1), .slice (A4 2) (n4 2) (c4 2), .int .i64 o.k, .int .i64 o.g, .int .u64 o.b, .int .i64 o.x.1, .int .u64 o.x.2, .slice A7 (nt + 1) c7] from by have h := (HR6.out.set 12 (.slice A7 (nt + 1) c7)); simpa using h)
   clear z0 z1 z2 z3 z4 z5 z6 z7 z8 z9 z10 z11 z12 zl
   clear f12
   generalize w6.setCell _ _ = w7 at *
   refine hK4.out _ _ (fun h => absurd rfl h) ?_
   clear hK4 K4
   (try simp only [Act.put, Na, Nb, Nc, Nd, Nx, Nf])
   refine wpAnyT_done (by kernel_rfl) ?_ _
   go_wp2_with fail
   go_end0
   have H7 := HQb.out.tell HG6.out (told' := told ++ [x]) (by rw [Cs_append]; exact HO6.out) (by rw [List.length_append, HQb.out.len]; rfl) HV6.out HPS.out HN.out
   exact .inl ⟨_, _, HRR.out, rfl, ⟨_, _, _, _, _, _, _, _, _, _, _, _, H7⟩, (((PastH.of_past HPQ.out).trans (PastH.of_below HAL.out)).trans (PastH.grown HG6.out)).trans (PastH.of_past HPS.out)⟩
@[local go_sem] theorem wpmfE (fn : Fn) (first cap : Array Value) (w : World) : (Instr.makeFunc fn first cap).run Tryz.prog w = .ok (.func fn first cap) w := rfl
@[local go_sem] theorem assert_errnoE (k : Int) (W : World) : (Instr.typeAssert (.iface 44 (.int .i64 k)) 20 44 true).run Tryz.prog W = .ok (.tuple #[.int .i64 k, .bool true]) W := by
 simp [Instr.typeAssert]
theorem ecatch_idle (p q s : Addr) (w : World) :
  CallsD Tryz.prog 75 #[.pointer (some p), .pointer (some q), .pointer (some s)] .returning w fun e u' w' => e = .returned (.tuple #[]) ∧ u' = .returning ∧ w' = w := by
 refine callsD_of_wpS Tryz.func75 rfl fun c₀ cs hu => ?_
 apply wpS_seq
 apply wpS_region
 simp [wpOpsS, go_sem, recoverD, hu, Tryz.ntmps75, Exit.thenS]
 refine wpS_of_wp ?_
 simp only [List.size_toArray, List.length_cons, List.length_nil, Nat.reduceAdd, Nat.reduceSub, Array.replicate_succ, Array.replicate_zero, List.push_toArray, List.append_toArray, List.nil_append, List.cons_append, List.setIfInBounds_toArray, List.set_cons_succ, List.set_cons_zero]
 go_wp2
 cases c₀
 simp_all [bodyPostS, results, Tryz.results75]
structure CaughtE (gh ge : Nat) (k : Int) (C : Array Value) (w w' : World) : Prop where
 hand : RowAt w' gh 95 C
 err : RowAt w' ge 44 #[.int .i64 k]
 os : w'.os = w.os
 tape : w'.tape = w.tape
 output : w'.output = w.output
 size : w.heap.size ≤ w'.heap.size
 block : ∀ j, j ≠ gh → j ≠ ge → j < w.heap.size → w'.heap[j]? = w.heap[j]?
set_option maxRecDepth 100000 in
theorem ecatch_err (gw gb ge gh : Nat) (k : Int) (v0 v1 v2 v3 v4 v5 v6 v7 v8 v9 v10 v11 v12 : Value) (h1 : (#[v0, v1, v2, v3, v4, v5, v6, v7, v8, v9, v10, v11, v12] : Array Value).all (·.oneCell') = true) (cs : Array Value) (w : World) (hw : RowAt w gw 95 #[v0, v1, v2, v3, v4, v5, v6, v7, v8, v9, v10, v11, v12]) (hb : RowAt w gb 91 #[.pointer (some ⟨gh, 0, none⟩)]) (he : RowAt w ge 44 #[.int .i64 0]) (hh : RowAt w gh 95 cs) (hsz : cs.size = 13) (hne : gh ≠ ge) :
  CallsD Tryz.prog 75 #[.pointer (some ⟨gw, 0, none⟩), .pointer (some ⟨gb, 0, none⟩), .pointer (some ⟨ge, 0, none⟩)] (.panicking (errX k)) w fun e u' w' =>
   e = .returned (.tuple #[]) ∧ u' = .panicking [{ v := .iface 44 (.int .i64 k), recovered := true }] ∧ CaughtE gh ge k #[v0, v1, v2, v3, v4, v5, v6, v7, v8, v9, v10, v11, v12] w w' := by
 obtain ⟨z0, z1, z2, z3, z4, z5, z6, z7, z8, z9, z10, z11, z12⟩ := row13 hw
 have zl := hw.lt
 have b0 := row1 hb
 have bl := hb.lt
 have e0 := row1 he
 have el := he.lt
 have ef := he.frozen 0
 have HH := Hi hh
 have HE := Hi he
 have HSZ := Hi hsz
 have H1 := Hi h1
 have HNE := Hi hne
 clear hw hb he hh hsz h1
 refine callsD_of_wpS Tryz.func75 rfl fun c₀ cs hu => ?_
 apply wpS_seq
 apply wpS_region
 simp [wpOpsS, go_sem, recoverD, hu, Tryz.ntmps75, Exit.thenS, errX]
 refine wpS_of_wp ?_
 simp only [List.size_toArray, List.length_cons, List.length_nil, Nat.reduceAdd, Nat.reduceSub, Array.replicate_succ, Array.replicate_zero, List.push_toArray, List.append_toArray, List.nil_append, List.cons_append, List.setIfInBounds_toArray, List.set_cons_succ, List.set_cons_zero]
 go_wp2_with (refine wpList_store_rowAt rfl 95 _ _ rfl gh 95 _ #[v0, v1, v2, v3, v4, v5, v6, v7, v8, v9, v10, v11, v12] rfl rfl HH.out (by rw [HSZ.out]; rfl) (by kernel_rfl) H1.out ?_; intro w1 hr1 hp1; have HR1 := Hi hr1; have HP1 := Hi hp1; have he1 := HE.out.past hp1 (Ne.symm HNE.out); have HE1 := Hi he1; have y0 := row1 he1; have yf := he1.frozen 0; have yl := he1.lt; clear hr1 hp1 he1)
 have HC : Hid (CaughtE gh ge k #[v0, v1, v2, v3, v4, v5, v6, v7, v8, v9, v10, v11, v12] w (w1.setCell ⟨ge, 0, none⟩ (.int .i64 k))) := Hi ⟨HR1.out.setNe HNE.out, by have h := HE1.out.set 0 (.int .i64 k); simpa using h, HP1.out.below.os, HP1.out.below.tape, HP1.out.below.output, by have := HP1.out.size; simpa using this, fun j h1 h2 hl => (heap_setCell_ne _ _ _ _ h2).trans (HP1.out.block j h1 hl)⟩
 simp [bodyPostS, results, Tryz.results75]
 exact HC.out
abbrev kindsE (gh : Nat) : Array MapEntry := #[⟨.int .i64 1, .func (.func 76) #[.pointer (some ⟨gh, 0, none⟩)] #[], 0⟩, ⟨.int .i64 2, .func (.func 77) #[.pointer (some ⟨gh, 0, none⟩)] #[], 1⟩, ⟨.int .i64 3, .func (.func 78) #[.pointer (some ⟨gh, 0, none⟩)] #[], 2⟩, ⟨.int .i64 4, .func (.func 79) #[.pointer (some ⟨gh, 0, none⟩)] #[], 3⟩, ⟨.int .i64 5, .func (.func 80) #[.pointer (some ⟨gh, 0, none⟩)] #[], 4⟩, ⟨.int .i64 6, .func (.func 81) #[.pointer (some ⟨gh, 0, none⟩)] #[], 5⟩, ⟨.int .i64 7, .func (.func 82) #[.pointer (some ⟨gh, 0, none⟩)] #[], 6⟩]
theorem run_ins (w : World) (es : Array MapEntry) (c : Nat) (k : Int) (v : Value) (h : Instr.findNow (.int .i64) (.int .i64 k) es.toList 0 = some none) :
  (Instr.mapUpdate 123 (.map (some w.heap.size)) (.int .i64 k) v).run Tryz.prog (w.alloc (.map es c)) = .ok () (w.alloc (.map (es.push ⟨.int .i64 k, v, c⟩) (c + 1))) := by
 have hb : (w.alloc (.map es c)).heap[w.heap.size]? = some (.map es c) := heap_alloc_new w _
 have hs : ({ w.alloc (.map es c) with heap := (w.alloc (.map es c)).heap.setIfInBounds w.heap.size (.map (es.push ⟨.int .i64 k, v, c⟩) (c + 1)) } : World) = w.alloc (.map (es.push ⟨.int .i64 k, v, c⟩) (c + 1)) := by
  have e1 : (w.alloc (.map es c)).heap = w.heap.push (.map es c) := rfl
  rw [e1]
  have e2 : (w.heap.push (Obj.map es c)).setIfInBounds w.heap.size (.map (es.push ⟨.int .i64 k, v, c⟩) (c + 1)) = w.heap.push (.map (es.push ⟨.int .i64 k, v, c⟩) (c + 1)) := by
   apply Array.ext_getElem?
   intro i
   rw [Array.getElem?_setIfInBounds, Array.getElem?_push, Array.getElem?_push]
   by_cases hi : i = w.heap.size
   · subst hi; simp
   · rw [if_neg (fun e => hi e.symm), if_neg hi, if_neg hi]
  rw [e2]
  rfl
 simp [Instr.mapUpdate, run_underlying Tryz.underlying123, MapKept.run_getObj_map hb, MapKept.run_checkKey (k := .int .i64 k) Tryz.underlying3 rfl, MapKept.run_findKey Tryz.underlying3 h, MapKept.run_setObj_map _ hb, Result.andThen]
 exact hs
theorem run_look (w : World) (g : Nat) (es : Array MapEntry) (c : Nat) (k : Int) (v : Value) (i : Nat) (hw : w.heap[g]? = some (.map es c)) (h : Instr.findNow (.int .i64) (.int .i64 k) es.toList 0 = some (some (i, v))) :
  (Instr.lookup 123 (.map (some g)) (.int .i64 k) true).run Tryz.prog w = .ok (.tuple #[v, .bool true]) w := by
 simp [Instr.lookup, run_underlying Tryz.underlying123, MapKept.run_getObj_map hw, MapKept.run_checkKey (k := .int .i64 k) Tryz.underlying3 rfl, MapKept.run_findKey Tryz.underlying3 h, Result.andThen]
theorem run_lookn (w : World) (g : Nat) (es : Array MapEntry) (c : Nat) (k : Int) (hw : w.heap[g]? = some (.map es c)) (h : Instr.findNow (.int .i64) (.int .i64 k) es.toList 0 = some none) :
  (Instr.lookup 123 (.map (some g)) (.int .i64 k) true).run Tryz.prog w = .ok (.tuple #[.nilFunc, .bool false]) w := by
 have hz : (zeroValue 1).run Tryz.prog w = .ok .nilFunc w := by kernel_rfl
 simp [Instr.lookup, run_underlying Tryz.underlying123, MapKept.run_getObj_map hw, MapKept.run_checkKey (k := .int .i64 k) Tryz.underlying3 rfl, MapKept.run_findKey Tryz.underlying3 h, Result.andThen, hz]
theorem row_alloc {w : World} {g : Nat} {t : TypeId} {cs : Array Value} (h : RowAt w g t cs) (x : Obj) : RowAt (w.alloc x) g t cs := h.below ((Below.refl w.heap.size w).alloc (Nat.le_refl _) x)
theorem row5 {w : World} {g : Nat} {t : TypeId} {v0 v1 v2 v3 v4 : Value} (h : RowAt w g t #[v0, v1, v2, v3, v4]) : w.cell? ⟨g, 0, none⟩ = some v0 ∧ w.cell? ⟨g, 1, none⟩ = some v1 ∧ w.cell? ⟨g, 2, none⟩ = some v2 ∧ w.cell? ⟨g, 3, none⟩ = some v3 ∧ w.cell? ⟨g, 4, none⟩ = some v4 := by
 refine ⟨?_, ?_, ?_, ?_, ?_⟩
 · have := h.cell 0; simpa using this
 · have := h.cell 1; simpa using this
 · have := h.cell 2; simpa using this
 · have := h.cell 3; simpa using this
 · have := h.cell 4; simpa using this
def okK (res : Except Int (Rec × List Ent)) : Int := match res with | .ok _ => 0 | .error k => k
def okR (r : Rec) (told : List Ent) (res : Except Int (Rec × List Ent)) : Rec × List Ent := match res with | .ok x => x | .error _ => (r, told)
theorem HandR.box {w : World} {base gh : Nat} {A0 As : Option Addr} {n0 c0 ns cs : Nat} {A : Nat → Option Addr} {n c : Nat → Nat} {o : EOp} {At : Option Addr} {nt ct : Nat} {r : Rec} {told : List Ent} {ge : Nat} {z : Int} (h : HandR w base gh A0 As n0 c0 ns cs A n c o At nt ct r told) (hg : RowAt w ge 44 #[.int .i64 z]) (hne : gh ≠ ge) (hz : ge ≠ 0) (v : Value) : HandR (w.setCell ⟨ge, 0, none⟩ v) base gh A0 As n0 c0 ns cs A n c o At nt ct r told := by
 refine ⟨h.row.setNe hne, ((h.all.apart hg hz).stay (StayF.set (fun hf => hf.2 rfl))).up (fun j hj _ => hj.1), own_kept h.own (fun g hg' hl => heap_setCell_ne _ _ _ _ (fun e => ?_)), h.len, h.lo⟩
 obtain ⟨_, cs', h2⟩ := own_typ h.own hg'
 have e : g = ge := e
 subst e
 exact absurd (row_typ h2 hg) (by decide)
theorem PastH.up {gh ge : Nat} {At : Option Addr} {w w' : World} (h : PastH gh At w w') (hg : w.heap.size ≤ ge) (v : Value) : PastH gh At w (w'.setCell ⟨ge, 0, none⟩ v) :=
 ⟨h.os, h.tape, h.output, by have := h.size; simpa using this, fun j hj hl => (heap_setCell_ne _ _ _ _ (fun e => by have e : j = ge := e; omega)).trans (h.block j hj hl)⟩
theorem PastH.trans2 {gh ge : Nat} {k : Int} {C : Array Value} {At : Option Addr} {w w' w2 : World} (h : PastH gh At w w') (hc : CaughtE gh ge k C w' w2) (hg : w.heap.size ≤ ge) : PastH gh At w w2 :=
 ⟨hc.os.trans h.os, hc.tape.trans h.tape, hc.output.trans h.output, Nat.le_trans h.size hc.size, fun j hj hl => (hc.block j hj.1 (by omega) (Nat.lt_of_lt_of_le hl h.size)).trans (h.block j hj hl)⟩
theorem HandR.caught {w w' : World} {base gh ge : Nat} {A0 As : Option Addr} {n0 c0 ns cs : Nat} {A : Nat → Option Addr} {n c : Nat → Nat} {o0 : EOp} {At : Option Addr} {nt ct : Nat} {r : Rec} {told : List Ent} {k z : Int} (h : RecF (OffB base gh At) w A0 As n0 c0 ns cs A n c r) (ho : w.ownsRow base 41 2 (.slice At nt ct) nt (Cs encE told)) (hl : told.length = nt) (hlo : base ≤ gh) (hat : ∀ q, At = some q → q.block ≠ gh) (hg : RowAt w ge 44 #[.int .i64 z]) (hz : ge ≠ 0) (hc : CaughtE gh ge k (handC r.e r.l.E A0 As n0 c0 ns cs A n c o0 At nt ct) w w') : HandR w' base gh A0 As n0 c0 ns cs A n c o0 At nt ct r told := by
 refine ⟨hc.hand, ((h.apart hg hz).stay ⟨hc.size, fun j hj hl => hc.block j hj.1.2.1 hj.2 hl⟩).up (fun j hj _ => hj.1), own_kept ho (fun g hg' hl => hc.block g (fun e => ?_) (fun e => ?_) hl), hl, hlo⟩
 ·
  rw [own_block] at hg'
  cases At with
  | none => cases hg'
  | some q => injection hg' with hg'; exact hat q rfl (hg'.trans e)
 ·
  obtain ⟨_, cs', h2⟩ := own_typ ho hg'
  subst e
  exact absurd (row_typ h2 hg) (by decide)
def EDoesRes (gh base : Nat) (At : Option Addr) (r : Rec) (told : List Ent) (res : Except Int (Rec × List Ent)) (W : World) (e : Ending) (W' : World) : Prop :=
 e = .returned (.int .i64 (okK res)) ∧ (∃ o3, HandX W' base gh o3 (okR r told res).1 (okR r told res).2) ∧ PastH gh At W W'
theorem in0s (w5 : World) (gh : Nat) : (Instr.mapUpdate 123 (.map (some w5.heap.size)) (.int .i64 1) (.func (.func 76) #[.pointer (some ⟨gh, 0, none⟩)] #[])).run Tryz.prog (w5.alloc (.map #[] 0)) = .ok () (w5.alloc (.map #[⟨.int .i64 1, .func (.func 76) #[.pointer (some ⟨gh, 0, none⟩)] #[], 0⟩] 1)) := run_ins w5 #[] 0 1 (.func (.func 76) #[.pointer (some ⟨gh, 0, none⟩)] #[]) rfl
theorem in1s (w5 : World) (gh : Nat) : (Instr.mapUpdate 123 (.map (some w5.heap.size)) (.int .i64 2) (.func (.func 77) #[.pointer (some ⟨gh, 0, none⟩)] #[])).run Tryz.prog (w5.alloc (.map #[⟨.int .i64 1, .func (.func 76) #[.pointer (some ⟨gh, 0, none⟩)] #[], 0⟩] 1)) = .ok () (w5.alloc (.map #[⟨.int .i64 1, .func (.func 76) #[.pointer (some ⟨gh, 0, none⟩)] #[], 0⟩, ⟨.int .i64 2, .func (.func 77) #[.pointer (some ⟨gh, 0, none⟩)] #[], 1⟩] 2)) := run_ins w5 #[⟨.int .i64 1, .func (.func 76) #[.pointer (some ⟨gh, 0, none⟩)] #[], 0⟩] 1 2 (.func (.func 77) #[.pointer (some ⟨gh, 0, none⟩)] #[]) rfl
theorem in2s (w5 : World) (gh : Nat) : (Instr.mapUpdate 123 (.map (some w5.heap.size)) (.int .i64 3) (.func (.func 78) #[.pointer (some ⟨gh, 0, none⟩)] #[])).run Tryz.prog (w5.alloc (.map #[⟨.int .i64 1, .func (.func 76) #[.pointer (some ⟨gh, 0, none⟩)] #[], 0⟩, ⟨.int .i64 2, .func (.func 77) #[.pointer (some ⟨gh, 0, none⟩)] #[], 1⟩] 2)) = .ok () (w5.alloc (.map #[⟨.int .i64 1, .func (.func 76) #[.pointer (some ⟨gh, 0, none⟩)] #[], 0⟩, ⟨.int .i64 2, .func (.func 77) #[.pointer (some ⟨gh, 0, none⟩)] #[], 1⟩, ⟨.int .i64 3, .func (.func 78) #[.pointer (some ⟨gh, 0, none⟩)] #[], 2⟩] 3)) := run_ins w5 #[⟨.int .i64 1, .func (.func 76) #[.pointer (some ⟨gh, 0, none⟩)] #[], 0⟩, ⟨.int .i64 2, .func (.func 77) #[.pointer (some ⟨gh, 0, none⟩)] #[], 1⟩] 2 3 (.func (.func 78) #[.pointer (some ⟨gh, 0, none⟩)] #[]) rfl
theorem in3s (w5 : World) (gh : Nat) : (Instr.mapUpdate 123 (.map (some w5.heap.size)) (.int .i64 4) (.func (.func 79) #[.pointer (some ⟨gh, 0, none⟩)] #[])).run Tryz.prog (w5.alloc (.map #[⟨.int .i64 1, .func (.func 76) #[.pointer (some ⟨gh, 0, none⟩)] #[], 0⟩, ⟨.int .i64 2, .func (.func 77) #[.pointer (some ⟨gh, 0, none⟩)] #[], 1⟩, ⟨.int .i64 3, .func (.func 78) #[.pointer (some ⟨gh, 0, none⟩)] #[], 2⟩] 3)) = .ok () (w5.alloc (.map #[⟨.int .i64 1, .func (.func 76) #[.pointer (some ⟨gh, 0, none⟩)] #[], 0⟩, ⟨.int .i64 2, .func (.func 77) #[.pointer (some ⟨gh, 0, none⟩)] #[], 1⟩, ⟨.int .i64 3, .func (.func 78) #[.pointer (some ⟨gh, 0, none⟩)] #[], 2⟩, ⟨.int .i64 4, .func (.func 79) #[.pointer (some ⟨gh, 0, none⟩)] #[], 3⟩] 4)) := run_ins w5 #[⟨.int .i64 1, .func (.func 76) #[.pointer (some ⟨gh, 0, none⟩)] #[], 0⟩, ⟨.int .i64 2, .func (.func 77) #[.pointer (some ⟨gh, 0, none⟩)] #[], 1⟩, ⟨.int .i64 3, .func (.func 78) #[.pointer (some ⟨gh, 0, none⟩)] #[], 2⟩] 3 4 (.func (.func 79) #[.pointer (some ⟨gh, 0, none⟩)] #[]) rfl
theorem in4s (w5 : World) (gh : Nat) : (Instr.mapUpdate 123 (.map (some w5.heap.size)) (.int .i64 5) (.func (.func 80) #[.pointer (some ⟨gh, 0, none⟩)] #[])).run Tryz.prog (w5.alloc (.map #[⟨.int .i64 1, .func (.func 76) #[.pointer (some ⟨gh, 0, none⟩)] #[], 0⟩, ⟨.int .i64 2, .func (.func 77) #[.pointer (some ⟨gh, 0, none⟩)] #[], 1⟩, ⟨.int .i64 3, .func (.func 78) #[.pointer (some ⟨gh, 0, none⟩)] #[], 2⟩, ⟨.int .i64 4, .func (.func 79) #[.pointer (some ⟨gh, 0, none⟩)] #[], 3⟩] 4)) = .ok () (w5.alloc (.map #[⟨.int .i64 1, .func (.func 76) #[.pointer (some ⟨gh, 0, none⟩)] #[], 0⟩, ⟨.int .i64 2, .func (.func 77) #[.pointer (some ⟨gh, 0, none⟩)] #[], 1⟩, ⟨.int .i64 3, .func (.func 78) #[.pointer (some ⟨gh, 0, none⟩)] #[], 2⟩, ⟨.int .i64 4, .func (.func 79) #[.pointer (some ⟨gh, 0, none⟩)] #[], 3⟩, ⟨.int .i64 5, .func (.func 80) #[.pointer (some ⟨gh, 0, none⟩)] #[], 4⟩] 5)) := run_ins w5 #[⟨.int .i64 1, .func (.func 76) #[.pointer (some ⟨gh, 0, none⟩)] #[], 0⟩, ⟨.int .i64 2, .func (.func 77) #[.pointer (some ⟨gh, 0, none⟩)] #[], 1⟩, ⟨.int .i64 3, .func (.func 78) #[.pointer (some ⟨gh, 0, none⟩)] #[], 2⟩, ⟨.int .i64 4, .func (.func 79) #[.pointer (some ⟨gh, 0, none⟩)] #[], 3⟩] 4 5 (.func (.func 80) #[.pointer (some ⟨gh, 0, none⟩)] #[]) rfl
theorem in5s (w5 : World) (gh : Nat) : (Instr.mapUpdate 123 (.map (some w5.heap.size)) (.int .i64 6) (.func (.func 81) #[.pointer (some ⟨gh, 0, none⟩)] #[])).run Tryz.prog (w5.alloc (.map #[⟨.int .i64 1, .func (.func 76) #[.pointer (some ⟨gh, 0, none⟩)] #[], 0⟩, ⟨.int .i64 2, .func (.func 77) #[.pointer (some ⟨gh, 0, none⟩)] #[], 1⟩, ⟨.int .i64 3, .func (.func 78) #[.pointer (some ⟨gh, 0, none⟩)] #[], 2⟩, ⟨.int .i64 4, .func (.func 79) #[.pointer (some ⟨gh, 0, none⟩)] #[], 3⟩, ⟨.int .i64 5, .func (.func 80) #[.pointer (some ⟨gh, 0, none⟩)] #[], 4⟩] 5)) = .ok () (w5.alloc (.map #[⟨.int .i64 1, .func (.func 76) #[.pointer (some ⟨gh, 0, none⟩)] #[], 0⟩, ⟨.int .i64 2, .func (.func 77) #[.pointer (some ⟨gh, 0, none⟩)] #[], 1⟩, ⟨.int .i64 3, .func (.func 78) #[.pointer (some ⟨gh, 0, none⟩)] #[], 2⟩, ⟨.int .i64 4, .func (.func 79) #[.pointer (some ⟨gh, 0, none⟩)] #[], 3⟩, ⟨.int .i64 5, .func (.func 80) #[.pointer (some ⟨gh, 0, none⟩)] #[], 4⟩, ⟨.int .i64 6, .func (.func 81) #[.pointer (some ⟨gh, 0, none⟩)] #[], 5⟩] 6)) := run_ins w5 #[⟨.int .i64 1, .func (.func 76) #[.pointer (some ⟨gh, 0, none⟩)] #[], 0⟩, ⟨.int .i64 2, .func (.func 77) #[.pointer (some ⟨gh, 0, none⟩)] #[], 1⟩, ⟨.int .i64 3, .func (.func 78) #[.pointer (some ⟨gh, 0, none⟩)] #[], 2⟩, ⟨.int .i64 4, .func (.func 79) #[.pointer (some ⟨gh, 0, none⟩)] #[], 3⟩, ⟨.int .i64 5, .func (.func 80) #[.pointer (some ⟨gh, 0, none⟩)] #[], 4⟩] 5 6 (.func (.func 81) #[.pointer (some ⟨gh, 0, none⟩)] #[]) rfl
theorem in6s (w5 : World) (gh : Nat) : (Instr.mapUpdate 123 (.map (some w5.heap.size)) (.int .i64 7) (.func (.func 82) #[.pointer (some ⟨gh, 0, none⟩)] #[])).run Tryz.prog (w5.alloc (.map #[⟨.int .i64 1, .func (.func 76) #[.pointer (some ⟨gh, 0, none⟩)] #[], 0⟩, ⟨.int .i64 2, .func (.func 77) #[.pointer (some ⟨gh, 0, none⟩)] #[], 1⟩, ⟨.int .i64 3, .func (.func 78) #[.pointer (some ⟨gh, 0, none⟩)] #[], 2⟩, ⟨.int .i64 4, .func (.func 79) #[.pointer (some ⟨gh, 0, none⟩)] #[], 3⟩, ⟨.int .i64 5, .func (.func 80) #[.pointer (some ⟨gh, 0, none⟩)] #[], 4⟩, ⟨.int .i64 6, .func (.func 81) #[.pointer (some ⟨gh, 0, none⟩)] #[], 5⟩] 6)) = .ok () (w5.alloc (.map #[⟨.int .i64 1, .func (.func 76) #[.pointer (some ⟨gh, 0, none⟩)] #[], 0⟩, ⟨.int .i64 2, .func (.func 77) #[.pointer (some ⟨gh, 0, none⟩)] #[], 1⟩, ⟨.int .i64 3, .func (.func 78) #[.pointer (some ⟨gh, 0, none⟩)] #[], 2⟩, ⟨.int .i64 4, .func (.func 79) #[.pointer (some ⟨gh, 0, none⟩)] #[], 3⟩, ⟨.int .i64 5, .func (.func 80) #[.pointer (some ⟨gh, 0, none⟩)] #[], 4⟩, ⟨.int .i64 6, .func (.func 81) #[.pointer (some ⟨gh, 0, none⟩)] #[], 5⟩, ⟨.int .i64 7, .func (.func 82) #[.pointer (some ⟨gh, 0, none⟩)] #[], 6⟩] 7)) := run_ins w5 #[⟨.int .i64 1, .func (.func 76) #[.pointer (some ⟨gh, 0, none⟩)] #[], 0⟩, ⟨.int .i64 2, .func (.func 77) #[.pointer (some ⟨gh, 0, none⟩)] #[], 1⟩, ⟨.int .i64 3, .func (.func 78) #[.pointer (some ⟨gh, 0, none⟩)] #[], 2⟩, ⟨.int .i64 4, .func (.func 79) #[.pointer (some ⟨gh, 0, none⟩)] #[], 3⟩, ⟨.int .i64 5, .func (.func 80) #[.pointer (some ⟨gh, 0, none⟩)] #[], 4⟩, ⟨.int .i64 6, .func (.func 81) #[.pointer (some ⟨gh, 0, none⟩)] #[], 5⟩] 6 7 (.func (.func 82) #[.pointer (some ⟨gh, 0, none⟩)] #[]) rfl
set_option maxRecDepth 100000 in
theorem does_way (F i : Nat) (base gh : Nat) (A0 As : Option Addr) (n0 c0 ns cs : Nat) (A : Nat → Option Addr) (n c : Nat → Nat) (o0 o : EOp) (At : Option Addr) (nt ct : Nat) (r : Rec) (told : List Ent) (W : World) (h : HandR W base gh A0 As n0 c0 ns cs A n c o0 At nt ct r told) (res : Except Int (Rec × List Ent))
  (hk : Instr.findNow (.int .i64) (.int .i64 o.k) (kindsE gh).toList 0 = some (some (i, .func (.func F) #[.pointer (some ⟨gh, 0, none⟩)] #[])))
  (hg : ∀ args w, (callFunc F args).run Tryz.prog w = .ok (.enter F args) w)
  (HC : ∀ w, HandR w base gh A0 As n0 c0 ns cs A n c o At nt ct r told → Calls Tryz.prog F #[.pointer (some ⟨gh, 0, none⟩)] w (MthRes gh base o At res w)) :
  Calls Tryz.prog 48 #[.pointer (some ⟨gh, 0, none⟩), .agg #[.int .i64 o.k, .int .i64 o.g, .int .u64 o.b, .int .i64 o.x.1, .int .u64 o.x.2]] W (EDoesRes gh base At r told res W) := by
 have H := Hi h
 have HCC := Hi HC
 have HKK := Hi hk
 clear h HC hk
 go_enter_defers Tryz.func48, Tryz.ntmps48
 go_upto_region 1 with (fail)
 have b1 : Below W.heap.size W (((W.alloc (.cells #[.pointer (some ⟨gh, 0, none⟩)] 91)).alloc (.cells #[.int .i64 o.k, .int .i64 o.g, .int .u64 o.b, .int .i64 o.x.1, .int .u64 o.x.2] 43)).alloc (.cells #[.int .i64 0] 44)) := (((Below.refl _ _).alloc (Nat.le_refl _) _).alloc (by simp) _).alloc (by simp; omega) _
 have al := al3 W #[.pointer (some ⟨gh, 0, none⟩)] 91 #[.int .i64 o.k, .int .i64 o.g, .int .u64 o.b, .int .i64 o.x.1, .int .u64 o.x.2] 43 #[.int .i64 0] 44
 have RP := Hi al.1.1
 clear al
 have RO := Hi (show RowAt (((W.alloc (.cells #[.pointer (some ⟨gh, 0, none⟩)] 91)).alloc (.cells #[.int .i64 o.k, .int .i64 o.g, .int .u64 o.b, .int .i64 o.x.1, .int .u64 o.x.2] 43)).alloc (.cells #[.int .i64 0] 44)) (W.heap.size + 1) 43 #[.int .i64 o.k, .int .i64 o.g, .int .u64 o.b, .int .i64 o.x.1, .int .u64 o.x.2] from by
  have h := row_alloc (RowAt.new (W.alloc (.cells #[.pointer (some ⟨gh, 0, none⟩)] 91)) 43 #[.int .i64 o.k, .int .i64 o.g, .int .u64 o.b, .int .i64 o.x.1, .int .u64 o.x.2]) (.cells #[.int .i64 0] 44)
  rw [World.size_alloc] at h; exact h)
 have RE := Hi (show RowAt (((W.alloc (.cells #[.pointer (some ⟨gh, 0, none⟩)] 91)).alloc (.cells #[.int .i64 o.k, .int .i64 o.g, .int .u64 o.b, .int .i64 o.x.1, .int .u64 o.x.2] 43)).alloc (.cells #[.int .i64 0] 44)) (W.heap.size + 1 + 1) 44 #[.int .i64 0] from by
  have h := RowAt.new ((W.alloc (.cells #[.pointer (some ⟨gh, 0, none⟩)] 91)).alloc (.cells #[.int .i64 o.k, .int .i64 o.g, .int .u64 o.b, .int .i64 o.x.1, .int .u64 o.x.2] 43)) 44 #[.int .i64 0]
  rw [World.size_alloc, World.size_alloc] at h; exact h)
 have HS1 := Hi (show (((W.alloc (.cells #[.pointer (some ⟨gh, 0, none⟩)] 91)).alloc (.cells #[.int .i64 o.k, .int .i64 o.g, .int .u64 o.b, .int .i64 o.x.1, .int .u64 o.x.2] 43)).alloc (.cells #[.int .i64 0] 44)).heap.size = W.heap.size + 3 from by simp)
 have HB1 := Hi b1
 have H1 := Hi (H.out.below b1)
 have HWL := Hi H.out.row.lt
 clear b1
 generalize ((W.alloc _).alloc _).alloc _ = w1 at *
 obtain ⟨z0, z1, z2, z3, z4, z5, z6, z7, z8, z9, z10, z11, z12⟩ := row13 H1.out.row
 have zl := H1.out.row.lt
 have p0 := row1 RP.out
 have pl := RP.out.lt
 go_upto_region 2 with (fail)
 have RW := Hi (RowAt.new w1 95 (handC r.e r.l.E A0 As n0 c0 ns cs A n c o0 At nt ct))
 have HB2 := Hi ((Below.refl w1.heap.size w1).alloc (Nat.le_refl _) (.cells (handC r.e r.l.E A0 As n0 c0 ns cs A n c o0 At nt ct) 95))
 obtain ⟨w2, hw2⟩ : ∃ w2, w1.alloc (.cells (handC r.e r.l.E A0 As n0 c0 ns cs A n c o0 At nt ct) 95) = w2 := ⟨_, rfl⟩
 dsimp only [handC] at hw2
 rw [hw2]
 rw [show w1.alloc (.cells (handC r.e r.l.E A0 As n0 c0 ns cs A n c o0 At nt ct) 95) = w2 from hw2] at RW HB2
 have HS2 := Hi (show w2.heap.size = w1.heap.size + 1 from by rw [← hw2]; simp)
 clear hw2 z0 z1 z2 z3 z4 z5 z6 z7 z8 z9 z10 z11 z12 zl p0 pl
 have H2 := Hi (H1.out.below HB2.out)
 have RP2 := Hi (RP.out.below HB2.out)
 have RO2 := Hi (RO.out.below HB2.out)
 have RE2 := Hi (RE.out.below HB2.out)
 obtain ⟨gw, hgw⟩ : ∃ gw, w1.heap.size = gw := ⟨_, rfl⟩
 rw [hgw] at RW HS2 ⊢
 obtain ⟨z0, z1, z2, z3, z4, z5, z6, z7, z8, z9, z10, z11, z12⟩ := row13 H2.out.row
 have zl := H2.out.row.lt
 have zf7 := H2.out.row.frozen 7
 have zf8 := H2.out.row.frozen 8
 have zf9 := H2.out.row.frozen 9
 have zf10 := H2.out.row.frozen 10
 have zf11 := H2.out.row.frozen 11
 have p0 := row1 RP2.out
 have pl := RP2.out.lt
 obtain ⟨y0, y1, y2, y3, y4⟩ := row5 RO2.out
 have yl := RO2.out.lt
 go_upto_region 4 with (fail)
 have hp5 : Past gh w2 (((((w2.setCell ⟨gh, 7, none⟩ (.int .i64 o.k)).setCell ⟨gh, 8, none⟩ (.int .i64 o.g)).setCell ⟨gh, 9, none⟩ (.int .u64 o.b)).setCell ⟨gh, 10, none⟩ (.int .i64 o.x.1)).setCell ⟨gh, 11, none⟩ (.int .u64 o.x.2)) := ((((Past.set 7 (.int .i64 o.k)).trans (Past.set 8 (.int .i64 o.g))).trans (Past.set 9 (.int .u64 o.b))).trans (Past.set 10 (.int .i64 o.x.1))).trans (Past.set 11 (.int .u64 o.x.2))
 have hr5 : RowAt (((((w2.setCell ⟨gh, 7, none⟩ (.int .i64 o.k)).setCell ⟨gh, 8, none⟩ (.int .i64 o.g)).setCell ⟨gh, 9, none⟩ (.int .u64 o.b)).setCell ⟨gh, 10, none⟩ (.int .i64 o.x.1)).setCell ⟨gh, 11, none⟩ (.int .u64 o.x.2)) gh 95 (handC r.e r.l.E A0 As n0 c0 ns cs A n c o At nt ct) := by
  have h := ((((H2.out.row.set 7 (.int .i64 o.k)).set 8 (.int .i64 o.g)).set 9 (.int .u64 o.b)).set 10 (.int .i64 o.x.1)).set 11 (.int .u64 o.x.2)
  simpa using h
 have H5 := Hi (H2.out.past hp5 hr5 H2.out.all)
 have HP5 := Hi hp5
 clear hp5 hr5 z0 z1 z2 z3 z4 z5 z6 z7 z8 z9 z10 z11 z12 zl zf7 zf8 zf9 zf10 zf11 p0 pl y0 y1 y2 y3 y4 yl
 generalize ((((w2.setCell _ _).setCell _ _).setCell _ _).setCell _ _).setCell _ _ = w5 at *
 have HGW := Hi (show gw < w2.heap.size from by rw [HS2.out]; omega)
 have hne : W.heap.size ≠ gh := by have := HWL.out; omega
 have hneo : W.heap.size + 1 ≠ gh := by have := HWL.out; omega
 have hnee : W.heap.size + 1 + 1 ≠ gh := by have := HWL.out; omega
 have hnew : gw ≠ gh := by have := HWL.out; have := HS1.out; have := HB1.out.size; omega
 have RP5 := Hi (RP2.out.past HP5.out hne)
 have RO5 := Hi (RO2.out.past HP5.out hneo)
 have RE5 := Hi (RE2.out.past HP5.out hnee)
 have RW5 := Hi (RW.out.past HP5.out hnew)
 have mk := run_makeMap (P := Tryz.prog) 123 w5
 obtain ⟨pc0, pl0⟩ := rl (row_alloc RP5.out (.map #[] 0))
 obtain ⟨pc1, pl1⟩ := rl (row_alloc RP5.out (.map #[⟨.int .i64 1, .func (.func 76) #[.pointer (some ⟨gh, 0, none⟩)] #[], 0⟩] 1))
 obtain ⟨pc2, pl2⟩ := rl (row_alloc RP5.out (.map #[⟨.int .i64 1, .func (.func 76) #[.pointer (some ⟨gh, 0, none⟩)] #[], 0⟩, ⟨.int .i64 2, .func (.func 77) #[.pointer (some ⟨gh, 0, none⟩)] #[], 1⟩] 2))
 obtain ⟨pc3, pl3⟩ := rl (row_alloc RP5.out (.map #[⟨.int .i64 1, .func (.func 76) #[.pointer (some ⟨gh, 0, none⟩)] #[], 0⟩, ⟨.int .i64 2, .func (.func 77) #[.pointer (some ⟨gh, 0, none⟩)] #[], 1⟩, ⟨.int .i64 3, .func (.func 78) #[.pointer (some ⟨gh, 0, none⟩)] #[], 2⟩] 3))
 obtain ⟨pc4, pl4⟩ := rl (row_alloc RP5.out (.map #[⟨.int .i64 1, .func (.func 76) #[.pointer (some ⟨gh, 0, none⟩)] #[], 0⟩, ⟨.int .i64 2, .func (.func 77) #[.pointer (some ⟨gh, 0, none⟩)] #[], 1⟩, ⟨.int .i64 3, .func (.func 78) #[.pointer (some ⟨gh, 0, none⟩)] #[], 2⟩, ⟨.int .i64 4, .func (.func 79) #[.pointer (some ⟨gh, 0, none⟩)] #[], 3⟩] 4))
 obtain ⟨pc5, pl5⟩ := rl (row_alloc RP5.out (.map #[⟨.int .i64 1, .func (.func 76) #[.pointer (some ⟨gh, 0, none⟩)] #[], 0⟩, ⟨.int .i64 2, .func (.func 77) #[.pointer (some ⟨gh, 0, none⟩)] #[], 1⟩, ⟨.int .i64 3, .func (.func 78) #[.pointer (some ⟨gh, 0, none⟩)] #[], 2⟩, ⟨.int .i64 4, .func (.func 79) #[.pointer (some ⟨gh, 0, none⟩)] #[], 3⟩, ⟨.int .i64 5, .func (.func 80) #[.pointer (some ⟨gh, 0, none⟩)] #[], 4⟩] 5))
 obtain ⟨pc6, pl6⟩ := rl (row_alloc RP5.out (.map #[⟨.int .i64 1, .func (.func 76) #[.pointer (some ⟨gh, 0, none⟩)] #[], 0⟩, ⟨.int .i64 2, .func (.func 77) #[.pointer (some ⟨gh, 0, none⟩)] #[], 1⟩, ⟨.int .i64 3, .func (.func 78) #[.pointer (some ⟨gh, 0, none⟩)] #[], 2⟩, ⟨.int .i64 4, .func (.func 79) #[.pointer (some ⟨gh, 0, none⟩)] #[], 3⟩, ⟨.int .i64 5, .func (.func 80) #[.pointer (some ⟨gh, 0, none⟩)] #[], 4⟩, ⟨.int .i64 6, .func (.func 81) #[.pointer (some ⟨gh, 0, none⟩)] #[], 5⟩] 6))
 obtain ⟨pc7, pl7⟩ := rl (row_alloc RP5.out (.map #[⟨.int .i64 1, .func (.func 76) #[.pointer (some ⟨gh, 0, none⟩)] #[], 0⟩, ⟨.int .i64 2, .func (.func 77) #[.pointer (some ⟨gh, 0, none⟩)] #[], 1⟩, ⟨.int .i64 3, .func (.func 78) #[.pointer (some ⟨gh, 0, none⟩)] #[], 2⟩, ⟨.int .i64 4, .func (.func 79) #[.pointer (some ⟨gh, 0, none⟩)] #[], 3⟩, ⟨.int .i64 5, .func (.func 80) #[.pointer (some ⟨gh, 0, none⟩)] #[], 4⟩, ⟨.int .i64 6, .func (.func 81) #[.pointer (some ⟨gh, 0, none⟩)] #[], 5⟩, ⟨.int .i64 7, .func (.func 82) #[.pointer (some ⟨gh, 0, none⟩)] #[], 6⟩] 7))
 have in0 := in0s w5 gh
 have in1 := in1s w5 gh
 have in2 := in2s w5 gh
 have in3 := in3s w5 gh
 have in4 := in4s w5 gh
 have in5 := in5s w5 gh
 have in6 := in6s w5 gh
 go_upto_region 5 with (fail)
 have lk := run_look (w5.alloc (.map #[⟨.int .i64 1, .func (.func 76) #[.pointer (some ⟨gh, 0, none⟩)] #[], 0⟩, ⟨.int .i64 2, .func (.func 77) #[.pointer (some ⟨gh, 0, none⟩)] #[], 1⟩, ⟨.int .i64 3, .func (.func 78) #[.pointer (some ⟨gh, 0, none⟩)] #[], 2⟩, ⟨.int .i64 4, .func (.func 79) #[.pointer (some ⟨gh, 0, none⟩)] #[], 3⟩, ⟨.int .i64 5, .func (.func 80) #[.pointer (some ⟨gh, 0, none⟩)] #[], 4⟩, ⟨.int .i64 6, .func (.func 81) #[.pointer (some ⟨gh, 0, none⟩)] #[], 5⟩, ⟨.int .i64 7, .func (.func 82) #[.pointer (some ⟨gh, 0, none⟩)] #[], 6⟩] 7)) w5.heap.size #[⟨.int .i64 1, .func (.func 76) #[.pointer (some ⟨gh, 0, none⟩)] #[], 0⟩, ⟨.int .i64 2, .func (.func 77) #[.pointer (some ⟨gh, 0, none⟩)] #[], 1⟩, ⟨.int .i64 3, .func (.func 78) #[.pointer (some ⟨gh, 0, none⟩)] #[], 2⟩, ⟨.int .i64 4, .func (.func 79) #[.pointer (some ⟨gh, 0, none⟩)] #[], 3⟩, ⟨.int .i64 5, .func (.func 80) #[.pointer (some ⟨gh, 0, none⟩)] #[], 4⟩, ⟨.int .i64 6, .func (.func 81) #[.pointer (some ⟨gh, 0, none⟩)] #[], 5⟩, ⟨.int .i64 7, .func (.func 82) #[.pointer (some ⟨gh, 0, none⟩)] #[], 6⟩] 7 o.k _ i (heap_alloc_new w5 _) HKK.out
 have b6 := ba w5 (.map #[⟨.int .i64 1, .func (.func 76) #[.pointer (some ⟨gh, 0, none⟩)] #[], 0⟩, ⟨.int .i64 2, .func (.func 77) #[.pointer (some ⟨gh, 0, none⟩)] #[], 1⟩, ⟨.int .i64 3, .func (.func 78) #[.pointer (some ⟨gh, 0, none⟩)] #[], 2⟩, ⟨.int .i64 4, .func (.func 79) #[.pointer (some ⟨gh, 0, none⟩)] #[], 3⟩, ⟨.int .i64 5, .func (.func 80) #[.pointer (some ⟨gh, 0, none⟩)] #[], 4⟩, ⟨.int .i64 6, .func (.func 81) #[.pointer (some ⟨gh, 0, none⟩)] #[], 5⟩, ⟨.int .i64 7, .func (.func 82) #[.pointer (some ⟨gh, 0, none⟩)] #[], 6⟩] 7)
 have H6 := Hi (H5.out.below b6)
 have HB6 := Hi b6
 have RP6 := Hi (RP5.out.below b6)
 have RO6 := Hi (RO5.out.below b6)
 have RE6 := Hi (RE5.out.below b6)
 have RW6 := Hi (RW5.out.below b6)
 clear pc0 pl0 pc1 pl1 pc2 pl2 pc3 pl3 pc4 pl4 pc5 pl5 pc6 pl6 pc7 pl7 in0 in1 in2 in3 in4 in5 in6 mk b6
 generalize w5.alloc _ = w6 at *
 obtain ⟨y0, y1, y2, y3, y4⟩ := row5 RO6.out
 have yl := RO6.out.lt
 go_upto_region 6 with (fail)
 go_wp2_with fail
 with_reducible refine (eneed_ok 251 w6).mono ?_
 rintro e w7 ⟨rfl, rfl⟩
 go_wp2_with fail
 have HP6 := Hi ((((PastH.of_below (gh := gh) (At := At) HB1.out).trans (PastH.of_below HB2.out)).trans (PastH.of_past HP5.out)).trans (PastH.of_below HB6.out))
 have HAT := Hi (told_lt H.out.own)
 have HNEE := Hi hnee
 have hoff : ∀ k, W.heap.size + k ≠ gh → Off gh At (W.heap.size + k) := fun k hk => ⟨hk, fun q hq => by have := (HAT.out q hq).2; omega⟩
 have HATG := Hi (told_ne H6.out.own H6.out.row)
 refine (HCC.out w6 H6.out).mono ?_
 rintro e w8 (⟨r', t', hr, rfl, hx, hp⟩ | ⟨k, hr, rfl, ⟨cs8, hc8, hs8⟩, hp⟩)
 focus
  have re8 : RowAt w8 (W.heap.size + 1 + 1) 44 #[.int .i64 0] := RE6.out.heap (hp.block _ (hoff 2 hnee) RE6.out.lt)
  have HX := Hi hx
  have HP8 := Hi (HP6.out.trans hp)
  have c2 := row1 re8
  have f2 := re8.frozen 0
  have l2 := re8.lt
  have RE8 := Hi re8
  clear hx hp re8 HCC HKK
  subst hr
  go_wp2_with fail
  refine leaves_cons (f := 75) (args := #[.pointer (some ⟨gw, 0, none⟩), .pointer (some ⟨W.heap.size, 0, none⟩), .pointer (some ⟨W.heap.size + 1 + 1, 0, none⟩)]) (by simp) (by simp [go_sem]) ?_
  refine (ecatch_idle ⟨gw, 0, none⟩ ⟨W.heap.size, 0, none⟩ ⟨W.heap.size + 1 + 1, 0, none⟩ _).mono ?_
  rintro x u' w'' ⟨rfl, rfl, rfl⟩
  have hr2 : RowAt (w8.setCell ⟨W.heap.size + 1 + 1, 0, none⟩ (.int .i64 0)) (W.heap.size + 1 + 1) 44 #[.int .i64 0] := by have h := RE8.out.set 0 (.int .i64 0); simpa using h
  have hpF := HP8.out.up (ge := W.heap.size + 1 + 1) (by omega) (.int .i64 0)
  obtain ⟨a0, a1, a2, a3, a4, a5, a6, a7, a8, a9, a10, a11, H8⟩ := HX.out
  have hxF := H8.box RE8.out (Ne.symm HNEE.out) (by omega) (.int .i64 0)
  generalize w8.setCell _ _ = wF at *
 rotate_left
 focus
  have re8 : RowAt w8 (W.heap.size + 1 + 1) 44 #[.int .i64 0] := RE6.out.past hp hnee
  have RE8 := Hi re8
  have RW8 := Hi (RW6.out.past hp hnew)
  have RP8 := Hi (RP6.out.past hp hne)
  have HC8 := Hi hc8
  have HS8 := Hi hs8
  have HP8 := Hi (HP6.out.trans (PastH.of_past hp))
  have HA8 := Hi (H6.out.all.stay ((PastH.of_past (At := At) hp).stayB base))
  have HO8 := Hi (own_kept H6.out.own (fun g hg' hl => hp.block g (fun e => by
   rw [own_block] at hg'
   cases At with
   | none => cases hg'
   | some q => injection hg' with hg'; exact HATG.out q rfl (hg'.trans e)) hl))
  subst hr
  clear re8 hc8 hs8 hp HCC HKK
  dsimp only
  refine leaves_cons (f := 75) (args := #[.pointer (some ⟨gw, 0, none⟩), .pointer (some ⟨W.heap.size, 0, none⟩), .pointer (some ⟨W.heap.size + 1 + 1, 0, none⟩)]) (by simp) (by simp [go_sem]) ?_
  refine (ecatch_err gw W.heap.size (W.heap.size + 1 + 1) gh k _ _ _ _ _ _ _ _ _ _ _ _ _ (by simp [Value.oneCell']) cs8 w8 RW8.out RP8.out RE8.out HC8.out HS8.out (Ne.symm HNEE.out)).mono ?_
  rintro x u' w'' ⟨rfl, rfl, hca⟩
  have hxF := HandR.caught HA8.out HO8.out H.out.len H.out.lo HATG.out RE8.out (by omega) hca
  have hr2 := hca.err
  have hpF : PastH gh At W w'' := HP8.out.trans2 hca (by omega)
 rotate_left
 all_goals
  simp [Leaves, settle, results, Tryz.results48, go_sem, row1 hr2, hr2.lt]
  exact ⟨rfl, ⟨_, _, _, _, _, _, _, _, _, _, _, _, _, hxF⟩, hpF⟩
set_option maxRecDepth 100000 in
theorem does_bad (base gh : Nat) (A0 As : Option Addr) (n0 c0 ns cs : Nat) (A : Nat → Option Addr) (n c : Nat → Nat) (o0 o : EOp) (At : Option Addr) (nt ct : Nat) (r : Rec) (told : List Ent) (W : World) (h : HandR W base gh A0 As n0 c0 ns cs A n c o0 At nt ct r told)
  (hk : Instr.findNow (.int .i64) (.int .i64 o.k) (kindsE gh).toList 0 = some none) :
  Calls Tryz.prog 48 #[.pointer (some ⟨gh, 0, none⟩), .agg #[.int .i64 o.k, .int .i64 o.g, .int .u64 o.b, .int .i64 o.x.1, .int .u64 o.x.2]] W (EDoesRes gh base At r told (.error 251) W) := by
 have H := Hi h
 have HKK := Hi hk
 clear h hk
 go_enter_defers Tryz.func48, Tryz.ntmps48
 go_upto_region 1 with (fail)
 have b1 : Below W.heap.size W (((W.alloc (.cells #[.pointer (some ⟨gh, 0, none⟩)] 91)).alloc (.cells #[.int .i64 o.k, .int .i64 o.g, .int .u64 o.b, .int .i64 o.x.1, .int .u64 o.x.2] 43)).alloc (.cells #[.int .i64 0] 44)) := (((Below.refl _ _).alloc (Nat.le_refl _) _).alloc (by simp) _).alloc (by simp; omega) _
 have al := al3 W #[.pointer (some ⟨gh, 0, none⟩)] 91 #[.int .i64 o.k, .int .i64 o.g, .int .u64 o.b, .int .i64 o.x.1, .int .u64 o.x.2] 43 #[.int .i64 0] 44
 have RP := Hi al.1.1
 clear al
 have RO := Hi (show RowAt (((W.alloc (.cells #[.pointer (some ⟨gh, 0, none⟩)] 91)).alloc (.cells #[.int .i64 o.k, .int .i64 o.g, .int .u64 o.b, .int .i64 o.x.1, .int .u64 o.x.2] 43)).alloc (.cells #[.int .i64 0] 44)) (W.heap.size + 1) 43 #[.int .i64 o.k, .int .i64 o.g, .int .u64 o.b, .int .i64 o.x.1, .int .u64 o.x.2] from by
  have h := row_alloc (RowAt.new (W.alloc (.cells #[.pointer (some ⟨gh, 0, none⟩)] 91)) 43 #[.int .i64 o.k, .int .i64 o.g, .int .u64 o.b, .int .i64 o.x.1, .int .u64 o.x.2]) (.cells #[.int .i64 0] 44)
  rw [World.size_alloc] at h; exact h)
 have RE := Hi (show RowAt (((W.alloc (.cells #[.pointer (some ⟨gh, 0, none⟩)] 91)).alloc (.cells #[.int .i64 o.k, .int .i64 o.g, .int .u64 o.b, .int .i64 o.x.1, .int .u64 o.x.2] 43)).alloc (.cells #[.int .i64 0] 44)) (W.heap.size + 1 + 1) 44 #[.int .i64 0] from by
  have h := RowAt.new ((W.alloc (.cells #[.pointer (some ⟨gh, 0, none⟩)] 91)).alloc (.cells #[.int .i64 o.k, .int .i64 o.g, .int .u64 o.b, .int .i64 o.x.1, .int .u64 o.x.2] 43)) 44 #[.int .i64 0]
  rw [World.size_alloc, World.size_alloc] at h; exact h)
 have HS1 := Hi (show (((W.alloc (.cells #[.pointer (some ⟨gh, 0, none⟩)] 91)).alloc (.cells #[.int .i64 o.k, .int .i64 o.g, .int .u64 o.b, .int .i64 o.x.1, .int .u64 o.x.2] 43)).alloc (.cells #[.int .i64 0] 44)).heap.size = W.heap.size + 3 from by simp)
 have HB1 := Hi b1
 have H1 := Hi (H.out.below b1)
 have HWL := Hi H.out.row.lt
 clear b1
 generalize ((W.alloc _).alloc _).alloc _ = w1 at *
 obtain ⟨z0, z1, z2, z3, z4, z5, z6, z7, z8, z9, z10, z11, z12⟩ := row13 H1.out.row
 have zl := H1.out.row.lt
 have p0 := row1 RP.out
 have pl := RP.out.lt
 go_upto_region 2 with (fail)
 have RW := Hi (RowAt.new w1 95 (handC r.e r.l.E A0 As n0 c0 ns cs A n c o0 At nt ct))
 have HB2 := Hi ((Below.refl w1.heap.size w1).alloc (Nat.le_refl _) (.cells (handC r.e r.l.E A0 As n0 c0 ns cs A n c o0 At nt ct) 95))
 obtain ⟨w2, hw2⟩ : ∃ w2, w1.alloc (.cells (handC r.e r.l.E A0 As n0 c0 ns cs A n c o0 At nt ct) 95) = w2 := ⟨_, rfl⟩
 dsimp only [handC] at hw2
 rw [hw2]
 rw [show w1.alloc (.cells (handC r.e r.l.E A0 As n0 c0 ns cs A n c o0 At nt ct) 95) = w2 from hw2] at RW HB2
 have HS2 := Hi (show w2.heap.size = w1.heap.size + 1 from by rw [← hw2]; simp)
 clear hw2 z0 z1 z2 z3 z4 z5 z6 z7 z8 z9 z10 z11 z12 zl p0 pl
 have H2 := Hi (H1.out.below HB2.out)
 have RP2 := Hi (RP.out.below HB2.out)
 have RO2 := Hi (RO.out.below HB2.out)
 have RE2 := Hi (RE.out.below HB2.out)
 obtain ⟨gw, hgw⟩ : ∃ gw, w1.heap.size = gw := ⟨_, rfl⟩
 rw [hgw] at RW HS2 ⊢
 obtain ⟨z0, z1, z2, z3, z4, z5, z6, z7, z8, z9, z10, z11, z12⟩ := row13 H2.out.row
 have zl := H2.out.row.lt
 have zf7 := H2.out.row.frozen 7
 have zf8 := H2.out.row.frozen 8
 have zf9 := H2.out.row.frozen 9
 have zf10 := H2.out.row.frozen 10
 have zf11 := H2.out.row.frozen 11
 have p0 := row1 RP2.out
 have pl := RP2.out.lt
 obtain ⟨y0, y1, y2, y3, y4⟩ := row5 RO2.out
 have yl := RO2.out.lt
 go_upto_region 4 with (fail)
 have hp5 : Past gh w2 (((((w2.setCell ⟨gh, 7, none⟩ (.int .i64 o.k)).setCell ⟨gh, 8, none⟩ (.int .i64 o.g)).setCell ⟨gh, 9, none⟩ (.int .u64 o.b)).setCell ⟨gh, 10, none⟩ (.int .i64 o.x.1)).setCell ⟨gh, 11, none⟩ (.int .u64 o.x.2)) := ((((Past.set 7 (.int .i64 o.k)).trans (Past.set 8 (.int .i64 o.g))).trans (Past.set 9 (.int .u64 o.b))).trans (Past.set 10 (.int .i64 o.x.1))).trans (Past.set 11 (.int .u64 o.x.2))
 have hr5 : RowAt (((((w2.setCell ⟨gh, 7, none⟩ (.int .i64 o.k)).setCell ⟨gh, 8, none⟩ (.int .i64 o.g)).setCell ⟨gh, 9, none⟩ (.int .u64 o.b)).setCell ⟨gh, 10, none⟩ (.int .i64 o.x.1)).setCell ⟨gh, 11, none⟩ (.int .u64 o.x.2)) gh 95 (handC r.e r.l.E A0 As n0 c0 ns cs A n c o At nt ct) := by
  have h := ((((H2.out.row.set 7 (.int .i64 o.k)).set 8 (.int .i64 o.g)).set 9 (.int .u64 o.b)).set 10 (.int .i64 o.x.1)).set 11 (.int .u64 o.x.2)
  simpa using h
 have H5 := Hi (H2.out.past hp5 hr5 H2.out.all)
 have HP5 := Hi hp5
 clear hp5 hr5 z0 z1 z2 z3 z4 z5 z6 z7 z8 z9 z10 z11 z12 zl zf7 zf8 zf9 zf10 zf11 p0 pl y0 y1 y2 y3 y4 yl
 generalize ((((w2.setCell _ _).setCell _ _).setCell _ _).setCell _ _).setCell _ _ = w5 at *
 have HGW := Hi (show gw < w2.heap.size from by rw [HS2.out]; omega)
 have hne : W.heap.size ≠ gh := by have := HWL.out; omega
 have hneo : W.heap.size + 1 ≠ gh := by have := HWL.out; omega
 have hnee : W.heap.size + 1 + 1 ≠ gh := by have := HWL.out; omega
 have hnew : gw ≠ gh := by have := HWL.out; have := HS1.out; have := HB1.out.size; omega
 have RP5 := Hi (RP2.out.past HP5.out hne)
 have RO5 := Hi (RO2.out.past HP5.out hneo)
 have RE5 := Hi (RE2.out.past HP5.out hnee)
 have RW5 := Hi (RW.out.past HP5.out hnew)
 have mk := run_makeMap (P := Tryz.prog) 123 w5
 obtain ⟨pc0, pl0⟩ := rl (row_alloc RP5.out (.map #[] 0))
 obtain ⟨pc1, pl1⟩ := rl (row_alloc RP5.out (.map #[⟨.int .i64 1, .func (.func 76) #[.pointer (some ⟨gh, 0, none⟩)] #[], 0⟩] 1))
 obtain ⟨pc2, pl2⟩ := rl (row_alloc RP5.out (.map #[⟨.int .i64 1, .func (.func 76) #[.pointer (some ⟨gh, 0, none⟩)] #[], 0⟩, ⟨.int .i64 2, .func (.func 77) #[.pointer (some ⟨gh, 0, none⟩)] #[], 1⟩] 2))
 obtain ⟨pc3, pl3⟩ := rl (row_alloc RP5.out (.map #[⟨.int .i64 1, .func (.func 76) #[.pointer (some ⟨gh, 0, none⟩)] #[], 0⟩, ⟨.int .i64 2, .func (.func 77) #[.pointer (some ⟨gh, 0, none⟩)] #[], 1⟩, ⟨.int .i64 3, .func (.func 78) #[.pointer (some ⟨gh, 0, none⟩)] #[], 2⟩] 3))
 obtain ⟨pc4, pl4⟩ := rl (row_alloc RP5.out (.map #[⟨.int .i64 1, .func (.func 76) #[.pointer (some ⟨gh, 0, none⟩)] #[], 0⟩, ⟨.int .i64 2, .func (.func 77) #[.pointer (some ⟨gh, 0, none⟩)] #[], 1⟩, ⟨.int .i64 3, .func (.func 78) #[.pointer (some ⟨gh, 0, none⟩)] #[], 2⟩, ⟨.int .i64 4, .func (.func 79) #[.pointer (some ⟨gh, 0, none⟩)] #[], 3⟩] 4))
 obtain ⟨pc5, pl5⟩ := rl (row_alloc RP5.out (.map #[⟨.int .i64 1, .func (.func 76) #[.pointer (some ⟨gh, 0, none⟩)] #[], 0⟩, ⟨.int .i64 2, .func (.func 77) #[.pointer (some ⟨gh, 0, none⟩)] #[], 1⟩, ⟨.int .i64 3, .func (.func 78) #[.pointer (some ⟨gh, 0, none⟩)] #[], 2⟩, ⟨.int .i64 4, .func (.func 79) #[.pointer (some ⟨gh, 0, none⟩)] #[], 3⟩, ⟨.int .i64 5, .func (.func 80) #[.pointer (some ⟨gh, 0, none⟩)] #[], 4⟩] 5))
 obtain ⟨pc6, pl6⟩ := rl (row_alloc RP5.out (.map #[⟨.int .i64 1, .func (.func 76) #[.pointer (some ⟨gh, 0, none⟩)] #[], 0⟩, ⟨.int .i64 2, .func (.func 77) #[.pointer (some ⟨gh, 0, none⟩)] #[], 1⟩, ⟨.int .i64 3, .func (.func 78) #[.pointer (some ⟨gh, 0, none⟩)] #[], 2⟩, ⟨.int .i64 4, .func (.func 79) #[.pointer (some ⟨gh, 0, none⟩)] #[], 3⟩, ⟨.int .i64 5, .func (.func 80) #[.pointer (some ⟨gh, 0, none⟩)] #[], 4⟩, ⟨.int .i64 6, .func (.func 81) #[.pointer (some ⟨gh, 0, none⟩)] #[], 5⟩] 6))
 obtain ⟨pc7, pl7⟩ := rl (row_alloc RP5.out (.map #[⟨.int .i64 1, .func (.func 76) #[.pointer (some ⟨gh, 0, none⟩)] #[], 0⟩, ⟨.int .i64 2, .func (.func 77) #[.pointer (some ⟨gh, 0, none⟩)] #[], 1⟩, ⟨.int .i64 3, .func (.func 78) #[.pointer (some ⟨gh, 0, none⟩)] #[], 2⟩, ⟨.int .i64 4, .func (.func 79) #[.pointer (some ⟨gh, 0, none⟩)] #[], 3⟩, ⟨.int .i64 5, .func (.func 80) #[.pointer (some ⟨gh, 0, none⟩)] #[], 4⟩, ⟨.int .i64 6, .func (.func 81) #[.pointer (some ⟨gh, 0, none⟩)] #[], 5⟩, ⟨.int .i64 7, .func (.func 82) #[.pointer (some ⟨gh, 0, none⟩)] #[], 6⟩] 7))
 have in0 := in0s w5 gh
 have in1 := in1s w5 gh
 have in2 := in2s w5 gh
 have in3 := in3s w5 gh
 have in4 := in4s w5 gh
 have in5 := in5s w5 gh
 have in6 := in6s w5 gh
 go_upto_region 5 with (fail)
 have lk := run_lookn (w5.alloc (.map #[⟨.int .i64 1, .func (.func 76) #[.pointer (some ⟨gh, 0, none⟩)] #[], 0⟩, ⟨.int .i64 2, .func (.func 77) #[.pointer (some ⟨gh, 0, none⟩)] #[], 1⟩, ⟨.int .i64 3, .func (.func 78) #[.pointer (some ⟨gh, 0, none⟩)] #[], 2⟩, ⟨.int .i64 4, .func (.func 79) #[.pointer (some ⟨gh, 0, none⟩)] #[], 3⟩, ⟨.int .i64 5, .func (.func 80) #[.pointer (some ⟨gh, 0, none⟩)] #[], 4⟩, ⟨.int .i64 6, .func (.func 81) #[.pointer (some ⟨gh, 0, none⟩)] #[], 5⟩, ⟨.int .i64 7, .func (.func 82) #[.pointer (some ⟨gh, 0, none⟩)] #[], 6⟩] 7)) w5.heap.size #[⟨.int .i64 1, .func (.func 76) #[.pointer (some ⟨gh, 0, none⟩)] #[], 0⟩, ⟨.int .i64 2, .func (.func 77) #[.pointer (some ⟨gh, 0, none⟩)] #[], 1⟩, ⟨.int .i64 3, .func (.func 78) #[.pointer (some ⟨gh, 0, none⟩)] #[], 2⟩, ⟨.int .i64 4, .func (.func 79) #[.pointer (some ⟨gh, 0, none⟩)] #[], 3⟩, ⟨.int .i64 5, .func (.func 80) #[.pointer (some ⟨gh, 0, none⟩)] #[], 4⟩, ⟨.int .i64 6, .func (.func 81) #[.pointer (some ⟨gh, 0, none⟩)] #[], 5⟩, ⟨.int .i64 7, .func (.func 82) #[.pointer (some ⟨gh, 0, none⟩)] #[], 6⟩] 7 o.k (heap_alloc_new w5 _) HKK.out
 have b6 := ba w5 (.map #[⟨.int .i64 1, .func (.func 76) #[.pointer (some ⟨gh, 0, none⟩)] #[], 0⟩, ⟨.int .i64 2, .func (.func 77) #[.pointer (some ⟨gh, 0, none⟩)] #[], 1⟩, ⟨.int .i64 3, .func (.func 78) #[.pointer (some ⟨gh, 0, none⟩)] #[], 2⟩, ⟨.int .i64 4, .func (.func 79) #[.pointer (some ⟨gh, 0, none⟩)] #[], 3⟩, ⟨.int .i64 5, .func (.func 80) #[.pointer (some ⟨gh, 0, none⟩)] #[], 4⟩, ⟨.int .i64 6, .func (.func 81) #[.pointer (some ⟨gh, 0, none⟩)] #[], 5⟩, ⟨.int .i64 7, .func (.func 82) #[.pointer (some ⟨gh, 0, none⟩)] #[], 6⟩] 7)
 have H6 := Hi (H5.out.below b6)
 have HB6 := Hi b6
 have RP6 := Hi (RP5.out.below b6)
 have RO6 := Hi (RO5.out.below b6)
 have RE6 := Hi (RE5.out.below b6)
 have RW6 := Hi (RW5.out.below b6)
 clear pc0 pl0 pc1 pl1 pc2 pl2 pc3 pl3 pc4 pl4 pc5 pl5 pc6 pl6 pc7 pl7 in0 in1 in2 in3 in4 in5 in6 mk b6
 generalize w5.alloc _ = w6 at *
 obtain ⟨y0, y1, y2, y3, y4⟩ := row5 RO6.out
 have yl := RO6.out.lt
 go_upto_region 6 with (fail)
 go_wp2_with fail
 have HP6 := Hi ((((PastH.of_below (gh := gh) (At := At) HB1.out).trans (PastH.of_below HB2.out)).trans (PastH.of_past HP5.out)).trans (PastH.of_below HB6.out))
 have HNEE := Hi hnee
 have HATG := Hi (told_ne H6.out.own H6.out.row)
 with_reducible refine (eneed_no 251 w6).mono ?_
 rintro e w7 ⟨rfl, rfl⟩
 dsimp only
 refine leaves_cons (f := 75) (args := #[.pointer (some ⟨gw, 0, none⟩), .pointer (some ⟨W.heap.size, 0, none⟩), .pointer (some ⟨W.heap.size + 1 + 1, 0, none⟩)]) (by simp) (by simp [go_sem]) ?_
 refine (ecatch_err gw W.heap.size (W.heap.size + 1 + 1) gh 251 _ _ _ _ _ _ _ _ _ _ _ _ _ (by simp [Value.oneCell']) _ w6 RW6.out RP6.out RE6.out H6.out.row rfl (Ne.symm HNEE.out)).mono ?_
 rintro x u' w'' ⟨rfl, rfl, hca⟩
 have hxF := HandR.caught H6.out.all H6.out.own H.out.len H.out.lo HATG.out RE6.out (by omega) hca
 have hr2 := hca.err
 have hpF : PastH gh At W w'' := HP6.out.trans2 hca (by omega)
 simp [Leaves, settle, results, Tryz.results48, go_sem, row1 hr2, hr2.lt]
 exact ⟨rfl, ⟨_, _, _, _, _, _, _, _, _, _, _, _, _, hxF⟩, hpF⟩
theorem callF {P : Program} {f : FuncId} {fn : Func} (hf : P.funcs[f]? = some fn) (hname : (fn.name == "runtime.NumGoroutine") = false) (hb : fn.body.isNone = false) (args : Array Value) (w : World) : (callFunc f args).run P w = .ok (.enter f args) w := by
 have h1 : (fn.name = "runtime.NumGoroutine") = False := by simpa using hname
 have hb2 : fn.body ≠ none := by intro e; rw [e] at hb; cases hb
 simp [callFunc, hf, h1, hb2]
structure FitO (r : Rec) (o : EOp) : Prop where
 b : 0 ≤ o.b
 x : U64 o.x.2
 tk : (tkL r.sl 1).length ≤ 4096
theorem does_any (base gh : Nat) (A0 As : Option Addr) (n0 c0 ns cs : Nat) (A : Nat → Option Addr) (n c : Nat → Nat) (o0 o : EOp) (At : Option Addr) (nt ct : Nat) (r : Rec) (told : List Ent) (W : World) (h : HandR W base gh A0 As n0 c0 ns cs A n c o0 At nt ct r told) (hf : FitR r) (ho : FitO r o) (ht : (nt : Int) ≤ 1000000) :
  Calls Tryz.prog 48 #[.pointer (some ⟨gh, 0, none⟩), .agg #[.int .i64 o.k, .int .i64 o.g, .int .u64 o.b, .int .i64 o.x.1, .int .u64 o.x.2]] W (EDoesRes gh base At r told (stepR r told o) W) := by
 by_cases hk : 1 ≤ o.k ∧ o.k ≤ 7
 ·
  have hk7 : o.k = 1 ∨ o.k = 2 ∨ o.k = 3 ∨ o.k = 4 ∨ o.k = 5 ∨ o.k = 6 ∨ o.k = 7 := by omega
  rcases hk7 with e | e | e | e | e | e | e
  ·
   rw [show stepR r told o = pinR r told o 1 from by simp [stepR, e]]
   exact does_way 76 0 base gh A0 As n0 c0 ns cs A n c o0 o At nt ct r told W h _ (by rw [e]; rfl) (callF Tryz.func76 (by kernel_rfl) (by kernel_rfl)) (fun w hw => pin_any base gh A0 As n0 c0 ns cs A n c o At nt ct r told w hw hf ho.b _ rfl)
  ·
   rw [show stepR r told o = pinR r told o 2 from by simp [stepR, e]]
   exact does_way 77 1 base gh A0 As n0 c0 ns cs A n c o0 o At nt ct r told W h _ (by rw [e]; rfl) (callF Tryz.func77 (by kernel_rfl) (by kernel_rfl)) (fun w hw => unpin_any base gh A0 As n0 c0 ns cs A n c o At nt ct r told w hw hf ho.b _ rfl)
  ·
   rw [show stepR r told o = takeR r told from by simp [stepR, e]]
   exact does_way 78 2 base gh A0 As n0 c0 ns cs A n c o0 o At nt ct r told W h _ (by rw [e]; rfl) (callF Tryz.func78 (by kernel_rfl) (by kernel_rfl)) (fun w hw => etake_any base gh A0 As n0 c0 ns cs A n c o At nt ct r told w hw hf ht ho.tk _ rfl)
  ·
   rw [show stepR r told o = backR r told o.x from by simp [stepR, e]]
   exact does_way 79 3 base gh A0 As n0 c0 ns cs A n c o0 o At nt ct r told W h _ (by rw [e]; rfl) (callF Tryz.func79 (by kernel_rfl) (by kernel_rfl)) (fun w hw => eback_any base gh A0 As n0 c0 ns cs A n c o At nt ct r told w hw hf ho.x _ rfl)
  ·
   rw [show stepR r told o = retiR r told o.x from by simp [stepR, e]]
   exact does_way 80 4 base gh A0 As n0 c0 ns cs A n c o0 o At nt ct r told W h _ (by rw [e]; rfl) (callF Tryz.func80 (by kernel_rfl) (by kernel_rfl)) (fun w hw => eretire_any base gh A0 As n0 c0 ns cs A n c o At nt ct r told w hw hf ho.x _ rfl)
  ·
   rw [show stepR r told o = freeR r told from by simp [stepR, e]]
   exact does_way 81 5 base gh A0 As n0 c0 ns cs A n c o0 o At nt ct r told W h _ (by rw [e]; rfl) (callF Tryz.func81 (by kernel_rfl) (by kernel_rfl)) (fun w hw => efree_any base gh A0 As n0 c0 ns cs A n c o At nt ct r told w hw hf ht _ rfl)
  ·
   rw [show stepR r told o = goR r told o from by simp [stepR, e]]
   exact does_way 82 6 base gh A0 As n0 c0 ns cs A n c o0 o At nt ct r told W h _ (by rw [e]; rfl) (callF Tryz.func82 (by kernel_rfl) (by kernel_rfl)) (fun w hw => egoes_any base gh A0 As n0 c0 ns cs A n c o At nt ct r told w hw hf ho.b _ rfl)
 ·
  rw [show stepR r told o = .error 251 from by unfold stepR; rw [if_neg (by omega), if_neg (by omega), if_neg (by omega), if_neg (by omega), if_neg (by omega), if_neg (by omega), if_neg (by omega)]]
  refine does_bad base gh A0 As n0 c0 ns cs A n c o0 o At nt ct r told W h ?_
  have h1 : ∀ k : Int, 1 ≤ k → k ≤ 7 → (o.k == k) = false := fun k h1 h2 => by simp; omega
  simp [kindsE, Instr.findNow, Instr.sameNow, h1]
def o00 : EOp := ⟨0, 0, 0, (0, 0)⟩
theorem recC_updn (e : Int) (E : Nat) (A0 As : Option Addr) (n0 c0 ns cs : Nat) (A : Nat → Option Addr) (n c : Nat → Nat) {k : Nat} (hk : k < 3) (A1 : Option Addr) (c1 : Nat) :
  (recC e E A0 As n0 c0 ns cs A n c).setIfInBounds (4 + k) (.slice A1 (n k) c1) = recC e E A0 As n0 c0 ns cs (fun j => if j = k then A1 else A j) n (fun j => if j = k then c1 else c j) := by
 match k, hk with
 | 0, _ => rfl
 | 1, _ => rfl
 | 2, _ => rfl
theorem recC_at (e : Int) (E : Nat) (A0 As : Option Addr) (n0 c0 ns cs : Nat) (A : Nat → Option Addr) (n c : Nat → Nat) {k : Nat} (hk : k < 3) : (recC e E A0 As n0 c0 ns cs A n c)[4 + k]? = some (.slice (A k) (n k) (c k)) := by
 match k, hk with
 | 0, _ => rfl
 | 1, _ => rfl
 | 2, _ => rfl
theorem row7 {w : World} {g : Nat} {t : TypeId} {v0 v1 v2 v3 v4 v5 v6 : Value} (h : RowAt w g t #[v0, v1, v2, v3, v4, v5, v6]) : w.cell? ⟨g, 0, none⟩ = some v0 ∧ w.cell? ⟨g, 1, none⟩ = some v1 ∧ w.cell? ⟨g, 2, none⟩ = some v2 ∧ w.cell? ⟨g, 3, none⟩ = some v3 ∧ w.cell? ⟨g, 4, none⟩ = some v4 ∧ w.cell? ⟨g, 5, none⟩ = some v5 ∧ w.cell? ⟨g, 6, none⟩ = some v6 := by
 refine ⟨?_, ?_, ?_, ?_, ?_, ?_, ?_⟩
 · have := h.cell 0; simpa using this
 · have := h.cell 1; simpa using this
 · have := h.cell 2; simpa using this
 · have := h.cell 3; simpa using this
 · have := h.cell 4; simpa using this
 · have := h.cell 5; simpa using this
 · have := h.cell 6; simpa using this
theorem RdF.typ {w : World} {base g : Nat} {e t : TypeId} {sz n c : Nat} {A : Option Addr} {xs : List Value} {C : Array Value} (h : w.ownsRow base e sz (.slice A n c) n xs) (hg : RowAt w g t C) (hne : e ≠ t) : RdF (fun j => base ≤ j ∧ j ≠ g) w sz A n xs :=
 RdF.of (Rd.of_own h) (fun hn q hq => ⟨(own_typ (g := q.block) h (by rw [hq]; rfl)).1, fun hj => by
  obtain ⟨_, cs, h2⟩ := own_typ (g := q.block) h (by rw [hq]; rfl)
  rw [hj] at h2
  exact hne (row_typ h2 hg)⟩) (fun _ _ q hq => by
  obtain ⟨_, cs, h2⟩ := own_typ (g := q.block) h (by rw [hq]; rfl)
  exact ⟨_, _, h2⟩)
theorem own_lo {w : World} {base b : Nat} {e : TypeId} {sz n : Nat} {v : Value} {xs : List Value} (h : w.ownsRow base e sz v n xs) (hb : b ≤ base) : w.ownsRow b e sz v n xs :=
 ⟨h.1, h.2.imp id (fun ⟨g, cap, cur, hv, hg, r⟩ => ⟨g, cap, cur, hv, Nat.le_trans hb hg, r⟩)⟩
structure OwnS (W w : World) (gx k : Nat) (A0' As' : Option Addr) (n0 c0' ns cs' : Nat) (A : Nat → Option Addr) (n c : Nat → Nat) (r : Rec) : Prop where
 row : RowAt w gx 34 (recC r.e r.l.E A0' As' n0 c0' ns cs' A n c)
 lo : W.heap.size < gx
 sl : RdF (fun j => W.heap.size ≤ j ∧ j ≠ gx) w 2 A0' n0 (Cs encE r.sl)
 h0 : n0 ≤ c0'
 S : RdF (fun j => W.heap.size ≤ j ∧ j ≠ gx) w 1 As' ns (Cs encW r.S)
 hs : ns ≤ cs' ∧ cs' ≤ MaxLen
 rw : ∀ j, j < k → j < 3 → RdF (fun i => W.heap.size ≤ i ∧ i ≠ gx) w 2 (A j) (n j) (Cs encE (r.l.r j)) ∧ n j ≤ c j ∧ c j ≤ MaxLen
 below : Below W.heap.size W w
theorem OwnS.next {W w w1 : World} {gx k : Nat} {A0' As' : Option Addr} {n0 c0' ns cs' : Nat} {A : Nat → Option Addr} {n c : Nat → Nat} {r : Rec} (h : OwnS W w gx k A0' As' n0 c0' ns cs' A n c r) (hk : k < 3) (hb : Below w.heap.size w w1) (A1 : Option Addr) (c1 : Nat) (hown : w1.ownsRow w.heap.size 41 2 (.slice A1 (n k) c1) (n k) (Cs encE (r.l.r k))) (hc : n k ≤ c1 ∧ c1 ≤ MaxLen) :
  OwnS W (w1.setCell ⟨gx, 4 + k, none⟩ (.slice A1 (n k) c1)) gx (k + 1) A0' As' n0 c0' ns cs' (fun j => if j = k then A1 else A j) n (fun j => if j = k then c1 else c j) r := by
 have hst : StayF (fun j => W.heap.size ≤ j ∧ j ≠ gx) w (w1.setCell ⟨gx, 4 + k, none⟩ (.slice A1 (n k) c1)) := (StayF.of_below hb).trans (StayF.set (fun h => h.2 rfl))
 refine ⟨?_, h.lo, h.sl.stay hst, h.h0, h.S.stay hst, h.hs, fun j hj h3 => ?_, (h.below.trans (hb.mono h.below.size)).setCell (p := ⟨gx, 4 + k, none⟩) (by have := h.lo; simp; omega) _⟩
 ·
  have h1 := (h.row.below hb).set (4 + k) (.slice A1 (n k) c1)
  rw [recC_updn _ _ _ _ _ _ _ _ _ _ _ hk] at h1
  exact h1
 ·
  by_cases e : j = k
  ·
   subst e
   simp only [if_true]
   exact ⟨((RdF.typ hown (h.row.below hb) (by decide)).up (fun j hj _ => ⟨Nat.le_trans h.below.size hj.1, hj.2⟩)).stay (StayF.set (fun h => h.2 rfl)), hc⟩
  ·
   simp only [if_neg e]
   have h1 := h.rw j (by omega) h3
   exact ⟨h1.1.stay hst, h1.2⟩
def OwnRes (r : Rec) (W : World) (e : Ending) (W' : World) : Prop := (∃ gh, e = .returned (.pointer (some ⟨gh, 0, none⟩)) ∧ ∃ A0 As n0 c0 ns cs A n c, HandR W' W.heap.size gh A0 As n0 c0 ns cs A n c o00 none 0 0 r []) ∧ Below W.heap.size W W'
set_option maxRecDepth 20000 in
theorem own_any (F : Nat → Prop) (A0 As : Option Addr) (n0 c0 ns cs : Nat) (A : Nat → Option Addr) (n c : Nat → Nat) (r : Rec) (W : World) (h : RecF F W A0 As n0 c0 ns cs A n c r) (hf : FitR r) :
  Calls Tryz.prog 47 #[.agg (recC r.e r.l.E A0 As n0 c0 ns cs A n c)] W (OwnRes r W) := by
 have hb1 := ba W (.cells #[.slice A0 n0 c0, .int .u64 r.e, .slice As ns cs, .int .u64 (r.l.E : Int), .slice (A 0) (n 0) (c 0), .slice (A 1) (n 1) (c 1), .slice (A 2) (n 2) (c 2)] 34)
 have R1 := Hi (RowAt.new W 34 #[.slice A0 n0 c0, .int .u64 r.e, .slice As ns cs, .int .u64 (r.l.E : Int), .slice (A 0) (n 0) (c 0), .slice (A 1) (n 1) (c 1), .slice (A 2) (n 2) (c 2)])
 have HB1 := Hi hb1
 have H := Hi (h.below hb1)
 have HF := Hi hf
 have HS1 := Hi (show (W.alloc (.cells #[.slice A0 n0 c0, .int .u64 r.e, .slice As ns cs, .int .u64 (r.l.E : Int), .slice (A 0) (n 0) (c 0), .slice (A 1) (n 1) (c 1), .slice (A 2) (n 2) (c 2)] 34)).heap.size = W.heap.size + 1 from by simp)
 clear hb1 h hf
 go_enter Tryz.func47, Tryz.ntmps47
 go_upto_region 1 with (fail)
 generalize W.alloc _ = w1 at *
 go_cut [3] from 6 to 21 (fun s3 wx => ∃ gx A0' As' c0' cs', s3 = .pointer (some ⟨gx, 0, none⟩) ∧ Below w1.heap.size w1 wx ∧ OwnS W wx gx 0 A0' As' n0 c0' ns cs' A n c r)
 case first =>
  have HSX := Hi (fun (wX : World) (hgX : Below w1.heap.size w1 wX) => show wX.cell? ⟨W.heap.size, 0, none⟩ = some (.slice A0 n0 c0) ∧ wX.cell? ⟨W.heap.size, 1, none⟩ = some (.int .u64 r.e) ∧ wX.cell? ⟨W.heap.size, 2, none⟩ = some (.slice As ns cs) ∧ wX.cell? ⟨W.heap.size, 3, none⟩ = some (.int .u64 (r.l.E : Int)) ∧ wX.cell? ⟨W.heap.size, 4, none⟩ = some (.slice (A 0) (n 0) (c 0)) ∧ wX.cell? ⟨W.heap.size, 5, none⟩ = some (.slice (A 1) (n 1) (c 1)) ∧ wX.cell? ⟨W.heap.size, 6, none⟩ = some (.slice (A 2) (n 2) (c 2)) ∧ W.heap.size < wX.heap.size from by
   obtain ⟨z0, z1, z2, z3, z4, z5, z6⟩ := row7 R1.out
   exact ⟨kept hgX z0, kept hgX z1, kept hgX z2, kept hgX z3, kept hgX z4, kept hgX z5, kept hgX z6, Nat.lt_of_lt_of_le R1.out.lt hgX.size⟩)
  have HX := Hi ((Below.refl w1.heap.size w1).drew)
  refine wp_region_held_drew (S := fun wX => wX.cell? ⟨W.heap.size, 0, none⟩ = some (.slice A0 n0 c0) ∧ wX.cell? ⟨W.heap.size, 1, none⟩ = some (.int .u64 r.e) ∧ wX.cell? ⟨W.heap.size, 2, none⟩ = some (.slice As ns cs) ∧ wX.cell? ⟨W.heap.size, 3, none⟩ = some (.int .u64 (r.l.E : Int)) ∧ wX.cell? ⟨W.heap.size, 4, none⟩ = some (.slice (A 0) (n 0) (c 0)) ∧ wX.cell? ⟨W.heap.size, 5, none⟩ = some (.slice (A 1) (n 1) (c 1)) ∧ wX.cell? ⟨W.heap.size, 6, none⟩ = some (.slice (A 2) (n 2) (c 2)) ∧ W.heap.size < wX.heap.size) (by kernel_rfl) (HSX.out _ HX.out) (fun hHeld => ?_)
  clear hHeld
  have hS0 := HSX.out _ HX.out
  generalize w1.drew = wd at *
  refine tkI (i := 0) rfl ?_
  refine tkI (i := 1) rfl ?_
  refine tkI (i := 2) rfl ?_
  refine tkI (i := 5) rfl ?_
  refine tkI (i := 6) rfl ?_
  refine tkI (i := 7) rfl ?_
  refine tkI (i := 8) rfl ?_
  refine tkI (i := 9) rfl ?_
  refine tkI (i := 10) rfl ?_
  refine tkI (i := 13) rfl ?_
  refine tkI (i := 14) rfl ?_
  refine wpAnyH_ready (rs := [3, 16]) (by kernel_rfl) (by simp) ?_
  refine (AllReadyH.cons rfl (fun K0 hK0 => ?_) (AllReadyH.cons rfl (fun K1 hK1 => ?_) AllReadyH.nil))
  focus
   go_simp
   with_reducible refine (CloneS wd.heap.size A0 n0 c0 (Cs encE r.sl) wd (H.out.sl.rd.below HX.out |>.more HX.out.size) (Nat.le_refl _) (Cs_one_cell encE_one _) (by rw [← H.out.l0]; exact HF.out.sl)).mono ?_
   rintro e wc0 ⟨v, rfl, hown, hb⟩
   obtain ⟨A0', c0', rfl, hca1, hca2⟩ := own_form2 hown
   have HC1 := Hi hca1
   have O1 := Hi (own_lo (b := W.heap.size) hown (Nat.le_trans HB1.out.size HX.out.size))
   have hX2 := HX.out.trans (hb.mono HX.out.size)
   replace HX := Hi hX2
   clear hX2 hS0 hown hb hca1 hca2
   have hS0 := HSX.out _ HX.out
   refine hK0.out _ _ hS0 (fun _ => wnH ?_)
   clear hK0 K0
   refine tkI (i := 4) rfl ?_
   refine wpAnyH_ready (rs := [11, 16]) (by kernel_rfl) (by simp) ?_
   refine (AllReadyH.cons rfl (fun K2 hK2 => ?_) (AllReadyH.cons rfl (fun K3 hK3 => ?_) AllReadyH.nil))
   focus
    go_simp
    with_reducible refine (Pn.CloneW wc0.heap.size As ns cs (Cs encW r.S) wc0 (H.out.S.rd.below HX.out |>.more HX.out.size) (Nat.le_refl _) (Cs_one_cell encW_one _) (by rw [← H.out.ls]; exact HF.out.S)).mono ?_
    rintro e wc1 ⟨v, rfl, hown, hb⟩
    obtain ⟨As', cs', rfl, hca1, hca2⟩ := own_form2 hown
    have HC2 := Hi (And.intro hca1 hca2)
    replace O1 := Hi (own_keepB O1.out hb)
    have O2 := Hi (own_lo (b := W.heap.size) hown (Nat.le_trans HB1.out.size HX.out.size))
    have hX2 := HX.out.trans (hb.mono HX.out.size)
    replace HX := Hi hX2
    clear hX2 hS0 hown hb hca1 hca2
    have hS0 := HSX.out _ HX.out
    refine hK2.out _ _ hS0 (fun _ => wnH ?_)
    clear hK2 K2
    refine tkI (i := 12) rfl ?_
    refine tkI (i := 15) rfl ?_
    refine ryH (i := 16) rfl (fun K4 hK4 => ?_)
    go_simp
    have RXX := Hi (RowAt.new wc1 34 #[.slice none 0 0, .int .u64 0, .slice none 0 0, .int .u64 0, .slice none 0 0, .slice none 0 0, .slice none 0 0])
    have HG := Hi ((Below.refl wc1.heap.size wc1).alloc (Nat.le_refl _) (.cells #[.slice none 0 0, .int .u64 0, .slice none 0 0, .int .u64 0, .slice none 0 0, .slice none 0 0, .slice none 0 0] 34))
    obtain ⟨gx, hgx⟩ : ∃ gx, wc1.heap.size = gx := ⟨_, rfl⟩
    have HGX := Hi (show w1.heap.size ≤ gx from by rw [← hgx]; exact HX.out.size)
    rw [hgx] at RXX ⊢
    have hX2 := HX.out.trans (HG.out.mono HX.out.size)
    replace HX := Hi hX2
    clear hX2 hS0
    replace O1 := Hi (own_keepB O1.out HG.out)
    replace O2 := Hi (own_keepB O2.out HG.out)
    generalize wc1.alloc _ = wa2 at *
    clear HG hgx
    have hS0 := HSX.out _ HX.out
    refine hK4.out _ _ hS0 (fun _ => wnH ?_)
    clear hK4 K4
    obtain ⟨zq1, hzq⟩ : ∃ w, w = wa2 := ⟨_, rfl⟩
    subst hzq
   rotate_left
   focus
    go_simp
    have RXX := Hi (RowAt.new wc0 34 #[.slice none 0 0, .int .u64 0, .slice none 0 0, .int .u64 0, .slice none 0 0, .slice none 0 0, .slice none 0 0])
    have HG := Hi ((Below.refl wc0.heap.size wc0).alloc (Nat.le_refl _) (.cells #[.slice none 0 0, .int .u64 0, .slice none 0 0, .int .u64 0, .slice none 0 0, .slice none 0 0, .slice none 0 0] 34))
    obtain ⟨gx, hgx⟩ : ∃ gx, wc0.heap.size = gx := ⟨_, rfl⟩
    have HGX := Hi (show w1.heap.size ≤ gx from by rw [← hgx]; exact HX.out.size)
    rw [hgx] at RXX ⊢
    have hX2 := HX.out.trans (HG.out.mono HX.out.size)
    replace HX := Hi hX2
    clear hX2 hS0
    replace O1 := Hi (own_keepB O1.out HG.out)
    generalize wc0.alloc _ = wa1 at *
    clear HG hgx
    have hS0 := HSX.out _ HX.out
    refine hK3.out _ _ hS0 (fun _ => wnH ?_)
    clear hK3 K3
    refine ryH (i := 11) rfl (fun K6 hK6 => ?_)
    go_simp
    with_reducible refine (Pn.CloneW wa1.heap.size As ns cs (Cs encW r.S) wa1 (H.out.S.rd.below HX.out |>.more HX.out.size) (Nat.le_refl _) (Cs_one_cell encW_one _) (by rw [← H.out.ls]; exact HF.out.S)).mono ?_
    rintro e wc2 ⟨v, rfl, hown, hb⟩
    obtain ⟨As', cs', rfl, hca1, hca2⟩ := own_form2 hown
    have HC2 := Hi (And.intro hca1 hca2)
    replace O1 := Hi (own_keepB O1.out hb)
    replace RXX := Hi (RXX.out.below hb)
    have O2 := Hi (own_lo (b := W.heap.size) hown (Nat.le_trans HB1.out.size HX.out.size))
    have hX2 := HX.out.trans (hb.mono HX.out.size)
    replace HX := Hi hX2
    clear hX2 hS0 hown hb hca1 hca2
    have hS0 := HSX.out _ HX.out
    refine hK6.out _ _ hS0 (fun _ => wnH ?_)
    clear hK6 K6
    refine tkI (i := 12) rfl ?_
    refine tkI (i := 15) rfl ?_
    obtain ⟨zq1, hzq⟩ : ∃ w, w = wc2 := ⟨_, rfl⟩
    subst hzq
   rotate_left
  rotate_left 2
  focus
   go_simp
   have RXX := Hi (RowAt.new wd 34 #[.slice none 0 0, .int .u64 0, .slice none 0 0, .int .u64 0, .slice none 0 0, .slice none 0 0, .slice none 0 0])
   have HG := Hi ((Below.refl wd.heap.size wd).alloc (Nat.le_refl _) (.cells #[.slice none 0 0, .int .u64 0, .slice none 0 0, .int .u64 0, .slice none 0 0, .slice none 0 0, .slice none 0 0] 34))
   obtain ⟨gx, hgx⟩ : ∃ gx, wd.heap.size = gx := ⟨_, rfl⟩
   have HGX := Hi (show w1.heap.size ≤ gx from by rw [← hgx]; exact HX.out.size)
   rw [hgx] at RXX ⊢
   have hX2 := HX.out.trans (HG.out.mono HX.out.size)
   replace HX := Hi hX2
   clear hX2 hS0
   generalize wd.alloc _ = wa0 at *
   clear HG hgx
   have hS0 := HSX.out _ HX.out
   refine hK1.out _ _ hS0 (fun _ => wnH ?_)
   clear hK1 K1
   refine ryH (i := 3) rfl (fun K8 hK8 => ?_)
   go_simp
   with_reducible refine (CloneS wa0.heap.size A0 n0 c0 (Cs encE r.sl) wa0 (H.out.sl.rd.below HX.out |>.more HX.out.size) (Nat.le_refl _) (Cs_one_cell encE_one _) (by rw [← H.out.l0]; exact HF.out.sl)).mono ?_
   rintro e wc1 ⟨v, rfl, hown, hb⟩
   obtain ⟨A0', c0', rfl, hca1, hca2⟩ := own_form2 hown
   have HC1 := Hi hca1
   replace RXX := Hi (RXX.out.below hb)
   have O1 := Hi (own_lo (b := W.heap.size) hown (Nat.le_trans HB1.out.size HX.out.size))
   have hX2 := HX.out.trans (hb.mono HX.out.size)
   replace HX := Hi hX2
   clear hX2 hS0 hown hb hca1 hca2
   have hS0 := HSX.out _ HX.out
   refine hK8.out _ _ hS0 (fun _ => wnH ?_)
   clear hK8 K8
   refine tkI (i := 4) rfl ?_
   refine ryH (i := 11) rfl (fun K9 hK9 => ?_)
   go_simp
   with_reducible refine (Pn.CloneW wc1.heap.size As ns cs (Cs encW r.S) wc1 (H.out.S.rd.below HX.out |>.more HX.out.size) (Nat.le_refl _) (Cs_one_cell encW_one _) (by rw [← H.out.ls]; exact HF.out.S)).mono ?_
   rintro e wc2 ⟨v, rfl, hown, hb⟩
   obtain ⟨As', cs', rfl, hca1, hca2⟩ := own_form2 hown
   have HC2 := Hi (And.intro hca1 hca2)
   replace O1 := Hi (own_keepB O1.out hb)
   replace RXX := Hi (RXX.out.below hb)
   have O2 := Hi (own_lo (b := W.heap.size) hown (Nat.le_trans HB1.out.size HX.out.size))
   have hX2 := HX.out.trans (hb.mono HX.out.size)
   replace HX := Hi hX2
   clear hX2 hS0 hown hb hca1 hca2
   have hS0 := HSX.out _ HX.out
   refine hK9.out _ _ hS0 (fun _ => wnH ?_)
   clear hK9 K9
   refine tkI (i := 12) rfl ?_
   refine tkI (i := 15) rfl ?_
   obtain ⟨zq1, hzq⟩ : ∃ w, w = wc2 := ⟨_, rfl⟩
   subst hzq
  rotate_left
  all_goals
   refine ryH (i := 17) rfl (fun K5 hK5 => ?_)
   have RX := RXX.out
   obtain ⟨y0, y1, y2, y3, y4, y5, y6⟩ := row7 RX
   have yl := RX.lt
   obtain ⟨yf0, yf1, yf2, yf3, yf4, yf5, yf6⟩ := fz RX
   clear hS0
   go_simp
   have hst : StayF (fun j => W.heap.size ≤ j ∧ j ≠ gx) zq1 (((((((zq1.setCell ⟨gx, 0, none⟩ (.slice A0' n0 c0')).setCell ⟨gx, 1, none⟩ (.int .u64 r.e)).setCell ⟨gx, 2, none⟩ (.slice As' ns cs')).setCell ⟨gx, 3, none⟩ (.int .u64 (r.l.E : Int))).setCell ⟨gx, 4, none⟩ (.slice (A 0) (n 0) (c 0))).setCell ⟨gx, 5, none⟩ (.slice (A 1) (n 1) (c 1))).setCell ⟨gx, 6, none⟩ (.slice (A 2) (n 2) (c 2))) := ((((((((StayF.refl _ _).trans (StayF.set (fun h => h.2 rfl))).trans (StayF.set (fun h => h.2 rfl))).trans (StayF.set (fun h => h.2 rfl))).trans (StayF.set (fun h => h.2 rfl))).trans (StayF.set (fun h => h.2 rfl))).trans (StayF.set (fun h => h.2 rfl))).trans (StayF.set (fun h => h.2 rfl)))
   have hb9 : Below w1.heap.size w1 (((((((zq1.setCell ⟨gx, 0, none⟩ (.slice A0' n0 c0')).setCell ⟨gx, 1, none⟩ (.int .u64 r.e)).setCell ⟨gx, 2, none⟩ (.slice As' ns cs')).setCell ⟨gx, 3, none⟩ (.int .u64 (r.l.E : Int))).setCell ⟨gx, 4, none⟩ (.slice (A 0) (n 0) (c 0))).setCell ⟨gx, 5, none⟩ (.slice (A 1) (n 1) (c 1))).setCell ⟨gx, 6, none⟩ (.slice (A 2) (n 2) (c 2))) := (((((((HX.out.setCell (p := ⟨gx, 0, none⟩) (by have := HGX.out; simp; omega) _).setCell (p := ⟨gx, 1, none⟩) (by have := HGX.out; simp; omega) _).setCell (p := ⟨gx, 2, none⟩) (by have := HGX.out; simp; omega) _).setCell (p := ⟨gx, 3, none⟩) (by have := HGX.out; simp; omega) _).setCell (p := ⟨gx, 4, none⟩) (by have := HGX.out; simp; omega) _).setCell (p := ⟨gx, 5, none⟩) (by have := HGX.out; simp; omega) _).setCell (p := ⟨gx, 6, none⟩) (by have := HGX.out; simp; omega) _)
   have HO := Hi (show OwnS W (((((((zq1.setCell ⟨gx, 0, none⟩ (.slice A0' n0 c0')).setCell ⟨gx, 1, none⟩ (.int .u64 r.e)).setCell ⟨gx, 2, none⟩ (.slice As' ns cs')).setCell ⟨gx, 3, none⟩ (.int .u64 (r.l.E : Int))).setCell ⟨gx, 4, none⟩ (.slice (A 0) (n 0) (c 0))).setCell ⟨gx, 5, none⟩ (.slice (A 1) (n 1) (c 1))).setCell ⟨gx, 6, none⟩ (.slice (A 2) (n 2) (c 2))) gx 0 A0' As' n0 c0' ns cs' A n c r from ⟨by have h := (((((((RX.set 0 (.slice A0' n0 c0')).set 1 (.int .u64 r.e)).set 2 (.slice As' ns cs')).set 3 (.int .u64 (r.l.E : Int))).set 4 (.slice (A 0) (n 0) (c 0))).set 5 (.slice (A 1) (n 1) (c 1))).set 6 (.slice (A 2) (n 2) (c 2))); simpa using h, by have := HGX.out; have := HS1.out; omega, (RdF.typ O1.out RX (by decide)).stay hst, HC1.out, (RdF.typ O2.out RX (by decide)).stay hst, HC2.out, fun j hj => absurd hj (by omega), HB1.out.trans (hb9.mono (by have := HS1.out; omega))⟩)
   have HB9 := Hi hb9
   clear hb9 hst RX y0 y1 y2 y3 y4 y5 y6 yf0 yf1 yf2 yf3 yf4 yf5 yf6 yl
   generalize World.setCell _ _ _ = w9 at *
   refine hK5.out _ _ (HSX.out _ HB9.out) (fun _ => wnH ?_)
   clear hK5 K5
   refine wpAnyH_done (by kernel_rfl) ?_ _
   go_wp2_with fail
   go_meet
   case rel => exact ⟨gx, A0', As', c0', cs', rfl, HB9.out, HO.out⟩
 case rest =>
  rename_i K hK
  refine hK _ _ ?_
  clear hK K
  obtain ⟨w2, hw2⟩ : ∃ w, w = wc := ⟨_, rfl⟩
  subst hw2
  obtain ⟨gx, A0', As', c0', cs', rfl, hbx, hst⟩ := hcut
  have HBX := Hi hbx
  have HST0 := Hi hst
  have HGB := Hi (show w1.heap.size ≤ gx from by have := hst.lo; have := HS1.out; omega)
  have R2 := Hi (R1.out.below hbx)
  have H2 := Hi (H.out.below hbx)
  clear hbx hst
  obtain ⟨z0, z1, z2, z3, z4, z5, z6⟩ := row7 R2.out
  have zl := R2.out.lt
  go_upto_region 3 with (fail)
  clear z0 z1 z2 z3 z4 z5 z6 zl
  go_loopw [25] (fun i wr => ∃ (k : Nat), k ≤ 3 ∧ i = .int .i64 (k : Int) ∧ Below w1.heap.size w1 wr ∧ ∃ A1 c1, OwnS W wr gx k A0' As' n0 c0' ns cs' A1 n c1 r) (fun i _ => 3 - (intOf i).toNat)
  case atStart => exact ⟨0, by omega, rfl, HBX.out, A, c, HST0.out⟩
  case round =>
   obtain ⟨k, hk, rfl, hbw, A1, c1, hst⟩ := hrel
   have HST := Hi hst
   have HBW := Hi hbw
   clear hst hbw
   by_cases hlt : k < 3
   ·
    have hki : (k : Int) < 3 := by omega
    have hix := Li.index_rows A n c k hlt
    have HCL := Hi (CloneE wr.heap.size (A k) (n k) (c k) (Cs encE (r.l.r k)) wr (((H.out.rw k hlt).rd.below HBW.out).more HBW.out.size) (Nat.le_refl _) (Cs_one_cell encE_one _) (by rw [← H.out.ll k hlt]; exact HF.out.rw k hlt))
    go_wp2_with fail
    with_reducible refine HCL.out.mono ?_
    rintro e w3 ⟨v, rfl, hown, hb⟩
    obtain ⟨A3, c3, rfl, hc3, hcm3⟩ := own_form2 hown
    have HN := Hi (HST.out.next hlt hb A3 c3 hown ⟨hc3, hcm3⟩)
    have HBN := Hi ((HBW.out.trans (hb.mono HBW.out.size)).setCell (p := ⟨gx, 4 + k, none⟩) (HGB.out) (.slice A3 (n k) c3))
    have hc0 : w3.cell? ⟨gx, 4 + k, none⟩ = some (.slice (A1 k) (n k) (c1 k)) := ((HST.out.row.below hb).cell (4 + k)).trans (recC_at _ _ _ _ _ _ _ _ _ _ _ hlt)
    have hcl := (HST.out.row.below hb).lt
    have hcf := (HST.out.row.below hb).frozen (4 + k)
    clear hown hb HCL hix
    go_wp2_with fail
    go_roundw
    case rel => exact ⟨k + 1, by omega, by go_num, HBN.out, _, _, HN.out⟩
    case measure => simp [intOf]; omega
   ·
    obtain rfl : k = 3 := by omega
    obtain ⟨z0, z1, z2, z3, z4, z5, z6⟩ := row7 HST.out.row
    have zl := HST.out.row.lt
    go_wp2_with fail
    have HR9 := Hi (RowAt.new wr 95 (handC r.e r.l.E A0' As' n0 c0' ns cs' A1 n c1 o00 none 0 0))
    have HB9 := Hi ((Below.refl wr.heap.size wr).alloc (Nat.le_refl _) (.cells (handC r.e r.l.E A0' As' n0 c0' ns cs' A1 n c1 o00 none 0 0) 95))
    obtain ⟨w9, hw9⟩ : ∃ w9, wr.alloc (.cells (handC r.e r.l.E A0' As' n0 c0' ns cs' A1 n c1 o00 none 0 0) 95) = w9 := ⟨_, rfl⟩
    dsimp only [handC, o00] at hw9
    rw [hw9]
    rw [show wr.alloc (.cells (handC r.e r.l.E A0' As' n0 c0' ns cs' A1 n c1 o00 none 0 0) 95) = w9 from hw9] at HR9 HB9
    clear z0 z1 z2 z3 z4 z5 z6 zl hw9
    go_ret
    refine ⟨⟨_, rfl, A0', As', n0, c0', ns, cs', A1, n, c1, HR9.out, ?_, ?_, rfl, HST.out.below.size⟩, HST.out.below.trans (HB9.out.mono HST.out.below.size)⟩
    ·
     have hst : StayF (fun j => W.heap.size ≤ j ∧ j ≠ gx) wr w9 := StayF.of_below HB9.out
     have up : ∀ j, (W.heap.size ≤ j ∧ j ≠ gx) → j < wr.heap.size → OffB W.heap.size wr.heap.size none j := fun j hj hl => ⟨hj.1, by omega, fun q hq => by cases hq⟩
     refine ⟨(HST.out.sl.up up).stay (StayF.of_below HB9.out), H.out.l0, HST.out.h0, (HST.out.S.up up).stay (StayF.of_below HB9.out), H.out.ls, HST.out.hs, fun j hj => ((HST.out.rw j hj hj).1.up up).stay (StayF.of_below HB9.out), H.out.ll, fun j hj => (HST.out.rw j hj hj).2⟩
    · exact World.ownsRow_nil _ _ _ _
end Go.Proofs.YtkicidopjihjmaaGreat
namespace Go.Proofs.YtkicidopjihjmaaGreat
def setAll (t : Int) (d : Int) (xs l : List (Int × Int)) : List (Int × Int) := l.foldl (fun ys e => ys.set e.1.toNat (t, e.2 + d)) xs
structure Fit (xs : List (Int × Int)) (tag : Int) (l : List (Int × Int)) : Prop where
 nodup : (l.map fun e => e.1.toNat).Nodup
 at_ : ∀ e ∈ l, 0 ≤ e.1 ∧ xs[e.1.toNat]? = some (tag, e.2)
theorem Fit.tail {xs : List (Int × Int)} {tag : Int} {e : Int × Int} {l : List (Int × Int)} (h : Fit xs tag (e :: l)) (s : Int × Int) : Fit (xs.set e.1.toNat s) tag l := by
 have hn := h.nodup
 rw [List.map_cons, List.nodup_cons] at hn
 refine ⟨hn.2, fun x hx => ?_⟩
 have h1 := h.at_ x (by simp [hx])
 refine ⟨h1.1, ?_⟩
 rw [List.getElem?_set_ne]
 · exact h1.2
 ·
  intro he
  exact hn.1 (by rw [List.mem_map]; exact ⟨x, hx, he.symm⟩)
theorem Fit.lt {xs : List (Int × Int)} {tag : Int} {e : Int × Int} {l : List (Int × Int)} (h : Fit xs tag l) (he : e ∈ l) : e.1.toNat < xs.length := (List.getElem?_eq_some_iff.1 (h.at_ e he).2).1
theorem setAll_off (t d : Int) : ∀ (l xs : List (Int × Int)) (i : Nat), i ∉ l.map (fun e => e.1.toNat) → (setAll t d xs l)[i]? = xs[i]?
 | [], xs, i, _ => rfl
 | e :: l, xs, i, h => by
  rw [List.map_cons, List.mem_cons, not_or] at h
  have := setAll_off t d l (xs.set e.1.toNat (t, e.2 + d)) i h.2
  have h2 : (setAll t d xs (e :: l)) = setAll t d (xs.set e.1.toNat (t, e.2 + d)) l := rfl
  rw [h2, this, List.getElem?_set_ne (fun hh => h.1 hh.symm)]
theorem setAll_at (t d : Int) : ∀ (l xs : List (Int × Int)), (l.map fun e => e.1.toNat).Nodup → ∀ e ∈ l, e.1.toNat < xs.length → (setAll t d xs l)[e.1.toNat]? = some (t, e.2 + d)
 | [], _, _, _, h, _ => by cases h
 | x :: l, xs, hn, e, he, hl => by
  rw [List.map_cons, List.nodup_cons] at hn
  have h2 : (setAll t d xs (x :: l)) = setAll t d (xs.set x.1.toNat (t, x.2 + d)) l := rfl
  rw [h2]
  rcases List.mem_cons.1 he with rfl | he
  · rw [setAll_off _ _ _ _ _ hn.1, List.getElem?_set_self (by simpa using hl)]
  · exact setAll_at t d l _ hn.2 e he (by simpa using hl)
theorem Fit.set {xs : List (Int × Int)} {tag : Int} {l : List (Int × Int)} (h : Fit xs tag l) (t : Int) : Fit (setAll t 0 xs l) t l :=
 ⟨h.nodup, fun e he => ⟨(h.at_ e he).1, by rw [setAll_at t 0 l xs h.nodup e he (h.lt he), Int.add_zero]⟩⟩
def cnt (xs : List (Int × Int)) (t : Int) : Nat := xs.countP fun s => decide (s.1 = t)
theorem entsF_cnt (tag : Int) : ∀ (xs : List (Int × Int)) (i : Nat), (entsF tag i xs).length = cnt xs tag
 | [], _ => rfl
 | s :: xs, i => by
  have := entsF_cnt tag xs (i + 1)
  unfold cnt at *
  simp only [entsF, List.countP_cons]
  by_cases h : s.1 = tag <;> simp [h, this]
theorem ents_cnt (xs : List (Int × Int)) (tag : Int) : (ents xs tag).length = cnt xs tag := entsF_cnt tag xs 0
theorem cnt_set (xs : List (Int × Int)) (t : Int) (k : Nat) (s old : Int × Int) (hk : xs[k]? = some old) : cnt (xs.set k s) t + (if old.1 = t then 1 else 0) = cnt xs t + (if s.1 = t then 1 else 0) := by
 induction xs generalizing k with
 | nil => simp at hk
 | cons x xs ih =>
  cases k with
  | zero =>
   simp at hk; subst hk
   simp only [cnt, List.set_cons_zero, List.countP_cons, decide_eq_true_eq]
   omega
  | succ k =>
   have := ih k (by simpa using hk)
   simp only [cnt, List.set_cons_succ, List.countP_cons, decide_eq_true_eq] at this ⊢
   omega
end Go.Proofs.YtkicidopjihjmaaGreat
namespace Go.Proofs.YtkicidopjihjmaaGreat
open Go Go.RowKit
theorem entsF_iff (tag : Int) : ∀ (ss : List Ent) (i : Nat) (e : Ent), e ∈ entsF tag i ss ↔ ∃ j, e.1 = ((i + j : Nat) : Int) ∧ ss[j]? = some (tag, e.2)
 | [], i, e => by simp [entsF]
 | s :: ss, i, e => by
  constructor
  ·
   intro h
   obtain ⟨j, h1, h2, h3⟩ := entsF_mem tag (s :: ss) i e h
   exact ⟨j, h2, h3⟩
  ·
   rintro ⟨j, h1, h2⟩
   simp only [entsF]
   cases j with
   | zero =>
    simp at h2
    rw [if_pos (by rw [h2])]
    refine List.mem_cons.2 (.inl ?_)
    rw [h2]
    exact Prod.ext h1 rfl
   | succ j =>
    have h3 : e ∈ entsF tag (i + 1) ss := (entsF_iff tag ss (i + 1) e).2 ⟨j, by rw [h1]; omega, by simpa using h2⟩
    split
    · exact List.mem_cons.2 (.inr h3)
    · exact h3
theorem ents_iff {ss : List Ent} {tag : Int} {e : Ent} : e ∈ ents ss tag ↔ 0 ≤ e.1 ∧ ss[e.1.toNat]? = some (tag, e.2) := by
 unfold ents
 rw [entsF_iff]
 constructor
 ·
  rintro ⟨j, h1, h2⟩
  rw [Nat.zero_add] at h1
  refine ⟨by omega, ?_⟩
  rw [h1, Int.toNat_natCast]
  exact h2
 ·
  rintro ⟨h1, h2⟩
  exact ⟨e.1.toNat, by omega, h2⟩
theorem ents_off {ss : List Ent} {k : Nat} {s old : Ent} {u : Int} (hk : ss[k]? = some old) (h1 : old.1 ≠ u) (h2 : s.1 ≠ u) : (∀ y, y ∈ ents (ss.set k s) u ↔ y ∈ ents ss u) ∧ (ents (ss.set k s) u).length = (ents ss u).length := by
 refine ⟨fun y => ?_, ?_⟩
 ·
  rw [ents_iff, ents_iff, List.getElem?_set]
  by_cases e : k = y.1.toNat
  ·
   rw [if_pos e]
   subst e
   rw [if_pos (List.getElem?_eq_some_iff.1 hk).1, hk]
   simp only [Option.some.injEq]
   constructor
   · rintro ⟨_, h⟩; rw [h] at h2; exact absurd rfl h2
   · rintro ⟨_, h⟩; rw [h] at h1; exact absurd rfl h1
  · rw [if_neg e]
 ·
  rw [ents_cnt, ents_cnt]
  have := cnt_set ss u k s old hk
  rw [if_neg h1, if_neg h2] at this
  omega
theorem ents_in {ss : List Ent} {k : Nat} {s old : Ent} {u : Int} (hk : ss[k]? = some old) (h1 : old.1 ≠ u) (h2 : s.1 = u) : (∀ y, y ∈ ents ss u → y ∈ ents (ss.set k s) u) ∧ (((k : Nat) : Int), s.2) ∈ ents (ss.set k s) u ∧ (ents (ss.set k s) u).length = (ents ss u).length + 1 := by
 refine ⟨fun y hy => ?_, ?_, ?_⟩
 ·
  rw [ents_iff] at hy ⊢
  refine ⟨hy.1, ?_⟩
  rw [List.getElem?_set, if_neg (fun e => by rw [e, hy.2] at hk; injection hk with hk; rw [← hk] at h1; exact h1 rfl)]
  exact hy.2
 ·
  rw [ents_iff]
  refine ⟨by simp, ?_⟩
  rw [List.getElem?_set]
  simp only [Int.toNat_natCast, if_true]
  rw [if_pos (List.getElem?_eq_some_iff.1 hk).1, ← h2]
 ·
  rw [ents_cnt, ents_cnt]
  have := cnt_set ss u k s old hk
  rw [if_neg h1, if_pos h2] at this
  omega
theorem ents_out {ss : List Ent} {k : Nat} {s old : Ent} {u : Int} (hk : ss[k]? = some old) (h1 : old.1 = u) (h2 : s.1 ≠ u) : (∀ y, y ∈ ents ss u → y.1 ≠ (k : Int) → y ∈ ents (ss.set k s) u) ∧ (ents (ss.set k s) u).length + 1 = (ents ss u).length := by
 refine ⟨fun y hy hne => ?_, ?_⟩
 ·
  rw [ents_iff] at hy ⊢
  refine ⟨hy.1, ?_⟩
  rw [List.getElem?_set, if_neg (by omega)]
  exact hy.2
 ·
  rw [ents_cnt, ents_cnt]
  have := cnt_set ss u k s old hk
  rw [if_pos h1, if_neg h2] at this
  omega
theorem meant_at {ss : List Ent} {e : Ent} (h : meantB ss e = true) : 0 ≤ e.1 ∧ ss[e.1.toNat]? = some (tagOf ss e, e.2) := by
 obtain ⟨k, h1, h2, h3⟩ := meantB_out h
 refine ⟨by omega, ?_⟩
 rw [h1, Int.toNat_natCast]
 unfold tagOf
 rw [h1, Int.toNat_natCast, ← h3]
 rw [List.getD_eq_getElem?_getD, List.getElem?_eq_getElem h2]
 rfl
structure WfR (r : Rec) : Prop where
 ok : OkR r
 sn : ∀ s ∈ r.S, 0 ≤ s
 gn : ∀ s ∈ r.sl, 0 ≤ s.2
theorem held_row {l : Li.Lim} {k : Nat} (hk : k < 3) {x : Ent} (hx : x ∈ l.r k) : x ∈ l.held := by
 obtain ⟨a, ha, h⟩ : ∃ a, a < 3 ∧ Li.rowN l.E a = k := by
  unfold Li.rowN
  have h3 := Nat.mod_lt l.E (show 0 < 3 by omega)
  exact ⟨(l.E + 3 - k) % 3, Nat.mod_lt _ (by omega), by omega⟩
 have h2 : x ∈ l.at a := by unfold Li.Lim.at; rw [h]; exact hx
 unfold Li.Lim.held
 simp only [List.mem_append]
 obtain rfl | rfl | rfl : a = 0 ∨ a = 1 ∨ a = 2 := by omega
 · exact .inr (.inr h2)
 · exact .inr (.inl h2)
 · exact .inl h2
theorem WfR.fit {r : Rec} (h : WfR r) : FitR r := by
 obtain ⟨a1, a2, a3⟩ := arOk_out h.ok.ar
 obtain ⟨p1, p2, p3, p4⟩ := Pn.pOk_out h.ok.pn
 obtain ⟨l1, _⟩ := Li.ok_out h.ok.lm
 have he := h.ok.ep
 have hL : r.l.E ≤ 4611686018427387904 := l1
 refine ⟨by omega, by omega, fun k hk => by have := Li.row_len h.ok.lm hk; omega, ⟨by omega, by omega⟩, fun x hx => ?_, by omega, fun k hk x hx => ?_⟩
 ·
  have := p4 x hx
  have := h.sn x hx
  unfold U64; omega
 ·
  obtain ⟨_, _, h3⟩ := ents_mem (h.ok.sub x (held_row hk hx))
  have hm := List.mem_of_getElem? h3
  have := h.gn _ hm
  have h4 := slabOk_out (a3 _ hm)
  exact ⟨this, by have := h4.2.2; dsimp only at this; omega⟩
theorem gn_set {ss : List Ent} (h : ∀ s ∈ ss, 0 ≤ s.2) {k : Nat} {s : Ent} (hs : 0 ≤ s.2) : ∀ x ∈ ss.set k s, 0 ≤ x.2 := fun x hx => by
 rcases List.mem_or_eq_of_mem_set hx with hx | rfl
 · exact h x hx
 · exact hs
theorem wf_sl {r : Rec} (h : WfR r) {k : Nat} {s old : Ent} (hk : r.sl[k]? = some old) (h1 : old.1 ≠ 2) (h2 : s.1 ≠ 2) (hs : slabOk s = true) (hg : 0 ≤ s.2) : WfR ⟨r.sl.set k s, r.e, r.S, r.l⟩ := by
 obtain ⟨e1, e2⟩ := ents_off hk h1 h2
 exact ⟨⟨arOk_set h.ok.ar k s hs, h.ok.pn, h.ok.lm, h.ok.ep, fun x hx => (e1 x).2 (h.ok.sub x hx), h.ok.len.trans e2.symm⟩, h.sn, gn_set h.gn hg⟩
theorem wf_pin {r r' : Rec} {told t' : List Ent} {o : EOp} {k : Int} (h : WfR r) (hk : k = 1 ∨ k = 2) (hb : 0 ≤ o.b) (hs : pinR r told o k = .ok (r', t')) : WfR r' ∧ t' = told := by
 unfold pinR at hs
 split at hs
 ·
  rename_i h0
  injection hs with hs
  injection hs with hs1 hs2
  subst hs1
  have hd : Pn.dE r.e r.S k o.g o.b = 0 := by unfold Pn.doE at h0; rw [if_pos h.ok.pn] at h0; exact h0
  have he : 0 ≤ r.e := by have := h.ok.ep; omega
  have hx : Pn.doX r.e r.S k o.g o.b = r.e := by unfold Pn.doX; rw [if_pos h0]; unfold Pn.dX; rw [if_neg (by omega)]
  have hS : Pn.doS r.e r.S k o.g o.b = Pn.dS r.e r.S k o.g o.b := by unfold Pn.doS; rw [if_pos h0]
  have hp := Pn.pOk_do h.ok.pn he hb hd
  have hn := Pn.dS_nonneg h.sn hd he
  refine ⟨⟨⟨h.ok.ar, ?_, h.ok.lm, ?_, h.ok.sub, h.ok.len⟩, ?_, h.gn⟩, hs2.symm⟩
  ·
   show Pn.pOk (Pn.doX _ _ _ _ _) (Pn.doS _ _ _ _ _) = true
   rw [hx, hS]
   have : Pn.dX r.e k = r.e := by unfold Pn.dX; rw [if_neg (by omega)]
   rwa [this] at hp
  ·
   show (r.l.E : Int) = Pn.doX _ _ _ _ _
   rw [hx]; exact h.ok.ep
  ·
   show ∀ s ∈ Pn.doS _ _ _ _ _, 0 ≤ s
   rw [hS]; exact hn
 · cases hs
theorem wf_take {r r' : Rec} {told t' : List Ent} (h : WfR r) (hs : takeR r told = .ok (r', t')) : WfR r' ∧ ∃ e, e ∈ ents r.sl 0 ∧ t' = told ++ [e] ∧ r' = ⟨r.sl.set e.1.toNat (1, e.2), r.e, r.S, r.l⟩ := by
 unfold takeR at hs
 split at hs
 ·
  rename_i h0
  injection hs with hs
  injection hs with hs1 hs2
  have hl : 0 < (ents r.sl 0).length := by unfold tkE at h0; rw [if_pos h.ok.ar] at h0; split at h0 <;> first | omega | (split at h0 <;> omega)
  have e1 : tkA r.sl 1 = put1 1 r.sl (ents r.sl 0)[0] := by unfold tkA; rw [if_pos h0]; exact tk_succ r.sl 0 hl
  have e2 : tkL r.sl 1 = [(ents r.sl 0)[0]] := by
   unfold tkL; rw [if_pos h0]
   show (ents r.sl 0).take 1 = _
   rw [List.take_one, List.head?_eq_getElem?, List.getElem?_eq_getElem hl]; rfl
  have hm : (ents r.sl 0)[0] ∈ ents r.sl 0 := List.getElem_mem _
  obtain ⟨m1, m2⟩ := ents_iff.1 hm
  have hmm := List.mem_of_getElem? m2
  have hg := h.gn _ hmm
  have hsl := slabOk_out ((arOk_out h.ok.ar).2.2 _ hmm)
  have hr : r' = ⟨r.sl.set (ents r.sl 0)[0].1.toNat (1, (ents r.sl 0)[0].2), r.e, r.S, r.l⟩ := by rw [← hs1, e1]; rfl
  refine ⟨?_, _, hm, by rw [← hs2, e2], hr⟩
  rw [hr]
  exact wf_sl h m2 (show (0 : Int) ≠ 2 by omega) (show (1 : Int) ≠ 2 by omega) (slabOk_mk (by omega) (by omega) hsl.2.2) hg
 · cases hs
theorem giv_one {ss ys : List Ent} {x : Ent} (ho : arOk ss = true) (h0 : gvE ss [x] = 0) : meantB ss x = true ∧ tagOf ss x ≠ 0 ∧ x.2 < 1099511627775 ∧ gvA ss [x] = ss.set x.1.toNat (0, x.2 + 1) := by
 unfold gvE at h0
 unfold gvA
 rw [if_pos ho] at h0 ⊢
 simp only [givS] at h0 ⊢
 by_cases h1 : meantB ss x = true ∧ tagOf ss x ≠ 0
 ·
  rw [if_pos h1] at h0 ⊢
  by_cases h2 : x.2 < 1099511627775
  ·
   rw [if_pos h2] at h0 ⊢
   exact ⟨h1.1, h1.2, h2, rfl⟩
  · rw [if_neg h2] at h0; simp at h0
 · rw [if_neg h1] at h0; simp at h0
theorem ret_one {ss : List Ent} {x : Ent} (ho : arOk ss = true) (h0 : rtE ss [x] = 0) : meantB ss x = true ∧ tagOf ss x = 1 ∧ rtA ss [x] = ss.set x.1.toNat (2, x.2) := by
 unfold rtE at h0
 unfold rtA
 rw [if_pos ho] at h0 ⊢
 simp only [retS] at h0 ⊢
 by_cases h1 : meantB ss x = true ∧ tagOf ss x = 1
 ·
  rw [if_pos h1]
  exact ⟨h1.1, h1.2, rfl⟩
 · rw [if_neg h1] at h0; simp at h0
theorem wf_back {r r' : Rec} {told t' : List Ent} {x : Ent} (h : WfR r) (hs : backR r told x = .ok (r', t')) : WfR r' ∧ t' = told ∧ meantB r.sl x = true ∧ tagOf r.sl x = 1 ∧ x.2 < 1099511627775 ∧ r' = ⟨r.sl.set x.1.toNat (0, x.2 + 1), r.e, r.S, r.l⟩ := by
 unfold backR at hs
 split at hs
 ·
  rename_i hm
  split at hs
  ·
   rename_i h0
   injection hs with hs
   injection hs with hs1 hs2
   obtain ⟨g1, g2, g3, g4⟩ := giv_one (ys := []) h.ok.ar h0
   obtain ⟨m1, m2⟩ := meant_at g1
   have hmm := List.mem_of_getElem? m2
   have hg := h.gn _ hmm
   rw [hm.2] at m2
   rw [g4] at hs1
   refine ⟨?_, hs2.symm, g1, hm.2, g3, hs1.symm⟩
   rw [← hs1]
   exact wf_sl h m2 (show (1 : Int) ≠ 2 by omega) (show (0 : Int) ≠ 2 by omega) (slabOk_mk (by omega) (by omega) (by omega)) (by have hg : 0 ≤ x.2 := hg; show 0 ≤ x.2 + 1; omega)
  · cases hs
 · cases hs
theorem wf_reti {r r' : Rec} {told t' : List Ent} {x : Ent} (h : WfR r) (hs : retiR r told x = .ok (r', t')) : WfR r' ∧ t' = told ∧ meantB r.sl x = true ∧ tagOf r.sl x = 1 ∧ ∃ l, Li.doRet r.l x = .ok l ∧ r' = ⟨r.sl.set x.1.toNat (2, x.2), r.e, r.S, l⟩ := by
 unfold retiR at hs
 split at hs
 ·
  rename_i h0
  obtain ⟨g1, g2, g3⟩ := ret_one h.ok.ar h0
  split at hs
  ·
   rename_i l hl
   injection hs with hs
   injection hs with hs1 hs2
   have hl : Li.doRet r.l x = .ok l := by unfold Li.retR at hl; rw [if_pos h.ok.lm] at hl; exact hl
   obtain ⟨m1, m2⟩ := meant_at g1
   have hmm := List.mem_of_getElem? m2
   have hg : 0 ≤ x.2 := h.gn (tagOf r.sl x, x.2) hmm
   have hsl := slabOk_out ((arOk_out h.ok.ar).2.2 _ hmm)
   rw [g2] at m2
   rw [g3] at hs1
   obtain ⟨e1, e2, e3⟩ := ents_in (s := (2, x.2)) (u := 2) m2 (show (1 : Int) ≠ 2 by omega) rfl
   have hh := Li.held_ret hl
   have hE := (Li.each_ret hl).2.1
   refine ⟨?_, hs2.symm, g1, g2, l, hl, hs1.symm⟩
   rw [← hs1]
   refine ⟨⟨arOk_set h.ok.ar _ _ (slabOk_mk (by omega) (by omega) hsl.2.2), h.ok.pn, Li.ok_ret h.ok.lm hl, ?_, fun y hy => ?_, ?_⟩, h.sn, gn_set h.gn hg⟩
   ·
    show (l.E : Int) = r.e
    rw [hE]; exact h.ok.ep
   ·
    have hy : y ∈ l.held := hy
    rw [hh, List.mem_append, List.mem_singleton] at hy
    rcases hy with hy | rfl
    · exact e1 y (h.ok.sub y hy)
    ·
     have : ((y.1.toNat : Nat) : Int) = y.1 := by omega
     rw [this] at e2
     exact e2
   ·
    show l.held.length = _
    rw [hh, List.length_append, h.ok.len]
    exact e3.symm
  · cases hs
 · cases hs
theorem okP_apart {E : Nat} : ∀ {l : List (Nat × Ent)} {met : List Int}, Li.okP E l met = true → ∀ p ∈ l, p.2.1 ∈ met → False
 | [], _, _, _, hp, _ => by cases hp
 | q :: l, met, h, p, hp, hm => by
  simp only [Li.okP, Bool.and_eq_true] at h
  rcases List.mem_cons.1 hp with rfl | hp
  ·
   have h1 := h.1.2.2
   simp at h1
   exact h1 hm
  · exact okP_apart h.2 p hp (List.mem_cons_of_mem _ hm)
theorem tak_out {l l' : Li.Lim} {x : Ent} (ho : l.ok = true) (h : Li.takR l = .ok (l', x)) : Li.doTake l = .ok (l', x) := by
 unfold Li.takR at h; rw [if_pos ho] at h; exact h
theorem wf_free {r r' : Rec} {told t' : List Ent} (h : WfR r) (hs : freeR r told = .ok (r', t')) : WfR r' ∧ ∃ l x, Li.doTake r.l = .ok (l, x) ∧ x ∈ ents r.sl 2 ∧ x.2 < 1099511627775 ∧ t' = told ++ [x] ∧ r' = ⟨r.sl.set x.1.toNat (0, x.2 + 1), r.e, r.S, l⟩ := by
 unfold freeR at hs
 split at hs
 ·
  rename_i l x hl
  split at hs
  ·
   rename_i h0
   injection hs with hs
   injection hs with hs1 hs2
   have hl := tak_out h.ok.lm hl
   obtain ⟨g1, g2, g3, g4⟩ := giv_one (ys := []) h.ok.ar h0
   have hh := Li.held_take hl
   have hx : x ∈ ents r.sl 2 := h.ok.sub x (by rw [hh]; simp)
   obtain ⟨m1, m2⟩ := ents_iff.1 hx
   have hg : 0 ≤ x.2 := h.gn (2, x.2) (List.mem_of_getElem? m2)
   rw [g4] at hs1
   obtain ⟨e1, e2⟩ := ents_out (s := (0, x.2 + 1)) (u := 2) m2 rfl (show (0 : Int) ≠ 2 by omega)
   refine ⟨?_, l, x, hl, hx, g3, hs2.symm, hs1.symm⟩
   rw [← hs1]
   refine ⟨⟨arOk_set h.ok.ar _ _ (slabOk_mk (by omega) (by omega) (by omega)), h.ok.pn, Li.ok_take h.ok.lm hl, ?_, fun y hy => ?_, ?_⟩, h.sn, gn_set h.gn (by show 0 ≤ x.2 + 1; omega)⟩
   ·
    show (l.E : Int) = r.e
    rw [(Li.each_take hl).2.1]; exact h.ok.ep
   ·
    have hy : y ∈ l.held := hy
    refine e1 y (h.ok.sub y (by rw [hh]; simp [hy])) (fun hc => ?_)
    have h1 := (Li.ok_out h.ok.lm).2
    rw [(Li.each_take hl).1] at h1
    have h2 : y ∈ l.each.map (·.2) := by rw [Li.each_held]; exact hy
    obtain ⟨p, hp, rfl⟩ := List.mem_map.1 h2
    rw [show ((2, x) :: l.each : List (Nat × Ent)) = [(2, x)] ++ l.each from rfl, Li.okP_append] at h1
    simp only [Bool.and_eq_true] at h1
    refine okP_apart h1.2 p hp (by simp [Li.metOf]; omega)
   ·
    show l.held.length = _
    have := h.ok.len
    rw [hh, List.length_cons] at this
    show l.held.length = (ents (r.sl.set x.1.toNat (0, x.2 + 1)) 2).length
    omega
  · cases hs
 · cases hs
theorem go_parts {r r' : Rec} {told t' : List Ent} {o : EOp} (h : WfR r) (hs : goR r told o = .ok (r', t')) : t' = told ∧ r.l.at 2 = [] ∧ r.S.any (Pn.heldB r.e) = false ∧ r.e ≠ 4611686018427387904 ∧ ∃ l, Li.doAdv r.l = .ok l ∧ r' = ⟨r.sl, r.e + 1, r.S, l⟩ := by
 unfold goR at hs
 rw [if_pos h.ok.lm] at hs
 split at hs
 ·
  rename_i hl
  have hl : r.l.at 2 = [] := List.length_eq_zero_iff.1 hl
  split at hs
  ·
   rename_i r1 t1 hp
   unfold pinR at hp
   split at hp
   ·
    rename_i h0
    injection hp with hp
    injection hp with hp1 hp2
    have hd : Pn.dE r.e r.S 3 o.g o.b = 0 := by unfold Pn.doE at h0; rw [if_pos h.ok.pn] at h0; exact h0
    have hx : Pn.doX r.e r.S 3 o.g o.b = r.e + 1 := by unfold Pn.doX; rw [if_pos h0]; rfl
    have hS : Pn.doS r.e r.S 3 o.g o.b = r.S := by unfold Pn.doS; rw [if_pos h0]; rfl
    rw [hx, hS] at hp1
    subst hp1
    split at hs
    ·
     rename_i l hl2
     injection hs with hs
     injection hs with hs1 hs2
     have hl2 : Li.doAdv r.l = .ok l := by unfold Li.advR at hl2; rw [if_pos h.ok.lm] at hl2; exact hl2
     have hc := Pn.dE_cases r.e r.S 3 o.g o.b hd
     simp at hc
     exact ⟨by rw [← hs2, hp2], hl, by simpa using hc.1, hc.2, l, hl2, hs1.symm⟩
    · cases hs
   · cases hp
  · cases hs
 · cases hs
theorem wf_go {r r' : Rec} {told t' : List Ent} {o : EOp} (h : WfR r) (hs : goR r told o = .ok (r', t')) : WfR r' := by
 obtain ⟨_, hl, hS, he, l, hl2, rfl⟩ := go_parts h hs
 obtain ⟨p1, p2, p3, p4⟩ := Pn.pOk_out h.ok.pn
 refine ⟨⟨h.ok.ar, Pn.pOk_mk ⟨p1, p2, by show r.e + 1 ≤ _; omega, fun s hs => by have := p4 s hs; show s ≤ r.e + 1 + 1; omega⟩, Li.ok_adv h.ok.lm hl2, ?_, fun x hx => ?_, ?_⟩, h.sn, h.gn⟩
 ·
  show (l.E : Int) = r.e + 1
  rw [(Li.each_adv hl2).2.1]
  have := h.ok.ep; omega
 ·
  have hx : x ∈ l.held := hx
  rw [Li.held_adv hl2] at hx
  exact h.ok.sub x hx
 ·
  show l.held.length = _
  rw [Li.held_adv hl2]
  exact h.ok.len
theorem wf_step {r r' : Rec} {told t' : List Ent} {o : EOp} (h : WfR r) (hb : 0 ≤ o.b) (hs : stepR r told o = .ok (r', t')) : WfR r' := by
 unfold stepR at hs
 split at hs
 · exact (wf_pin h (.inl rfl) hb hs).1
 split at hs
 · exact (wf_pin h (.inr rfl) hb hs).1
 split at hs
 · exact (wf_take h hs).1
 split at hs
 · exact (wf_back h hs).1
 split at hs
 · exact (wf_reti h hs).1
 split at hs
 · exact (wf_free h hs).1
 split at hs
 · exact wf_go h hs
 · cases hs
theorem pin_ne {r : Rec} {told : List Ent} {o : EOp} {k e : Int} (h : pinR r told o k = .error e) : e ≠ 0 := by
 unfold pinR at h
 split at h
 · cases h
 · rename_i h0; injection h with h; rw [← h]; exact h0
theorem free_ne {r : Rec} {told : List Ent} {e : Int} (h : freeR r told = .error e) : e ≠ 0 := by
 unfold freeR at h
 split at h
 ·
  split at h
  · cases h
  · rename_i h0; injection h with h; rw [← h]; exact h0
 ·
  rename_i k hk
  injection h with h
  subst h
  unfold Li.takR at hk
  split at hk
  ·
   unfold Li.doTake at hk
   split at hk
   · injection hk with hk; omega
   · cases hk
  · injection hk with hk; omega
theorem reti_ne {r : Rec} {told : List Ent} {x : Ent} {e : Int} (h : retiR r told x = .error e) : e ≠ 0 := by
 unfold retiR at h
 split at h
 ·
  split at h
  · cases h
  ·
   rename_i k hk
   injection h with h
   subst h
   unfold Li.retR at hk
   split at hk
   · exact Li.doRet_ne hk
   · injection hk with hk; omega
 · rename_i h0; injection h with h; rw [← h]; exact h0
theorem go_ne {r : Rec} {told : List Ent} {o : EOp} {e : Int} (h : goR r told o = .error e) : e ≠ 0 := by
 unfold goR at h
 generalize (if r.l.ok = true then r.l.at 2 else []).length = n at h
 split at h
 ·
  split at h
  ·
   split at h
   · cases h
   ·
    rename_i k hk
    injection h with h
    subst h
    unfold Li.advR at hk
    split at hk
    ·
     unfold Li.doAdv at hk
     split at hk
     · injection hk with hk; omega
     ·
      split at hk
      · cases hk
      · injection hk with hk; omega
    · injection hk with hk; omega
  ·
   rename_i hp
   injection h with h
   subst h
   exact pin_ne hp
 · injection h with h; omega
theorem step_ne {r : Rec} {told : List Ent} {o : EOp} {e : Int} (h : stepR r told o = .error e) : e ≠ 0 := by
 unfold stepR at h
 split at h
 · exact pin_ne h
 split at h
 · exact pin_ne h
 split at h
 ·
  unfold takeR at h
  split at h
  · cases h
  · rename_i h0; injection h with h; rw [← h]; exact h0
 split at h
 ·
  unfold backR at h
  split at h
  ·
   split at h
   · cases h
   · rename_i h0; injection h with h; rw [← h]; exact h0
  · injection h with h; omega
 split at h
 · exact reti_ne h
 split at h
 · exact free_ne h
 split at h
 · exact go_ne h
 · injection h with h; omega
theorem step_told {r r' : Rec} {told t' : List Ent} {o : EOp} (h : WfR r) (hb : 0 ≤ o.b) (hs : stepR r told o = .ok (r', t')) : t' = told ∨ ∃ x, t' = told ++ [x] := by
 unfold stepR at hs
 split at hs
 · exact .inl (wf_pin h (.inl rfl) hb hs).2
 split at hs
 · exact .inl (wf_pin h (.inr rfl) hb hs).2
 split at hs
 · obtain ⟨_, e, _, h1, _⟩ := wf_take h hs; exact .inr ⟨e, h1⟩
 split at hs
 · exact .inl (wf_back h hs).2.1
 split at hs
 · exact .inl (wf_reti h hs).2.1
 split at hs
 · obtain ⟨_, l, x, _, _, _, h1, _⟩ := wf_free h hs; exact .inr ⟨x, h1⟩
 split at hs
 · exact .inl (go_parts h hs).1
 · cases hs
theorem fitO {r : Rec} {o : EOp} (hb : 0 ≤ o.b) (hx : U64 o.x.2) : (tkL r.sl 1).length ≤ 4096 := by
 unfold tkL
 split
 · rw [List.length_take]; show min 1 _ ≤ _; omega
 · exact Nat.zero_le _
def oFree : EOp := ⟨6, 0, 0, (0, 0)⟩
def oGo : EOp := ⟨7, 0, 0, (0, 0)⟩
theorem step_free (r : Rec) (t : List Ent) : stepR r t oFree = freeR r t := rfl
theorem step_go (r : Rec) (t : List Ent) : stepR r t oGo = goR r t oGo := rfl
def freesF : Nat → Rec → List Ent → Rec × List Ent
 | 0, r, t => (r, t)
 | n + 1, r, t => match freeR r t with
  | .ok (r', t') => freesF n r' t'
  | .error _ => (r, t)
def freesR (r : Rec) (t : List Ent) : Rec × List Ent := freesF r.l.held.length r t
theorem free_held {r r' : Rec} {t t' : List Ent} (h : WfR r) (hs : freeR r t = .ok (r', t')) : r.l.held.length = r'.l.held.length + 1 ∧ t'.length = t.length + 1 := by
 obtain ⟨_, l, x, hl, _, _, h1, h2⟩ := wf_free h hs
 rw [h2, h1, Li.held_take hl]
 simp
theorem freesR_ok {r r' : Rec} {t t' : List Ent} (h : WfR r) (hs : freeR r t = .ok (r', t')) : freesR r t = freesR r' t' := by
 unfold freesR
 rw [(free_held h hs).1]
 show (match freeR r t with | .ok (r', t') => freesF _ r' t' | .error _ => (r, t)) = _
 rw [hs]
theorem freesR_no {r : Rec} {t : List Ent} {k : Int} (hs : freeR r t = .error k) : freesR r t = (r, t) := by
 unfold freesR
 cases r.l.held.length with
 | zero => rfl
 | succ n =>
  show (match freeR r t with | .ok (r', t') => freesF _ r' t' | .error _ => (r, t)) = _
  rw [hs]
theorem frees_ind {P : Rec → List Ent → Prop} (step : ∀ r t r' t', WfR r → P r t → freeR r t = .ok (r', t') → P r' t') : ∀ (n : Nat) (r : Rec) (t : List Ent), WfR r → r.l.held.length = n → P r t → P (freesR r t).1 (freesR r t).2 ∧ WfR (freesR r t).1 ∧ ∃ k, freeR (freesR r t).1 (freesR r t).2 = .error k := by
 intro n
 induction n with
 | zero =>
  intro r t h hn hp
  have h0 : freesR r t = (r, t) := by unfold freesR; rw [hn]; rfl
  rw [h0]
  refine ⟨hp, h, ?_⟩
  cases hs : freeR r t with
  | error k => exact ⟨k, rfl⟩
  | ok x => have := (free_held h (r' := x.1) (t' := x.2) hs).1; omega
 | succ n ih =>
  intro r t h hn hp
  cases hs : freeR r t with
  | error k => rw [freesR_no hs]; exact ⟨hp, h, k, hs⟩
  | ok x =>
   rw [freesR_ok h (r' := x.1) (t' := x.2) hs]
   have hl := (free_held h (r' := x.1) (t' := x.2) hs).1
   exact ih x.1 x.2 (wf_free h (r' := x.1) (t' := x.2) hs).1 (by omega) (step r t x.1 x.2 h hp hs)
theorem frees_wf {r : Rec} {t : List Ent} (h : WfR r) : WfR (freesR r t).1 := (frees_ind (P := fun _ _ => True) (fun _ _ _ _ _ _ _ => trivial) _ r t h rfl trivial).2.1
def triesR (r : Rec) (t : List Ent) : Rec × List Ent × Bool :=
 match goR (freesR r t).1 (freesR r t).2 oGo with
 | .ok (r', t') => ((freesR r' t').1, (freesR r' t').2, true)
 | .error _ => ((freesR r t).1, (freesR r t).2, false)
def contR (b : Bool) (r : Rec) (t : List Ent) : Rec × List Ent × Bool := if b = true then ((freesR r t).1, (freesR r t).2, true) else triesR r t
theorem contR_free {b : Bool} {r r' : Rec} {t t' : List Ent} (h : WfR r) (hs : freeR r t = .ok (r', t')) : contR b r t = contR b r' t' := by
 unfold contR triesR
 rw [freesR_ok h hs]
theorem contR_go {r r' : Rec} {t t' : List Ent} {k : Int} (hs : freeR r t = .error k) (hg : goR r t oGo = .ok (r', t')) : contR false r t = contR true r' t' := by
 unfold contR triesR
 simp only [Bool.false_eq_true, if_false, if_true]
 rw [freesR_no hs]
 simp only [hg]
theorem contR_stay {r : Rec} {t : List Ent} {k k2 : Int} (hs : freeR r t = .error k) (hg : goR r t oGo = .error k2) : contR false r t = (r, t, false) := by
 unfold contR triesR
 simp only [Bool.false_eq_true, if_false]
 rw [freesR_no hs]
 simp only [hg]
theorem contR_end {r : Rec} {t : List Ent} {k : Int} (hs : freeR r t = .error k) : contR true r t = (r, t, true) := by
 unfold contR
 simp only [if_true]
 rw [freesR_no hs]
theorem go_held {r r' : Rec} {t t' : List Ent} (h : WfR r) (hs : goR r t oGo = .ok (r', t')) : r'.l.held = r.l.held ∧ t' = t ∧ r'.l.E = r.l.E + 1 ∧ r.l.E < Li.LAST := by
 obtain ⟨h1, _, _, _, l, hl, rfl⟩ := go_parts h hs
 exact ⟨Li.held_adv hl, h1, (Li.each_adv hl).2.1, (Li.each_adv hl).2.2.1⟩
theorem tries_ind {P : Rec → List Ent → Prop} (step : ∀ r t r' t', WfR r → P r t → freeR r t = .ok (r', t') → P r' t') (go : ∀ r t r' t', WfR r → P r t → goR r t oGo = .ok (r', t') → P r' t') {r : Rec} {t : List Ent} (h : WfR r) (hp : P r t) : P (triesR r t).1 (triesR r t).2.1 ∧ WfR (triesR r t).1 := by
 obtain ⟨h1, h2, _⟩ := frees_ind step _ r t h rfl hp
 unfold triesR
 cases hg : goR (freesR r t).1 (freesR r t).2 oGo with
 | error k => exact ⟨h1, h2⟩
 | ok x =>
  have h3 := wf_go h2 (r' := x.1) (t' := x.2) hg
  obtain ⟨h4, h5, _⟩ := frees_ind step _ x.1 x.2 h3 rfl (go _ _ x.1 x.2 h2 h1 hg)
  exact ⟨h4, h5⟩
theorem frees_E {r : Rec} {t : List Ent} (h : WfR r) : (freesR r t).1.l.E = r.l.E ∧ (freesR r t).2.length + (freesR r t).1.l.held.length = t.length + r.l.held.length :=
 (frees_ind (P := fun r1 t1 => r1.l.E = r.l.E ∧ t1.length + r1.l.held.length = t.length + r.l.held.length) (fun r1 t1 r' t' hw hp hs => by
  obtain ⟨_, l, x, hl, _, _, h1, h2⟩ := wf_free hw hs
  have := free_held hw hs
  refine ⟨?_, by omega⟩
  rw [h2]
  exact (Li.each_take hl).2.1.trans hp.1) _ r t h rfl ⟨rfl, rfl⟩).1
theorem tries_E {r : Rec} {t : List Ent} (h : WfR r) : (triesR r t).2.1.length + (triesR r t).1.l.held.length = t.length + r.l.held.length ∧ ((triesR r t).2.2 = true → (triesR r t).1.l.E = r.l.E + 1 ∧ r.l.E < Li.LAST) := by
 obtain ⟨h1, h2⟩ := frees_E (t := t) h
 unfold triesR
 cases hg : goR (freesR r t).1 (freesR r t).2 oGo with
 | error k => exact ⟨h2, fun e => by cases e⟩
 | ok x =>
  have hw := frees_wf (t := t) h
  obtain ⟨g1, g2, g3, g4⟩ := go_held hw (r' := x.1) (t' := x.2) hg
  obtain ⟨f1, f2⟩ := frees_E (t := x.2) (wf_go hw (r' := x.1) (t' := x.2) hg)
  refine ⟨?_, fun _ => ?_⟩
  ·
   show (freesR x.1 x.2).2.length + (freesR x.1 x.2).1.l.held.length = _
   rw [f2, g1, g2]; exact h2
  ·
   show (freesR x.1 x.2).1.l.E = _ ∧ _
   rw [f1, g3, h1]
   exact ⟨rfl, by omega⟩
def setlF : Nat → Rec → List Ent → Rec × List Ent
 | 0, r, t => (r, t)
 | n + 1, r, t => if 0 < r.l.held.length then (if (triesR r t).2.2 = true then setlF n (triesR r t).1 (triesR r t).2.1 else ((triesR r t).1, (triesR r t).2.1)) else (r, t)
def setlR (r : Rec) (t : List Ent) : Rec × List Ent := setlF (Li.LAST + 1 - r.l.E) r t
theorem setlR_eq {r : Rec} {t : List Ent} (h : WfR r) : setlR r t = if 0 < r.l.held.length then (if (triesR r t).2.2 = true then setlR (triesR r t).1 (triesR r t).2.1 else ((triesR r t).1, (triesR r t).2.1)) else (r, t) := by
 have hE : r.l.E ≤ Li.LAST := (Li.ok_out h.ok.lm).1
 have e1 : Li.LAST + 1 - r.l.E = (Li.LAST - r.l.E) + 1 := by omega
 unfold setlR
 rw [e1]
 show (if 0 < r.l.held.length then _ else _) = _
 split
 ·
  split
  ·
   rename_i hb
   obtain ⟨h1, h2⟩ := (tries_E (t := t) h).2 hb
   rw [h1, show Li.LAST + 1 - (r.l.E + 1) = Li.LAST - r.l.E from by omega]
  · rfl
 · rfl
def lastT (t : List Ent) : Ent := t.getLastD (0, 0)
def doR (r : Rec) (o : EOp) : Rec × Ent × Int :=
 if r.ok = true then (match stepR r [] o with
  | .ok (r', t) => (r', lastT t, 0)
  | .error k => (rec0, (0, 0), k))
 else (rec0, (0, 0), 250)
def runL : Rec → List Ent → Nat → List EOp → Option (Rec × List Ent × Nat)
 | r, t, n, [] => some (r, t, n)
 | r, t, n, o :: l => match stepR r t o with
  | .ok (r', t') => runL r' t' n l
  | .error k => if k = 251 then none else runL r t (n + 1) l
def runOut : Option (Rec × List Ent × Nat) → Rec × List Ent × Nat × Int
 | some x => (x.1, x.2.1, x.2.2, 0)
 | none => (rec0, [], 0, 251)
def runR (r : Rec) (l : List EOp) : Rec × List Ent × Nat × Int :=
 if r.ok = true then runOut (runL r [] 0 l) else (rec0, [], 0, 250)
def tryR (r : Rec) : Rec × List Ent × Bool × Int := if r.ok = true then ((triesR r []).1, (triesR r []).2.1, (triesR r []).2.2, 0) else (rec0, [], false, 250)
def setR (r : Rec) : Rec × List Ent × Int :=
 if r.ok = true then (if Pn.oldB r.S = true then (rec0, [], 231) else ((setlR r []).1, (setlR r []).2, 0))
 else (rec0, [], 250)
end Go.Proofs.YtkicidopjihjmaaGreat
namespace Go.Proofs.YtkicidopjihjmaaGreat
open Go Go.RowKit
attribute [local go_sem] via_cell via_frozen
def DoesX (gh base : Nat) (r : Rec) (told : List Ent) (o : EOp) (W : World) (e : Ending) (W' : World) : Prop :=
 e = .returned (.int .i64 (okK (stepR r told o))) ∧ (∃ o3, HandX W' base gh o3 (okR r told (stepR r told o)).1 (okR r told (stepR r told o)).2) ∧ Below base W W'
theorem doesX {W : World} {base gh : Nat} {o0 : EOp} {r : Rec} {told : List Ent} (h : HandX W base gh o0 r told) (hw : WfR r) (o : EOp) (hb : 0 ≤ o.b) (hx : U64 o.x.2) (ht : (told.length : Int) ≤ 1000000) :
  Calls Tryz.prog 48 #[.pointer (some ⟨gh, 0, none⟩), .agg #[.int .i64 o.k, .int .i64 o.g, .int .u64 o.b, .int .i64 o.x.1, .int .u64 o.x.2]] W (DoesX gh base r told o W) := by
 obtain ⟨A0, As, n0, c0, ns, cs, A, n, c, At, nt, ct, h⟩ := h
 refine (does_any base gh A0 As n0 c0 ns cs A n c o0 o At nt ct r told W h hw.fit ⟨hb, hx, fitO hb hx⟩ (by rw [← h.len]; exact ht)).mono ?_
 rintro e w ⟨rfl, hh, hp⟩
 exact ⟨rfl, hh, hp.to_below h.lo (fun q hq => (told_lt h.own q hq).1) (Nat.le_trans h.lo (Nat.le_of_lt h.row.lt))⟩
theorem HandR.out {w : World} {base gh : Nat} {A0 As : Option Addr} {n0 c0 ns cs : Nat} {A : Nat → Option Addr} {n c : Nat → Nat} {o : EOp} {At : Option Addr} {nt ct : Nat} {r : Rec} {told : List Ent} (h : HandR w base gh A0 As n0 c0 ns cs A n c o At nt ct r told) : RecF (From base) w A0 As n0 c0 ns cs A n c r := h.all.up (fun j hj _ => hj.1)
structure LaidF (g : Nat) (w w' : World) : Prop where
 below : Below g w w'
 block : ∀ j, j ≠ g → w'.heap[j]? = w.heap[j]?
theorem LaidF.size {g : Nat} {w w' : World} (h : LaidF g w w') : w.heap.size ≤ w'.heap.size := h.below.size
theorem laid0 (g : Nat) (w : World) : LaidF g w w := ⟨Below.refl _ _, fun _ _ => rfl⟩
theorem LaidF.set {g : Nat} {w w' : World} (h : LaidF g w w') (k : Nat) (v : Value) : LaidF g w (w'.setCell ⟨g, k, none⟩ v) := ⟨h.below.setCell (p := ⟨g, k, none⟩) (Nat.le_refl _) v, fun j hj => (heap_setCell_ne _ _ _ _ hj).trans (h.block j hj)⟩
theorem LaidF.stay {F : Nat → Prop} {g : Nat} {w w' : World} (h : LaidF g w w') (hg : ¬ F g) : StayF F w w' := ⟨h.size, fun j hj _ => h.block j (fun e => hg (by rw [← e]; exact hj))⟩
theorem lp7 (w : World) (g : Nat) (v0 v1 v2 v3 v4 v5 v6 : Value) : LaidF g w (((((((w.setCell ⟨g, 0, none⟩ v0).setCell ⟨g, 1, none⟩ v1).setCell ⟨g, 2, none⟩ v2).setCell ⟨g, 3, none⟩ v3).setCell ⟨g, 4, none⟩ v4).setCell ⟨g, 5, none⟩ v5).setCell ⟨g, 6, none⟩ v6) := (((((((laid0 g w).set 0 v0).set 1 v1).set 2 v2).set 3 v3).set 4 v4).set 5 v5).set 6 v6
theorem HandR.laid {w w' : World} {base gh g : Nat} {A0 As : Option Addr} {n0 c0 ns cs : Nat} {A : Nat → Option Addr} {n c : Nat → Nat} {o : EOp} {At : Option Addr} {nt ct : Nat} {r : Rec} {told : List Ent} (h : HandR w base gh A0 As n0 c0 ns cs A n c o At nt ct r told) (hl : StayF (fun j => j ≠ g) w w') (h1 : gh ≠ g) (h2 : ∀ q, At = some q → q.block ≠ g) (h3 : RecF (fun j => OffB base gh At j ∧ j ≠ g) w A0 As n0 c0 ns cs A n c r) : HandR w' base gh A0 As n0 c0 ns cs A n c o At nt ct r told := by
 refine ⟨(hl.2 _ h1 h.row.lt).trans h.row, (h3.stay ⟨hl.1, fun j hj => hl.2 j hj.2⟩).up (fun j hj _ => hj.1), own_kept h.own (fun j hj => hl.2 j (fun e => ?_)), h.len, h.lo⟩
 rw [own_block] at hj
 cases At with
 | none => cases hj
 | some q => injection hj with hj; exact h2 q rfl (hj.trans e)
def DoRes (r : Rec) (o : EOp) (W : World) (e : Ending) (W' : World) : Prop :=
 (∃ v, e = .returned (.tuple #[v, .agg #[.int .i64 (doR r o).2.1.1, .int .u64 (doR r o).2.1.2], .int .i64 (doR r o).2.2]) ∧ RecOut (From W.heap.size) W' v (doR r o).1) ∧ Below W.heap.size W W'
set_option maxRecDepth 20000 in
theorem Do_any (F : Nat → Prop) (A0 As : Option Addr) (n0 c0 ns cs : Nat) (A : Nat → Option Addr) (n c : Nat → Nat) (r : Rec) (o : EOp) (W : World) (h : RecF F W A0 As n0 c0 ns cs A n c r) (hf : FitR r) (hg : ∀ s ∈ r.sl, 0 ≤ s.2) (hb : 0 ≤ o.b) (hx : U64 o.x.2) :
  Calls Tryz.prog 13 #[.agg (recC r.e r.l.E A0 As n0 c0 ns cs A n c), .agg #[.int .i64 o.k, .int .i64 o.g, .int .u64 o.b, .int .i64 o.x.1, .int .u64 o.x.2]] W (DoRes r o W) := by
 have b1 : Below W.heap.size W ((((W.alloc (.cells #[.slice A0 n0 c0, .int .u64 r.e, .slice As ns cs, .int .u64 (r.l.E : Int), .slice (A 0) (n 0) (c 0), .slice (A 1) (n 1) (c 1), .slice (A 2) (n 2) (c 2)] 34)).alloc (.cells #[.int .i64 o.k, .int .i64 o.g, .int .u64 o.b, .int .i64 o.x.1, .int .u64 o.x.2] 43)).alloc (.cells #[.slice none 0 0, .int .u64 0, .slice none 0 0, .int .u64 0, .slice none 0 0, .slice none 0 0, .slice none 0 0] 34)).alloc (.cells #[.int .i64 0, .int .u64 0] 41)) := ((((Below.refl _ _).alloc (Nat.le_refl _) _).alloc (by simp) _).alloc (by simp; omega) _).alloc (by simp; omega) _
 have al := al4 W #[.slice A0 n0 c0, .int .u64 r.e, .slice As ns cs, .int .u64 (r.l.E : Int), .slice (A 0) (n 0) (c 0), .slice (A 1) (n 1) (c 1), .slice (A 2) (n 2) (c 2)] 34 #[.int .i64 o.k, .int .i64 o.g, .int .u64 o.b, .int .i64 o.x.1, .int .u64 o.x.2] 43 #[.slice none 0 0, .int .u64 0, .slice none 0 0, .int .u64 0, .slice none 0 0, .slice none 0 0, .slice none 0 0] 34 #[.int .i64 0, .int .u64 0] 41
 have R1 := Hi al.1.1
 have R2 := Hi al.1.2.1
 have R3 := Hi al.1.2.2.1
 have R4 := Hi al.1.2.2.2
 clear al
 have HS1 := Hi (show ((((W.alloc (.cells #[.slice A0 n0 c0, .int .u64 r.e, .slice As ns cs, .int .u64 (r.l.E : Int), .slice (A 0) (n 0) (c 0), .slice (A 1) (n 1) (c 1), .slice (A 2) (n 2) (c 2)] 34)).alloc (.cells #[.int .i64 o.k, .int .i64 o.g, .int .u64 o.b, .int .i64 o.x.1, .int .u64 o.x.2] 43)).alloc (.cells #[.slice none 0 0, .int .u64 0, .slice none 0 0, .int .u64 0, .slice none 0 0, .slice none 0 0, .slice none 0 0] 34)).alloc (.cells #[.int .i64 0, .int .u64 0] 41)).heap.size = W.heap.size + 4 from by simp)
 have HB := Hi b1
 have H := Hi (h.below b1)
 have HF := Hi hf
 have HG := Hi hg
 have HOB := Hi hb
 have HOX := Hi hx
 clear b1 h hf hg hb hx
 go_enter Tryz.func13, Tryz.ntmps13
 go_upto_region 1 with (fail)
 generalize (((W.alloc _).alloc _).alloc _).alloc _ = w1 at *
 obtain ⟨q0, q1, q2, q3, q4, q5, q6⟩ := row7 R1.out
 have ql := R1.out.lt
 go_wp2_with fail
 rcases Bool.eq_false_or_eq_true r.ok with ho | ho
 case inr =>
  have HD := Hi (show doR r o = (rec0, (0, 0), 250) from by unfold doR; rw [ho]; rfl)
  with_reducible refine (Check_any F A0 As n0 c0 ns cs A n c r _ H.out HF.out 250 (by rw [ho]; simp)).mono ?_
  rintro e w2 ⟨rfl, hb⟩
  replace R1 := Hi (R1.out.below hb)
  replace R2 := Hi (R2.out.below hb)
  replace R3 := Hi (R3.out.below hb)
  replace R4 := Hi (R4.out.below hb)
  replace H := Hi (H.out.below hb)
  have HSZ := Hi hb.size
  replace HB := bt HB hb
  clear hb
  clear q0 q1 q2 q3 q4 q5 q6 ql
  obtain ⟨y0, y1, y2, y3, y4, y5, y6⟩ := row7 R3.out
  have yl := R3.out.lt
  obtain ⟨yf0, yf1, yf2, yf3, yf4, yf5, yf6⟩ := fz R3.out
  have u0 := row20 R4.out
  have u1 := row21 R4.out
  have ul := R4.out.lt
  have uf0 := R4.out.frozen 0
  have uf1 := R4.out.frozen 1
  go_wp2_with fail
  have hl1 := lp7 w2 (W.heap.size + 1 + 1) (.slice none 0 0) (.int .u64 0) (.slice none 0 0) (.int .u64 0) (.slice none 0 0) (.slice none 0 0) (.slice none 0 0)
  have hl2 : LaidF (W.heap.size + 1 + 1 + 1) (((((((w2.setCell ⟨(W.heap.size + 1 + 1), 0, none⟩ (.slice none 0 0)).setCell ⟨(W.heap.size + 1 + 1), 1, none⟩ (.int .u64 0)).setCell ⟨(W.heap.size + 1 + 1), 2, none⟩ (.slice none 0 0)).setCell ⟨(W.heap.size + 1 + 1), 3, none⟩ (.int .u64 0)).setCell ⟨(W.heap.size + 1 + 1), 4, none⟩ (.slice none 0 0)).setCell ⟨(W.heap.size + 1 + 1), 5, none⟩ (.slice none 0 0)).setCell ⟨(W.heap.size + 1 + 1), 6, none⟩ (.slice none 0 0)) (((((((((w2.setCell ⟨(W.heap.size + 1 + 1), 0, none⟩ (.slice none 0 0)).setCell ⟨(W.heap.size + 1 + 1), 1, none⟩ (.int .u64 0)).setCell ⟨(W.heap.size + 1 + 1), 2, none⟩ (.slice none 0 0)).setCell ⟨(W.heap.size + 1 + 1), 3, none⟩ (.int .u64 0)).setCell ⟨(W.heap.size + 1 + 1), 4, none⟩ (.slice none 0 0)).setCell ⟨(W.heap.size + 1 + 1), 5, none⟩ (.slice none 0 0)).setCell ⟨(W.heap.size + 1 + 1), 6, none⟩ (.slice none 0 0)).setCell ⟨(W.heap.size + 1 + 1 + 1), 0, none⟩ (.int .i64 0)).setCell ⟨(W.heap.size + 1 + 1 + 1), 1, none⟩ (.int .u64 0)) := (((laid0 (W.heap.size + 1 + 1 + 1) _).set 0 (.int .i64 0)).set 1 (.int .u64 0))
  have hr3 : RowAt (((((((((w2.setCell ⟨(W.heap.size + 1 + 1), 0, none⟩ (.slice none 0 0)).setCell ⟨(W.heap.size + 1 + 1), 1, none⟩ (.int .u64 0)).setCell ⟨(W.heap.size + 1 + 1), 2, none⟩ (.slice none 0 0)).setCell ⟨(W.heap.size + 1 + 1), 3, none⟩ (.int .u64 0)).setCell ⟨(W.heap.size + 1 + 1), 4, none⟩ (.slice none 0 0)).setCell ⟨(W.heap.size + 1 + 1), 5, none⟩ (.slice none 0 0)).setCell ⟨(W.heap.size + 1 + 1), 6, none⟩ (.slice none 0 0)).setCell ⟨(W.heap.size + 1 + 1 + 1), 0, none⟩ (.int .i64 0)).setCell ⟨(W.heap.size + 1 + 1 + 1), 1, none⟩ (.int .u64 0)) (W.heap.size + 1 + 1) 34 #[.slice none 0 0, .int .u64 0, .slice none 0 0, .int .u64 0, .slice none 0 0, .slice none 0 0, .slice none 0 0] := (hl2.block _ (by omega)).trans (show RowAt (((((((w2.setCell ⟨(W.heap.size + 1 + 1), 0, none⟩ (.slice none 0 0)).setCell ⟨(W.heap.size + 1 + 1), 1, none⟩ (.int .u64 0)).setCell ⟨(W.heap.size + 1 + 1), 2, none⟩ (.slice none 0 0)).setCell ⟨(W.heap.size + 1 + 1), 3, none⟩ (.int .u64 0)).setCell ⟨(W.heap.size + 1 + 1), 4, none⟩ (.slice none 0 0)).setCell ⟨(W.heap.size + 1 + 1), 5, none⟩ (.slice none 0 0)).setCell ⟨(W.heap.size + 1 + 1), 6, none⟩ (.slice none 0 0)) (W.heap.size + 1 + 1) 34 #[.slice none 0 0, .int .u64 0, .slice none 0 0, .int .u64 0, .slice none 0 0, .slice none 0 0, .slice none 0 0] from by have h := (((((((R3.out.set 0 (.slice none 0 0)).set 1 (.int .u64 0)).set 2 (.slice none 0 0)).set 3 (.int .u64 0)).set 4 (.slice none 0 0)).set 5 (.slice none 0 0)).set 6 (.slice none 0 0)); simpa using h)
  have hr4 : RowAt (((((((((w2.setCell ⟨(W.heap.size + 1 + 1), 0, none⟩ (.slice none 0 0)).setCell ⟨(W.heap.size + 1 + 1), 1, none⟩ (.int .u64 0)).setCell ⟨(W.heap.size + 1 + 1), 2, none⟩ (.slice none 0 0)).setCell ⟨(W.heap.size + 1 + 1), 3, none⟩ (.int .u64 0)).setCell ⟨(W.heap.size + 1 + 1), 4, none⟩ (.slice none 0 0)).setCell ⟨(W.heap.size + 1 + 1), 5, none⟩ (.slice none 0 0)).setCell ⟨(W.heap.size + 1 + 1), 6, none⟩ (.slice none 0 0)).setCell ⟨(W.heap.size + 1 + 1 + 1), 0, none⟩ (.int .i64 0)).setCell ⟨(W.heap.size + 1 + 1 + 1), 1, none⟩ (.int .u64 0)) (W.heap.size + 1 + 1 + 1) 41 #[.int .i64 0, .int .u64 0] := by have h := (((show RowAt (((((((w2.setCell ⟨(W.heap.size + 1 + 1), 0, none⟩ (.slice none 0 0)).setCell ⟨(W.heap.size + 1 + 1), 1, none⟩ (.int .u64 0)).setCell ⟨(W.heap.size + 1 + 1), 2, none⟩ (.slice none 0 0)).setCell ⟨(W.heap.size + 1 + 1), 3, none⟩ (.int .u64 0)).setCell ⟨(W.heap.size + 1 + 1), 4, none⟩ (.slice none 0 0)).setCell ⟨(W.heap.size + 1 + 1), 5, none⟩ (.slice none 0 0)).setCell ⟨(W.heap.size + 1 + 1), 6, none⟩ (.slice none 0 0)) (W.heap.size + 1 + 1 + 1) 41 #[.int .i64 0, .int .u64 0] from (hl1.block _ (by omega)).trans R4.out).set 0 (.int .i64 0)).set 1 (.int .u64 0)); simpa using h
  have hbF : Below W.heap.size W (((((((((w2.setCell ⟨(W.heap.size + 1 + 1), 0, none⟩ (.slice none 0 0)).setCell ⟨(W.heap.size + 1 + 1), 1, none⟩ (.int .u64 0)).setCell ⟨(W.heap.size + 1 + 1), 2, none⟩ (.slice none 0 0)).setCell ⟨(W.heap.size + 1 + 1), 3, none⟩ (.int .u64 0)).setCell ⟨(W.heap.size + 1 + 1), 4, none⟩ (.slice none 0 0)).setCell ⟨(W.heap.size + 1 + 1), 5, none⟩ (.slice none 0 0)).setCell ⟨(W.heap.size + 1 + 1), 6, none⟩ (.slice none 0 0)).setCell ⟨(W.heap.size + 1 + 1 + 1), 0, none⟩ (.int .i64 0)).setCell ⟨(W.heap.size + 1 + 1 + 1), 1, none⟩ (.int .u64 0)) := HB.out.trans ((hl1.below.mono (by omega)).trans (hl2.below.mono (by omega)))
  clear y0 y1 y2 y3 y4 y5 y6 yl
  clear yf0 yf1 yf2 yf3 yf4 yf5 yf6 u0 u1 ul uf0 uf1 hl1 hl2
  generalize World.setCell _ _ _ = wF at *
  obtain ⟨y0, y1, y2, y3, y4, y5, y6⟩ := row7 hr3
  have yl := hr3.lt
  refine bodyPost_ret (v := .tuple #[.agg #[.slice none 0 0, .int .u64 0, .slice none 0 0, .int .u64 0, .slice none 0 0, .slice none 0 0, .slice none 0 0], .agg #[.int .i64 0, .int .u64 0], .int .i64 (250)]) (by simp [results, Tryz.results13, go_sem, y0, y1, y2, y3, y4, y5, y6, yl, row20 hr4, row21 hr4, hr4.lt]) rfl ?_
  exact ⟨⟨.agg #[.slice none 0 0, .int .u64 0, .slice none 0 0, .int .u64 0, .slice none 0 0, .slice none 0 0, .slice none 0 0], by rw [HD.out], by rw [HD.out]; exact zero_rec _ _⟩, hbF⟩
 case inl =>
  have HW := Hi (show WfR r from ⟨ok_iff.1 ho, fun s hs => (HF.out.s s hs).1, HG.out⟩)
  with_reducible refine (Check_any F A0 As n0 c0 ns cs A n c r _ H.out HF.out 0 (by rw [ho]; simp)).mono ?_
  rintro e w2 ⟨rfl, hb⟩
  replace R1 := Hi (R1.out.below hb)
  replace R2 := Hi (R2.out.below hb)
  replace R3 := Hi (R3.out.below hb)
  replace R4 := Hi (R4.out.below hb)
  replace H := Hi (H.out.below hb)
  have HSZ := Hi hb.size
  replace HB := bt HB hb
  clear hb
  clear q0 q1 q2 q3 q4 q5 q6 ql
  clear HSZ
  obtain ⟨q0, q1, q2, q3, q4, q5, q6⟩ := row7 R1.out
  have ql := R1.out.lt
  go_wp2_with fail
  with_reducible refine (own_any F A0 As n0 c0 ns cs A n c r w2 H.out HF.out).mono ?_
  rintro e w3 ⟨⟨gh, rfl, hx⟩, hb⟩
  have HX := Hi (show HandX w3 w2.heap.size gh o00 r [] from by obtain ⟨B0, Bs, m0, d0, ms, ds, B, m, d, hh⟩ := hx; exact ⟨_, _, _, _, _, _, _, _, _, _, _, _, hh⟩)
  have HL2 := Hi (show W.heap.size + 4 ≤ w2.heap.size from by have h1 := R4.out.lt; omega)
  replace R1 := Hi (R1.out.below hb)
  replace R2 := Hi (R2.out.below hb)
  replace R3 := Hi (R3.out.below hb)
  replace R4 := Hi (R4.out.below hb)
  replace H := Hi (H.out.below hb)
  have HSZ := Hi hb.size
  replace HB := bt HB hb
  clear hb
  clear q0 q1 q2 q3 q4 q5 q6 ql
  clear HSZ hx
  obtain ⟨y0, y1, y2, y3, y4⟩ := row5 R2.out
  have yl := R2.out.lt
  go_wp2_with fail
  with_reducible refine (doesX HX.out HW.out o HOB.out HOX.out (by simp)).mono ?_
  rintro e w4 ⟨rfl, hh, hb⟩
  replace R1 := Hi (R1.out.heap (hb.block _ (by have := HL2.out; omega)))
  replace R2 := Hi (R2.out.heap (hb.block _ (by have := HL2.out; omega)))
  replace R3 := Hi (R3.out.heap (hb.block _ (by have := HL2.out; omega)))
  replace R4 := Hi (R4.out.heap (hb.block _ (by have := HL2.out; omega)))
  replace HB := Hi (HB.out.trans (hb.mono (by have := HL2.out; omega)))
  have HH := Hi hh
  clear hb hh y0 y1 y2 y3 y4 yl HX
  cases hs : stepR r [] o with
  | error k =>
   have HD := Hi (show doR r o = (rec0, (0, 0), k) from by unfold doR; rw [ho, hs]; rfl)
   have HK := Hi (step_ne hs)
   have hk : (k == 0) = false := by simpa using HK.out
   have hok : okK (Except.error k) = k := rfl
   rw [hs] at HH
   try rw [hok]
   clear hs
   skip
   obtain ⟨y0, y1, y2, y3, y4, y5, y6⟩ := row7 R3.out
   have yl := R3.out.lt
   obtain ⟨yf0, yf1, yf2, yf3, yf4, yf5, yf6⟩ := fz R3.out
   have u0 := row20 R4.out
   have u1 := row21 R4.out
   have ul := R4.out.lt
   have uf0 := R4.out.frozen 0
   have uf1 := R4.out.frozen 1
   go_wp2_with fail
   have hl1 := lp7 w4 (W.heap.size + 1 + 1) (.slice none 0 0) (.int .u64 0) (.slice none 0 0) (.int .u64 0) (.slice none 0 0) (.slice none 0 0) (.slice none 0 0)
   have hl2 : LaidF (W.heap.size + 1 + 1 + 1) (((((((w4.setCell ⟨(W.heap.size + 1 + 1), 0, none⟩ (.slice none 0 0)).setCell ⟨(W.heap.size + 1 + 1), 1, none⟩ (.int .u64 0)).setCell ⟨(W.heap.size + 1 + 1), 2, none⟩ (.slice none 0 0)).setCell ⟨(W.heap.size + 1 + 1), 3, none⟩ (.int .u64 0)).setCell ⟨(W.heap.size + 1 + 1), 4, none⟩ (.slice none 0 0)).setCell ⟨(W.heap.size + 1 + 1), 5, none⟩ (.slice none 0 0)).setCell ⟨(W.heap.size + 1 + 1), 6, none⟩ (.slice none 0 0)) (((((((((w4.setCell ⟨(W.heap.size + 1 + 1), 0, none⟩ (.slice none 0 0)).setCell ⟨(W.heap.size + 1 + 1), 1, none⟩ (.int .u64 0)).setCell ⟨(W.heap.size + 1 + 1), 2, none⟩ (.slice none 0 0)).setCell ⟨(W.heap.size + 1 + 1), 3, none⟩ (.int .u64 0)).setCell ⟨(W.heap.size + 1 + 1), 4, none⟩ (.slice none 0 0)).setCell ⟨(W.heap.size + 1 + 1), 5, none⟩ (.slice none 0 0)).setCell ⟨(W.heap.size + 1 + 1), 6, none⟩ (.slice none 0 0)).setCell ⟨(W.heap.size + 1 + 1 + 1), 0, none⟩ (.int .i64 0)).setCell ⟨(W.heap.size + 1 + 1 + 1), 1, none⟩ (.int .u64 0)) := (((laid0 (W.heap.size + 1 + 1 + 1) _).set 0 (.int .i64 0)).set 1 (.int .u64 0))
   have hr3 : RowAt (((((((((w4.setCell ⟨(W.heap.size + 1 + 1), 0, none⟩ (.slice none 0 0)).setCell ⟨(W.heap.size + 1 + 1), 1, none⟩ (.int .u64 0)).setCell ⟨(W.heap.size + 1 + 1), 2, none⟩ (.slice none 0 0)).setCell ⟨(W.heap.size + 1 + 1), 3, none⟩ (.int .u64 0)).setCell ⟨(W.heap.size + 1 + 1), 4, none⟩ (.slice none 0 0)).setCell ⟨(W.heap.size + 1 + 1), 5, none⟩ (.slice none 0 0)).setCell ⟨(W.heap.size + 1 + 1), 6, none⟩ (.slice none 0 0)).setCell ⟨(W.heap.size + 1 + 1 + 1), 0, none⟩ (.int .i64 0)).setCell ⟨(W.heap.size + 1 + 1 + 1), 1, none⟩ (.int .u64 0)) (W.heap.size + 1 + 1) 34 #[.slice none 0 0, .int .u64 0, .slice none 0 0, .int .u64 0, .slice none 0 0, .slice none 0 0, .slice none 0 0] := (hl2.block _ (by omega)).trans (show RowAt (((((((w4.setCell ⟨(W.heap.size + 1 + 1), 0, none⟩ (.slice none 0 0)).setCell ⟨(W.heap.size + 1 + 1), 1, none⟩ (.int .u64 0)).setCell ⟨(W.heap.size + 1 + 1), 2, none⟩ (.slice none 0 0)).setCell ⟨(W.heap.size + 1 + 1), 3, none⟩ (.int .u64 0)).setCell ⟨(W.heap.size + 1 + 1), 4, none⟩ (.slice none 0 0)).setCell ⟨(W.heap.size + 1 + 1), 5, none⟩ (.slice none 0 0)).setCell ⟨(W.heap.size + 1 + 1), 6, none⟩ (.slice none 0 0)) (W.heap.size + 1 + 1) 34 #[.slice none 0 0, .int .u64 0, .slice none 0 0, .int .u64 0, .slice none 0 0, .slice none 0 0, .slice none 0 0] from by have h := (((((((R3.out.set 0 (.slice none 0 0)).set 1 (.int .u64 0)).set 2 (.slice none 0 0)).set 3 (.int .u64 0)).set 4 (.slice none 0 0)).set 5 (.slice none 0 0)).set 6 (.slice none 0 0)); simpa using h)
   have hr4 : RowAt (((((((((w4.setCell ⟨(W.heap.size + 1 + 1), 0, none⟩ (.slice none 0 0)).setCell ⟨(W.heap.size + 1 + 1), 1, none⟩ (.int .u64 0)).setCell ⟨(W.heap.size + 1 + 1), 2, none⟩ (.slice none 0 0)).setCell ⟨(W.heap.size + 1 + 1), 3, none⟩ (.int .u64 0)).setCell ⟨(W.heap.size + 1 + 1), 4, none⟩ (.slice none 0 0)).setCell ⟨(W.heap.size + 1 + 1), 5, none⟩ (.slice none 0 0)).setCell ⟨(W.heap.size + 1 + 1), 6, none⟩ (.slice none 0 0)).setCell ⟨(W.heap.size + 1 + 1 + 1), 0, none⟩ (.int .i64 0)).setCell ⟨(W.heap.size + 1 + 1 + 1), 1, none⟩ (.int .u64 0)) (W.heap.size + 1 + 1 + 1) 41 #[.int .i64 0, .int .u64 0] := by have h := (((show RowAt (((((((w4.setCell ⟨(W.heap.size + 1 + 1), 0, none⟩ (.slice none 0 0)).setCell ⟨(W.heap.size + 1 + 1), 1, none⟩ (.int .u64 0)).setCell ⟨(W.heap.size + 1 + 1), 2, none⟩ (.slice none 0 0)).setCell ⟨(W.heap.size + 1 + 1), 3, none⟩ (.int .u64 0)).setCell ⟨(W.heap.size + 1 + 1), 4, none⟩ (.slice none 0 0)).setCell ⟨(W.heap.size + 1 + 1), 5, none⟩ (.slice none 0 0)).setCell ⟨(W.heap.size + 1 + 1), 6, none⟩ (.slice none 0 0)) (W.heap.size + 1 + 1 + 1) 41 #[.int .i64 0, .int .u64 0] from (hl1.block _ (by omega)).trans R4.out).set 0 (.int .i64 0)).set 1 (.int .u64 0)); simpa using h
   have hbF : Below W.heap.size W (((((((((w4.setCell ⟨(W.heap.size + 1 + 1), 0, none⟩ (.slice none 0 0)).setCell ⟨(W.heap.size + 1 + 1), 1, none⟩ (.int .u64 0)).setCell ⟨(W.heap.size + 1 + 1), 2, none⟩ (.slice none 0 0)).setCell ⟨(W.heap.size + 1 + 1), 3, none⟩ (.int .u64 0)).setCell ⟨(W.heap.size + 1 + 1), 4, none⟩ (.slice none 0 0)).setCell ⟨(W.heap.size + 1 + 1), 5, none⟩ (.slice none 0 0)).setCell ⟨(W.heap.size + 1 + 1), 6, none⟩ (.slice none 0 0)).setCell ⟨(W.heap.size + 1 + 1 + 1), 0, none⟩ (.int .i64 0)).setCell ⟨(W.heap.size + 1 + 1 + 1), 1, none⟩ (.int .u64 0)) := HB.out.trans ((hl1.below.mono (by omega)).trans (hl2.below.mono (by omega)))
   clear y0 y1 y2 y3 y4 y5 y6 yl
   clear yf0 yf1 yf2 yf3 yf4 yf5 yf6 u0 u1 ul uf0 uf1 hl1 hl2
   generalize World.setCell _ _ _ = wF at *
   obtain ⟨y0, y1, y2, y3, y4, y5, y6⟩ := row7 hr3
   have yl := hr3.lt
   refine bodyPost_ret (v := .tuple #[.agg #[.slice none 0 0, .int .u64 0, .slice none 0 0, .int .u64 0, .slice none 0 0, .slice none 0 0, .slice none 0 0], .agg #[.int .i64 0, .int .u64 0], .int .i64 (k)]) (by simp [results, Tryz.results13, go_sem, y0, y1, y2, y3, y4, y5, y6, yl, row20 hr4, row21 hr4, hr4.lt]) rfl ?_
   exact ⟨⟨.agg #[.slice none 0 0, .int .u64 0, .slice none 0 0, .int .u64 0, .slice none 0 0, .slice none 0 0, .slice none 0 0], by rw [HD.out], by rw [HD.out]; exact zero_rec _ _⟩, hbF⟩
  | ok x =>
   obtain ⟨r2, t2⟩ := x
   have HD := Hi (show doR r o = (r2, lastT t2, 0) from by unfold doR; rw [ho, hs]; rfl)
   have HTL := Hi (show t2.length ≤ 1 from by rcases step_told HW.out HOB.out hs with h | ⟨y, h⟩ <;> rw [h] <;> simp)
   rw [hs] at HH
   obtain ⟨o3, B0, Bs, m0, d0, ms, ds, B, m, d, At, nt, ct, hh⟩ := HH.out
   have HN := Hi (show t2.length = nt from hh.len)
   replace HH := Hi (show HandR w4 w2.heap.size gh B0 Bs m0 d0 ms ds B m d o3 At nt ct r2 t2 from hh)
   clear hh hs
   have hok : okK (Except.ok (r2, t2)) = 0 := rfl
   try rw [hok]
   have hGH := HH.out.row.lt
   have HAT := Hi (fun (q : Addr) (hq : At = some q) => (told_lt HH.out.own q hq).2)
   go_upto_region 9 with (fail)
   have hb := ba w4 (.cells #[.int .i64 0, .int .u64 0] 41)
   have RT := Hi (RowAt.new w4 41 #[.int .i64 0, .int .u64 0])
   replace R3 := Hi (R3.out.below hb)
   replace R4 := Hi (R4.out.below hb)
   have HAP := Hi ((HH.out.all.up (G := fun j => OffB w2.heap.size gh At j ∧ j ≠ w4.heap.size) (fun j hj hl => ⟨hj, by omega⟩)).below hb)
   replace HH := Hi (HH.out.below hb)
   have HL4 := Hi (show gh < w4.heap.size from by have := HH.out.row; exact hGH)
   replace HB := bt HB hb
   obtain ⟨gt, hgt⟩ : ∃ gt, w4.heap.size = gt := ⟨_, rfl⟩
   have HGT := Hi hgt
   rw [hgt] at RT HL4 HAT HAP ⊢
   have HS5 := Hi (show (w4.alloc (.cells #[.int .i64 0, .int .u64 0] 41)).heap.size = gt + 1 from by rw [World.size_alloc, hgt])
   generalize w4.alloc _ = w5 at *
   clear hb hgt
   obtain ⟨z0, z1, z2, z3, z4, z5, z6, z7, z8, z9, z10, z11, z12⟩ := row13 HH.out.row
   have zl := HH.out.row.lt
   have HT5 := Hi (show ∀ q, At = some q → q.block ≠ gt from fun q hq => by have := HAT.out q hq; omega)
   go_upto_region 10 with (fail)
   clear z0 z1 z2 z3 z4 z5 z6 z7 z8 z9 z10 z11 z12 zl
   have hnt : nt ≤ 1 := by have := HTL.out; have := HN.out; omega
   go_loopw [35] (fun i wr => ∃ (k : Nat), k ≤ nt ∧ i = .int .i64 (k : Int) ∧ Below gt w5 wr ∧ StayF (fun j => j ≠ gt) w5 wr ∧ RowAt wr gt 41 #[.int .i64 (lastT (t2.take k)).1, .int .u64 (lastT (t2.take k)).2]) (fun i _ => nt - (intOf i).toNat)
   case atStart => exact ⟨0, Nat.zero_le _, rfl, Below.refl _ _, StayF.refl _ _, RT.out⟩
   case round =>
    obtain ⟨k, hk, rfl, hbw, hst, hrt⟩ := hrel
    have HBW := Hi hbw
    have HST := Hi hst
    have hgn : gh ≠ gt := by have := HL4.out; omega
    have HHW := Hi (HH.out.laid hst hgn (fun q hq => HT5.out q hq) HAP.out)
    have HRT := Hi hrt
    clear hbw hst hrt
    by_cases hlt : k < nt
    ·
     have hki : (k : Int) < (nt : Int) := by omega
     obtain ⟨b, q, hAt, hbl, d0, d1⟩ := Rd.ent (Rd.of_own HHW.out.own) HHW.out.len hlt
     have hkl : k < t2.length := by rw [HN.out]; exact hlt
     have hx : lastT (t2.take (k + 1)) = t2.getD k (0, 0) := by unfold lastT; rw [List.take_succ_eq_append_getElem hkl, List.getLastD_eq_getLast?, List.getLast?_append]; simp [List.getD_eq_getElem?_getD, List.getElem?_eq_getElem hkl]
     have hbt : b ≠ gt := by have := HT5.out ⟨b, q, none⟩ hAt; exact this
     obtain ⟨x, hxx⟩ : ∃ x, t2.getD k (0, 0) = x := ⟨_, rfl⟩
     rw [hxx] at hx d0 d1
     have hba := ba wr (.cells #[.int .i64 x.1, .int .u64 x.2] 41)
     have hrt2 := HRT.out.below hba
     have g0 := row20 hrt2
     have g1 := row21 hrt2
     have gf0 := hrt2.frozen 0
     have gf1 := hrt2.frozen 1
     have gl := hrt2.lt
     have HLD := Hi (show LaidF gt (wr.alloc (.cells #[.int .i64 x.1, .int .u64 x.2] 41)) (((wr.alloc (.cells #[.int .i64 x.1, .int .u64 x.2] 41)).setCell ⟨gt, 0, none⟩ (.int .i64 x.1)).setCell ⟨gt, 1, none⟩ (.int .u64 x.2)) from (((laid0 gt _).set 0 (.int .i64 x.1)).set 1 (.int .u64 x.2)))
     have HR2 := Hi (show RowAt (((wr.alloc (.cells #[.int .i64 x.1, .int .u64 x.2] 41)).setCell ⟨gt, 0, none⟩ (.int .i64 x.1)).setCell ⟨gt, 1, none⟩ (.int .u64 x.2)) gt 41 #[.int .i64 x.1, .int .u64 x.2] from by have h := ((hrt2.set 0 (.int .i64 x.1)).set 1 (.int .u64 x.2)); simpa using h)
     have HSA := Hi (HST.out.trans (StayF.of_below hba))
     have HBA := Hi (HBW.out.trans (hba.mono HBW.out.size |>.mono (by have := HS5.out; omega)))
     have HX := Hi hx
     clear hba hrt2 hx hxx hkl
     have HK := Hi hlt
     clear hk
     subst hAt
     go_wp2_with fail
     generalize ((wr.alloc _).setCell _ _).setCell _ _ = w7 at *
     clear g0 g1 gf0 gf1 gl d0 d1 hbl
     go_roundw
     case rel => exact ⟨k + 1, HK.out, by go_num, HBA.out.trans HLD.out.below, HSA.out.trans ⟨HLD.out.size, fun j hj _ => HLD.out.block j hj⟩, by rw [HX.out]; exact HR2.out⟩
     case measure => have := HK.out; simp [intOf]; omega
    ·
     have hkn : nt = k := by omega
     subst hkn
     have HFL := Hi (show t2.take nt = t2 from by rw [← HN.out, List.take_length])
     obtain ⟨x, hxx⟩ : ∃ x, lastT t2 = x := ⟨_, rfl⟩
     replace HRT := Hi (show RowAt wr gt 41 #[.int .i64 x.1, .int .u64 x.2] from by have h := HRT.out; rw [HFL.out, hxx] at h; exact h)
     have HBR := Hi (show Below w4.heap.size w5 wr from HBW.out.mono (Nat.le_of_eq HGT.out))
     replace HB := Hi (HB.out.trans (HBR.out.mono (by have := HL2.out; have := HHW.out.lo; have := HL4.out; have := HGT.out; omega)))
     replace R3 := Hi (R3.out.heap (HBR.out.block _ (by have := HL2.out; have := HHW.out.lo; have := HL4.out; have := HGT.out; omega)))
     replace R4 := Hi (R4.out.heap (HBR.out.block _ (by have := HL2.out; have := HHW.out.lo; have := HL4.out; have := HGT.out; omega)))
     go_upto_region 14 with (fail)
     have HSX := Hi (fun (wX : World) (hgX : StayF (fun j => j ≠ (W.heap.size + 1 + 1) ∧ j ≠ (W.heap.size + 1 + 1 + 1)) wr wX) => show wX.cell? ⟨gh, 0, none⟩ = some (.slice B0 m0 d0) ∧ wX.cell? ⟨gh, 1, none⟩ = some (.int .u64 r2.e) ∧ wX.cell? ⟨gh, 2, none⟩ = some (.slice Bs ms ds) ∧ wX.cell? ⟨gh, 3, none⟩ = some (.int .u64 (r2.l.E : Int)) ∧ wX.cell? ⟨gh, 4, none⟩ = some (.slice (B 0) (m 0) (d 0)) ∧ wX.cell? ⟨gh, 5, none⟩ = some (.slice (B 1) (m 1) (d 1)) ∧ wX.cell? ⟨gh, 6, none⟩ = some (.slice (B 2) (m 2) (d 2)) ∧ wX.cell? ⟨gt, 0, none⟩ = some (.int .i64 x.1) ∧ wX.cell? ⟨gt, 1, none⟩ = some (.int .u64 x.2) ∧ gt < wX.heap.size ∧ gh < wX.heap.size from by
      obtain ⟨z0, z1, z2, z3, z4, z5, z6, z7, z8, z9, z10, z11, z12⟩ := row13 HHW.out.row
      have hkg : ∀ j, gh ≤ j → j < wr.heap.size → wX.heap[j]? = wr.heap[j]? := fun j h1 h2 => hgX.2 j (⟨by have := HHW.out.lo; have := HL2.out; omega, by have := HHW.out.lo; have := HL2.out; omega⟩) h2
      have hk : ∀ j v, wr.cell? ⟨gh, j, none⟩ = some v → wX.cell? ⟨gh, j, none⟩ = some v := fun j v h => (cell_of_heap (hkg gh (Nat.le_refl _) HHW.out.row.lt)).trans h
      have hk2 : ∀ j v, wr.cell? ⟨gt, j, none⟩ = some v → wX.cell? ⟨gt, j, none⟩ = some v := fun j v h => (cell_of_heap (hkg gt (by have := HL4.out; omega) HRT.out.lt)).trans h
      exact ⟨hk _ _ z0, hk _ _ z1, hk _ _ z2, hk _ _ z3, hk _ _ z4, hk _ _ z5, hk _ _ z6, hk2 _ _ (row20 HRT.out), hk2 _ _ (row21 HRT.out), Nat.lt_of_lt_of_le HRT.out.lt hgX.1, Nat.lt_of_lt_of_le HHW.out.row.lt hgX.1⟩)
     have HBD := Hi (Below.refl wr.heap.size wr).drew
     have HSD := Hi (show StayF (fun j => j ≠ (W.heap.size + 1 + 1) ∧ j ≠ (W.heap.size + 1 + 1 + 1)) wr wr.drew from StayF.of_below HBD.out)
     have D3 := Hi (R3.out.below HBD.out)
     have D4 := Hi (R4.out.below HBD.out)
     have HHD := Hi (HHW.out.below HBD.out)
     replace HB := Hi (HB.out.trans (HBD.out.mono HB.out.size))
     refine wp_region_held_drew (S := fun wX => wX.cell? ⟨gh, 0, none⟩ = some (.slice B0 m0 d0) ∧ wX.cell? ⟨gh, 1, none⟩ = some (.int .u64 r2.e) ∧ wX.cell? ⟨gh, 2, none⟩ = some (.slice Bs ms ds) ∧ wX.cell? ⟨gh, 3, none⟩ = some (.int .u64 (r2.l.E : Int)) ∧ wX.cell? ⟨gh, 4, none⟩ = some (.slice (B 0) (m 0) (d 0)) ∧ wX.cell? ⟨gh, 5, none⟩ = some (.slice (B 1) (m 1) (d 1)) ∧ wX.cell? ⟨gh, 6, none⟩ = some (.slice (B 2) (m 2) (d 2)) ∧ wX.cell? ⟨gt, 0, none⟩ = some (.int .i64 x.1) ∧ wX.cell? ⟨gt, 1, none⟩ = some (.int .u64 x.2) ∧ gt < wX.heap.size ∧ gh < wX.heap.size) (by kernel_rfl) (HSX.out _ HSD.out) (fun hHeld => ?_)
     clear hHeld
     have hS0 := HSX.out _ HSD.out
     generalize wr.drew = wd at *
     refine tkI (i := 0) rfl ?_
     refine tkI (i := 1) rfl ?_
     refine tkI (i := 2) rfl ?_
     refine tkI (i := 3) rfl ?_
     refine tkI (i := 4) rfl ?_
     refine ryH (i := 5) rfl (fun K0 hK0 => ?_)
     obtain ⟨y0, y1, y2, y3, y4, y5, y6⟩ := row7 D3.out
     have yl := D3.out.lt
     obtain ⟨yf0, yf1, yf2, yf3, yf4, yf5, yf6⟩ := fz D3.out
     go_simp
     have hl1 := lp7 wd (W.heap.size + 1 + 1) (.slice B0 m0 d0) (.int .u64 r2.e) (.slice Bs ms ds) (.int .u64 (r2.l.E : Int)) (.slice (B 0) (m 0) (d 0)) (.slice (B 1) (m 1) (d 1)) (.slice (B 2) (m 2) (d 2))
     have hr3 := rp7 D3.out (.slice B0 m0 d0) (.int .u64 r2.e) (.slice Bs ms ds) (.int .u64 (r2.l.E : Int)) (.slice (B 0) (m 0) (d 0)) (.slice (B 1) (m 1) (d 1)) (.slice (B 2) (m 2) (d 2))
     have HS1 := Hi (HSD.out.trans (hl1.stay (fun h => h.1 rfl)))
     have D4b := Hi (show RowAt (((((((wd.setCell ⟨(W.heap.size + 1 + 1), 0, none⟩ (.slice B0 m0 d0)).setCell ⟨(W.heap.size + 1 + 1), 1, none⟩ (.int .u64 r2.e)).setCell ⟨(W.heap.size + 1 + 1), 2, none⟩ (.slice Bs ms ds)).setCell ⟨(W.heap.size + 1 + 1), 3, none⟩ (.int .u64 (r2.l.E : Int))).setCell ⟨(W.heap.size + 1 + 1), 4, none⟩ (.slice (B 0) (m 0) (d 0))).setCell ⟨(W.heap.size + 1 + 1), 5, none⟩ (.slice (B 1) (m 1) (d 1))).setCell ⟨(W.heap.size + 1 + 1), 6, none⟩ (.slice (B 2) (m 2) (d 2))) (W.heap.size + 1 + 1 + 1) 41 #[.int .i64 0, .int .u64 0] from (hl1.block _ (by omega)).trans D4.out)
     have HL1 := Hi hl1
     have HR3 := Hi hr3
     clear hl1 hr3 hS0 yl y0 yf0 y1 yf1 y2 yf2 y3 yf3 y4 yf4 y5 yf5 y6 yf6
     generalize World.setCell _ _ _ = w8 at *
     have hS0 := HSX.out _ HS1.out
     refine hK0.out _ _ hS0 (fun _ => wnH ?_)
     clear hK0 K0
     refine ryH (i := 6) rfl (fun K1 hK1 => ?_)
     have u0 := row20 D4b.out
     have u1 := row21 D4b.out
     have ul := D4b.out.lt
     have uf0 := D4b.out.frozen 0
     have uf1 := D4b.out.frozen 1
     go_simp
     have hl2 : LaidF (W.heap.size + 1 + 1 + 1) w8 ((w8.setCell ⟨(W.heap.size + 1 + 1 + 1), 0, none⟩ (.int .i64 x.1)).setCell ⟨(W.heap.size + 1 + 1 + 1), 1, none⟩ (.int .u64 x.2)) := (((laid0 (W.heap.size + 1 + 1 + 1) _).set 0 (.int .i64 x.1)).set 1 (.int .u64 x.2))
     have hr4 : RowAt ((w8.setCell ⟨(W.heap.size + 1 + 1 + 1), 0, none⟩ (.int .i64 x.1)).setCell ⟨(W.heap.size + 1 + 1 + 1), 1, none⟩ (.int .u64 x.2)) (W.heap.size + 1 + 1 + 1) 41 #[.int .i64 x.1, .int .u64 x.2] := by have h := ((D4b.out.set 0 (.int .i64 x.1)).set 1 (.int .u64 x.2)); simpa using h
     have HS2 := Hi (HS1.out.trans (hl2.stay (fun h => h.2 rfl)))
     have HR3b := Hi (show RowAt ((w8.setCell ⟨(W.heap.size + 1 + 1 + 1), 0, none⟩ (.int .i64 x.1)).setCell ⟨(W.heap.size + 1 + 1 + 1), 1, none⟩ (.int .u64 x.2)) (W.heap.size + 1 + 1) 34 #[.slice B0 m0 d0, .int .u64 r2.e, .slice Bs ms ds, .int .u64 (r2.l.E : Int), .slice (B 0) (m 0) (d 0), .slice (B 1) (m 1) (d 1), .slice (B 2) (m 2) (d 2)] from (hl2.block _ (by omega)).trans HR3.out)
     have HL9 := Hi hl2
     have HR4 := Hi hr4
     clear hl2 hr4 hS0 ul u0 u1 uf0 uf1
     generalize (w8.setCell _ _).setCell _ _ = w9 at *
     have hS0 := HSX.out _ HS2.out
     refine hK1.out _ _ hS0 (fun _ => wnH ?_)
     clear hK1 K1
     refine ryH (i := 7) rfl (fun K2 hK2 => ?_)
     go_simp
     refine hK2.out _ _ hS0 (fun _ => wnH ?_)
     clear hK2 K2
     refine wpAnyH_done (by kernel_rfl) ?_ _
     obtain ⟨y0, y1, y2, y3, y4, y5, y6⟩ := row7 HR3b.out
     have yl := HR3b.out.lt
     go_wp2_with fail
     refine bodyPost_ret (v := .tuple #[.agg #[.slice B0 m0 d0, .int .u64 r2.e, .slice Bs ms ds, .int .u64 (r2.l.E : Int), .slice (B 0) (m 0) (d 0), .slice (B 1) (m 1) (d 1), .slice (B 2) (m 2) (d 2)], .agg #[.int .i64 x.1, .int .u64 x.2], .int .i64 0]) (by simp [results, Tryz.results13, go_sem, y0, y1, y2, y3, y4, y5, y6, yl, row20 HR4.out, row21 HR4.out, HR4.out.lt]) rfl ?_
     refine ⟨⟨.agg #[.slice B0 m0 d0, .int .u64 r2.e, .slice Bs ms ds, .int .u64 (r2.l.E : Int), .slice (B 0) (m 0) (d 0), .slice (B 1) (m 1) (d 1), .slice (B 2) (m 2) (d 2)], by rw [HD.out, ← hxx], ?_⟩, HB.out.trans ((HL1.out.below.mono (by omega)).trans (HL9.out.below.mono (by omega)))⟩
     rw [HD.out]
     exact ⟨_, _, _, _, _, _, _, _, _, rfl, ((HHD.out.all.up (G := fun j => w2.heap.size ≤ j) (fun j hj _ => hj.1)).stay ((StayF.less (F := fun j => j ≠ _) ⟨HL1.out.size, fun j hj _ => HL1.out.block j hj⟩ (fun j (hj : w2.heap.size ≤ j) _ => by have := HL2.out; omega)).trans (StayF.less (F := fun j => j ≠ _) ⟨HL9.out.size, fun j hj _ => HL9.out.block j hj⟩ (fun j (hj : w2.heap.size ≤ j) _ => by have := HL2.out; omega)))).up (fun j hj _ => by have := HL2.out; have hj : w2.heap.size ≤ j := hj; show W.heap.size ≤ j; omega)⟩
theorem least (p : Nat → Prop) : ∀ n, p n → ∃ k, p k ∧ ∀ m, p m → k ≤ m := by
 intro n
 induction n using Nat.strongRecOn with
 | _ n ih =>
  intro h
  by_cases h2 : ∃ m, m < n ∧ p m
  ·
   obtain ⟨m, h3, h4⟩ := h2
   exact ih m h3 h4
  · exact ⟨n, h, fun m hm => Nat.le_of_not_lt (fun h3 => h2 ⟨m, h3, hm⟩)⟩
theorem wp_scope_rank {P : Program} {a : Act} {w : World} {Q : Exit → Act → World → Prop} {c rest : Code} (l : Nat) (J : Nat → Act → World → Prop) (hf : findLabel c l = some (Code.skip.seq rest))
  (pass : ∀ n a w, J n a w → rest.wp P (Exit.jump l (fun a' w' => ∃ m, m < n ∧ J m a' w') Q) a w)
  (first : (∀ n a w, J n a w → rest.wp P (Exit.jump l (fun a' w' => ∃ m, J m a' w') Q) a w) → c.wp P (Exit.jump l (fun a' w' => ∃ m, J m a' w') Q) a w) : (Code.scope c).wp P Q a w := by
 classical
 have hμ : ∀ a w, ∃ k : Nat, (∃ n, J n a w) → (J k a w ∧ ∀ m, J m a w → k ≤ m) := fun a w => by
  by_cases h : ∃ n, J n a w
  ·
   obtain ⟨n, hn⟩ := h
   obtain ⟨k, h1, h2⟩ := least (fun n => J n a w) n hn
   exact ⟨k, fun _ => ⟨h1, h2⟩⟩
  · exact ⟨0, fun h2 => absurd h2 h⟩
 refine wp_scope_jumps l (fun a w => ∃ n, J n a w) (fun a w => (hμ a w).choose) hf (first fun n a w hJ => Code.wp_mono (fun e a' w' h => by
  cases e with
  | goto t => exact ⟨h.1, by obtain ⟨m, _, hm⟩ := h.2; exact ⟨m, hm⟩⟩
  | _ => exact h) (pass n a w hJ)) (fun a w hJ => wp_seq (wp_skip ?_))
 have hs := (hμ a w).choose_spec hJ
 refine Code.wp_mono (fun e a' w' h => ?_) (pass _ a w hs.1)
 cases e with
 | goto t =>
  refine ⟨h.1, ?_⟩
  obtain ⟨m, h1, h2⟩ := h.2
  exact ⟨⟨m, h2⟩, Nat.lt_of_le_of_lt (((hμ a' w').choose_spec ⟨m, h2⟩).2 m h2) h1⟩
 | _ => exact h
def TriesRes (gh base : Nat) (res : Rec × List Ent × Bool) (W : World) (e : Ending) (W' : World) : Prop :=
 e = .returned (.bool res.2.2) ∧ (∃ o3, HandX W' base gh o3 res.1 res.2.1) ∧ WfR res.1 ∧ Below base W W'
structure TryS (gh base : Nat) (res : Rec × List Ent × Bool) (W : World) (b : Bool) (r : Rec) (t : List Ent) (n : Nat) (w : World) : Prop where
 hand : ∃ o, HandX w base gh o r t
 wf : WfR r
 cont : contR b r t = res
 len : t.length + r.l.held.length ≤ 1000000
 rank : r.l.held.length + (if b = true then 0 else 1) = n
 below : Below base W w
theorem TryS.le {gh base : Nat} {res : Rec × List Ent × Bool} {W : World} {b : Bool} {r : Rec} {t : List Ent} {n : Nat} {w : World} (h : TryS gh base res W b r t n w) : base ≤ w.heap.size := by
 obtain ⟨o, A0, As, n0, c0, ns, cs, A, n, c, At, nt, ct, hh⟩ := h.hand
 exact Nat.le_trans hh.lo (Nat.le_of_lt hh.row.lt)
def TryJ (gh base : Nat) (res : Rec × List Ent × Bool) (W : World) (n : Nat) (a : Act) (w : World) : Prop :=
 ∃ (u1 u2 u4 u5 u6 u7 u8 u9 u10 u11 u12 u13 u14 u15 : Value) (b : Bool) (r : Rec) (t : List Ent), a = { tmps := #[.pointer (some ⟨gh, 0, none⟩), u1, u2, .bool b, u4, u5, u6, u7, u8, u9, u10, u11, u12, u13, u14, u15], defers := [] } ∧ TryS gh base res W b r t n w
theorem HandX.len {w : World} {base gh : Nat} {o : EOp} {r : Rec} {t : List Ent} (h : HandX w base gh o r t) : True := trivial
theorem tries_any (base gh : Nat) (o0 : EOp) (r : Rec) (told : List Ent) (W : World) (h : HandX W base gh o0 r told) (hw : WfR r) (hl : told.length + r.l.held.length ≤ 1000000) (res : Rec × List Ent × Bool) (hres : triesR r told = res) :
  Calls Tryz.prog 59 #[.pointer (some ⟨gh, 0, none⟩)] W (TriesRes gh base res W) := by
 have HS := Hi (show TryS gh base res W false r told (r.l.held.length + 1) W from ⟨⟨o0, h⟩, hw, hres, hl, rfl, Below.refl _ _⟩)
 clear h hw hl hres
 go_enter Tryz.func59, Tryz.ntmps59
 go_wp2_with fail
 refine wp_scope_rank 0 (TryJ gh base res W) rfl ?pass ?first
 case first =>
  intro HP
  go_wp2_with fail
  go_step3
  simp only [Exit.then]
  rename_i hK
  refine hK _ _ (HP (r.l.held.length + 1) _ _ ?_)
  exact ⟨_, _, _, _, _, _, _, _, _, _, _, _, _, _, _, _, _, rfl, HS.out⟩
 case pass =>
  rintro n a' w' ⟨u1, u2, u4, u5, u6, u7, u8, u9, u10, u11, u12, u13, u14, u15, b, r1, t1, rfl, hs⟩
  have HJ := Hi hs
  have HLT := Hi (show (t1.length : Int) ≤ 1000000 from by have := hs.len; omega)
  obtain ⟨o1, hh⟩ := hs.hand
  have HF := Hi (show Calls Tryz.prog 48 #[.pointer (some ⟨gh, 0, none⟩), .agg #[.int .i64 6, .int .i64 0, .int .u64 0, .int .i64 0, .int .u64 0]] w' (DoesX gh base r1 t1 oFree w') from doesX hh hs.wf oFree (Int.le_refl _) ⟨Int.le_refl _, by decide⟩ HLT.out)
  clear hs hh
  go_wp2_with fail
  with_reducible refine HF.out.mono ?_
  rintro e w2 ⟨rfl, hh, hb⟩
  have HH := Hi hh
  have HB := Hi (HJ.out.below.trans hb)
  have HLE := Hi (Nat.le_trans HJ.out.le hb.size)
  clear hh hb HF
  rw [step_free] at HH ⊢
  cases hfr : freeR r1 t1 with
  | ok x =>
   obtain ⟨r2, t2⟩ := x
   rw [hfr] at HH
   have HN := Hi (show TryS gh base res W b r2 t2 (r2.l.held.length + (if b = true then 0 else 1)) w2 from ⟨HH.out, (wf_free HJ.out.wf hfr).1, (contR_free HJ.out.wf hfr).symm.trans HJ.out.cont, by have h1 := free_held HJ.out.wf hfr; have := HJ.out.len; omega, rfl, HB.out⟩)
   have HR := Hi (show r2.l.held.length + (if b = true then 0 else 1) < n from by have h1 := (free_held HJ.out.wf hfr).1; have h2 := HJ.out.rank; omega)
   have hok : okK (Except.ok (r2, t2)) = 0 := rfl
   try rw [hok]
   clear HH hfr
   go_wp2_with fail
   go_step3
   exact ⟨rfl, _, HR.out, _, _, _, _, _, _, _, _, _, _, _, _, _, _, _, _, _, rfl, HN.out⟩
  | error k =>
   rw [hfr] at HH
   have HFR := Hi hfr
   have HK := Hi (free_ne hfr)
   have hk : (k == 0) = false := by simpa using HK.out
   have hok : okK (Except.error k) = k := rfl
   try rw [hok]
   clear hfr
   cases b with
   | true =>
    go_wp2_with fail
    go_ret
    have hc := HJ.out.cont
    rw [contR_end HFR.out] at hc
    subst hc
    exact ⟨rfl, HH.out, HJ.out.wf, HB.out⟩
   | false =>
    obtain ⟨o2, hh⟩ := HH.out
    have HF := Hi (show Calls Tryz.prog 48 #[.pointer (some ⟨gh, 0, none⟩), .agg #[.int .i64 7, .int .i64 0, .int .u64 0, .int .i64 0, .int .u64 0]] w2 (DoesX gh base r1 t1 oGo w2) from doesX hh HJ.out.wf oGo (Int.le_refl _) ⟨Int.le_refl _, by decide⟩ HLT.out)
    clear hh
    go_wp2_with fail
    with_reducible refine HF.out.mono ?_
    rintro e w3 ⟨rfl, hh, hb⟩
    have HH2 := Hi hh
    have HB2 := Hi (HB.out.trans hb)
    clear hh hb HF HH
    rw [step_go] at HH2 ⊢
    cases hgo : goR r1 t1 oGo with
    | ok x =>
     obtain ⟨r2, t2⟩ := x
     rw [hgo] at HH2
     obtain ⟨g1, g2, _⟩ := go_held HJ.out.wf hgo
     have HN := Hi (show TryS gh base res W true r2 t2 r2.l.held.length w3 from ⟨HH2.out, wf_go HJ.out.wf hgo, (contR_go HFR.out hgo).symm.trans HJ.out.cont, by rw [g1, g2]; exact HJ.out.len, rfl, HB2.out⟩)
     have HR := Hi (show r2.l.held.length < n from by rw [g1]; have h2 := HJ.out.rank; simp at h2; omega)
     have hok2 : okK (Except.ok (r2, t2)) = 0 := rfl
     try rw [hok2]
     clear HH2 hgo g1 g2
     go_wp2_with fail
     go_step3
     exact ⟨rfl, _, HR.out, _, _, _, _, _, _, _, _, _, _, _, _, _, _, _, _, _, rfl, HN.out⟩
    | error k2 =>
     rw [hgo] at HH2
     have HK2 := Hi (go_ne hgo)
     have hk2 : (k2 == 0) = false := by simpa using HK2.out
     have hok2 : okK (Except.error k2) = k2 := rfl
     try rw [hok2]
     have hc := HJ.out.cont
     rw [contR_stay HFR.out hgo] at hc
     have HC := Hi hc
     clear hgo hc
     go_wp2_with fail
     go_ret
     have hc := HC.out
     subst hc
     exact ⟨rfl, HH2.out, HJ.out.wf, HB2.out⟩
theorem own_back {w w' : World} {base b : Nat} {e : TypeId} {sz n : Nat} {v : Value} {xs : List Value} (h : w.ownsRow base e sz v n xs) (hk : ∀ j, base ≤ j → j < w.heap.size → w'.heap[j]? = w.heap[j]?) (hb : b ≤ base) : w'.ownsRow b e sz v n xs :=
 own_lo (own_kept h (fun g hg hl => hk g (own_typ h hg).1 hl)) hb
def TryRes (r : Rec) (W : World) (e : Ending) (W' : World) : Prop :=
 (∃ v At nt ct, e = .returned (.tuple #[v, .slice At nt ct, .bool (tryR r).2.2.1, .int .i64 (tryR r).2.2.2]) ∧ RecOut (From W.heap.size) W' v (tryR r).1 ∧ W'.ownsRow W.heap.size 41 2 (.slice At nt ct) nt (Cs encE (tryR r).2.1) ∧ (tryR r).2.1.length = nt) ∧ Below W.heap.size W W'
def SetRes (r : Rec) (W : World) (e : Ending) (W' : World) : Prop :=
 (∃ v At nt ct, e = .returned (.tuple #[v, .slice At nt ct, .int .i64 (setR r).2.2]) ∧ RecOut (From W.heap.size) W' v (setR r).1 ∧ W'.ownsRow W.heap.size 41 2 (.slice At nt ct) nt (Cs encE (setR r).2.1) ∧ (setR r).2.1.length = nt) ∧ Below W.heap.size W W'
set_option maxRecDepth 20000 in
theorem Try_any (F : Nat → Prop) (A0 As : Option Addr) (n0 c0 ns cs : Nat) (A : Nat → Option Addr) (n c : Nat → Nat) (r : Rec) (W : World) (h : RecF F W A0 As n0 c0 ns cs A n c r) (hf : FitR r) (hg : ∀ s ∈ r.sl, 0 ≤ s.2) :
  Calls Tryz.prog 24 #[.agg (recC r.e r.l.E A0 As n0 c0 ns cs A n c)] W (TryRes r W) := by
 have b1 : Below W.heap.size W ((W.alloc (.cells #[.slice A0 n0 c0, .int .u64 r.e, .slice As ns cs, .int .u64 (r.l.E : Int), .slice (A 0) (n 0) (c 0), .slice (A 1) (n 1) (c 1), .slice (A 2) (n 2) (c 2)] 34)).alloc (.cells #[.slice none 0 0, .int .u64 0, .slice none 0 0, .int .u64 0, .slice none 0 0, .slice none 0 0, .slice none 0 0] 34)) := ((Below.refl _ _).alloc (Nat.le_refl _) _).alloc (by simp) _
 have al := al2 W #[.slice A0 n0 c0, .int .u64 r.e, .slice As ns cs, .int .u64 (r.l.E : Int), .slice (A 0) (n 0) (c 0), .slice (A 1) (n 1) (c 1), .slice (A 2) (n 2) (c 2)] 34 #[.slice none 0 0, .int .u64 0, .slice none 0 0, .int .u64 0, .slice none 0 0, .slice none 0 0, .slice none 0 0] 34
 have R1 := Hi al.1.1
 have R3 := Hi al.1.2
 clear al
 have HS1 := Hi (show ((W.alloc (.cells #[.slice A0 n0 c0, .int .u64 r.e, .slice As ns cs, .int .u64 (r.l.E : Int), .slice (A 0) (n 0) (c 0), .slice (A 1) (n 1) (c 1), .slice (A 2) (n 2) (c 2)] 34)).alloc (.cells #[.slice none 0 0, .int .u64 0, .slice none 0 0, .int .u64 0, .slice none 0 0, .slice none 0 0, .slice none 0 0] 34)).heap.size = W.heap.size + 2 from by simp)
 have HB := Hi b1
 have H := Hi (h.below b1)
 have HF := Hi hf
 have HG := Hi hg
 clear b1 h hf hg
 go_enter Tryz.func24, Tryz.ntmps24
 go_upto_region 1 with (fail)
 generalize (W.alloc _).alloc _ = w1 at *
 obtain ⟨q0, q1, q2, q3, q4, q5, q6⟩ := row7 R1.out
 have ql := R1.out.lt
 go_wp2_with fail
 rcases Bool.eq_false_or_eq_true r.ok with ho | ho
 case inr =>
  have HD := Hi (show tryR r = (rec0, [], false, 250) from by unfold tryR; rw [ho]; rfl)
  with_reducible refine (Check_any F A0 As n0 c0 ns cs A n c r _ H.out HF.out 250 (by rw [ho]; simp)).mono ?_
  rintro e w2 ⟨rfl, hb⟩
  replace R1 := Hi (R1.out.below hb)
  replace R3 := Hi (R3.out.below hb)
  replace H := Hi (H.out.below hb)
  replace HB := bt HB hb
  clear hb
  clear q0 q1 q2 q3 q4 q5 q6 ql
  obtain ⟨y0, y1, y2, y3, y4, y5, y6⟩ := row7 R3.out
  have yl := R3.out.lt
  obtain ⟨yf0, yf1, yf2, yf3, yf4, yf5, yf6⟩ := fz R3.out
  go_wp2_with fail
  have hl1 := lp7 w2 (W.heap.size + 1) (.slice none 0 0) (.int .u64 0) (.slice none 0 0) (.int .u64 0) (.slice none 0 0) (.slice none 0 0) (.slice none 0 0)
  have hr3 := rp7 R3.out (.slice none 0 0) (.int .u64 0) (.slice none 0 0) (.int .u64 0) (.slice none 0 0) (.slice none 0 0) (.slice none 0 0)
  have hbF := HB.out.trans (hl1.below.mono (by omega))
  clear y0 y1 y2 y3 y4 y5 y6 yl
  clear yf0 yf1 yf2 yf3 yf4 yf5 yf6 hl1
  generalize World.setCell _ _ _ = wF at *
  obtain ⟨y0, y1, y2, y3, y4, y5, y6⟩ := row7 hr3
  have yl := hr3.lt
  refine bodyPost_ret (v := .tuple #[.agg #[.slice none 0 0, .int .u64 0, .slice none 0 0, .int .u64 0, .slice none 0 0, .slice none 0 0, .slice none 0 0], .slice none 0 0, .bool false, .int .i64 250]) (by simp [results, Tryz.results24, go_sem, y0, y1, y2, y3, y4, y5, y6, yl]) rfl ⟨⟨.agg #[.slice none 0 0, .int .u64 0, .slice none 0 0, .int .u64 0, .slice none 0 0, .slice none 0 0, .slice none 0 0], none, 0, 0, by rw [HD.out], by rw [HD.out]; exact zero_rec _ _, by rw [HD.out]; exact World.ownsRow_nil _ _ _ _, by rw [HD.out]; rfl⟩, hbF⟩
 case inl =>
  have HW := Hi (show WfR r from ⟨ok_iff.1 ho, fun s hs => (HF.out.s s hs).1, HG.out⟩)
  with_reducible refine (Check_any F A0 As n0 c0 ns cs A n c r _ H.out HF.out 0 (by rw [ho]; simp)).mono ?_
  rintro e w2 ⟨rfl, hb⟩
  replace R1 := Hi (R1.out.below hb)
  replace R3 := Hi (R3.out.below hb)
  replace H := Hi (H.out.below hb)
  replace HB := bt HB hb
  clear hb
  clear q0 q1 q2 q3 q4 q5 q6 ql
  obtain ⟨q0, q1, q2, q3, q4, q5, q6⟩ := row7 R1.out
  have ql := R1.out.lt
  go_wp2_with fail
  with_reducible refine (own_any F A0 As n0 c0 ns cs A n c r w2 H.out HF.out).mono ?_
  rintro e w3 ⟨⟨gh, rfl, hx⟩, hb⟩
  have HX := Hi (show HandX w3 w2.heap.size gh o00 r [] from by obtain ⟨B0, Bs, m0, d0, ms, ds, B, m, d, hh⟩ := hx; exact ⟨_, _, _, _, _, _, _, _, _, _, _, _, hh⟩)
  have HL2 := Hi (show W.heap.size + 2 ≤ w2.heap.size from by have h1 := R3.out.lt; omega)
  replace R1 := Hi (R1.out.below hb)
  replace R3 := Hi (R3.out.below hb)
  replace H := Hi (H.out.below hb)
  replace HB := bt HB hb
  clear hb
  clear q0 q1 q2 q3 q4 q5 q6 ql
  clear hx
  have HD := Hi (show tryR r = ((triesR r []).1, (triesR r []).2.1, (triesR r []).2.2, 0) from by unfold tryR; rw [ho]; rfl)
  obtain ⟨res, hres⟩ : ∃ res, triesR r [] = res := ⟨_, rfl⟩
  rw [hres] at HD
  obtain ⟨r2, t2, b2⟩ := res
  go_wp2_with fail
  with_reducible refine (tries_any w2.heap.size gh o00 r [] w3 HX.out HW.out (by have := Li.ok_held_len HW.out.ok.lm; simp; omega) (r2, t2, b2) hres).mono ?_
  rintro e w4 ⟨rfl, hh, _, hb⟩
  have HHW := Hi hh
  replace R1 := Hi (R1.out.heap (hb.block _ (by have := HL2.out; omega)))
  replace R3 := Hi (R3.out.heap (hb.block _ (by have := HL2.out; omega)))
  replace HB := Hi (HB.out.trans (hb.mono (by have := HL2.out; omega)))
  clear hb hh HX hres
  obtain ⟨o3, B0, Bs, m0, d0, ms, ds, B, m, d, At, nt, ct, hh⟩ := HHW.out
  replace HHW := Hi (show HandR w4 w2.heap.size gh B0 Bs m0 d0 ms ds B m d o3 At nt ct r2 t2 from hh)
  clear hh
  go_upto_region 6 with (fail)
  have HSX := Hi (fun (wX : World) (hgX : StayF (fun j => j ≠ (W.heap.size + 1)) w4 wX) => show wX.cell? ⟨gh, 0, none⟩ = some (.slice B0 m0 d0) ∧ wX.cell? ⟨gh, 1, none⟩ = some (.int .u64 r2.e) ∧ wX.cell? ⟨gh, 2, none⟩ = some (.slice Bs ms ds) ∧ wX.cell? ⟨gh, 3, none⟩ = some (.int .u64 (r2.l.E : Int)) ∧ wX.cell? ⟨gh, 4, none⟩ = some (.slice (B 0) (m 0) (d 0)) ∧ wX.cell? ⟨gh, 5, none⟩ = some (.slice (B 1) (m 1) (d 1)) ∧ wX.cell? ⟨gh, 6, none⟩ = some (.slice (B 2) (m 2) (d 2)) ∧ wX.cell? ⟨gh, 12, none⟩ = some (.slice At nt ct) ∧ gh < wX.heap.size from by
   obtain ⟨z0, z1, z2, z3, z4, z5, z6, z7, z8, z9, z10, z11, z12⟩ := row13 HHW.out.row
   have hkg : ∀ j, gh ≤ j → j < w4.heap.size → wX.heap[j]? = w4.heap[j]? := fun j h1 h2 => hgX.2 j (by have := HHW.out.lo; have := HL2.out; show j ≠ _; omega) h2
   have hk : ∀ j v, w4.cell? ⟨gh, j, none⟩ = some v → wX.cell? ⟨gh, j, none⟩ = some v := fun j v h => (cell_of_heap (hkg gh (Nat.le_refl _) HHW.out.row.lt)).trans h
   exact ⟨hk _ _ z0, hk _ _ z1, hk _ _ z2, hk _ _ z3, hk _ _ z4, hk _ _ z5, hk _ _ z6, hk _ _ z12, Nat.lt_of_lt_of_le HHW.out.row.lt hgX.1⟩)
  have HBD := Hi (Below.refl w4.heap.size w4).drew
  have HSD := Hi (show StayF (fun j => j ≠ (W.heap.size + 1)) w4 w4.drew from StayF.of_below HBD.out)
  have D3 := Hi (R3.out.below HBD.out)
  have HHD := Hi (HHW.out.below HBD.out)
  replace HB := Hi (HB.out.trans (HBD.out.mono HB.out.size))
  refine wp_region_held_drew (S := fun wX => wX.cell? ⟨gh, 0, none⟩ = some (.slice B0 m0 d0) ∧ wX.cell? ⟨gh, 1, none⟩ = some (.int .u64 r2.e) ∧ wX.cell? ⟨gh, 2, none⟩ = some (.slice Bs ms ds) ∧ wX.cell? ⟨gh, 3, none⟩ = some (.int .u64 (r2.l.E : Int)) ∧ wX.cell? ⟨gh, 4, none⟩ = some (.slice (B 0) (m 0) (d 0)) ∧ wX.cell? ⟨gh, 5, none⟩ = some (.slice (B 1) (m 1) (d 1)) ∧ wX.cell? ⟨gh, 6, none⟩ = some (.slice (B 2) (m 2) (d 2)) ∧ wX.cell? ⟨gh, 12, none⟩ = some (.slice At nt ct) ∧ gh < wX.heap.size) (by kernel_rfl) (HSX.out _ HSD.out) (fun hHeld => ?_)
  clear hHeld
  have hS0 := HSX.out _ HSD.out
  generalize w4.drew = wd at *
  refine tkI (i := 0) rfl ?_
  refine tkI (i := 1) rfl ?_
  refine tkI (i := 2) rfl ?_
  refine tkI (i := 3) rfl ?_
  refine tkI (i := 4) rfl ?_
  refine tkI (i := 5) rfl ?_
  refine tkI (i := 6) rfl ?_
  refine tkI (i := 7) rfl ?_
  refine tkI (i := 8) rfl ?_
  refine ryH (i := 9) rfl (fun K0 hK0 => ?_)
  obtain ⟨y0, y1, y2, y3, y4, y5, y6⟩ := row7 D3.out
  have yl := D3.out.lt
  obtain ⟨yf0, yf1, yf2, yf3, yf4, yf5, yf6⟩ := fz D3.out
  go_simp
  have hl1 := lp7 wd (W.heap.size + 1) (.slice B0 m0 d0) (.int .u64 r2.e) (.slice Bs ms ds) (.int .u64 (r2.l.E : Int)) (.slice (B 0) (m 0) (d 0)) (.slice (B 1) (m 1) (d 1)) (.slice (B 2) (m 2) (d 2))
  have hr3 := rp7 D3.out (.slice B0 m0 d0) (.int .u64 r2.e) (.slice Bs ms ds) (.int .u64 (r2.l.E : Int)) (.slice (B 0) (m 0) (d 0)) (.slice (B 1) (m 1) (d 1)) (.slice (B 2) (m 2) (d 2))
  have HS1 := Hi (HSD.out.trans (hl1.stay (fun h => h rfl)))
  have HL1 := Hi hl1
  have HR3 := Hi hr3
  clear hl1 hr3 hS0 yl y0 yf0 y1 yf1 y2 yf2 y3 yf3 y4 yf4 y5 yf5 y6 yf6
  generalize World.setCell _ _ _ = w8 at *
  have hS0 := HSX.out _ HS1.out
  refine hK0.out _ _ hS0 (fun _ => wnH ?_)
  clear hK0 K0
  refine ryH (i := 10) rfl (fun K1 hK1 => ?_)
  go_simp
  refine hK1.out _ _ hS0 (fun _ => wnH ?_)
  clear hK1 K1
  refine ryH (i := 11) rfl (fun K2 hK2 => ?_)
  go_simp
  refine hK2.out _ _ hS0 (fun _ => wnH ?_)
  clear hK2 K2
  refine ryH (i := 12) rfl (fun K3 hK3 => ?_)
  go_simp
  refine hK3.out _ _ hS0 (fun _ => wnH ?_)
  clear hK3 K3
  refine wpAnyH_done (by kernel_rfl) ?_ _
  obtain ⟨y0, y1, y2, y3, y4, y5, y6⟩ := row7 HR3.out
  have yl := HR3.out.lt
  go_wp2_with fail
  refine bodyPost_ret (v := .tuple #[.agg #[.slice B0 m0 d0, .int .u64 r2.e, .slice Bs ms ds, .int .u64 (r2.l.E : Int), .slice (B 0) (m 0) (d 0), .slice (B 1) (m 1) (d 1), .slice (B 2) (m 2) (d 2)], .slice At nt ct, .bool b2, .int .i64 0]) (by simp [results, Tryz.results24, go_sem, y0, y1, y2, y3, y4, y5, y6, yl]) rfl ?_
  have hk : ∀ j, w2.heap.size ≤ j → w8.heap[j]? = wd.heap[j]? := fun j hj => HL1.out.block j (by have := HL2.out; omega)
  refine ⟨⟨.agg #[.slice B0 m0 d0, .int .u64 r2.e, .slice Bs ms ds, .int .u64 (r2.l.E : Int), .slice (B 0) (m 0) (d 0), .slice (B 1) (m 1) (d 1), .slice (B 2) (m 2) (d 2)], At, nt, ct, by rw [HD.out], ?_, by rw [HD.out]; exact own_back HHD.out.own (fun j hj _ => hk j hj) (by have := HL2.out; omega), by rw [HD.out]; exact HHD.out.len⟩, HB.out.trans (HL1.out.below.mono (by omega))⟩
  rw [HD.out]
  exact ⟨_, _, _, _, _, _, _, _, _, rfl, ((HHD.out.all.up (G := fun j => w2.heap.size ≤ j) (fun j hj _ => hj.1)).stay ⟨HL1.out.size, fun j hj _ => hk j hj⟩).up (fun j hj _ => by have := HL2.out; have hj : w2.heap.size ≤ j := hj; show W.heap.size ≤ j; omega)⟩
set_option maxRecDepth 20000 in
theorem Settle_any (F : Nat → Prop) (A0 As : Option Addr) (n0 c0 ns cs : Nat) (A : Nat → Option Addr) (n c : Nat → Nat) (r : Rec) (W : World) (h : RecF F W A0 As n0 c0 ns cs A n c r) (hf : FitR r) (hg : ∀ s ∈ r.sl, 0 ≤ s.2) :
  Calls Tryz.prog 34 #[.agg (recC r.e r.l.E A0 As n0 c0 ns cs A n c)] W (SetRes r W) := by
 have b1 : Below W.heap.size W ((W.alloc (.cells #[.slice A0 n0 c0, .int .u64 r.e, .slice As ns cs, .int .u64 (r.l.E : Int), .slice (A 0) (n 0) (c 0), .slice (A 1) (n 1) (c 1), .slice (A 2) (n 2) (c 2)] 34)).alloc (.cells #[.slice none 0 0, .int .u64 0, .slice none 0 0, .int .u64 0, .slice none 0 0, .slice none 0 0, .slice none 0 0] 34)) := ((Below.refl _ _).alloc (Nat.le_refl _) _).alloc (by simp) _
 have al := al2 W #[.slice A0 n0 c0, .int .u64 r.e, .slice As ns cs, .int .u64 (r.l.E : Int), .slice (A 0) (n 0) (c 0), .slice (A 1) (n 1) (c 1), .slice (A 2) (n 2) (c 2)] 34 #[.slice none 0 0, .int .u64 0, .slice none 0 0, .int .u64 0, .slice none 0 0, .slice none 0 0, .slice none 0 0] 34
 have R1 := Hi al.1.1
 have R3 := Hi al.1.2
 clear al
 have HS1 := Hi (show ((W.alloc (.cells #[.slice A0 n0 c0, .int .u64 r.e, .slice As ns cs, .int .u64 (r.l.E : Int), .slice (A 0) (n 0) (c 0), .slice (A 1) (n 1) (c 1), .slice (A 2) (n 2) (c 2)] 34)).alloc (.cells #[.slice none 0 0, .int .u64 0, .slice none 0 0, .int .u64 0, .slice none 0 0, .slice none 0 0, .slice none 0 0] 34)).heap.size = W.heap.size + 2 from by simp)
 have HB := Hi b1
 have H := Hi (h.below b1)
 have HF := Hi hf
 have HG := Hi hg
 clear b1 h hf hg
 go_enter Tryz.func34, Tryz.ntmps34
 go_upto_region 1 with (fail)
 generalize (W.alloc _).alloc _ = w1 at *
 obtain ⟨q0, q1, q2, q3, q4, q5, q6⟩ := row7 R1.out
 have ql := R1.out.lt
 go_wp2_with fail
 rcases Bool.eq_false_or_eq_true r.ok with ho | ho
 case inr =>
  have HD := Hi (show setR r = (rec0, [], 250) from by unfold setR; rw [ho]; rfl)
  with_reducible refine (Check_any F A0 As n0 c0 ns cs A n c r _ H.out HF.out 250 (by rw [ho]; simp)).mono ?_
  rintro e w2 ⟨rfl, hb⟩
  replace R1 := Hi (R1.out.below hb)
  replace R3 := Hi (R3.out.below hb)
  replace H := Hi (H.out.below hb)
  replace HB := bt HB hb
  clear hb
  clear q0 q1 q2 q3 q4 q5 q6 ql
  obtain ⟨y0, y1, y2, y3, y4, y5, y6⟩ := row7 R3.out
  have yl := R3.out.lt
  obtain ⟨yf0, yf1, yf2, yf3, yf4, yf5, yf6⟩ := fz R3.out
  go_wp2_with fail
  have hl1 := lp7 w2 (W.heap.size + 1) (.slice none 0 0) (.int .u64 0) (.slice none 0 0) (.int .u64 0) (.slice none 0 0) (.slice none 0 0) (.slice none 0 0)
  have hr3 := rp7 R3.out (.slice none 0 0) (.int .u64 0) (.slice none 0 0) (.int .u64 0) (.slice none 0 0) (.slice none 0 0) (.slice none 0 0)
  have hbF := HB.out.trans (hl1.below.mono (by omega))
  clear y0 y1 y2 y3 y4 y5 y6 yl
  clear yf0 yf1 yf2 yf3 yf4 yf5 yf6 hl1
  generalize World.setCell _ _ _ = wF at *
  obtain ⟨y0, y1, y2, y3, y4, y5, y6⟩ := row7 hr3
  have yl := hr3.lt
  refine bodyPost_ret (v := .tuple #[.agg #[.slice none 0 0, .int .u64 0, .slice none 0 0, .int .u64 0, .slice none 0 0, .slice none 0 0, .slice none 0 0], .slice none 0 0, .int .i64 250]) (by simp [results, Tryz.results34, go_sem, y0, y1, y2, y3, y4, y5, y6, yl]) rfl ⟨⟨.agg #[.slice none 0 0, .int .u64 0, .slice none 0 0, .int .u64 0, .slice none 0 0, .slice none 0 0, .slice none 0 0], none, 0, 0, by rw [HD.out], by rw [HD.out]; exact zero_rec _ _, by rw [HD.out]; exact World.ownsRow_nil _ _ _ _, by rw [HD.out]; rfl⟩, hbF⟩
 case inl =>
  have HW := Hi (show WfR r from ⟨ok_iff.1 ho, fun s hs => (HF.out.s s hs).1, HG.out⟩)
  with_reducible refine (Check_any F A0 As n0 c0 ns cs A n c r _ H.out HF.out 0 (by rw [ho]; simp)).mono ?_
  rintro e w2 ⟨rfl, hb⟩
  replace R1 := Hi (R1.out.below hb)
  replace R3 := Hi (R3.out.below hb)
  replace H := Hi (H.out.below hb)
  replace HB := bt HB hb
  clear hb
  clear q0 q1 q2 q3 q4 q5 q6 ql
  obtain ⟨q0, q1, q2, q3, q4, q5, q6⟩ := row7 R1.out
  have ql := R1.out.lt
  obtain ⟨ob, hob⟩ : ∃ b, Pn.oldB r.S = b := ⟨_, rfl⟩
  have HOBB := Hi hob
  obtain ⟨oe, hoe⟩ : ∃ e, Pn.oldE r.S = e := ⟨_, rfl⟩
  go_wp2_with fail
  with_reducible refine (Pn.Oldest_any As cs ns r.e r.S w2 H.out.S.rd H.out.ls HF.out.e.1 HF.out.s (by rw [← H.out.ls]; exact HF.out.S) oe ob (by rw [if_pos HW.out.ok.pn]; exact hoe) (by rw [HW.out.ok.pn]; simpa using hob)).mono ?_
  rintro e w3 ⟨rfl, hb⟩
  replace R1 := Hi (R1.out.below hb)
  replace R3 := Hi (R3.out.below hb)
  replace H := Hi (H.out.below hb)
  replace HB := bt HB hb
  clear hb
  clear q0 q1 q2 q3 q4 q5 q6 ql
  clear hob hoe
  cases ob
  case true =>
   have HD := Hi (show setR r = (rec0, [], 231) from by unfold setR; rw [if_pos ho, if_pos HOBB.out])
   obtain ⟨y0, y1, y2, y3, y4, y5, y6⟩ := row7 R3.out
   have yl := R3.out.lt
   obtain ⟨yf0, yf1, yf2, yf3, yf4, yf5, yf6⟩ := fz R3.out
   go_wp2_with fail
   have hl1 := lp7 w3 (W.heap.size + 1) (.slice none 0 0) (.int .u64 0) (.slice none 0 0) (.int .u64 0) (.slice none 0 0) (.slice none 0 0) (.slice none 0 0)
   have hr3 := rp7 R3.out (.slice none 0 0) (.int .u64 0) (.slice none 0 0) (.int .u64 0) (.slice none 0 0) (.slice none 0 0) (.slice none 0 0)
   have hbF := HB.out.trans (hl1.below.mono (by omega))
   clear y0 y1 y2 y3 y4 y5 y6 yl
   clear yf0 yf1 yf2 yf3 yf4 yf5 yf6 hl1
   generalize World.setCell _ _ _ = wF at *
   obtain ⟨y0, y1, y2, y3, y4, y5, y6⟩ := row7 hr3
   have yl := hr3.lt
   refine bodyPost_ret (v := .tuple #[.agg #[.slice none 0 0, .int .u64 0, .slice none 0 0, .int .u64 0, .slice none 0 0, .slice none 0 0, .slice none 0 0], .slice none 0 0, .int .i64 231]) (by simp [results, Tryz.results34, go_sem, y0, y1, y2, y3, y4, y5, y6, yl]) rfl ⟨⟨.agg #[.slice none 0 0, .int .u64 0, .slice none 0 0, .int .u64 0, .slice none 0 0, .slice none 0 0, .slice none 0 0], none, 0, 0, by rw [HD.out], by rw [HD.out]; exact zero_rec _ _, by rw [HD.out]; exact World.ownsRow_nil _ _ _ _, by rw [HD.out]; rfl⟩, hbF⟩
  case false =>
   have HD := Hi (show setR r = ((setlR r []).1, (setlR r []).2, 0) from by unfold setR; rw [if_pos ho, if_neg (by rw [HOBB.out]; decide)])
   obtain ⟨res, hres⟩ : ∃ res, setlR r [] = res := ⟨_, rfl⟩
   rw [hres] at HD
   obtain ⟨q0, q1, q2, q3, q4, q5, q6⟩ := row7 R1.out
   have ql := R1.out.lt
   go_wp2_with fail
   with_reducible refine (own_any F A0 As n0 c0 ns cs A n c r w3 H.out HF.out).mono ?_
   rintro e w4 ⟨⟨gh, rfl, hx⟩, hb⟩
   have HX := Hi (show HandX w4 w3.heap.size gh o00 r [] from by obtain ⟨B0, Bs, m0, d0, ms, ds, B, m, d, hh⟩ := hx; exact ⟨_, _, _, _, _, _, _, _, _, _, _, _, hh⟩)
   have HL2 := Hi (show W.heap.size + 2 ≤ w3.heap.size from by have h1 := R3.out.lt; omega)
   replace R1 := Hi (R1.out.below hb)
   replace R3 := Hi (R3.out.below hb)
   replace H := Hi (H.out.below hb)
   replace HB := bt HB hb
   clear hb
   clear q0 q1 q2 q3 q4 q5 q6 ql
   clear hx
   have HJ0 := Hi (show (∃ o, HandX w4 w3.heap.size gh o r []) ∧ WfR r ∧ setlR r [] = res ∧ ([] : List Ent).length + r.l.held.length ≤ 1000000 from ⟨⟨_, HX.out⟩, HW.out, hres, by have := Li.ok_held_len HW.out.ok.lm; simp; omega⟩)
   have HL3 := Hi (show w3.heap.size ≤ w4.heap.size from by obtain ⟨A0, As, n0, c0, ns, cs, A, n, c, At, nt, ct, hh⟩ := HX.out; exact Nat.le_trans hh.lo (Nat.le_of_lt hh.row.lt))
   clear HX hres
   go_upto_region 8 with (fail)
   go_loopw [34] (fun i wr => Below w3.heap.size w4 wr ∧ ∃ r1 t1, (∃ o, HandX wr w3.heap.size gh o r1 t1) ∧ WfR r1 ∧ setlR r1 t1 = res ∧ t1.length + r1.l.held.length ≤ 1000000) (fun _ wr => Li.LAST + 1 - (intOf ((wr.cell? ⟨gh, 3, none⟩).getD undef)).toNat)
   case atStart => exact ⟨Below.refl _ _, r, [], HJ0.out⟩
   case round =>
    obtain ⟨hbw, r1, t1, ⟨o1, hh⟩, hw1, hs1, hl1⟩ := hrel
    obtain ⟨E0, Es, l0, f0, ls, fs, E, l, f, Au, nu, cu, hh⟩ := hh
    have HH1 := Hi hh
    have HBW := Hi hbw
    have HW1 := Hi hw1
    have HSE := Hi hs1
    have HLE := Hi hl1
    clear hbw hh hw1 hs1 hl1
    have HMU := Hi (show intOf ((wr.cell? ⟨gh, 3, none⟩).getD undef) = (r1.l.E : Int) from by have h := (row13 HH1.out.row).2.2.2.1; rw [h]; rfl)
    try rw [HMU.out]
    obtain ⟨z0, z1, z2, z3, z4, z5, z6, z7, z8, z9, z10, z11, z12⟩ := row13 HH1.out.row
    have zl := HH1.out.row.lt
    go_wp2_with fail
    with_reducible refine (waits_yes _ E0 Es l0 f0 ls fs E l f r1 wr HH1.out.all HW1.out.fit (ok_iff.2 HW1.out.ok) _ rfl).mono ?_
    rintro e w5 ⟨rfl, hb⟩
    have HX5 := Hi (show HandX w5 w3.heap.size gh o1 r1 t1 from ⟨_, _, _, _, _, _, _, _, _, _, _, _, HH1.out.below hb⟩)
    have HB5 := Hi (HBW.out.trans (hb.mono (Nat.le_trans HL3.out HBW.out.size)))
    clear hb HH1
    clear z0 z1 z2 z3 z4 z5 z6 z7 z8 z9 z10 z11 z12 zl
    by_cases h0 : 0 < r1.l.held.length
    ·
     have hki : (0 : Int) < (r1.l.held.length : Int) := by omega
     obtain ⟨rs, hrs⟩ : ∃ rs, triesR r1 t1 = rs := ⟨_, rfl⟩
     obtain ⟨r2, t2, b2⟩ := rs
     have HT := Hi (tries_E (t := t1) HW1.out)
     rw [hrs] at HT
     have HQ := Hi (setlR_eq (t := t1) HW1.out)
     rw [if_pos h0, hrs] at HQ
     go_wp2_with fail
     with_reducible refine (tries_any w3.heap.size gh o1 r1 t1 w5 HX5.out HW1.out HLE.out (r2, t2, b2) hrs).mono ?_
     rintro e w6 ⟨rfl, hh, hw2, hb⟩
     have HX6 := Hi hh
     have HW2 := Hi hw2
     have HB6 := Hi (HB5.out.trans hb)
     clear hh hw2 hb HX5 hrs
     cases b2
     case true =>
      have HT1 := Hi (HT.out.2 rfl)
      have HT2 := Hi HT.out.1
      have HM6 := Hi (show intOf ((w6.cell? ⟨gh, 3, none⟩).getD undef) = (r2.l.E : Int) from by obtain ⟨o3, B0, Bs, m0, d0, ms, ds, B, m, d, At, nt, ct, hh⟩ := HX6.out; have h := (row13 hh.row).2.2.2.1; rw [h]; rfl)
      go_wp2_with fail
      go_roundw
      case rel => exact ⟨HB6.out, r2, t2, HX6.out, HW2.out, HQ.out.symm.trans HSE.out, by have h1 : t2.length + r2.l.held.length = t1.length + r1.l.held.length := HT2.out; have := HLE.out; omega⟩
      case measure => rw [HM6.out]; (try rw [HMU.out]); have h1 : r2.l.E = r1.l.E + 1 ∧ r1.l.E < Li.LAST := HT1.out; rw [Int.toNat_natCast, Int.toNat_natCast]; omega
     case false =>
      have HD := Hi (show setR r = (r2, t2, 0) from by rw [HD.out, ← HSE.out, HQ.out]; rfl)
      go_wp2_with fail
      have HHW := Hi HX6.out
      replace R1 := Hi (R1.out.heap (HB6.out.block _ (by have := HL2.out; omega)))
      replace R3 := Hi (R3.out.heap (HB6.out.block _ (by have := HL2.out; omega)))
      replace HB := Hi (HB.out.trans (HB6.out.mono (by have := HL2.out; omega)))
      obtain ⟨o3, B0, Bs, m0, d0, ms, ds, B, m, d, At, nt, ct, hh⟩ := HHW.out
      replace HHW := Hi (show HandR w6 w3.heap.size gh B0 Bs m0 d0 ms ds B m d o3 At nt ct r2 t2 from hh)
      clear hh
      have HSX := Hi (fun (wX : World) (hgX : StayF (fun j => j ≠ (W.heap.size + 1)) w6 wX) => show wX.cell? ⟨gh, 0, none⟩ = some (.slice B0 m0 d0) ∧ wX.cell? ⟨gh, 1, none⟩ = some (.int .u64 r2.e) ∧ wX.cell? ⟨gh, 2, none⟩ = some (.slice Bs ms ds) ∧ wX.cell? ⟨gh, 3, none⟩ = some (.int .u64 (r2.l.E : Int)) ∧ wX.cell? ⟨gh, 4, none⟩ = some (.slice (B 0) (m 0) (d 0)) ∧ wX.cell? ⟨gh, 5, none⟩ = some (.slice (B 1) (m 1) (d 1)) ∧ wX.cell? ⟨gh, 6, none⟩ = some (.slice (B 2) (m 2) (d 2)) ∧ wX.cell? ⟨gh, 12, none⟩ = some (.slice At nt ct) ∧ gh < wX.heap.size from by
       obtain ⟨z0, z1, z2, z3, z4, z5, z6, z7, z8, z9, z10, z11, z12⟩ := row13 HHW.out.row
       have hkg : ∀ j, gh ≤ j → j < w6.heap.size → wX.heap[j]? = w6.heap[j]? := fun j h1 h2 => hgX.2 j (by have := HHW.out.lo; have := HL2.out; show j ≠ _; omega) h2
       have hk : ∀ j v, w6.cell? ⟨gh, j, none⟩ = some v → wX.cell? ⟨gh, j, none⟩ = some v := fun j v h => (cell_of_heap (hkg gh (Nat.le_refl _) HHW.out.row.lt)).trans h
       exact ⟨hk _ _ z0, hk _ _ z1, hk _ _ z2, hk _ _ z3, hk _ _ z4, hk _ _ z5, hk _ _ z6, hk _ _ z12, Nat.lt_of_lt_of_le HHW.out.row.lt hgX.1⟩)
      have HBD := Hi (Below.refl w6.heap.size w6).drew
      have HSD := Hi (show StayF (fun j => j ≠ (W.heap.size + 1)) w6 w6.drew from StayF.of_below HBD.out)
      have D3 := Hi (R3.out.below HBD.out)
      have HHD := Hi (HHW.out.below HBD.out)
      replace HB := Hi (HB.out.trans (HBD.out.mono HB.out.size))
      refine wp_region_held_drew (S := fun wX => wX.cell? ⟨gh, 0, none⟩ = some (.slice B0 m0 d0) ∧ wX.cell? ⟨gh, 1, none⟩ = some (.int .u64 r2.e) ∧ wX.cell? ⟨gh, 2, none⟩ = some (.slice Bs ms ds) ∧ wX.cell? ⟨gh, 3, none⟩ = some (.int .u64 (r2.l.E : Int)) ∧ wX.cell? ⟨gh, 4, none⟩ = some (.slice (B 0) (m 0) (d 0)) ∧ wX.cell? ⟨gh, 5, none⟩ = some (.slice (B 1) (m 1) (d 1)) ∧ wX.cell? ⟨gh, 6, none⟩ = some (.slice (B 2) (m 2) (d 2)) ∧ wX.cell? ⟨gh, 12, none⟩ = some (.slice At nt ct) ∧ gh < wX.heap.size) (by kernel_rfl) (HSX.out _ HSD.out) (fun hHeld => ?_)
      clear hHeld
      have hS0 := HSX.out _ HSD.out
      generalize w6.drew = wd at *
      refine tkI (i := 0) rfl ?_
      refine tkI (i := 1) rfl ?_
      refine tkI (i := 2) rfl ?_
      refine tkI (i := 3) rfl ?_
      refine tkI (i := 4) rfl ?_
      refine tkI (i := 5) rfl ?_
      refine tkI (i := 6) rfl ?_
      refine tkI (i := 7) rfl ?_
      refine ryH (i := 8) rfl (fun K0 hK0 => ?_)
      obtain ⟨y0, y1, y2, y3, y4, y5, y6⟩ := row7 D3.out
      have yl := D3.out.lt
      obtain ⟨yf0, yf1, yf2, yf3, yf4, yf5, yf6⟩ := fz D3.out
      go_simp
      have hl1 := lp7 wd (W.heap.size + 1) (.slice B0 m0 d0) (.int .u64 r2.e) (.slice Bs ms ds) (.int .u64 (r2.l.E : Int)) (.slice (B 0) (m 0) (d 0)) (.slice (B 1) (m 1) (d 1)) (.slice (B 2) (m 2) (d 2))
      have hr3 := rp7 D3.out (.slice B0 m0 d0) (.int .u64 r2.e) (.slice Bs ms ds) (.int .u64 (r2.l.E : Int)) (.slice (B 0) (m 0) (d 0)) (.slice (B 1) (m 1) (d 1)) (.slice (B 2) (m 2) (d 2))
      have HS1 := Hi (HSD.out.trans (hl1.stay (fun h => h rfl)))
      have HL1 := Hi hl1
      have HR3 := Hi hr3
      clear hl1 hr3 hS0 yl y0 yf0 y1 yf1 y2 yf2 y3 yf3 y4 yf4 y5 yf5 y6 yf6
      generalize World.setCell _ _ _ = w8 at *
      have hS0 := HSX.out _ HS1.out
      refine hK0.out _ _ hS0 (fun _ => wnH ?_)
      clear hK0 K0
      refine ryH (i := 9) rfl (fun K1 hK1 => ?_)
      go_simp
      refine hK1.out _ _ hS0 (fun _ => wnH ?_)
      clear hK1 K1
      refine ryH (i := 10) rfl (fun K2 hK2 => ?_)
      go_simp
      refine hK2.out _ _ hS0 (fun _ => wnH ?_)
      clear hK2 K2
      refine wpAnyH_done (by kernel_rfl) ?_ _
      obtain ⟨y0, y1, y2, y3, y4, y5, y6⟩ := row7 HR3.out
      have yl := HR3.out.lt
      go_wp2_with fail
      refine bodyPost_ret (v := .tuple #[.agg #[.slice B0 m0 d0, .int .u64 r2.e, .slice Bs ms ds, .int .u64 (r2.l.E : Int), .slice (B 0) (m 0) (d 0), .slice (B 1) (m 1) (d 1), .slice (B 2) (m 2) (d 2)], .slice At nt ct, .int .i64 0]) (by simp [results, Tryz.results34, go_sem, y0, y1, y2, y3, y4, y5, y6, yl]) rfl ?_
      have hk : ∀ j, w3.heap.size ≤ j → w8.heap[j]? = wd.heap[j]? := fun j hj => HL1.out.block j (by have := HL2.out; omega)
      refine ⟨⟨.agg #[.slice B0 m0 d0, .int .u64 r2.e, .slice Bs ms ds, .int .u64 (r2.l.E : Int), .slice (B 0) (m 0) (d 0), .slice (B 1) (m 1) (d 1), .slice (B 2) (m 2) (d 2)], At, nt, ct, by rw [HD.out], ?_, by rw [HD.out]; exact own_back HHD.out.own (fun j hj _ => hk j hj) (by have := HL2.out; omega), by rw [HD.out]; exact HHD.out.len⟩, HB.out.trans (HL1.out.below.mono (by omega))⟩
      rw [HD.out]
      exact ⟨_, _, _, _, _, _, _, _, _, rfl, ((HHD.out.all.up (G := fun j => w3.heap.size ≤ j) (fun j hj _ => hj.1)).stay ⟨HL1.out.size, fun j hj _ => hk j hj⟩).up (fun j hj _ => by have := HL2.out; have hj : w3.heap.size ≤ j := hj; show W.heap.size ≤ j; omega)⟩
    ·
     have hki : ¬ (0 : Int) < (r1.l.held.length : Int) := by omega
     have HQ := Hi (setlR_eq (t := t1) HW1.out)
     rw [if_neg h0] at HQ
     have HD := Hi (show setR r = (r1, t1, 0) from by rw [HD.out, ← HSE.out, HQ.out])
     go_wp2_with fail
     generalize r1 = r2 at *
     generalize t1 = t2 at *
     have HHW := Hi (⟨o1, HX5.out⟩ : ∃ o, HandX w5 w3.heap.size gh o r2 t2)
     replace R1 := Hi (R1.out.heap (HB5.out.block _ (by have := HL2.out; omega)))
     replace R3 := Hi (R3.out.heap (HB5.out.block _ (by have := HL2.out; omega)))
     replace HB := Hi (HB.out.trans (HB5.out.mono (by have := HL2.out; omega)))
     obtain ⟨o3, B0, Bs, m0, d0, ms, ds, B, m, d, At, nt, ct, hh⟩ := HHW.out
     replace HHW := Hi (show HandR w5 w3.heap.size gh B0 Bs m0 d0 ms ds B m d o3 At nt ct r2 t2 from hh)
     clear hh
     have HSX := Hi (fun (wX : World) (hgX : StayF (fun j => j ≠ (W.heap.size + 1)) w5 wX) => show wX.cell? ⟨gh, 0, none⟩ = some (.slice B0 m0 d0) ∧ wX.cell? ⟨gh, 1, none⟩ = some (.int .u64 r2.e) ∧ wX.cell? ⟨gh, 2, none⟩ = some (.slice Bs ms ds) ∧ wX.cell? ⟨gh, 3, none⟩ = some (.int .u64 (r2.l.E : Int)) ∧ wX.cell? ⟨gh, 4, none⟩ = some (.slice (B 0) (m 0) (d 0)) ∧ wX.cell? ⟨gh, 5, none⟩ = some (.slice (B 1) (m 1) (d 1)) ∧ wX.cell? ⟨gh, 6, none⟩ = some (.slice (B 2) (m 2) (d 2)) ∧ wX.cell? ⟨gh, 12, none⟩ = some (.slice At nt ct) ∧ gh < wX.heap.size from by
      obtain ⟨z0, z1, z2, z3, z4, z5, z6, z7, z8, z9, z10, z11, z12⟩ := row13 HHW.out.row
      have hkg : ∀ j, gh ≤ j → j < w5.heap.size → wX.heap[j]? = w5.heap[j]? := fun j h1 h2 => hgX.2 j (by have := HHW.out.lo; have := HL2.out; show j ≠ _; omega) h2
      have hk : ∀ j v, w5.cell? ⟨gh, j, none⟩ = some v → wX.cell? ⟨gh, j, none⟩ = some v := fun j v h => (cell_of_heap (hkg gh (Nat.le_refl _) HHW.out.row.lt)).trans h
      exact ⟨hk _ _ z0, hk _ _ z1, hk _ _ z2, hk _ _ z3, hk _ _ z4, hk _ _ z5, hk _ _ z6, hk _ _ z12, Nat.lt_of_lt_of_le HHW.out.row.lt hgX.1⟩)
     have HBD := Hi (Below.refl w5.heap.size w5).drew
     have HSD := Hi (show StayF (fun j => j ≠ (W.heap.size + 1)) w5 w5.drew from StayF.of_below HBD.out)
     have D3 := Hi (R3.out.below HBD.out)
     have HHD := Hi (HHW.out.below HBD.out)
     replace HB := Hi (HB.out.trans (HBD.out.mono HB.out.size))
     refine wp_region_held_drew (S := fun wX => wX.cell? ⟨gh, 0, none⟩ = some (.slice B0 m0 d0) ∧ wX.cell? ⟨gh, 1, none⟩ = some (.int .u64 r2.e) ∧ wX.cell? ⟨gh, 2, none⟩ = some (.slice Bs ms ds) ∧ wX.cell? ⟨gh, 3, none⟩ = some (.int .u64 (r2.l.E : Int)) ∧ wX.cell? ⟨gh, 4, none⟩ = some (.slice (B 0) (m 0) (d 0)) ∧ wX.cell? ⟨gh, 5, none⟩ = some (.slice (B 1) (m 1) (d 1)) ∧ wX.cell? ⟨gh, 6, none⟩ = some (.slice (B 2) (m 2) (d 2)) ∧ wX.cell? ⟨gh, 12, none⟩ = some (.slice At nt ct) ∧ gh < wX.heap.size) (by kernel_rfl) (HSX.out _ HSD.out) (fun hHeld => ?_)
     clear hHeld
     have hS0 := HSX.out _ HSD.out
     generalize w5.drew = wd at *
     refine tkI (i := 0) rfl ?_
     refine tkI (i := 1) rfl ?_
     refine tkI (i := 2) rfl ?_
     refine tkI (i := 3) rfl ?_
     refine tkI (i := 4) rfl ?_
     refine tkI (i := 5) rfl ?_
     refine tkI (i := 6) rfl ?_
     refine tkI (i := 7) rfl ?_
     refine ryH (i := 8) rfl (fun K0 hK0 => ?_)
     obtain ⟨y0, y1, y2, y3, y4, y5, y6⟩ := row7 D3.out
     have yl := D3.out.lt
     obtain ⟨yf0, yf1, yf2, yf3, yf4, yf5, yf6⟩ := fz D3.out
     go_simp
     have hl1 := lp7 wd (W.heap.size + 1) (.slice B0 m0 d0) (.int .u64 r2.e) (.slice Bs ms ds) (.int .u64 (r2.l.E : Int)) (.slice (B 0) (m 0) (d 0)) (.slice (B 1) (m 1) (d 1)) (.slice (B 2) (m 2) (d 2))
     have hr3 := rp7 D3.out (.slice B0 m0 d0) (.int .u64 r2.e) (.slice Bs ms ds) (.int .u64 (r2.l.E : Int)) (.slice (B 0) (m 0) (d 0)) (.slice (B 1) (m 1) (d 1)) (.slice (B 2) (m 2) (d 2))
     have HS1 := Hi (HSD.out.trans (hl1.stay (fun h => h rfl)))
     have HL1 := Hi hl1
     have HR3 := Hi hr3
     clear hl1 hr3 hS0 yl y0 yf0 y1 yf1 y2 yf2 y3 yf3 y4 yf4 y5 yf5 y6 yf6
     generalize World.setCell _ _ _ = w8 at *
     have hS0 := HSX.out _ HS1.out
     refine hK0.out _ _ hS0 (fun _ => wnH ?_)
     clear hK0 K0
     refine ryH (i := 9) rfl (fun K1 hK1 => ?_)
     go_simp
     refine hK1.out _ _ hS0 (fun _ => wnH ?_)
     clear hK1 K1
     refine ryH (i := 10) rfl (fun K2 hK2 => ?_)
     go_simp
     refine hK2.out _ _ hS0 (fun _ => wnH ?_)
     clear hK2 K2
     refine wpAnyH_done (by kernel_rfl) ?_ _
     obtain ⟨y0, y1, y2, y3, y4, y5, y6⟩ := row7 HR3.out
     have yl := HR3.out.lt
     go_wp2_with fail
     refine bodyPost_ret (v := .tuple #[.agg #[.slice B0 m0 d0, .int .u64 r2.e, .slice Bs ms ds, .int .u64 (r2.l.E : Int), .slice (B 0) (m 0) (d 0), .slice (B 1) (m 1) (d 1), .slice (B 2) (m 2) (d 2)], .slice At nt ct, .int .i64 0]) (by simp [results, Tryz.results34, go_sem, y0, y1, y2, y3, y4, y5, y6, yl]) rfl ?_
     have hk : ∀ j, w3.heap.size ≤ j → w8.heap[j]? = wd.heap[j]? := fun j hj => HL1.out.block j (by have := HL2.out; omega)
     refine ⟨⟨.agg #[.slice B0 m0 d0, .int .u64 r2.e, .slice Bs ms ds, .int .u64 (r2.l.E : Int), .slice (B 0) (m 0) (d 0), .slice (B 1) (m 1) (d 1), .slice (B 2) (m 2) (d 2)], At, nt, ct, by rw [HD.out], ?_, by rw [HD.out]; exact own_back HHD.out.own (fun j hj _ => hk j hj) (by have := HL2.out; omega), by rw [HD.out]; exact HHD.out.len⟩, HB.out.trans (HL1.out.below.mono (by omega))⟩
     rw [HD.out]
     exact ⟨_, _, _, _, _, _, _, _, _, rfl, ((HHD.out.all.up (G := fun j => w3.heap.size ≤ j) (fun j hj _ => hj.1)).stay ⟨HL1.out.size, fun j hj _ => hk j hj⟩).up (fun j hj _ => by have := HL2.out; have hj : w3.heap.size ≤ j := hj; show W.heap.size ≤ j; omega)⟩
def encP (o : EOp) : List Value := [.int .i64 o.k, .int .i64 o.g, .int .u64 o.b, .int .i64 o.x.1, .int .u64 o.x.2]
theorem encP_len : ∀ x, (encP x).length = 5 := fun _ => rfl
theorem Rd.op {w : World} {B m : Nat} {A : Option Addr} {xs : List EOp} (h : Rd w B 5 A m (Cs encP xs)) (hx : xs.length = m) {k : Nat} (hk : k < xs.length) :
  ∃ b o, A = some ⟨b, o, none⟩ ∧ b < B ∧ w.cell? ⟨b, o + k * 5, none⟩ = some (.int .i64 xs[k].k) ∧ w.cell? ⟨b, o + k * 5 + 1, none⟩ = some (.int .i64 xs[k].g) ∧ w.cell? ⟨b, o + k * 5 + 2, none⟩ = some (.int .u64 xs[k].b) ∧ w.cell? ⟨b, o + k * 5 + 3, none⟩ = some (.int .i64 xs[k].x.1) ∧ w.cell? ⟨b, o + k * 5 + 4, none⟩ = some (.int .u64 xs[k].x.2) := by
 subst hx
 obtain ⟨b, o, hA, hb, hc⟩ := h.elem encP_len hk
 refine ⟨b, o, hA, hb, ?_, ?_, ?_, ?_, ?_⟩
 ·
  have := hc 0 _ (by omega) rfl
  simpa using this
 · exact hc 1 _ (by omega) rfl
 · exact hc 2 _ (by omega) rfl
 · exact hc 3 _ (by omega) rfl
 · exact hc 4 _ (by omega) rfl
def RunRes (r : Rec) (l : List EOp) (W : World) (e : Ending) (W' : World) : Prop :=
 (∃ v At nt ct, e = .returned (.tuple #[v, .slice At nt ct, .int .i64 ((runR r l).2.2.1 : Int), .int .i64 (runR r l).2.2.2]) ∧ RecOut (From W.heap.size) W' v (runR r l).1 ∧ W'.ownsRow W.heap.size 41 2 (.slice At nt ct) nt (Cs encE (runR r l).2.1) ∧ (runR r l).2.1.length = nt) ∧ Below W.heap.size W W'
structure RunS (gh base : Nat) (res : Option (Rec × List Ent × Nat)) (l : List EOp) (W : World) (k : Nat) (r : Rec) (t : List Ent) (n : Nat) (w : World) : Prop where
 hand : ∃ o, HandX w base gh o r t
 wf : WfR r
 cont : runL r t n (l.drop k) = res
 len : t.length ≤ k
 num : n ≤ k
 below : Below base W w
theorem RunS.le {gh base : Nat} {res : Option (Rec × List Ent × Nat)} {l : List EOp} {W : World} {k : Nat} {r : Rec} {t : List Ent} {n : Nat} {w : World} (h : RunS gh base res l W k r t n w) : base ≤ w.heap.size := by
 obtain ⟨o, A0, As, n0, c0, ns, cs, A, n, c, At, nt, ct, hh⟩ := h.hand
 exact Nat.le_trans hh.lo (Nat.le_of_lt hh.row.lt)
set_option maxRecDepth 20000 in
theorem Run_any (F : Nat → Prop) (A0 As : Option Addr) (n0 c0 ns cs : Nat) (A : Nat → Option Addr) (n c : Nat → Nat) (r : Rec) (Al : Option Addr) (ml cl : Nat) (l : List EOp) (W : World) (h : RecF F W A0 As n0 c0 ns cs A n c r) (hf : FitR r) (hg : ∀ s ∈ r.sl, 0 ≤ s.2) (hl : Rd W W.heap.size 5 Al ml (Cs encP l)) (hm : l.length = ml) (hml : ml ≤ 4096) (hu : ∀ o ∈ l, 0 ≤ o.b ∧ U64 o.x.2) :
  Calls Tryz.prog 17 #[.agg (recC r.e r.l.E A0 As n0 c0 ns cs A n c), .slice Al ml cl] W (RunRes r l W) := by
 have b1 : Below W.heap.size W ((W.alloc (.cells #[.slice A0 n0 c0, .int .u64 r.e, .slice As ns cs, .int .u64 (r.l.E : Int), .slice (A 0) (n 0) (c 0), .slice (A 1) (n 1) (c 1), .slice (A 2) (n 2) (c 2)] 34)).alloc (.cells #[.slice none 0 0, .int .u64 0, .slice none 0 0, .int .u64 0, .slice none 0 0, .slice none 0 0, .slice none 0 0] 34)) := ((Below.refl _ _).alloc (Nat.le_refl _) _).alloc (by simp) _
 have al := al2 W #[.slice A0 n0 c0, .int .u64 r.e, .slice As ns cs, .int .u64 (r.l.E : Int), .slice (A 0) (n 0) (c 0), .slice (A 1) (n 1) (c 1), .slice (A 2) (n 2) (c 2)] 34 #[.slice none 0 0, .int .u64 0, .slice none 0 0, .int .u64 0, .slice none 0 0, .slice none 0 0, .slice none 0 0] 34
 have R1 := Hi al.1.1
 have R3 := Hi al.1.2
 clear al
 have HS1 := Hi (show ((W.alloc (.cells #[.slice A0 n0 c0, .int .u64 r.e, .slice As ns cs, .int .u64 (r.l.E : Int), .slice (A 0) (n 0) (c 0), .slice (A 1) (n 1) (c 1), .slice (A 2) (n 2) (c 2)] 34)).alloc (.cells #[.slice none 0 0, .int .u64 0, .slice none 0 0, .int .u64 0, .slice none 0 0, .slice none 0 0, .slice none 0 0] 34)).heap.size = W.heap.size + 2 from by simp)
 have HB := Hi b1
 have H := Hi (h.below b1)
 have HF := Hi hf
 have HG := Hi hg
 have HL := Hi hl
 have HM := Hi hm
 have HU := Hi hu
 have HML := Hi hml
 clear b1 h hf hg hl hm hu
 go_enter Tryz.func17, Tryz.ntmps17
 go_upto_region 1 with (fail)
 generalize (W.alloc _).alloc _ = w1 at *
 obtain ⟨q0, q1, q2, q3, q4, q5, q6⟩ := row7 R1.out
 have ql := R1.out.lt
 go_wp2_with fail
 rcases Bool.eq_false_or_eq_true r.ok with ho | ho
 case inr =>
  have HD := Hi (show runR r l = (rec0, [], 0, 250) from by unfold runR; rw [ho]; rfl)
  with_reducible refine (Check_any F A0 As n0 c0 ns cs A n c r _ H.out HF.out 250 (by rw [ho]; simp)).mono ?_
  rintro e w2 ⟨rfl, hb⟩
  replace R1 := Hi (R1.out.below hb)
  replace R3 := Hi (R3.out.below hb)
  replace H := Hi (H.out.below hb)
  replace HB := bt HB hb
  clear hb
  clear q0 q1 q2 q3 q4 q5 q6 ql
  obtain ⟨y0, y1, y2, y3, y4, y5, y6⟩ := row7 R3.out
  have yl := R3.out.lt
  obtain ⟨yf0, yf1, yf2, yf3, yf4, yf5, yf6⟩ := fz R3.out
  go_wp2_with fail
  have hl1 := lp7 w2 (W.heap.size + 1) (.slice none 0 0) (.int .u64 0) (.slice none 0 0) (.int .u64 0) (.slice none 0 0) (.slice none 0 0) (.slice none 0 0)
  have hr3 := rp7 R3.out (.slice none 0 0) (.int .u64 0) (.slice none 0 0) (.int .u64 0) (.slice none 0 0) (.slice none 0 0) (.slice none 0 0)
  have hbF := HB.out.trans (hl1.below.mono (by omega))
  clear y0 y1 y2 y3 y4 y5 y6 yl
  clear yf0 yf1 yf2 yf3 yf4 yf5 yf6 hl1
  generalize World.setCell _ _ _ = wF at *
  obtain ⟨y0, y1, y2, y3, y4, y5, y6⟩ := row7 hr3
  have yl := hr3.lt
  refine bodyPost_ret (v := .tuple #[.agg #[.slice none 0 0, .int .u64 0, .slice none 0 0, .int .u64 0, .slice none 0 0, .slice none 0 0, .slice none 0 0], .slice none 0 0, .int .i64 0, .int .i64 250]) (by simp [results, Tryz.results17, go_sem, y0, y1, y2, y3, y4, y5, y6, yl]) rfl ⟨⟨.agg #[.slice none 0 0, .int .u64 0, .slice none 0 0, .int .u64 0, .slice none 0 0, .slice none 0 0, .slice none 0 0], none, 0, 0, by rw [HD.out]; rfl, by rw [HD.out]; exact zero_rec _ _, by rw [HD.out]; exact World.ownsRow_nil _ _ _ _, by rw [HD.out]; rfl⟩, hbF⟩
 case inl =>
  have HW := Hi (show WfR r from ⟨ok_iff.1 ho, fun s hs => (HF.out.s s hs).1, HG.out⟩)
  with_reducible refine (Check_any F A0 As n0 c0 ns cs A n c r _ H.out HF.out 0 (by rw [ho]; simp)).mono ?_
  rintro e w2 ⟨rfl, hb⟩
  replace R1 := Hi (R1.out.below hb)
  replace R3 := Hi (R3.out.below hb)
  replace H := Hi (H.out.below hb)
  replace HB := bt HB hb
  clear hb
  clear q0 q1 q2 q3 q4 q5 q6 ql
  obtain ⟨q0, q1, q2, q3, q4, q5, q6⟩ := row7 R1.out
  have ql := R1.out.lt
  go_wp2_with fail
  with_reducible refine (own_any F A0 As n0 c0 ns cs A n c r w2 H.out HF.out).mono ?_
  rintro e w3 ⟨⟨gh, rfl, hx⟩, hb⟩
  have HX := Hi (show HandX w3 w2.heap.size gh o00 r [] from by obtain ⟨B0, Bs, m0, d0, ms, ds, B, m, d, hh⟩ := hx; exact ⟨_, _, _, _, _, _, _, _, _, _, _, _, hh⟩)
  have HL2 := Hi (show W.heap.size + 2 ≤ w2.heap.size from by have h1 := R3.out.lt; omega)
  replace R1 := Hi (R1.out.below hb)
  replace R3 := Hi (R3.out.below hb)
  replace H := Hi (H.out.below hb)
  replace HB := bt HB hb
  clear hb
  clear q0 q1 q2 q3 q4 q5 q6 ql
  clear hx
  obtain ⟨res, hres⟩ : ∃ res, runL r [] 0 l = res := ⟨_, rfl⟩
  have HD := Hi (show runR r l = runOut res from by unfold runR; rw [if_pos ho, hres])
  have HJ := Hi (show RunS gh w2.heap.size res l w3 0 r [] 0 w3 from ⟨⟨_, HX.out⟩, HW.out, hres, Nat.le_refl _, Nat.le_refl _, Below.refl _ _⟩)
  clear HX hres
  go_upto_region 6 with (fail)
  go_loopw [10, 23] (fun q i wr => ∃ k n r1 t1, k ≤ ml ∧ q = .int .i64 ((n : Nat) : Int) ∧ i = .int .i64 ((k : Nat) : Int) ∧ RunS gh w2.heap.size res l w3 k r1 t1 n wr) (fun _ i _ => ml - (intOf i).toNat)
  case atStart => exact ⟨0, 0, r, [], Nat.zero_le _, rfl, rfl, HJ.out⟩
  case round =>
   obtain ⟨k, n1, r1, t1, hk, rfl, rfl, hst⟩ := hrel
   have HST := Hi hst
   clear hst
   by_cases hlt : k < ml
   ·
    have hki : (k : Int) < (ml : Int) := by omega
    have hkl : k < l.length := by rw [HM.out]; exact hlt
    have HBL := Hi (HB.out.trans (HST.out.below.mono (by have := HL2.out; omega)))
    obtain ⟨b, q, hAl, hbl, d0, d1, d2, d3, d4⟩ := Rd.op (HL.out.below HBL.out) HM.out hkl
    have hbl2 : b < wr.heap.size := Nat.lt_of_lt_of_le hbl HBL.out.size
    have HXX := Hi (show l.drop k = l[k] :: l.drop (k + 1) from List.drop_eq_getElem_cons hkl)
    have HUX := Hi (HU.out _ (List.getElem_mem hkl))
    generalize l[k] = x at *
    have HK := Hi hlt
    clear hkl hk
    have hba := ba wr (.cells #[.int .i64 x.k, .int .i64 x.g, .int .u64 x.b, .int .i64 x.x.1, .int .u64 x.x.2] 43)
    have ra := RowAt.new wr 43 #[.int .i64 x.k, .int .i64 x.g, .int .u64 x.b, .int .i64 x.x.1, .int .u64 x.x.2]
    obtain ⟨o1, A0', As', n0', c0', ns', cs', A', n', c', At', nt', ct', hh⟩ := HST.out.hand
    have HHA := Hi (show HandX (wr.alloc (.cells #[.int .i64 x.k, .int .i64 x.g, .int .u64 x.b, .int .i64 x.x.1, .int .u64 x.x.2] 43)) w2.heap.size gh o1 r1 t1 from ⟨_, _, _, _, _, _, _, _, _, _, _, _, hh.below hba⟩)
    have HBA := Hi (HST.out.below.trans (hba.mono HST.out.le))
    clear hh
    subst hAl
    go_upto_region 8 with (fail)
    have HRA := Hi ra
    clear ra hba d0 d1 d2 d3 d4 hbl hbl2
    generalize wr.alloc _ = wa at *
    obtain ⟨y0, y1, y2, y3, y4⟩ := row5 HRA.out
    have yl := HRA.out.lt
    go_wp2_with fail
    with_reducible refine (doesX HHA.out HST.out.wf x HUX.out.1 HUX.out.2 (by have := HST.out.len; have := HK.out; have := HML.out; omega)).mono ?_
    rintro e w5 ⟨rfl, hh, hb⟩
    have HH5 := Hi hh
    have HB5 := Hi (HBA.out.trans hb)
    clear hh hb y0 y1 y2 y3 y4 yl
    have HC := Hi HST.out.cont
    rw [HXX.out] at HC
    cases hs : stepR r1 t1 x with
    | ok z =>
     obtain ⟨r2, t2⟩ := z
     rw [hs] at HH5
     have HT2 := Hi (show t2.length ≤ t1.length + 1 from by rcases step_told HST.out.wf HUX.out.1 hs with h | ⟨y, h⟩ <;> rw [h] <;> simp)
     have HC2 := Hi (show runL r2 t2 n1 (l.drop (k + 1)) = res from by rw [← HC.out]; show _ = (match stepR r1 t1 x with | .ok (r', t') => runL r' t' n1 (l.drop (k + 1)) | .error k2 => if k2 = 251 then none else runL r1 t1 (n1 + 1) (l.drop (k + 1))); rw [hs])
     have HN := Hi (show RunS gh w2.heap.size res l w3 (k + 1) r2 t2 n1 w5 from ⟨HH5.out, wf_step HST.out.wf HUX.out.1 hs, HC2.out, by have := HT2.out; have := HST.out.len; omega, by have := HST.out.num; omega, HB5.out⟩)
     have hok : okK (Except.ok (r2, t2)) = 0 := rfl
     try rw [hok]
     clear hs
     go_wp2_with fail
     go_roundw
     case rel => exact ⟨k + 1, n1, r2, t2, HK.out, rfl, by have h1 := HK.out; have h3 := HML.out; go_num, HN.out⟩
     case measure => have := HK.out; have h3 := HML.out; simp [intOf]; omega
    | error e =>
     rw [hs] at HH5
     have HE := Hi (step_ne hs)
     have he0 : (e == 0) = false := by simpa using HE.out
     have hok : okK (Except.error e) = e := rfl
     try rw [hok]
     by_cases h251 : e = 251
     ·
      subst h251
      have HD2 := Hi (show res = none from by rw [← HC.out]; show (match stepR r1 t1 x with | .ok (r', t') => runL r' t' n1 (l.drop (k + 1)) | .error k2 => if k2 = 251 then none else runL r1 t1 (n1 + 1) (l.drop (k + 1))) = none; rw [hs]; rfl)
      rw [HD2.out] at HD
      clear hs
      have HDx := HD.out
      replace HD := Hi (show runR r l = (rec0, [], 0, 251) from HDx)
      replace R1 := Hi (R1.out.heap (HB5.out.block _ (by have := HL2.out; omega)))
      replace R3 := Hi (R3.out.heap (HB5.out.block _ (by have := HL2.out; omega)))
      replace HB := Hi (HB.out.trans (HB5.out.mono (by have := HL2.out; omega)))
      obtain ⟨y0, y1, y2, y3, y4, y5, y6⟩ := row7 R3.out
      have yl := R3.out.lt
      obtain ⟨yf0, yf1, yf2, yf3, yf4, yf5, yf6⟩ := fz R3.out
      go_wp2_with fail
      have hl1 := lp7 w5 (W.heap.size + 1) (.slice none 0 0) (.int .u64 0) (.slice none 0 0) (.int .u64 0) (.slice none 0 0) (.slice none 0 0) (.slice none 0 0)
      have hr3 := rp7 R3.out (.slice none 0 0) (.int .u64 0) (.slice none 0 0) (.int .u64 0) (.slice none 0 0) (.slice none 0 0) (.slice none 0 0)
      have hbF := HB.out.trans (hl1.below.mono (by omega))
      clear y0 y1 y2 y3 y4 y5 y6 yl
      clear yf0 yf1 yf2 yf3 yf4 yf5 yf6 hl1
      generalize World.setCell _ _ _ = wF at *
      obtain ⟨y0, y1, y2, y3, y4, y5, y6⟩ := row7 hr3
      have yl := hr3.lt
      refine bodyPost_ret (v := .tuple #[.agg #[.slice none 0 0, .int .u64 0, .slice none 0 0, .int .u64 0, .slice none 0 0, .slice none 0 0, .slice none 0 0], .slice none 0 0, .int .i64 0, .int .i64 251]) (by simp [results, Tryz.results17, go_sem, y0, y1, y2, y3, y4, y5, y6, yl]) rfl ⟨⟨.agg #[.slice none 0 0, .int .u64 0, .slice none 0 0, .int .u64 0, .slice none 0 0, .slice none 0 0, .slice none 0 0], none, 0, 0, by rw [HD.out]; rfl, by rw [HD.out]; exact zero_rec _ _, by rw [HD.out]; exact World.ownsRow_nil _ _ _ _, by rw [HD.out]; rfl⟩, hbF⟩
     ·
      have he1 : (e == 251) = false := by simpa using h251
      have HC2 := Hi (show runL r1 t1 (n1 + 1) (l.drop (k + 1)) = res from by rw [← HC.out]; show _ = (match stepR r1 t1 x with | .ok (r', t') => runL r' t' n1 (l.drop (k + 1)) | .error k2 => if k2 = 251 then none else runL r1 t1 (n1 + 1) (l.drop (k + 1))); rw [hs]; show _ = (if e = 251 then none else _); rw [if_neg h251])
      have HN := Hi (show RunS gh w2.heap.size res l w3 (k + 1) r1 t1 (n1 + 1) w5 from ⟨HH5.out, HST.out.wf, HC2.out, by have := HST.out.len; omega, by have := HST.out.num; omega, HB5.out⟩)
      have HNM := Hi HST.out.num
      have hn1 : (n1 : Int) ≤ 4096 := by have := HNM.out; have := HK.out; have := HML.out; omega
      clear hs
      go_wp2_with fail
      go_roundw
      case rel => exact ⟨k + 1, n1 + 1, r1, t1, HK.out, by have h1 := HK.out; have h2 := HNM.out; have h3 := HML.out; go_num, by have h1 := HK.out; have h3 := HML.out; go_num, HN.out⟩
      case measure => have := HK.out; have h3 := HML.out; simp [intOf]; omega
   ·
    have hkn : ml = k := by omega
    subst hkn
    have HC := Hi HST.out.cont
    have hdr : l.drop ml = [] := by rw [← HM.out]; exact List.drop_length
    rw [hdr] at HC
    have HD2 := Hi (show res = some (r1, t1, n1) from HC.out.symm)
    rw [HD2.out] at HD
    have HDx := HD.out
    replace HD := Hi (show runR r l = (r1, t1, n1, 0) from HDx)
    clear HDx hdr HC
    have HB5 := Hi HST.out.below
    obtain ⟨o9, hh9⟩ := HST.out.hand
    have HX5 := Hi hh9
    clear hh9
    clear HD2
    generalize r1 = r2 at *
    generalize t1 = t2 at *
    go_upto_region 14 with (fail)
    have HHW := Hi (⟨o9, HX5.out⟩ : ∃ o, HandX wr w2.heap.size gh o r2 t2)
    replace R1 := Hi (R1.out.heap (HB5.out.block _ (by have := HL2.out; omega)))
    replace R3 := Hi (R3.out.heap (HB5.out.block _ (by have := HL2.out; omega)))
    replace HB := Hi (HB.out.trans (HB5.out.mono (by have := HL2.out; omega)))
    obtain ⟨o3, B0, Bs, m0, d0, ms, ds, B, m, d, At, nt, ct, hh⟩ := HHW.out
    replace HHW := Hi (show HandR wr w2.heap.size gh B0 Bs m0 d0 ms ds B m d o3 At nt ct r2 t2 from hh)
    clear hh
    have HSX := Hi (fun (wX : World) (hgX : StayF (fun j => j ≠ (W.heap.size + 1)) wr wX) => show wX.cell? ⟨gh, 0, none⟩ = some (.slice B0 m0 d0) ∧ wX.cell? ⟨gh, 1, none⟩ = some (.int .u64 r2.e) ∧ wX.cell? ⟨gh, 2, none⟩ = some (.slice Bs ms ds) ∧ wX.cell? ⟨gh, 3, none⟩ = some (.int .u64 (r2.l.E : Int)) ∧ wX.cell? ⟨gh, 4, none⟩ = some (.slice (B 0) (m 0) (d 0)) ∧ wX.cell? ⟨gh, 5, none⟩ = some (.slice (B 1) (m 1) (d 1)) ∧ wX.cell? ⟨gh, 6, none⟩ = some (.slice (B 2) (m 2) (d 2)) ∧ wX.cell? ⟨gh, 12, none⟩ = some (.slice At nt ct) ∧ gh < wX.heap.size from by
     obtain ⟨z0, z1, z2, z3, z4, z5, z6, z7, z8, z9, z10, z11, z12⟩ := row13 HHW.out.row
     have hkg : ∀ j, gh ≤ j → j < wr.heap.size → wX.heap[j]? = wr.heap[j]? := fun j h1 h2 => hgX.2 j (by have := HHW.out.lo; have := HL2.out; show j ≠ _; omega) h2
     have hk : ∀ j v, wr.cell? ⟨gh, j, none⟩ = some v → wX.cell? ⟨gh, j, none⟩ = some v := fun j v h => (cell_of_heap (hkg gh (Nat.le_refl _) HHW.out.row.lt)).trans h
     exact ⟨hk _ _ z0, hk _ _ z1, hk _ _ z2, hk _ _ z3, hk _ _ z4, hk _ _ z5, hk _ _ z6, hk _ _ z12, Nat.lt_of_lt_of_le HHW.out.row.lt hgX.1⟩)
    have HBD := Hi (Below.refl wr.heap.size wr).drew
    have HSD := Hi (show StayF (fun j => j ≠ (W.heap.size + 1)) wr wr.drew from StayF.of_below HBD.out)
    have D3 := Hi (R3.out.below HBD.out)
    have HHD := Hi (HHW.out.below HBD.out)
    replace HB := Hi (HB.out.trans (HBD.out.mono HB.out.size))
    refine wp_region_held_drew (S := fun wX => wX.cell? ⟨gh, 0, none⟩ = some (.slice B0 m0 d0) ∧ wX.cell? ⟨gh, 1, none⟩ = some (.int .u64 r2.e) ∧ wX.cell? ⟨gh, 2, none⟩ = some (.slice Bs ms ds) ∧ wX.cell? ⟨gh, 3, none⟩ = some (.int .u64 (r2.l.E : Int)) ∧ wX.cell? ⟨gh, 4, none⟩ = some (.slice (B 0) (m 0) (d 0)) ∧ wX.cell? ⟨gh, 5, none⟩ = some (.slice (B 1) (m 1) (d 1)) ∧ wX.cell? ⟨gh, 6, none⟩ = some (.slice (B 2) (m 2) (d 2)) ∧ wX.cell? ⟨gh, 12, none⟩ = some (.slice At nt ct) ∧ gh < wX.heap.size) (by kernel_rfl) (HSX.out _ HSD.out) (fun hHeld => ?_)
    clear hHeld
    have hS0 := HSX.out _ HSD.out
    generalize wr.drew = wd at *
    refine tkI (i := 0) rfl ?_
    refine tkI (i := 1) rfl ?_
    refine tkI (i := 2) rfl ?_
    refine tkI (i := 3) rfl ?_
    refine tkI (i := 4) rfl ?_
    refine tkI (i := 5) rfl ?_
    refine tkI (i := 6) rfl ?_
    refine tkI (i := 7) rfl ?_
    refine tkI (i := 8) rfl ?_
    refine ryH (i := 9) rfl (fun K0 hK0 => ?_)
    obtain ⟨y0, y1, y2, y3, y4, y5, y6⟩ := row7 D3.out
    have yl := D3.out.lt
    obtain ⟨yf0, yf1, yf2, yf3, yf4, yf5, yf6⟩ := fz D3.out
    go_simp
    have hl1 := lp7 wd (W.heap.size + 1) (.slice B0 m0 d0) (.int .u64 r2.e) (.slice Bs ms ds) (.int .u64 (r2.l.E : Int)) (.slice (B 0) (m 0) (d 0)) (.slice (B 1) (m 1) (d 1)) (.slice (B 2) (m 2) (d 2))
    have hr3 := rp7 D3.out (.slice B0 m0 d0) (.int .u64 r2.e) (.slice Bs ms ds) (.int .u64 (r2.l.E : Int)) (.slice (B 0) (m 0) (d 0)) (.slice (B 1) (m 1) (d 1)) (.slice (B 2) (m 2) (d 2))
    have HS1 := Hi (HSD.out.trans (hl1.stay (fun h => h rfl)))
    have HL1 := Hi hl1
    have HR3 := Hi hr3
    clear hl1 hr3 hS0 yl y0 yf0 y1 yf1 y2 yf2 y3 yf3 y4 yf4 y5 yf5 y6 yf6
    generalize World.setCell _ _ _ = w8 at *
    have hS0 := HSX.out _ HS1.out
    refine hK0.out _ _ hS0 (fun _ => wnH ?_)
    clear hK0 K0
    refine ryH (i := 10) rfl (fun K1 hK1 => ?_)
    go_simp
    refine hK1.out _ _ hS0 (fun _ => wnH ?_)
    clear hK1 K1
    refine ryH (i := 11) rfl (fun K2 hK2 => ?_)
    go_simp
    refine hK2.out _ _ hS0 (fun _ => wnH ?_)
    clear hK2 K2
    refine ryH (i := 12) rfl (fun K3 hK3 => ?_)
    go_simp
    refine hK3.out _ _ hS0 (fun _ => wnH ?_)
    clear hK3 K3
    refine wpAnyH_done (by kernel_rfl) ?_ _
    obtain ⟨y0, y1, y2, y3, y4, y5, y6⟩ := row7 HR3.out
    have yl := HR3.out.lt
    go_wp2_with fail
    refine bodyPost_ret (v := .tuple #[.agg #[.slice B0 m0 d0, .int .u64 r2.e, .slice Bs ms ds, .int .u64 (r2.l.E : Int), .slice (B 0) (m 0) (d 0), .slice (B 1) (m 1) (d 1), .slice (B 2) (m 2) (d 2)], .slice At nt ct, .int .i64 ((n1 : Nat) : Int), .int .i64 0]) (by simp [results, Tryz.results17, go_sem, y0, y1, y2, y3, y4, y5, y6, yl]) rfl ?_
    have hk : ∀ j, w2.heap.size ≤ j → w8.heap[j]? = wd.heap[j]? := fun j hj => HL1.out.block j (by have := HL2.out; omega)
    refine ⟨⟨.agg #[.slice B0 m0 d0, .int .u64 r2.e, .slice Bs ms ds, .int .u64 (r2.l.E : Int), .slice (B 0) (m 0) (d 0), .slice (B 1) (m 1) (d 1), .slice (B 2) (m 2) (d 2)], At, nt, ct, by rw [HD.out], ?_, by rw [HD.out]; exact own_back HHD.out.own (fun j hj _ => hk j hj) (by have := HL2.out; omega), by rw [HD.out]; exact HHD.out.len⟩, HB.out.trans (HL1.out.below.mono (by omega))⟩
    rw [HD.out]
    exact ⟨_, _, _, _, _, _, _, _, _, rfl, ((HHD.out.all.up (G := fun j => w2.heap.size ≤ j) (fun j hj _ => hj.1)).stay ⟨HL1.out.size, fun j hj _ => hk j hj⟩).up (fun j hj _ => by have := HL2.out; have hj : w2.heap.size ≤ j := hj; show W.heap.size ≤ j; omega)⟩
theorem recC_updm (e : Int) (E : Nat) (A0 As : Option Addr) (n0 c0 ns cs : Nat) (A : Nat → Option Addr) (n c : Nat → Nat) {k : Nat} (hk : k < 3) (A1 : Option Addr) (n1 c1 : Nat) :
  (recC e E A0 As n0 c0 ns cs A n c).setIfInBounds (4 + k) (.slice A1 n1 c1) = recC e E A0 As n0 c0 ns cs (fun j => if j = k then A1 else A j) (fun j => if j = k then n1 else n j) (fun j => if j = k then c1 else c j) := by
 match k, hk with
 | 0, _ => rfl
 | 1, _ => rfl
 | 2, _ => rfl
def cutR (r : Rec) : Rec := ⟨r.sl.take 130, r.e, r.S.take 10, ⟨r.l.E, fun k => (r.l.r k).take 130⟩⟩
theorem take_min {α : Type} (xs : List α) {n k m : Nat} (hx : xs.length = n) (hm : min n k = m) : xs.take k = xs.take m ∧ (xs.take k).length = m := by
 subst hm hx
 refine ⟨?_, by rw [List.length_take, Nat.min_comm]⟩
 rw [Nat.min_comm]; exact List.take_eq_take_min
theorem Rd.firstW {w : World} {B n k : Nat} {A : Option Addr} {X : List Int} (h : Rd w B 1 A n (Cs encW X)) (hx : X.length = n) (hk : k ≤ n) : Rd w B 1 A k (Cs encW (X.take k)) := by
 refine ⟨by rw [Cs_length encW_len, List.length_take, hx, Nat.min_eq_left hk], fun hp => ?_⟩
 obtain ⟨b, off, e, hb, hc⟩ := h.2 (by omega)
 refine ⟨b, off, e, hb, fun j u hu => hc j u ?_⟩
 have h1 : Cs encW X = Cs encW (X.take k) ++ Cs encW (X.drop k) := by rw [← Cs_append, List.take_append_drop]
 rw [h1, List.getElem?_append_left (List.getElem?_eq_some_iff.1 hu).1]
 exact hu
structure OwnL (W w : World) (gx k : Nat) (E : Nat) (A0 As : Option Addr) (n0 c0 ns cs : Nat) (A : Nat → Option Addr) (n c : Nat → Nat) (r : Rec) : Prop where
 row : RowAt w gx 34 (recC r.e E A0 As n0 c0 ns cs A n c)
 lo : W.heap.size + 1 < gx
 sl : RdF (fun j => W.heap.size + 2 ≤ j ∧ j ≠ gx) w 2 A0 n0 (Cs encE (cutR r).sl)
 l0 : (cutR r).sl.length = n0
 h0 : n0 ≤ c0
 S : RdF (fun j => W.heap.size + 2 ≤ j ∧ j ≠ gx) w 1 As ns (Cs encW (cutR r).S)
 ls : (cutR r).S.length = ns
 hs : ns ≤ cs ∧ cs ≤ MaxLen
 rw : ∀ j, j < k → j < 3 → RdF (fun i => W.heap.size + 2 ≤ i ∧ i ≠ gx) w 2 (A j) (n j) (Cs encE ((cutR r).l.r j)) ∧ ((cutR r).l.r j).length = n j ∧ n j ≤ c j ∧ c j ≤ MaxLen
 below : Below W.heap.size W w
theorem OwnL.next {W w w1 : World} {gx k E : Nat} {A0' As' : Option Addr} {n0 c0' ns cs' : Nat} {A : Nat → Option Addr} {n c : Nat → Nat} {r : Rec} (h : OwnL W w gx k E A0' As' n0 c0' ns cs' A n c r) (hk : k < 3) (hb : Below w.heap.size w w1) (A1 : Option Addr) (m c1 : Nat) (hown : w1.ownsRow w.heap.size 41 2 (.slice A1 m c1) m (Cs encE ((cutR r).l.r k))) (hl : ((cutR r).l.r k).length = m) (hc : m ≤ c1 ∧ c1 ≤ MaxLen) :
  OwnL W (w1.setCell ⟨gx, 4 + k, none⟩ (.slice A1 m c1)) gx (k + 1) E A0' As' n0 c0' ns cs' (fun j => if j = k then A1 else A j) (fun j => if j = k then m else n j) (fun j => if j = k then c1 else c j) r := by
 have hst : StayF (fun j => W.heap.size + 2 ≤ j ∧ j ≠ gx) w (w1.setCell ⟨gx, 4 + k, none⟩ (.slice A1 m c1)) := (StayF.of_below hb).trans (StayF.set (fun h => h.2 rfl))
 refine ⟨?_, h.lo, h.sl.stay hst, h.l0, h.h0, h.S.stay hst, h.ls, h.hs, fun j hj h3 => ?_, (h.below.trans (hb.mono h.below.size)).setCell (p := ⟨gx, 4 + k, none⟩) (by have := h.lo; simp; omega) _⟩
 ·
  have h1 := (h.row.below hb).set (4 + k) (.slice A1 m c1)
  rw [recC_updm _ _ _ _ _ _ _ _ _ _ _ hk] at h1
  exact h1
 ·
  by_cases e : j = k
  ·
   subst e
   simp only [if_true]
   exact ⟨((RdF.typ hown (h.row.below hb) (by decide)).up (fun j hj _ => ⟨by have h1 := h.lo; have h2 := h.row.lt; have h3 := hj.1; omega, hj.2⟩)).stay (StayF.set (fun h => h.2 rfl)), hl, hc⟩
  ·
   simp only [if_neg e]
   have h1 := h.rw j (by omega) h3
   exact ⟨h1.1.stay hst, h1.2⟩
theorem OwnL.epoch {W w : World} {gx k E E2 : Nat} {A0 As : Option Addr} {n0 c0 ns cs : Nat} {A : Nat → Option Addr} {n c : Nat → Nat} {r : Rec} (h : OwnL W w gx k E A0 As n0 c0 ns cs A n c r) : OwnL W (w.setCell ⟨gx, 3, none⟩ (.int .u64 (E2 : Int))) gx k E2 A0 As n0 c0 ns cs A n c r := by
 have hst : StayF (fun j => W.heap.size + 2 ≤ j ∧ j ≠ gx) w (w.setCell ⟨gx, 3, none⟩ (.int .u64 (E2 : Int))) := StayF.set (fun h => h.2 rfl)
 refine ⟨by have h1 := h.row.set 3 (.int .u64 (E2 : Int)); simpa using h1, h.lo, h.sl.stay hst, h.l0, h.h0, h.S.stay hst, h.ls, h.hs, fun j hj h3 => ⟨(h.rw j hj h3).1.stay hst, (h.rw j hj h3).2⟩, h.below.setCell (p := ⟨gx, 3, none⟩) (by have := h.lo; simp; omega) _⟩
theorem RdF.laid1 {W w w' : World} {gx sz n : Nat} {A : Option Addr} {xs : List Value} (h : RdF (fun j => W.heap.size + 2 ≤ j ∧ j ≠ gx) w sz A n xs) (hl : LaidF (W.heap.size + 1) w w') : RdF (From W.heap.size) w' sz A n xs :=
 (h.stay (hl.stay (fun h => by have := h.1; omega))).up (fun j hj _ => by have h1 := hj.1; show W.heap.size ≤ j; omega)
def LownRes (r : Rec) (W : World) (e : Ending) (W' : World) : Prop := (∃ v, e = .returned v ∧ RecOut (From W.heap.size) W' v (cutR r)) ∧ Below W.heap.size W W'
set_option maxRecDepth 20000 in
theorem lown_any (F : Nat → Prop) (A0 As : Option Addr) (n0 c0 ns cs : Nat) (A : Nat → Option Addr) (n c : Nat → Nat) (r : Rec) (W : World) (h : RecF F W A0 As n0 c0 ns cs A n c r) :
  Calls Tryz.prog 10 #[.agg (recC r.e r.l.E A0 As n0 c0 ns cs A n c)] W (LownRes r W) := by
 have hb1 : Below W.heap.size W ((W.alloc (.cells #[.slice A0 n0 c0, .int .u64 r.e, .slice As ns cs, .int .u64 (r.l.E : Int), .slice (A 0) (n 0) (c 0), .slice (A 1) (n 1) (c 1), .slice (A 2) (n 2) (c 2)] 34)).alloc (.cells #[.slice none 0 0, .int .u64 0, .slice none 0 0, .int .u64 0, .slice none 0 0, .slice none 0 0, .slice none 0 0] 34)) := ((Below.refl _ _).alloc (Nat.le_refl _) _).alloc (by simp) _
 have al := al2 W #[.slice A0 n0 c0, .int .u64 r.e, .slice As ns cs, .int .u64 (r.l.E : Int), .slice (A 0) (n 0) (c 0), .slice (A 1) (n 1) (c 1), .slice (A 2) (n 2) (c 2)] 34 #[.slice none 0 0, .int .u64 0, .slice none 0 0, .int .u64 0, .slice none 0 0, .slice none 0 0, .slice none 0 0] 34
 have R1 := Hi al.1.1
 have R0 := Hi al.1.2
 clear al
 have HB1 := Hi hb1
 have H := Hi (h.below hb1)
 have HS1 := Hi (show ((W.alloc (.cells #[.slice A0 n0 c0, .int .u64 r.e, .slice As ns cs, .int .u64 (r.l.E : Int), .slice (A 0) (n 0) (c 0), .slice (A 1) (n 1) (c 1), .slice (A 2) (n 2) (c 2)] 34)).alloc (.cells #[.slice none 0 0, .int .u64 0, .slice none 0 0, .int .u64 0, .slice none 0 0, .slice none 0 0, .slice none 0 0] 34)).heap.size = W.heap.size + 2 from by simp)
 obtain ⟨m0, hm0⟩ : ∃ m, min n0 130 = m := ⟨_, rfl⟩
 obtain ⟨ms, hms⟩ : ∃ m, min ns 10 = m := ⟨_, rfl⟩
 obtain ⟨t0, l0⟩ := take_min r.sl h.l0 hm0
 obtain ⟨ts, ls⟩ := take_min r.S h.ls hms
 have T0 := Hi t0
 have L0 := Hi l0
 have TS := Hi ts
 have LS := Hi ls
 have hm1 : min (n0 : Int) 130 = (m0 : Int) := by omega
 have hm2 : min (ns : Int) 10 = (ms : Int) := by omega
 have hm3 : m0 ≤ n0 := by omega
 have hm4 : ms ≤ ns := by omega
 have hm5 : (m0 : Int) ≤ (c0 : Int) := by have := h.h0; omega
 have hm6 : (ms : Int) ≤ (cs : Int) := by have := h.hs.1; omega
 have hm7 : m0 ≤ 130 := by omega
 have hm8 : ms ≤ 10 := by omega
 clear hb1 h t0 l0 ts ls hm0 hms
 go_enter Tryz.func10, Tryz.ntmps10
 go_upto_region 1 with (fail)
 generalize (W.alloc _).alloc _ = w1 at *
 go_cut [3] from 6 to 31 (fun s3 wx => ∃ gx A0' As' c0' cs', s3 = .pointer (some ⟨gx, 0, none⟩) ∧ Below w1.heap.size w1 wx ∧ OwnL W wx gx 0 0 A0' As' m0 c0' ms cs' (fun _ => none) (fun _ => 0) (fun _ => 0) r)
 case first =>
  have HSX := Hi (fun (wX : World) (hgX : Below w1.heap.size w1 wX) => show wX.cell? ⟨W.heap.size, 0, none⟩ = some (.slice A0 n0 c0) ∧ wX.cell? ⟨W.heap.size, 1, none⟩ = some (.int .u64 r.e) ∧ wX.cell? ⟨W.heap.size, 2, none⟩ = some (.slice As ns cs) ∧ wX.cell? ⟨W.heap.size, 3, none⟩ = some (.int .u64 (r.l.E : Int)) ∧ wX.cell? ⟨W.heap.size, 4, none⟩ = some (.slice (A 0) (n 0) (c 0)) ∧ wX.cell? ⟨W.heap.size, 5, none⟩ = some (.slice (A 1) (n 1) (c 1)) ∧ wX.cell? ⟨W.heap.size, 6, none⟩ = some (.slice (A 2) (n 2) (c 2)) ∧ W.heap.size < wX.heap.size from by
   obtain ⟨z0, z1, z2, z3, z4, z5, z6⟩ := row7 R1.out
   exact ⟨kept hgX z0, kept hgX z1, kept hgX z2, kept hgX z3, kept hgX z4, kept hgX z5, kept hgX z6, Nat.lt_of_lt_of_le R1.out.lt hgX.size⟩)
  have HX := Hi ((Below.refl w1.heap.size w1).drew)
  refine wp_region_held_drew (S := fun wX => wX.cell? ⟨W.heap.size, 0, none⟩ = some (.slice A0 n0 c0) ∧ wX.cell? ⟨W.heap.size, 1, none⟩ = some (.int .u64 r.e) ∧ wX.cell? ⟨W.heap.size, 2, none⟩ = some (.slice As ns cs) ∧ wX.cell? ⟨W.heap.size, 3, none⟩ = some (.int .u64 (r.l.E : Int)) ∧ wX.cell? ⟨W.heap.size, 4, none⟩ = some (.slice (A 0) (n 0) (c 0)) ∧ wX.cell? ⟨W.heap.size, 5, none⟩ = some (.slice (A 1) (n 1) (c 1)) ∧ wX.cell? ⟨W.heap.size, 6, none⟩ = some (.slice (A 2) (n 2) (c 2)) ∧ W.heap.size < wX.heap.size) (by kernel_rfl) (HSX.out _ HX.out) (fun hHeld => ?_)
  clear hHeld
  have hS0 := HSX.out _ HX.out
  generalize w1.drew = wd at *
  refine tkI (i := 0) rfl ?_
  refine tkI (i := 1) rfl ?_
  refine tkI (i := 2) rfl ?_
  refine tkI (i := 3) rfl ?_
  refine tkI (i := 4) rfl ?_
  refine tkI (i := 5) rfl ?_
  refine tkI (i := 6) rfl ?_
  refine tkI (i := 7) rfl ?_
  refine tkI (i := 8) rfl ?_
  refine tkI (i := 11) rfl ?_
  refine tkI (i := 12) rfl ?_
  refine tkI (i := 13) rfl ?_
  refine tkI (i := 14) rfl ?_
  refine tkI (i := 15) rfl ?_
  refine tkI (i := 16) rfl ?_
  refine tkI (i := 17) rfl ?_
  refine tkI (i := 18) rfl ?_
  refine tkI (i := 19) rfl ?_
  refine tkI (i := 20) rfl ?_
  refine tkI (i := 21) rfl ?_
  refine tkI (i := 22) rfl ?_
  refine wpAnyH_ready (rs := [9, 26]) (by kernel_rfl) (by simp) ?_
  refine (AllReadyH.cons rfl (fun K0 hK0 => ?_) (AllReadyH.cons rfl (fun K1 hK1 => ?_) AllReadyH.nil))
  focus
   go_simp
   with_reducible refine (CloneS wd.heap.size A0 m0 c0 (Cs encE (r.sl.take 130)) wd (by rw [T0.out]; exact ((H.out.sl.rd.first H.out.l0 hm3).below HX.out |>.more HX.out.size)) (Nat.le_refl _) (Cs_one_cell encE_one _) (by omega)).mono ?_
   rintro e wc0 ⟨v, rfl, hown, hb⟩
   obtain ⟨A0', c0', rfl, hca1, hca2⟩ := own_form2 hown
   have HC1 := Hi hca1
   have O1 := Hi (own_lo (b := W.heap.size + 2) hown (by have h1 := HS1.out; have h2 := HX.out.size; omega))
   have hX2 := HX.out.trans (hb.mono HX.out.size)
   replace HX := Hi hX2
   clear hX2 hS0 hown hb hca1 hca2
   have hS0 := HSX.out _ HX.out
   refine hK0.out _ _ hS0 (fun _ => wnH ?_)
   clear hK0 K0
   refine tkI (i := 10) rfl ?_
   refine wpAnyH_ready (rs := [23, 26]) (by kernel_rfl) (by simp) ?_
   refine (AllReadyH.cons rfl (fun K2 hK2 => ?_) (AllReadyH.cons rfl (fun K3 hK3 => ?_) AllReadyH.nil))
   focus
    go_simp
    with_reducible refine (Pn.CloneW wc0.heap.size As ms cs (Cs encW (r.S.take 10)) wc0 (by rw [TS.out]; exact ((H.out.S.rd.firstW H.out.ls hm4).below HX.out |>.more HX.out.size)) (Nat.le_refl _) (Cs_one_cell encW_one _) (by omega)).mono ?_
    rintro e wc1 ⟨v, rfl, hown, hb⟩
    obtain ⟨As', cs', rfl, hca1, hca2⟩ := own_form2 hown
    have HC2 := Hi (And.intro hca1 hca2)
    replace O1 := Hi (own_keepB O1.out hb)
    have O2 := Hi (own_lo (b := W.heap.size + 2) hown (by have h1 := HS1.out; have h2 := HX.out.size; omega))
    have hX2 := HX.out.trans (hb.mono HX.out.size)
    replace HX := Hi hX2
    clear hX2 hS0 hown hb hca1 hca2
    have hS0 := HSX.out _ HX.out
    refine hK2.out _ _ hS0 (fun _ => wnH ?_)
    clear hK2 K2
    refine tkI (i := 24) rfl ?_
    refine tkI (i := 25) rfl ?_
    refine ryH (i := 26) rfl (fun K4 hK4 => ?_)
    go_simp
    have RXX := Hi (RowAt.new wc1 34 #[.slice none 0 0, .int .u64 0, .slice none 0 0, .int .u64 0, .slice none 0 0, .slice none 0 0, .slice none 0 0])
    have HG := Hi ((Below.refl wc1.heap.size wc1).alloc (Nat.le_refl _) (.cells #[.slice none 0 0, .int .u64 0, .slice none 0 0, .int .u64 0, .slice none 0 0, .slice none 0 0, .slice none 0 0] 34))
    obtain ⟨gx, hgx⟩ : ∃ gx, wc1.heap.size = gx := ⟨_, rfl⟩
    have HGX := Hi (show w1.heap.size ≤ gx from by rw [← hgx]; exact HX.out.size)
    rw [hgx] at RXX ⊢
    have hX2 := HX.out.trans (HG.out.mono HX.out.size)
    replace HX := Hi hX2
    clear hX2 hS0
    replace O1 := Hi (own_keepB O1.out HG.out)
    replace O2 := Hi (own_keepB O2.out HG.out)
    generalize wc1.alloc _ = wa2 at *
    clear HG hgx
    have hS0 := HSX.out _ HX.out
    refine hK4.out _ _ hS0 (fun _ => wnH ?_)
    clear hK4 K4
    obtain ⟨zq1, hzq⟩ : ∃ w, w = wa2 := ⟨_, rfl⟩
    subst hzq
   rotate_left
   focus
    go_simp
    have RXX := Hi (RowAt.new wc0 34 #[.slice none 0 0, .int .u64 0, .slice none 0 0, .int .u64 0, .slice none 0 0, .slice none 0 0, .slice none 0 0])
    have HG := Hi ((Below.refl wc0.heap.size wc0).alloc (Nat.le_refl _) (.cells #[.slice none 0 0, .int .u64 0, .slice none 0 0, .int .u64 0, .slice none 0 0, .slice none 0 0, .slice none 0 0] 34))
    obtain ⟨gx, hgx⟩ : ∃ gx, wc0.heap.size = gx := ⟨_, rfl⟩
    have HGX := Hi (show w1.heap.size ≤ gx from by rw [← hgx]; exact HX.out.size)
    rw [hgx] at RXX ⊢
    have hX2 := HX.out.trans (HG.out.mono HX.out.size)
    replace HX := Hi hX2
    clear hX2 hS0
    replace O1 := Hi (own_keepB O1.out HG.out)
    generalize wc0.alloc _ = wa1 at *
    clear HG hgx
    have hS0 := HSX.out _ HX.out
    refine hK3.out _ _ hS0 (fun _ => wnH ?_)
    clear hK3 K3
    refine ryH (i := 23) rfl (fun K6 hK6 => ?_)
    go_simp
    with_reducible refine (Pn.CloneW wa1.heap.size As ms cs (Cs encW (r.S.take 10)) wa1 (by rw [TS.out]; exact ((H.out.S.rd.firstW H.out.ls hm4).below HX.out |>.more HX.out.size)) (Nat.le_refl _) (Cs_one_cell encW_one _) (by omega)).mono ?_
    rintro e wc2 ⟨v, rfl, hown, hb⟩
    obtain ⟨As', cs', rfl, hca1, hca2⟩ := own_form2 hown
    have HC2 := Hi (And.intro hca1 hca2)
    replace O1 := Hi (own_keepB O1.out hb)
    replace RXX := Hi (RXX.out.below hb)
    have O2 := Hi (own_lo (b := W.heap.size + 2) hown (by have h1 := HS1.out; have h2 := HX.out.size; omega))
    have hX2 := HX.out.trans (hb.mono HX.out.size)
    replace HX := Hi hX2
    clear hX2 hS0 hown hb hca1 hca2
    have hS0 := HSX.out _ HX.out
    refine hK6.out _ _ hS0 (fun _ => wnH ?_)
    clear hK6 K6
    refine tkI (i := 24) rfl ?_
    refine tkI (i := 25) rfl ?_
    obtain ⟨zq1, hzq⟩ : ∃ w, w = wc2 := ⟨_, rfl⟩
    subst hzq
   rotate_left
  rotate_left 2
  focus
   go_simp
   have RXX := Hi (RowAt.new wd 34 #[.slice none 0 0, .int .u64 0, .slice none 0 0, .int .u64 0, .slice none 0 0, .slice none 0 0, .slice none 0 0])
   have HG := Hi ((Below.refl wd.heap.size wd).alloc (Nat.le_refl _) (.cells #[.slice none 0 0, .int .u64 0, .slice none 0 0, .int .u64 0, .slice none 0 0, .slice none 0 0, .slice none 0 0] 34))
   obtain ⟨gx, hgx⟩ : ∃ gx, wd.heap.size = gx := ⟨_, rfl⟩
   have HGX := Hi (show w1.heap.size ≤ gx from by rw [← hgx]; exact HX.out.size)
   rw [hgx] at RXX ⊢
   have hX2 := HX.out.trans (HG.out.mono HX.out.size)
   replace HX := Hi hX2
   clear hX2 hS0
   generalize wd.alloc _ = wa0 at *
   clear HG hgx
   have hS0 := HSX.out _ HX.out
   refine hK1.out _ _ hS0 (fun _ => wnH ?_)
   clear hK1 K1
   refine ryH (i := 9) rfl (fun K8 hK8 => ?_)
   go_simp
   with_reducible refine (CloneS wa0.heap.size A0 m0 c0 (Cs encE (r.sl.take 130)) wa0 (by rw [T0.out]; exact ((H.out.sl.rd.first H.out.l0 hm3).below HX.out |>.more HX.out.size)) (Nat.le_refl _) (Cs_one_cell encE_one _) (by omega)).mono ?_
   rintro e wc1 ⟨v, rfl, hown, hb⟩
   obtain ⟨A0', c0', rfl, hca1, hca2⟩ := own_form2 hown
   have HC1 := Hi hca1
   replace RXX := Hi (RXX.out.below hb)
   have O1 := Hi (own_lo (b := W.heap.size + 2) hown (by have h1 := HS1.out; have h2 := HX.out.size; omega))
   have hX2 := HX.out.trans (hb.mono HX.out.size)
   replace HX := Hi hX2
   clear hX2 hS0 hown hb hca1 hca2
   have hS0 := HSX.out _ HX.out
   refine hK8.out _ _ hS0 (fun _ => wnH ?_)
   clear hK8 K8
   refine tkI (i := 10) rfl ?_
   refine ryH (i := 23) rfl (fun K9 hK9 => ?_)
   go_simp
   with_reducible refine (Pn.CloneW wc1.heap.size As ms cs (Cs encW (r.S.take 10)) wc1 (by rw [TS.out]; exact ((H.out.S.rd.firstW H.out.ls hm4).below HX.out |>.more HX.out.size)) (Nat.le_refl _) (Cs_one_cell encW_one _) (by omega)).mono ?_
   rintro e wc2 ⟨v, rfl, hown, hb⟩
   obtain ⟨As', cs', rfl, hca1, hca2⟩ := own_form2 hown
   have HC2 := Hi (And.intro hca1 hca2)
   replace O1 := Hi (own_keepB O1.out hb)
   replace RXX := Hi (RXX.out.below hb)
   have O2 := Hi (own_lo (b := W.heap.size + 2) hown (by have h1 := HS1.out; have h2 := HX.out.size; omega))
   have hX2 := HX.out.trans (hb.mono HX.out.size)
   replace HX := Hi hX2
   clear hX2 hS0 hown hb hca1 hca2
   have hS0 := HSX.out _ HX.out
   refine hK9.out _ _ hS0 (fun _ => wnH ?_)
   clear hK9 K9
   refine tkI (i := 24) rfl ?_
   refine tkI (i := 25) rfl ?_
   obtain ⟨zq1, hzq⟩ : ∃ w, w = wc2 := ⟨_, rfl⟩
   subst hzq
  rotate_left
  all_goals
   refine ryH (i := 27) rfl (fun K5 hK5 => ?_)
   have RX := RXX.out
   obtain ⟨y0, y1, y2, y3, y4, y5, y6⟩ := row7 RX
   have yl := RX.lt
   obtain ⟨yf0, yf1, yf2, yf3, yf4, yf5, yf6⟩ := fz RX
   clear hS0
   go_simp
   have hst : StayF (fun j => W.heap.size + 2 ≤ j ∧ j ≠ gx) zq1 (((((((zq1.setCell ⟨gx, 0, none⟩ (.slice A0' m0 c0')).setCell ⟨gx, 1, none⟩ (.int .u64 r.e)).setCell ⟨gx, 2, none⟩ (.slice As' ms cs')).setCell ⟨gx, 3, none⟩ (.int .u64 0)).setCell ⟨gx, 4, none⟩ (.slice none 0 0)).setCell ⟨gx, 5, none⟩ (.slice none 0 0)).setCell ⟨gx, 6, none⟩ (.slice none 0 0)) := ((((((((StayF.refl _ _).trans (StayF.set (fun h => h.2 rfl))).trans (StayF.set (fun h => h.2 rfl))).trans (StayF.set (fun h => h.2 rfl))).trans (StayF.set (fun h => h.2 rfl))).trans (StayF.set (fun h => h.2 rfl))).trans (StayF.set (fun h => h.2 rfl))).trans (StayF.set (fun h => h.2 rfl)))
   have hb9 : Below w1.heap.size w1 (((((((zq1.setCell ⟨gx, 0, none⟩ (.slice A0' m0 c0')).setCell ⟨gx, 1, none⟩ (.int .u64 r.e)).setCell ⟨gx, 2, none⟩ (.slice As' ms cs')).setCell ⟨gx, 3, none⟩ (.int .u64 0)).setCell ⟨gx, 4, none⟩ (.slice none 0 0)).setCell ⟨gx, 5, none⟩ (.slice none 0 0)).setCell ⟨gx, 6, none⟩ (.slice none 0 0)) := (((((((HX.out.setCell (p := ⟨gx, 0, none⟩) (by have := HGX.out; simp; omega) _).setCell (p := ⟨gx, 1, none⟩) (by have := HGX.out; simp; omega) _).setCell (p := ⟨gx, 2, none⟩) (by have := HGX.out; simp; omega) _).setCell (p := ⟨gx, 3, none⟩) (by have := HGX.out; simp; omega) _).setCell (p := ⟨gx, 4, none⟩) (by have := HGX.out; simp; omega) _).setCell (p := ⟨gx, 5, none⟩) (by have := HGX.out; simp; omega) _).setCell (p := ⟨gx, 6, none⟩) (by have := HGX.out; simp; omega) _)
   have HO := Hi (show OwnL W (((((((zq1.setCell ⟨gx, 0, none⟩ (.slice A0' m0 c0')).setCell ⟨gx, 1, none⟩ (.int .u64 r.e)).setCell ⟨gx, 2, none⟩ (.slice As' ms cs')).setCell ⟨gx, 3, none⟩ (.int .u64 0)).setCell ⟨gx, 4, none⟩ (.slice none 0 0)).setCell ⟨gx, 5, none⟩ (.slice none 0 0)).setCell ⟨gx, 6, none⟩ (.slice none 0 0)) gx 0 0 A0' As' m0 c0' ms cs' (fun _ => none) (fun _ => 0) (fun _ => 0) r from ⟨(show RowAt (((((((zq1.setCell ⟨gx, 0, none⟩ (.slice A0' m0 c0')).setCell ⟨gx, 1, none⟩ (.int .u64 r.e)).setCell ⟨gx, 2, none⟩ (.slice As' ms cs')).setCell ⟨gx, 3, none⟩ (.int .u64 0)).setCell ⟨gx, 4, none⟩ (.slice none 0 0)).setCell ⟨gx, 5, none⟩ (.slice none 0 0)).setCell ⟨gx, 6, none⟩ (.slice none 0 0)) gx 34 #[.slice A0' m0 c0', .int .u64 r.e, .slice As' ms cs', .int .u64 0, .slice none 0 0, .slice none 0 0, .slice none 0 0] from by have h := (((((((RX.set 0 (.slice A0' m0 c0')).set 1 (.int .u64 r.e)).set 2 (.slice As' ms cs')).set 3 (.int .u64 0)).set 4 (.slice none 0 0)).set 5 (.slice none 0 0)).set 6 (.slice none 0 0)); simpa using h), by have := HGX.out; have := HS1.out; omega, (RdF.typ O1.out RX (by decide)).stay hst, L0.out, HC1.out, (RdF.typ O2.out RX (by decide)).stay hst, LS.out, HC2.out, fun j hj => absurd hj (by omega), HB1.out.trans (hb9.mono (by have := HS1.out; omega))⟩)
   have HB9 := Hi hb9
   clear hb9 hst RX y0 y1 y2 y3 y4 y5 y6 yf0 yf1 yf2 yf3 yf4 yf5 yf6 yl
   generalize World.setCell _ _ _ = w9 at *
   refine hK5.out _ _ (HSX.out _ HB9.out) (fun _ => wnH ?_)
   clear hK5 K5
   refine wpAnyH_done (by kernel_rfl) ?_ _
   go_wp2_with fail
   go_meet
   case rel => exact ⟨gx, A0', As', c0', cs', rfl, HB9.out, HO.out⟩
 case rest =>
  rename_i K hK
  refine hK _ _ ?_
  clear hK K
  obtain ⟨w2, hw2⟩ : ∃ w, w = wc := ⟨_, rfl⟩
  subst hw2
  obtain ⟨gx, A0', As', c0', cs', rfl, hbx, hst⟩ := hcut
  have HGB := Hi (show w1.heap.size ≤ gx from by have := hst.lo; have := HS1.out; omega)
  have HST0 := Hi (hst.epoch (E2 := r.l.E))
  have HBX := Hi (hbx.setCell (p := ⟨gx, 3, none⟩) HGB.out (.int .u64 (r.l.E : Int)))
  have R2 := Hi (R1.out.below hbx)
  have hgl := hst.row.lt
  have hgf := hst.row.frozen 3
  have hg3 := (row7 hst.row).2.2.2.1
  clear hbx hst hm1 hm2 hm3 hm4 hm5 hm6 hm7 hm8
  obtain ⟨z0, z1, z2, z3, z4, z5, z6⟩ := row7 R2.out
  have zl := R2.out.lt
  go_upto_region 3 with (fail)
  clear z0 z1 z2 z3 z4 z5 z6 zl hgl hgf hg3 R2
  generalize w2.setCell _ _ = w4 at *
  have R4 := Hi (R1.out.below HBX.out)
  obtain ⟨z0, z1, z2, z3, z4, z5, z6⟩ := row7 R4.out
  have zl := R4.out.lt
  go_upto_region 4 with (fail)
  clear z0 z1 z2 z3 z4 z5 z6 zl
  go_loopw [40] (fun i wr => ∃ (k : Nat), k ≤ 3 ∧ i = .int .i64 (k : Int) ∧ Below w1.heap.size w1 wr ∧ ∃ A1 n1 c1, OwnL W wr gx k r.l.E A0' As' m0 c0' ms cs' A1 n1 c1 r) (fun i _ => 3 - (intOf i).toNat)
  case atStart => exact ⟨0, by omega, rfl, HBX.out, _, _, _, HST0.out⟩
  case round =>
   obtain ⟨k, hk, rfl, hbw, A1, n1, c1, hst⟩ := hrel
   have HST := Hi hst
   have HBW := Hi hbw
   clear hst hbw
   by_cases hlt : k < 3
   ·
    have hki : (k : Int) < 3 := by omega
    have hix := Li.index_rows A n c k hlt
    obtain ⟨m, hm⟩ : ∃ m, min (n k) 130 = m := ⟨_, rfl⟩
    obtain ⟨tk0, lk0⟩ := take_min (r.l.r k) (H.out.ll k hlt) hm
    have LK := Hi lk0
    have TK := Hi tk0
    have hm1 : min (n k : Int) 130 = (m : Int) := by omega
    have hm3 : m ≤ n k := by omega
    have hm5 : (m : Int) ≤ (c k : Int) := by have := (H.out.hl k hlt).1; omega
    have hm9 : (c k : Int) ≤ 9223372036854775807 := by have := (H.out.hl k hlt).2; unfold MaxLen at this; omega
    have HCL := Hi (CloneE wr.heap.size (A k) m (c k) (Cs encE ((r.l.r k).take 130)) wr (by rw [TK.out]; exact ((((H.out.rw k hlt).rd.first (H.out.ll k hlt) hm3).below HBW.out).more HBW.out.size)) (Nat.le_refl _) (Cs_one_cell encE_one _) (by omega))
    clear tk0 lk0 hm
    go_wp2_with fail
    with_reducible refine HCL.out.mono ?_
    rintro e w3 ⟨v, rfl, hown, hb⟩
    obtain ⟨A3, c3, rfl, hc3, hcm3⟩ := own_form2 hown
    have HN := Hi (HST.out.next hlt hb A3 m c3 hown LK.out ⟨hc3, hcm3⟩)
    have HBN := Hi ((HBW.out.trans (hb.mono HBW.out.size)).setCell (p := ⟨gx, 4 + k, none⟩) (HGB.out) (.slice A3 m c3))
    have hc0 : w3.cell? ⟨gx, 4 + k, none⟩ = some (.slice (A1 k) (n1 k) (c1 k)) := ((HST.out.row.below hb).cell (4 + k)).trans (recC_at _ _ _ _ _ _ _ _ _ _ _ hlt)
    have hcl := (HST.out.row.below hb).lt
    have hcf := (HST.out.row.below hb).frozen (4 + k)
    clear hown hb HCL hix hm1 hm3 hm5 hm9
    go_wp2_with fail
    go_roundw
    case rel => exact ⟨k + 1, by omega, by go_num, HBN.out, _, _, _, HN.out⟩
    case measure => simp [intOf]; omega
   ·
    obtain rfl : k = 3 := by omega
    obtain ⟨z0, z1, z2, z3, z4, z5, z6⟩ := row7 HST.out.row
    have zl := HST.out.row.lt
    have R0w : RowAt wr (W.heap.size + 1) 34 #[.slice none 0 0, .int .u64 0, .slice none 0 0, .int .u64 0, .slice none 0 0, .slice none 0 0, .slice none 0 0] := R0.out.below HBW.out
    obtain ⟨y0, y1, y2, y3, y4, y5, y6⟩ := row7 R0w
    have yl := R0w.lt
    obtain ⟨yf0, yf1, yf2, yf3, yf4, yf5, yf6⟩ := fz R0w
    go_wp2_with fail
    have hl := lp7 wr (W.heap.size + 1) (.slice A0' m0 c0') (.int .u64 r.e) (.slice As' ms cs') (.int .u64 (r.l.E : Int)) (.slice (A1 0) (n1 0) (c1 0)) (.slice (A1 1) (n1 1) (c1 1)) (.slice (A1 2) (n1 2) (c1 2))
    have hr := rp7 R0w (.slice A0' m0 c0') (.int .u64 r.e) (.slice As' ms cs') (.int .u64 (r.l.E : Int)) (.slice (A1 0) (n1 0) (c1 0)) (.slice (A1 1) (n1 1) (c1 1)) (.slice (A1 2) (n1 2) (c1 2))
    clear y0 yf0 y1 yf1 y2 yf2 y3 yf3 y4 yf4 y5 yf5 y6 yf6 yl zl z0 z1 z2 z3 z4 z5 z6
    generalize World.setCell _ _ _ = wF at *
    obtain ⟨y0, y1, y2, y3, y4, y5, y6⟩ := row7 hr
    have yl := hr.lt
    refine bodyPost_ret (v := .agg #[.slice A0' m0 c0', .int .u64 r.e, .slice As' ms cs', .int .u64 (r.l.E : Int), .slice (A1 0) (n1 0) (c1 0), .slice (A1 1) (n1 1) (c1 1), .slice (A1 2) (n1 2) (c1 2)]) (by simp [results, Tryz.results10, go_sem, y0, y1, y2, y3, y4, y5, y6, yl]) rfl ⟨⟨_, rfl, ?_⟩, HST.out.below.trans (hl.below.mono (by omega))⟩
    skip
    exact ⟨A0', As', m0, c0', ms, cs', A1, n1, c1, rfl, RdF.laid1 HST.out.sl hl, HST.out.l0, HST.out.h0, RdF.laid1 HST.out.S hl, HST.out.ls, HST.out.hs, fun j hj => RdF.laid1 (HST.out.rw j hj hj).1 hl, fun j hj => (HST.out.rw j hj hj).2.1, fun j hj => (HST.out.rw j hj hj).2.2⟩
end Go.Proofs.YtkicidopjihjmaaGreat
