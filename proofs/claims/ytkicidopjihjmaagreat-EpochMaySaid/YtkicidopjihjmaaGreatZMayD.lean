/-
  Part of a proof: ZMay says of what.
-/
import Derived.RegionTactic
import Derived.Test.YtkicidopjihjmaaGreatZMayC
set_option linter.unusedSimpArgs false
set_option linter.unusedVariables false
set_option linter.unusedSimpArgs false
set_option linter.unusedVariables false
namespace Go.Proofs.YtkicidopjihjmaaGreat
open Go Go.RowKit
attribute [local go_sem] via_cell via_frozen
def PinRes (gh base : Nat) (o : EOp) (At : Option Addr) (nt ct : Nat) (told : List Ent) (res : Except Int (Rec × List Ent)) (W : World) (e : Ending) (W' : World) : Prop :=
 (∃ r', res = .ok (r', told) ∧ e = .returned (.tuple #[]) ∧ (∃ A0 As n0 c0 ns cs A n c, HandR W' base gh A0 As n0 c0 ns cs A n c o At nt ct r' told) ∧ Past gh W W') ∨ (∃ k, res = .error k ∧ e = .panicked (errX k) ∧ (∃ cs, RowAt W' gh 95 cs ∧ cs.size = 13) ∧ Past gh W W')
theorem New_any (g n : Int) (W : World) : Calls Tryz.prog 31 #[.int .i64 g, .int .i64 n] W (NewRes g n W) := by
 by_cases h : (1 ≤ g ∧ g ≤ 8) ∧ (2 ≤ n ∧ n ≤ 128)
 ·
  obtain ⟨a, ha⟩ := Int.eq_ofNat_of_zero_le (show 0 ≤ g by omega)
  obtain ⟨b, hb⟩ := Int.eq_ofNat_of_zero_le (show 0 ≤ n by omega)
  subst ha hb
  exact new_good a b (by omega) (by omega) (by omega) (by omega) W
 ·
  exact new_bad g n h W
theorem off_from {gh : Nat} {At : Option Addr} {w : World} {base nt ct : Nat} {xs : List Value} (hg : gh < w.heap.size) (ho : w.ownsRow base 41 2 (.slice At nt ct) nt xs) (hb : base ≤ gh) : ∀ j, From w.heap.size j → OffB base gh At j := fun j hj => ⟨by have hj : w.heap.size ≤ j := hj; omega, off_up hg (fun q hq => (told_lt ho q hq).2) hj⟩
theorem PnOut.rdF {W w : World} {A : Option Addr} {n : Nat} {ys : List Int} (h : Pn.PnOut W A n ys w) : RdF (From W.heap.size) w 1 A n (Cs encW ys) := RdF.of h.rd (fun hn q hq => by
 obtain ⟨gs, h1, h2, _⟩ := h.own hn
 rw [hq] at h1
 injection h1 with h1
 subst h1
 exact h2) (fun _ hn q hq => by
 obtain ⟨gs, h1, _, h3⟩ := h.own hn
 rw [hq] at h1
 injection h1 with h1
 subst h1
 exact ⟨_, _, h3⟩)
set_option maxRecDepth 20000 in
set_option maxHeartbeats 2000000 in
theorem pinned_any (base gh : Nat) (A0 As : Option Addr) (n0 c0 ns cs : Nat) (A : Nat → Option Addr) (n c : Nat → Nat) (o : EOp) (At : Option Addr) (nt ct : Nat) (r : Rec) (told : List Ent) (k : Int) (W : World) (h : HandR W base gh A0 As n0 c0 ns cs A n c o At nt ct r told) (hf : FitR r) (hb0 : 0 ≤ o.b) (res : Except Int (Rec × List Ent)) (hres : pinR r told o k = res) :
  Calls Tryz.prog 102 #[.pointer (some ⟨gh, 0, none⟩), .int .i64 k] W (PinRes gh base o At nt ct told res W) := by
 have H := hide h
 have HF := hide hf
 have HR := hide hres
 have HB0 := hide hb0
 clear h hf hres hb0
 obtain ⟨E, hE⟩ : ∃ E, Pn.doE r.e r.S k o.g o.b = E := ⟨_, rfl⟩
 obtain ⟨X, hX⟩ : ∃ X, Pn.doX r.e r.S k o.g o.b = X := ⟨_, rfl⟩
 obtain ⟨Y, hY⟩ : ∃ Y, Pn.doS r.e r.S k o.g o.b = Y := ⟨_, rfl⟩
 obtain ⟨m, hm⟩ : ∃ m, Y.length = m := ⟨_, rfl⟩
 have HE := hide hE
 have HX := hide hX
 have HY := hide hY
 have HM := hide hm
 clear hE hX hY hm
 go_enter Tryz.func102, Tryz.ntmps102
 go_upto_region 0 with (fail)
 have HSX := hide (fun (wX : World) (hgX : Below W.heap.size W wX) => show wX.cell? ⟨gh, 1, none⟩ = some (.int .u64 r.e) ∧ wX.cell? ⟨gh, 2, none⟩ = some (.slice As ns cs) ∧ wX.cell? ⟨gh, 8, none⟩ = some (.int .i64 o.g) ∧ wX.cell? ⟨gh, 9, none⟩ = some (.int .u64 o.b) ∧ gh < wX.heap.size from by
  obtain ⟨z0, z1, z2, z3, z4, z5, z6, z7, z8, z9, z10, z11, z12⟩ := row13 H.out.row
  exact ⟨kept hgX z1, kept hgX z2, kept hgX z8, kept hgX z9, Nat.lt_of_lt_of_le H.out.row.lt hgX.size⟩)
 have HGR := hide ((Below.refl W.heap.size W).drew)
 refine wp_region_T (fun wX => wX.cell? ⟨gh, 1, none⟩ = some (.int .u64 r.e) ∧ wX.cell? ⟨gh, 2, none⟩ = some (.slice As ns cs) ∧ wX.cell? ⟨gh, 8, none⟩ = some (.int .i64 o.g) ∧ wX.cell? ⟨gh, 9, none⟩ = some (.int .u64 o.b) ∧ gh < wX.heap.size) 25 (by kernel_rfl) (HSX.out _ HGR.out) (fun hHeld => ?_)
 clear hHeld
 have hS0 := HSX.out _ HGR.out
 (refine wpAnyT_take (i := 0) (v := ?_) rfl (by kernel_rfl) (by kernel_rfl) (by kernel_rfl) (by kernel_rfl) (fun _ _ _ h => h) (Or.inl ⟨by rfl, ?_⟩) (by assumption) ?_; rotate_left; (focus (intro w hSw; (try dsimp only at hSw); obtain ⟨a, b, c, d, e⟩ := hSw; go_simp; first | done | with_reducible rfl)); (try simp only [Act.put, Na, Nb, Nc, Nd, Nx, Nf]))
 (refine wpAnyT_take (i := 1) (v := ?_) rfl (by kernel_rfl) (by kernel_rfl) (by kernel_rfl) (by kernel_rfl) (fun _ _ _ h => h) (Or.inl ⟨by rfl, ?_⟩) (by assumption) ?_; rotate_left; (focus (intro w hSw; (try dsimp only at hSw); obtain ⟨a, b, c, d, e⟩ := hSw; go_simp; first | done | with_reducible rfl)); (try simp only [Act.put, Na, Nb, Nc, Nd, Nx, Nf]))
 (refine wpAnyT_take (i := 2) (v := ?_) rfl (by kernel_rfl) (by kernel_rfl) (by kernel_rfl) (by kernel_rfl) (fun _ _ _ h => h) (Or.inl ⟨by rfl, ?_⟩) (by assumption) ?_; rotate_left; (focus (intro w hSw; (try dsimp only at hSw); obtain ⟨a, b, c, d, e⟩ := hSw; go_simp; first | done | with_reducible rfl)); (try simp only [Act.put, Na, Nb, Nc, Nd, Nx, Nf]))
 (refine wpAnyT_take (i := 3) (v := ?_) rfl (by kernel_rfl) (by kernel_rfl) (by kernel_rfl) (by kernel_rfl) (fun _ _ _ h => h) (Or.inl ⟨by rfl, ?_⟩) (by assumption) ?_; rotate_left; (focus (intro w hSw; (try dsimp only at hSw); obtain ⟨a, b, c, d, e⟩ := hSw; go_simp; first | done | with_reducible rfl)); (try simp only [Act.put, Na, Nb, Nc, Nd, Nx, Nf]))
 (refine wpAnyT_take (i := 4) (v := ?_) rfl (by kernel_rfl) (by kernel_rfl) (by kernel_rfl) (by kernel_rfl) (fun _ _ _ h => h) (Or.inl ⟨by rfl, ?_⟩) (by assumption) ?_; rotate_left; (focus (intro w hSw; (try dsimp only at hSw); obtain ⟨a, b, c, d, e⟩ := hSw; go_simp; first | done | with_reducible rfl)); (try simp only [Act.put, Na, Nb, Nc, Nd, Nx, Nf]))
 (refine wpAnyT_take (i := 5) (v := ?_) rfl (by kernel_rfl) (by kernel_rfl) (by kernel_rfl) (by kernel_rfl) (fun _ _ _ h => h) (Or.inl ⟨by rfl, ?_⟩) (by assumption) ?_; rotate_left; (focus (intro w hSw; (try dsimp only at hSw); obtain ⟨a, b, c, d, e⟩ := hSw; go_simp; first | done | with_reducible rfl)); (try simp only [Act.put, Na, Nb, Nc, Nd, Nx, Nf]))
 (refine wpAnyT_take (i := 6) (v := ?_) rfl (by kernel_rfl) (by kernel_rfl) (by kernel_rfl) (by kernel_rfl) (fun _ _ _ h => h) (Or.inl ⟨by rfl, ?_⟩) (by assumption) ?_; rotate_left; (focus (intro w hSw; (try dsimp only at hSw); obtain ⟨a, b, c, d, e⟩ := hSw; go_simp; first | done | with_reducible rfl)); (try simp only [Act.put, Na, Nb, Nc, Nd, Nx, Nf]))
 (refine wpAnyT_take (i := 7) (v := ?_) rfl (by kernel_rfl) (by kernel_rfl) (by kernel_rfl) (by kernel_rfl) (fun _ _ _ h => h) (Or.inl ⟨by rfl, ?_⟩) (by assumption) ?_; rotate_left; (focus (intro w hSw; (try dsimp only at hSw); obtain ⟨a, b, c, d, e⟩ := hSw; go_simp; first | done | with_reducible rfl)); (try simp only [Act.put, Na, Nb, Nc, Nd, Nx, Nf]))
 (refine wpAnyT_take (i := 8) (v := ?_) rfl (by kernel_rfl) (by kernel_rfl) (by kernel_rfl) (by kernel_rfl) (fun _ _ _ h => h) (Or.inl ⟨by rfl, ?_⟩) (by assumption) ?_; rotate_left; (focus (intro w hSw; (try dsimp only at hSw); obtain ⟨a, b, c, d, e⟩ := hSw; go_simp; first | done | with_reducible rfl)); (try simp only [Act.put, Na, Nb, Nc, Nd, Nx, Nf]))
 (refine wpAnyT_take (i := 9) (v := ?_) rfl (by kernel_rfl) (by kernel_rfl) (by kernel_rfl) (by kernel_rfl) (fun _ _ _ h => h) (Or.inl ⟨by rfl, ?_⟩) (by assumption) ?_; rotate_left; (focus (intro w hSw; (try dsimp only at hSw); obtain ⟨a, b, c, d, e⟩ := hSw; go_simp; first | done | with_reducible rfl)); (try simp only [Act.put, Na, Nb, Nc, Nd, Nx, Nf]))
 (refine wpAnyT_take (i := 10) (v := ?_) rfl (by kernel_rfl) (by kernel_rfl) (by kernel_rfl) (by kernel_rfl) (fun _ _ _ h => h) (Or.inl ⟨by rfl, ?_⟩) (by assumption) ?_; rotate_left; (focus (intro w hSw; (try dsimp only at hSw); obtain ⟨a, b, c, d, e⟩ := hSw; go_simp; first | done | with_reducible rfl)); (try simp only [Act.put, Na, Nb, Nc, Nd, Nx, Nf]))
 (refine wpAnyT_take (i := 11) (v := ?_) rfl (by kernel_rfl) (by kernel_rfl) (by kernel_rfl) (by kernel_rfl) (fun _ _ _ h => h) (Or.inl ⟨by rfl, ?_⟩) (by assumption) ?_; rotate_left; (focus (intro w hSw; (try dsimp only at hSw); obtain ⟨a, b, c, d, e⟩ := hSw; go_simp; first | done | with_reducible rfl)); (try simp only [Act.put, Na, Nb, Nc, Nd, Nx, Nf]))
 (refine wpAnyT_take (i := 12) (v := ?_) rfl (by kernel_rfl) (by kernel_rfl) (by kernel_rfl) (by kernel_rfl) (fun _ _ _ h => h) (Or.inl ⟨by rfl, ?_⟩) (by assumption) ?_; rotate_left; (focus (intro w hSw; (try dsimp only at hSw); obtain ⟨a, b, c, d, e⟩ := hSw; go_simp; first | done | with_reducible rfl)); (try simp only [Act.put, Na, Nb, Nc, Nd, Nx, Nf]))
 (refine wpAnyT_take (i := 13) (v := ?_) rfl (by kernel_rfl) (by kernel_rfl) (by kernel_rfl) (by kernel_rfl) (fun _ _ _ h => h) (Or.inl ⟨by rfl, ?_⟩) (by assumption) ?_; rotate_left; (focus (intro w hSw; (try dsimp only at hSw); obtain ⟨a, b, c, d, e⟩ := hSw; go_simp; first | done | with_reducible rfl)); (try simp only [Act.put, Na, Nb, Nc, Nd, Nx, Nf]))
 (refine wpAnyT_take (i := 14) (v := ?_) rfl (by kernel_rfl) (by kernel_rfl) (by kernel_rfl) (by kernel_rfl) (fun _ _ _ h => h) (Or.inl ⟨by rfl, ?_⟩) (by assumption) ?_; rotate_left; (focus (intro w hSw; (try dsimp only at hSw); obtain ⟨a, b, c, d, e⟩ := hSw; go_simp; first | done | with_reducible rfl)); (try simp only [Act.put, Na, Nb, Nc, Nd, Nx, Nf]))
 (refine wpAnyT_take (i := 15) (v := ?_) rfl (by kernel_rfl) (by kernel_rfl) (by kernel_rfl) (by kernel_rfl) (fun _ _ _ h => h) (Or.inl ⟨by rfl, ?_⟩) (by assumption) ?_; rotate_left; (focus (intro w hSw; (try dsimp only at hSw); obtain ⟨a, b, c, d, e⟩ := hSw; go_simp; first | done | with_reducible rfl)); (try simp only [Act.put, Na, Nb, Nc, Nd, Nx, Nf]))
 (refine wpAnyT_take (i := 16) (v := ?_) rfl (by kernel_rfl) (by kernel_rfl) (by kernel_rfl) (by kernel_rfl) (fun _ _ _ h => h) (Or.inl ⟨by rfl, ?_⟩) (by assumption) ?_; rotate_left; (focus (intro w hSw; (try dsimp only at hSw); obtain ⟨a, b, c, d, e⟩ := hSw; go_simp; first | done | with_reducible rfl)); (try simp only [Act.put, Na, Nb, Nc, Nd, Nx, Nf]))
 (refine wpAnyT_take (i := 17) (v := ?_) rfl (by kernel_rfl) (by kernel_rfl) (by kernel_rfl) (by kernel_rfl) (fun _ _ _ h => h) (Or.inl ⟨by rfl, ?_⟩) (by assumption) ?_; rotate_left; (focus (intro w hSw; (try dsimp only at hSw); obtain ⟨a, b, c, d, e⟩ := hSw; go_simp; first | done | with_reducible rfl)); (try simp only [Act.put, Na, Nb, Nc, Nd, Nx, Nf]))
 refine wpAnyT_one (i := 18) rfl (by kernel_rfl) (fun K0 hK0 => ?_)
 go_simp
 with_reducible refine (Pn.Do_any As cs ns r.e r.S k o.g o.b _ ((H.out.below HGR.out).all.S.rd) H.out.all.ls HF.out.e.1 HF.out.s HB0.out (by rw [← H.out.all.ls]; exact HF.out.S) E X Y m HE.out HX.out HY.out HM.out).mono ?_
 rintro e w1 ⟨A', c', rfl, hmc, hcm, hpn, hb⟩
 have HPN := hide (PnOut.rdF hpn)
 have HX1 := hide (HGR.out.trans (hb.mono HGR.out.size))
 have HMC := hide (And.intro hmc hcm)
 clear hS0 hb hpn hmc hcm
 have hS0 := HSX.out _ HX1.out
 refine hK0.out _ _ (fun _ => hS0) ?_
 clear hK0 K0
 (try simp only [Act.put, Na, Nb, Nc, Nd, Nx, Nf])
 (refine wpAnyT_take (i := 19) (v := ?_) rfl (by kernel_rfl) (by kernel_rfl) (by kernel_rfl) (by kernel_rfl) (fun _ _ _ h => h) (Or.inl ⟨by rfl, ?_⟩) (by assumption) ?_; rotate_left; (focus (intro w hSw; (try dsimp only at hSw); obtain ⟨a, b, c, d, e⟩ := hSw; go_simp; first | done | with_reducible rfl)); (try simp only [Act.put, Na, Nb, Nc, Nd, Nx, Nf]))
 (refine wpAnyT_take (i := 20) (v := ?_) rfl (by kernel_rfl) (by kernel_rfl) (by kernel_rfl) (by kernel_rfl) (fun _ _ _ h => h) (Or.inl ⟨by rfl, ?_⟩) (by assumption) ?_; rotate_left; (focus (intro w hSw; (try dsimp only at hSw); obtain ⟨a, b, c, d, e⟩ := hSw; go_simp; first | done | with_reducible rfl)); (try simp only [Act.put, Na, Nb, Nc, Nd, Nx, Nf]))
 by_cases hE0 : E = 0
 case neg =>
  refine wpAnyT_one (i := 21) rfl (by kernel_rfl) (fun K1 hK1 => ?_)
  go_simp
  with_reducible refine (sureP_no X A' m c' E hE0 w1).mono ?_
  rintro e w2 ⟨rfl, hb⟩
  have HX2 := hide (HX1.out.trans (hb.mono HX1.out.size))
  have HRR := hide (show res = Except.error E from by rw [← HR.out]; unfold pinR; rw [HE.out, if_neg hE0])
  have HP := hide (Past.of_below H.out.row.lt HX2.out)
  exact ⟨rfl, .inr ⟨E, HRR.out, rfl, ⟨_, H.out.row.below HX2.out, rfl⟩, HP.out⟩⟩
 case pos =>
  subst hE0
  refine wpAnyT_one (i := 21) rfl (by kernel_rfl) (fun K2 hK2 => ?_)
  go_simp
  with_reducible refine (sureP_ok X A' m c' w1).mono ?_
  rintro e w2 ⟨rfl, hb⟩
  have HX2 := hide (HX1.out.trans (hb.mono HX1.out.size))
  have HPN2 := hide (HPN.out.below hb)
  clear hS0 hb
  have hS0 := HSX.out _ HX2.out
  refine hK2.out _ _ (fun _ => hS0) ?_
  clear hK2 K2
  (try simp only [Act.put, Na, Nb, Nc, Nd, Nx, Nf])
  refine wpAnyT_one (i := 22) rfl (by kernel_rfl) (fun K3 hK3 => ?_)
  go_simp
  refine hK3.out _ _ (fun _ => hS0) ?_
  clear hK3 K3
  (try simp only [Act.put, Na, Nb, Nc, Nd, Nx, Nf])
  refine wpAnyT_one (i := 23) rfl (by kernel_rfl) (fun K4 hK4 => ?_)
  go_simp
  refine hK4.out _ _ (fun _ => hS0) ?_
  clear hK4 K4
  (try simp only [Act.put, Na, Nb, Nc, Nd, Nx, Nf])
  refine wpAnyT_one (i := 24) rfl (by kernel_rfl) (fun K5 hK5 => ?_)
  go_simp
  refine hK5.out _ _ (fun _ => hS0) ?_
  clear hK5 K5
  (try simp only [Act.put, Na, Nb, Nc, Nd, Nx, Nf])
  refine wpAnyT_one (i := 25) rfl (by kernel_rfl) (fun K6 hK6 => ?_)
  have H2 := hide (H.out.below HX2.out)
  obtain ⟨z0, z1, z2, z3, z4, z5, z6, z7, z8, z9, z10, z11, z12⟩ := row13 H2.out.row
  have zl := H2.out.row.lt
  have f1 := H2.out.row.frozen 1
  have f2 := H2.out.row.frozen 2
  go_simp
  have HP2 := hide (show Past gh w2 ((w2.setCell ⟨gh, 1, none⟩ (.int .u64 X)).setCell ⟨gh, 2, none⟩ (.slice A' m c')) from (((Past.refl gh w2).trans (Past.set 1 (.int .u64 X))).trans (Past.set 2 (.slice A' m c'))))
  have HN := hide (show RowAt ((w2.setCell ⟨gh, 1, none⟩ (.int .u64 X)).setCell ⟨gh, 2, none⟩ (.slice A' m c')) gh 95 #[.slice A0 n0 c0, .int .u64 X, .slice A' m c', .int .u64 (r.l.E : Int), .slice (A 0) (n 0) (c 0), .slice (A 1) (n 1) (c 1), .slice (A 2) (n 2) (c 2), .int .i64 o.k, .int .i64 o.g, .int .u64 o.b, .int .i64 o.x.1, .int .u64 o.x.2, .slice At nt ct] from by have h := ((H2.out.row.set 1 (.int .u64 X)).set 2 (.slice A' m c')); simpa using h)
  clear z0 z1 z2 z3 z4 z5 z6 z7 z8 z9 z10 z11 z12 zl f1 f2 hS0
  generalize ((w2.setCell ⟨gh, 1, none⟩ (.int .u64 X)).setCell ⟨gh, 2, none⟩ (.slice A' m c')) = w3 at *
  refine hK6.out _ _ (fun h => absurd rfl h) ?_
  clear hK6 K6
  (try simp only [Act.put, Na, Nb, Nc, Nd, Nx, Nf])
  refine wpAnyT_done (by kernel_rfl) ?_ _
  have HPD := hide ((Past.of_below H.out.row.lt HX2.out).trans HP2.out)
  have HRR := hide (show res = Except.ok ((⟨r.sl, X, Y, r.l⟩ : Rec), told) from by rw [← HR.out]; unfold pinR; rw [HE.out, if_pos rfl, HX.out, HY.out])
  have HFR := hide (off_from H.out.row.lt H.out.own H.out.lo)
  have HHN := hide (show HandR w3 base gh A0 A' n0 c0 m c' A n c o At nt ct (⟨r.sl, X, Y, r.l⟩ : Rec) told from H2.out.past HP2.out HN.out ⟨H2.out.all.sl, H2.out.all.l0, H2.out.all.h0, HPN2.out.up (fun j hj _ => HFR.out j hj), HM.out, HMC.out, H2.out.all.rw, H2.out.all.ll, H2.out.all.hl⟩)
  go_wp2_with fail
  go_end0
  exact .inl ⟨_, HRR.out, rfl, ⟨_, _, _, _, _, _, _, _, _, HHN.out⟩, HPD.out⟩
theorem pin_any (base gh : Nat) (A0 As : Option Addr) (n0 c0 ns cs : Nat) (A : Nat → Option Addr) (n c : Nat → Nat) (o : EOp) (At : Option Addr) (nt ct : Nat) (r : Rec) (told : List Ent) (W : World) (h : HandR W base gh A0 As n0 c0 ns cs A n c o At nt ct r told) (hf : FitR r) (hb0 : 0 ≤ o.b) (res : Except Int (Rec × List Ent)) (hres : pinR r told o 1 = res) :
  Calls Tryz.prog 76 #[.pointer (some ⟨gh, 0, none⟩)] W (MthRes gh base o At res W) := by
 have HC := hide (pinned_any base gh A0 As n0 c0 ns cs A n c o At nt ct r told 1 W h hf hb0 res hres)
 clear h hf hb0 hres
 go_enter Tryz.func76, Tryz.ntmps76
 go_wp2_with fail
 with_reducible refine HC.out.mono ?_
 rintro e w1 (⟨r', hr, rfl, ⟨X0, Xs, x0, d0, xs', ds, X, x, d, hx⟩, hp⟩ | ⟨k, hr, rfl, hx, hp⟩)
 ·
  have HX := hide (show HandX w1 base gh o r' told from ⟨_, _, _, _, _, _, _, _, _, _, _, _, hx⟩)
  have HP := hide (PastH.of_past (At := At) hp)
  have HR := hide hr
  clear hx hp hr
  go_wp2_with fail
  go_end0
  exact .inl ⟨_, _, HR.out, rfl, HX.out, HP.out⟩
 ·
  exact ⟨rfl, .inr ⟨k, hr, rfl, hx, hp⟩⟩
theorem unpin_any (base gh : Nat) (A0 As : Option Addr) (n0 c0 ns cs : Nat) (A : Nat → Option Addr) (n c : Nat → Nat) (o : EOp) (At : Option Addr) (nt ct : Nat) (r : Rec) (told : List Ent) (W : World) (h : HandR W base gh A0 As n0 c0 ns cs A n c o At nt ct r told) (hf : FitR r) (hb0 : 0 ≤ o.b) (res : Except Int (Rec × List Ent)) (hres : pinR r told o 2 = res) :
  Calls Tryz.prog 77 #[.pointer (some ⟨gh, 0, none⟩)] W (MthRes gh base o At res W) := by
 have HC := hide (pinned_any base gh A0 As n0 c0 ns cs A n c o At nt ct r told 2 W h hf hb0 res hres)
 clear h hf hb0 hres
 go_enter Tryz.func77, Tryz.ntmps77
 go_wp2_with fail
 with_reducible refine HC.out.mono ?_
 rintro e w1 (⟨r', hr, rfl, ⟨X0, Xs, x0, d0, xs', ds, X, x, d, hx⟩, hp⟩ | ⟨k, hr, rfl, hx, hp⟩)
 ·
  have HX := hide (show HandX w1 base gh o r' told from ⟨_, _, _, _, _, _, _, _, _, _, _, _, hx⟩)
  have HP := hide (PastH.of_past (At := At) hp)
  have HR := hide hr
  clear hx hp hr
  go_wp2_with fail
  go_end0
  exact .inl ⟨_, _, HR.out, rfl, HX.out, HP.out⟩
 ·
  exact ⟨rfl, .inr ⟨k, hr, rfl, hx, hp⟩⟩
end Go.Proofs.YtkicidopjihjmaaGreat
set_option linter.unusedSimpArgs false
set_option linter.unusedVariables false
namespace Go.Proofs.YtkicidopjihjmaaGreat
open Go Go.RowKit
attribute [local go_sem] via_cell via_frozen
theorem LimOwn.rdF {w : World} {base : Nat} {A : Nat → Option Addr} {n c : Nat → Nat} {r : Nat → List Ent} (h : Li.LimOwn w base A n c r) (k : Nat) (hk : k < 3) : RdF (From base) w 2 (A k) (n k) (Cs encE (r k)) ∧ n k ≤ c k ∧ c k ≤ MaxLen := by
 refine ⟨RdF.of (h.own k hk).rd (fun hn q hq => ((h.own k hk).fresh hq).1) (fun _ hn q hq => by
  rcases (h.own k hk).2 with ⟨h1, h2⟩ | ⟨g, o, cap, cur, h1, h2, h3, h4⟩
  ·
   omega
  ·
   injection h1 with h1
   rw [hq] at h1
   injection h1 with h1
   subst h1
   exact ⟨_, _, h3⟩), ?_⟩
 obtain ⟨A', c', hv, h1, h2⟩ := (h.own k hk).form
 injection hv with hv1 hv2 hv3
 exact ⟨by rw [hv3]; exact h1, by rw [hv3]; exact h2⟩
theorem ArOut.rdF {W w : World} {A : Option Addr} {n : Nat} {ys : List Ent} (h : ArOut W A n ys w) : RdF (From W.heap.size) w 2 A n (Cs encE ys) := RdF.of h.rd (fun hn q hq => by
 obtain ⟨gs, h1, h2, _⟩ := h.own hn
 rw [hq] at h1
 injection h1 with h1
 subst h1
 exact h2) (fun _ hn q hq => by
 obtain ⟨gs, h1, _, h3⟩ := h.own hn
 rw [hq] at h1
 injection h1 with h1
 subst h1
 exact ⟨_, _, h3⟩)
set_option maxRecDepth 20000 in
set_option maxHeartbeats 4000000 in
theorem egoes_any (base gh : Nat) (A0 As : Option Addr) (n0 c0 ns cs : Nat) (A : Nat → Option Addr) (n c : Nat → Nat) (o : EOp) (At : Option Addr) (nt ct : Nat) (r : Rec) (told : List Ent) (W : World) (h : HandR W base gh A0 As n0 c0 ns cs A n c o At nt ct r told) (hf : FitR r) (hb0 : 0 ≤ o.b) (res : Except Int (Rec × List Ent)) (hres : goR r told o = res) :
  Calls Tryz.prog 82 #[.pointer (some ⟨gh, 0, none⟩)] W (MthRes gh base o At res W) := by
 have H := hide h
 have HF := hide hf
 have HR := hide hres
 have HB0 := hide hb0
 obtain ⟨xs, hxs⟩ : ∃ xs, (if r.l.ok = true then r.l.at 2 else []) = xs := ⟨_, rfl⟩
 have HXS := hide hxs
 clear h hf hres hb0 hxs
 go_enter Tryz.func82, Tryz.ntmps82
 obtain ⟨z0, z1, z2, z3, z4, z5, z6, z7, z8, z9, z10, z11, z12⟩ := row13 H.out.row
 have zl := H.out.row.lt
 go_wp2_with fail
 with_reducible refine (Li.ready_any W.heap.size A n c r.l W H.out.all.lim HF.out.E (Nat.le_refl _) (fun k hk => by rw [← H.out.all.ll k hk]; exact HF.out.rw k hk) HF.out.g xs HXS.out).mono ?_
 rintro e w1 ⟨v, rfl, hown, hb⟩
 obtain ⟨AR, cR, rfl, hcR⟩ := own_form hown
 have H1 := hide (H.out.below hb)
 have HB1 := hide hb
 clear hown hb hcR
 clear z0 z1 z2 z3 z4 z5 z6 z7 z8 z9 z10 z11 z12 zl
 obtain ⟨m, hm⟩ : ∃ m, xs.length = m := ⟨_, rfl⟩
 have HM := hide hm
 rw [hm]
 clear hm
 by_cases hm0 : m = 0
 case neg =>
  have hd : ((m : Int) == 0) = false := by rw [beq_eq_false_iff_ne]; omega
  have HRR := hide (show res = Except.error 241 from by rw [← HR.out]; unfold goR; rw [HXS.out, HM.out, if_neg hm0])
  clear hm0
  go_wp2_with fail
  with_reducible refine (eneed_no 241 _).mono ?_
  rintro e w2 ⟨rfl, rfl⟩
  exact ⟨rfl, .inr ⟨241, HRR.out, rfl, ⟨_, H1.out.row, rfl⟩, Past.of_below H.out.row.lt HB1.out⟩⟩
 case pos =>
  subst hm0
  go_wp2_with fail
  with_reducible refine (eneed_ok 241 _).mono ?_
  rintro e w2 ⟨rfl, hw⟩
  subst hw
  obtain ⟨pr, hpr⟩ : ∃ pr, pinR r told o 3 = pr := ⟨_, rfl⟩
  have HPR := hide hpr
  clear hpr
  go_wp2_with fail
  with_reducible refine (pinned_any base gh A0 As n0 c0 ns cs A n c o At nt ct r told 3 w1 H1.out HF.out HB0.out pr HPR.out).mono ?_
  rintro e w3 (⟨r', hr, rfl, hx, hp⟩ | ⟨k, hr, rfl, hx, hp⟩)
  case inr =>
   have HRR := hide (show res = Except.error k from by rw [← HR.out]; unfold goR; rw [HXS.out, HM.out, if_pos rfl, HPR.out, hr])
   exact ⟨rfl, .inr ⟨k, HRR.out, rfl, hx, (Past.of_below H.out.row.lt HB1.out).trans hp⟩⟩
  case inl =>
   obtain ⟨X0, Xs, x0, d0, xs', ds, X, x, d, hx⟩ := hx
   have H3 := hide hx
   have HRL := hide (show r'.l = r.l from by have h := HPR.out; rw [hr] at h; unfold pinR at h; split at h; (· injection h with h; injection h with h h2; rw [← h]); (· cases h))
   have HP3 := hide ((Past.of_below H.out.row.lt HB1.out).trans hp)
   have HRP := hide hr
   clear hx hp hr
   obtain ⟨ad, had⟩ : ∃ ad, Li.advR r'.l = ad := ⟨_, rfl⟩
   have HAD := hide had
   clear had
   obtain ⟨z0, z1, z2, z3, z4, z5, z6, z7, z8, z9, z10, z11, z12⟩ := row13 H3.out.row
   have zl := H3.out.row.lt
   go_wp2_with fail
   with_reducible refine (Li.Advance_any w3.heap.size X x d r'.l w3 H3.out.all.lim (by rw [HRL.out]; exact HF.out.E) (Nat.le_refl _) (fun k hk => by rw [← H3.out.all.ll k hk, HRL.out]; exact HF.out.rw k hk) (by rw [HRL.out]; exact HF.out.g)).mono ?_
   rw [HAD.out]
   rintro e w4 ⟨hb, (⟨l', A4, n4, c4, hr4, rfl, hown⟩ | ⟨k, hr4, rfl⟩)⟩
   case inr =>
    have HRR := hide (show res = Except.error k from by rw [← HR.out]; unfold goR; rw [HXS.out, HM.out, if_pos rfl, HPR.out, HRP.out]; dsimp only; rw [HAD.out, hr4])
    have H4 := hide (H3.out.below hb)
    have HB4 := hide hb
    have HK := hide (show k ≠ 0 from by have h := HAD.out; rw [hr4] at h; unfold Li.advR at h; split at h; (· exact Li.doAdv_ne h); (· injection h with h; omega))
    clear hb hr4
    clear z0 z1 z2 z3 z4 z5 z6 z7 z8 z9 z10 z11 z12 zl
    go_wp2_with fail
    with_reducible refine (sureL_no 0 none none none 0 0 0 0 0 0 k HK.out _).mono ?_
    rintro e w5 ⟨rfl, hb⟩
    have HP5 := hide ((HP3.out.trans (Past.of_below H3.out.row.lt HB4.out)).trans (Past.of_below H4.out.row.lt hb))
    have H5 := hide (H4.out.below hb)
    clear hb
    exact ⟨rfl, .inr ⟨k, HRR.out, rfl, ⟨_, H5.out.row, rfl⟩, HP5.out⟩⟩
   case inl =>
    have HRR := hide (show res = Except.ok ((⟨r'.sl, r'.e, r'.S, l'⟩ : Rec), told) from by rw [← HR.out]; unfold goR; rw [HXS.out, HM.out, if_pos rfl, HPR.out, HRP.out]; dsimp only; rw [HAD.out, hr4])
    clear hr4
    have H4 := hide (H3.out.below hb)
    have HP4 := hide (HP3.out.trans (Past.of_below H3.out.row.lt hb))
    have HOW := hide hown
    have HLT := hide H3.out.row.lt
    clear hb hown
    clear z0 z1 z2 z3 z4 z5 z6 z7 z8 z9 z10 z11 z12 zl
    go_wp2_with fail
    with_reducible refine (sureL_ok (l'.E : Int) (A4 0) (A4 1) (A4 2) (n4 0) (n4 1) (n4 2) (c4 0) (c4 1) (c4 2) _).mono ?_
    rintro e w5 ⟨rfl, hb⟩
    have H5 := hide (H4.out.below hb)
    have HP5 := hide (HP4.out.trans (Past.of_below H4.out.row.lt hb))
    have HOW5 := hide (HOW.out.keepB hb)
    clear hb
    obtain ⟨z0, z1, z2, z3, z4, z5, z6, z7, z8, z9, z10, z11, z12⟩ := row13 H5.out.row
    have zl := H5.out.row.lt
    have f3 := H5.out.row.frozen 3
    have f4 := H5.out.row.frozen 4
    have f5 := H5.out.row.frozen 5
    have f6 := H5.out.row.frozen 6
    go_wp2_with fail
    have HP6 := hide (show Past gh w5 ((((w5.setCell ⟨gh, 3, none⟩ (.int .u64 (l'.E : Int))).setCell ⟨gh, 4, none⟩ (.slice (A4 0) (n4 0) (c4 0))).setCell ⟨gh, 5, none⟩ (.slice (A4 1) (n4 1) (c4 1))).setCell ⟨gh, 6, none⟩ (.slice (A4 2) (n4 2) (c4 2))) from (((((Past.refl gh w5).trans (Past.set 3 (.int .u64 (l'.E : Int)))).trans (Past.set 4 (.slice (A4 0) (n4 0) (c4 0)))).trans (Past.set 5 (.slice (A4 1) (n4 1) (c4 1)))).trans (Past.set 6 (.slice (A4 2) (n4 2) (c4 2)))))
    have HN := hide (show RowAt ((((w5.setCell ⟨gh, 3, none⟩ (.int .u64 (l'.E : Int))).setCell ⟨gh, 4, none⟩ (.slice (A4 0) (n4 0) (c4 0))).setCell ⟨gh, 5, none⟩ (.slice (A4 1) (n4 1) (c4 1))).setCell ⟨gh, 6, none⟩ (.slice (A4 2) (n4 2) (c4 2))) gh 95 #[.slice X0 x0 d0, .int .u64 r'.e, .slice Xs xs' ds, .int .u64 (l'.E : Int), .slice (A4 0) (n4 0) (c4 0), .slice (A4 1) (n4 1) (c4 1), .slice (A4 2) (n4 2) (c4 2), .int .i64 o.k, .int .i64 o.g, .int .u64 o.b, .int .i64 o.x.1, .int .u64 o.x.2, .slice At nt ct] from by have h := ((((H5.out.row.set 3 (.int .u64 (l'.E : Int))).set 4 (.slice (A4 0) (n4 0) (c4 0))).set 5 (.slice (A4 1) (n4 1) (c4 1))).set 6 (.slice (A4 2) (n4 2) (c4 2))); simpa using h)
    clear z0 z1 z2 z3 z4 z5 z6 z7 z8 z9 z10 z11 z12 zl
    clear f3 f4 f5 f6
    generalize ((((w5.setCell ⟨gh, 3, none⟩ (.int .u64 (l'.E : Int))).setCell ⟨gh, 4, none⟩ (.slice (A4 0) (n4 0) (c4 0))).setCell ⟨gh, 5, none⟩ (.slice (A4 1) (n4 1) (c4 1))).setCell ⟨gh, 6, none⟩ (.slice (A4 2) (n4 2) (c4 2))) = w6 at *
    go_end0
    have HFR := off_from HLT.out H3.out.own H3.out.lo
    refine .inl ⟨_, _, HRR.out, rfl, ⟨_, _, _, _, _, _, _, _, _, _, _, _, H5.out.past (r' := (⟨r'.sl, r'.e, r'.S, l'⟩ : Rec)) HP6.out HN.out ⟨H5.out.all.sl, H5.out.all.l0, H5.out.all.h0, H5.out.all.S, H5.out.all.ls, H5.out.all.hs, fun k hk => ((LimOwn.rdF HOW5.out k hk).1).up (fun j hj _ => HFR j hj), fun k hk => HOW5.out.len k hk, fun k hk => (LimOwn.rdF HOW5.out k hk).2⟩⟩, PastH.of_past (HP5.out.trans HP6.out)⟩
set_option maxRecDepth 20000 in
set_option maxHeartbeats 4000000 in
theorem etake_any (base gh : Nat) (A0 As : Option Addr) (n0 c0 ns cs : Nat) (A : Nat → Option Addr) (n c : Nat → Nat) (o : EOp) (At : Option Addr) (nt ct : Nat) (r : Rec) (told : List Ent) (W : World) (h : HandR W base gh A0 As n0 c0 ns cs A n c o At nt ct r told) (hf : FitR r) (ht : (nt : Int) ≤ 1000000) (htk : (tkL r.sl 1).length ≤ 4096) (res : Except Int (Rec × List Ent)) (hres : takeR r told = res) :
  Calls Tryz.prog 78 #[.pointer (some ⟨gh, 0, none⟩)] W (MthRes gh base o At res W) := by
 have H := hide h
 have HF := hide hf
 have HR := hide hres
 obtain ⟨E, hE⟩ : ∃ E, tkE r.sl 1 = E := ⟨_, rfl⟩
 obtain ⟨Y, hY⟩ : ∃ Y, tkA r.sl 1 = Y := ⟨_, rfl⟩
 obtain ⟨L, hL⟩ : ∃ L, tkL r.sl 1 = L := ⟨_, rfl⟩
 obtain ⟨k, hk⟩ : ∃ k, Y.length = k := ⟨_, rfl⟩
 obtain ⟨m, hm⟩ : ∃ m, L.length = m := ⟨_, rfl⟩
 rw [hL, hm] at htk
 have HE := hide hE
 have HY := hide hY
 have HL := hide hL
 have HK := hide hk
 have HM := hide hm
 have HTM := hide (And.intro ht htk)
 clear h hf hres hE hY hL hk hm ht htk
 go_enter Tryz.func78, Tryz.ntmps78
 obtain ⟨z0, z1, z2, z3, z4, z5, z6, z7, z8, z9, z10, z11, z12⟩ := row13 H.out.row
 have zl := H.out.row.lt
 go_wp2_with fail
 with_reducible refine (TakeK A0 c0 n0 1 r.sl W H.out.all.sl.rd H.out.all.l0 (by rw [← H.out.all.l0]; exact HF.out.sl) E Y L k m HE.out HY.out HL.out HK.out HM.out).mono ?_
 rintro e w1 ⟨A1, c1, A2, c2, rfl, hkc, hmc, hao, hrl, hlo, hb⟩
 go_upto_region 1 with (fail)
 have hb2 : Below w1.heap.size w1 (w1.alloc (.cells #[.slice A1 k c1] 24)) := (Below.refl _ _).alloc (Nat.le_refl _) _
 have R2 := hide (RowAt.new w1 24 #[.slice A1 k c1])
 have HB2 := hide (hb.trans (hb2.mono hb.size))
 have H2 := hide (H.out.below HB2.out)
 have HAO := hide ((ArOut.rdF hao).below hb2)
 have HRL := hide ((hrl.below hb2).more hb2.size)
 have HKC := hide hkc
 have HLO := hide hlo
 have HLT := hide H.out.row.lt
 clear hb hb2 hao hrl hkc hmc hlo
 clear z0 z1 z2 z3 z4 z5 z6 z7 z8 z9 z10 z11 z12 zl
 generalize w1.alloc (.cells #[.slice A1 k c1] 24) = w2 at *
 generalize w1.heap.size = g2 at *
 have x0 := row1 R2.out
 have xl := R2.out.lt
 by_cases hE0 : E = 0
 case neg =>
  have HRR := hide (show res = Except.error E from by rw [← HR.out]; unfold takeR; rw [HE.out, if_neg hE0])
  go_wp2_with fail
  with_reducible refine (sureA_no A1 k c1 E hE0 _).mono ?_
  rintro e w3 ⟨rfl, hb⟩
  exact ⟨rfl, .inr ⟨E, HRR.out, rfl, ⟨_, (H2.out.below hb).row, rfl⟩, (Past.of_below HLT.out HB2.out).trans (Past.of_below H2.out.row.lt hb)⟩⟩
 case pos =>
  subst hE0
  have HRR := hide (show res = Except.ok ((⟨Y, r.e, r.S, r.l⟩ : Rec), told ++ L) from by rw [← HR.out]; unfold takeR; rw [HE.out, if_pos rfl, HY.out, HL.out])
  go_wp2_with fail
  with_reducible refine (sureA_ok A1 k c1 _).mono ?_
  rintro e w3 ⟨rfl, hb⟩
  have H3 := hide (H2.out.below hb)
  have HP3 := hide ((Past.of_below HLT.out HB2.out).trans (Past.of_below H2.out.row.lt hb))
  have HAO3 := hide (HAO.out.below hb)
  have HRL3 := hide ((HRL.out.below hb).more hb.size)
  clear hb x0 xl
  obtain ⟨z0, z1, z2, z3, z4, z5, z6, z7, z8, z9, z10, z11, z12⟩ := row13 H3.out.row
  have zl := H3.out.row.lt
  have f0 := H3.out.row.frozen 0
  go_upto_region 2 with (fail)
  have HPS := hide (show Past gh w3 (w3.setCell ⟨gh, 0, none⟩ (.slice A1 k c1)) from ((Past.refl gh w3).trans (Past.set 0 (.slice A1 k c1))))
  have HN := hide (show RowAt (w3.setCell ⟨gh, 0, none⟩ (.slice A1 k c1)) gh 95 #[.slice A1 k c1, .int .u64 r.e, .slice As ns cs, .int .u64 (r.l.E : Int), .slice (A 0) (n 0) (c 0), .slice (A 1) (n 1) (c 1), .slice (A 2) (n 2) (c 2), .int .i64 o.k, .int .i64 o.g, .int .u64 o.b, .int .i64 o.x.1, .int .u64 o.x.2, .slice At nt ct] from by have h := (H3.out.row.set 0 (.slice A1 k c1)); simpa using h)
  clear z0 z1 z2 z3 z4 z5 z6 z7 z8 z9 z10 z11 z12 zl
  clear f0
  have HRL4 := hide (show Rd (w3.setCell ⟨gh, 0, none⟩ (.slice A1 k c1)) (w3.setCell ⟨gh, 0, none⟩ (.slice A1 k c1)).heap.size 2 A2 m (Cs encE L) from HRL3.out.stayF (F := fun j => j ≠ gh) (fun _ q hq => by have := HLO.out q hq; have := HLT.out; omega) ⟨HPS.out.size, fun j hj hl => HPS.out.block j hj hl⟩)
  generalize (w3.setCell ⟨gh, 0, none⟩ (.slice A1 k c1)) = w4 at *
  have HFR := off_from HLT.out H.out.own H.out.lo
  have H4 := hide (H3.out.past (r' := (⟨Y, r.e, r.S, r.l⟩ : Rec)) HPS.out HN.out ⟨HAO3.out.up (fun j hj _ => HFR j hj), HK.out, HKC.out, H3.out.all.S, H3.out.all.ls, H3.out.all.hs, H3.out.all.rw, H3.out.all.ll, H3.out.all.hl⟩)
  have HP4 := hide (HP3.out.trans HPS.out)
  clear HN HPS HFR HAO3 HRL3 HRL HAO
  obtain ⟨z0, z1, z2, z3, z4, z5, z6, z7, z8, z9, z10, z11, z12⟩ := row13 H4.out.row
  have zl := H4.out.row.lt
  have HBW := hide (show base ≤ w4.heap.size from by have := H4.out.lo; have := H4.out.row.lt; omega)
  go_wp2_with (at_builtin; go_loud (refine wpList_app elE rfl _ _ rfl rfl H4.out.own rfl HRL4.out (Cs_one_cell encE_one _) (by have := HTM.out; omega) HBW.out ?_); intro v6 w6 hown6 hb6 hg6 hv6; obtain ⟨A7, c7, rfl, hc7, hcm7⟩ := own_form2 hown6; have hr6 := HandR.kept H4.out hg6; have HR6 := hide hr6; obtain ⟨y0, y1, y2, y3, y4, y5, y6, y7, y8, y9, y10, y11, y12⟩ := row13 hr6; have yl := hr6.lt; have yf := hr6.frozen 12; have HO6 := hide hown6; have HG6 := hide hg6; have HV6 := hide hv6; clear hr6 hown6 hb6 hg6 hv6)
  have HPS := hide (show Past gh w6 (w6.setCell ⟨gh, 12, none⟩ (.slice A7 (nt + m) c7)) from ((Past.refl gh w6).trans (Past.set 12 (.slice A7 (nt + m) c7))))
  have HN := hide (show RowAt (w6.setCell ⟨gh, 12, none⟩ (.slice A7 (nt + m) c7)) gh 95 #[.slice A1 k c1, .int .u64 r.e, .slice As ns cs, .int .u64 (r.l.E : Int), .slice (A 0) (n 0) (c 0), .slice (A 1) (n 1) (c 1), .slice (A 2) (n 2) (c 2), .int .i64 o.k, .int .i64 o.g, .int .u64 o.b, .int .i64 o.x.1, .int .u64 o.x.2, .slice A7 (nt + m) c7] from by have h := (HR6.out.set 12 (.slice A7 (nt + m) c7)); simpa using h)
  generalize (w6.setCell ⟨gh, 12, none⟩ (.slice A7 (nt + m) c7)) = w7 at *
  go_end0
  have H7 := H4.out.tell HG6.out (told' := told ++ L) (by rw [Cs_append]; exact HO6.out) (by rw [List.length_append, H4.out.len, HM.out]) HV6.out HPS.out HN.out
  exact .inl ⟨_, _, HRR.out, rfl, ⟨_, _, _, _, _, _, _, _, _, _, _, _, H7⟩, ((PastH.of_past HP4.out).trans (PastH.grown HG6.out)).trans (PastH.of_past HPS.out)⟩
set_option maxRecDepth 20000 in
set_option maxHeartbeats 4000000 in
theorem eback_any (base gh : Nat) (A0 As : Option Addr) (n0 c0 ns cs : Nat) (A : Nat → Option Addr) (n c : Nat → Nat) (o : EOp) (At : Option Addr) (nt ct : Nat) (r : Rec) (told : List Ent) (W : World) (h : HandR W base gh A0 As n0 c0 ns cs A n c o At nt ct r told) (hf : FitR r) (hz : U64 o.x.2) (res : Except Int (Rec × List Ent)) (hres : backR r told o.x = res) :
  Calls Tryz.prog 79 #[.pointer (some ⟨gh, 0, none⟩)] W (MthRes gh base o At res W) := by
 have H := hide h
 have HF := hide hf
 have HR := hide hres
 have HZ := hide hz
 obtain ⟨q, hq⟩ : ∃ q, metR r o.x = q := ⟨_, rfl⟩
 obtain ⟨v, hv⟩ : ∃ v, (if q = true then tagOf r.sl o.x else 0) = v := ⟨_, rfl⟩
 have HQ := hide hq
 have HQ2 := hide (show (arOk r.sl && meantB r.sl (o.x.1, o.x.2)) = q from hq)
 have HV := hide hv
 have HV2 := hide (show (if q = true then tagOf r.sl (o.x.1, o.x.2) else 0) = v from hv)
 clear h hf hres hz hq hv
 go_enter Tryz.func79, Tryz.ntmps79
 go_upto_region 0 with (fail)
 have HSX := hide (fun (wX : World) (hgX : Below W.heap.size W wX) => show wX.cell? ⟨gh, 0, none⟩ = some (.slice A0 n0 c0) ∧ wX.cell? ⟨gh, 10, none⟩ = some (.int .i64 o.x.1) ∧ wX.cell? ⟨gh, 11, none⟩ = some (.int .u64 o.x.2) ∧ gh < wX.heap.size from by
  obtain ⟨z0, z1, z2, z3, z4, z5, z6, z7, z8, z9, z10, z11, z12⟩ := row13 H.out.row
  exact ⟨kept hgX z0, kept hgX z10, kept hgX z11, Nat.lt_of_lt_of_le H.out.row.lt hgX.size⟩)
 have HGR := hide ((Below.refl W.heap.size W).drew)
 refine wp_region_held_drew (S := fun wX => wX.cell? ⟨gh, 0, none⟩ = some (.slice A0 n0 c0) ∧ wX.cell? ⟨gh, 10, none⟩ = some (.int .i64 o.x.1) ∧ wX.cell? ⟨gh, 11, none⟩ = some (.int .u64 o.x.2) ∧ gh < wX.heap.size) (by kernel_rfl) (HSX.out _ HGR.out) (fun hHeld => ?_)
 clear hHeld
 have hS0 := HSX.out _ HGR.out
 (refine tkH (i := 0) (v := ?_) rfl (Or.inl ⟨by rfl, ?_⟩) ?_; rotate_left; (focus (intro w hSw; (try dsimp only at hSw); obtain ⟨a, b, c, d⟩ := hSw; go_simp; first | done | with_reducible rfl)); (try simp only [Act.put, Na, Nb, Nc, Nd, Nx, Nf]))
 (refine tkH (i := 1) (v := ?_) rfl (Or.inl ⟨by rfl, ?_⟩) ?_; rotate_left; (focus (intro w hSw; (try dsimp only at hSw); obtain ⟨a, b, c, d⟩ := hSw; go_simp; first | done | with_reducible rfl)); (try simp only [Act.put, Na, Nb, Nc, Nd, Nx, Nf]))
 (refine tkH (i := 2) (v := ?_) rfl (Or.inl ⟨by rfl, ?_⟩) ?_; rotate_left; (focus (intro w hSw; (try dsimp only at hSw); obtain ⟨a, b, c, d⟩ := hSw; go_simp; first | done | with_reducible rfl)); (try simp only [Act.put, Na, Nb, Nc, Nd, Nx, Nf]))
 (refine tkH (i := 3) (v := ?_) rfl (Or.inl ⟨by rfl, ?_⟩) ?_; rotate_left; (focus (intro w hSw; (try dsimp only at hSw); obtain ⟨a, b, c, d⟩ := hSw; go_simp; first | done | with_reducible rfl)); (try simp only [Act.put, Na, Nb, Nc, Nd, Nx, Nf]))
 (refine tkH (i := 4) (v := ?_) rfl (Or.inl ⟨by rfl, ?_⟩) ?_; rotate_left; (focus (intro w hSw; (try dsimp only at hSw); obtain ⟨a, b, c, d⟩ := hSw; go_simp; first | done | with_reducible rfl)); (try simp only [Act.put, Na, Nb, Nc, Nd, Nx, Nf]))
 (refine tkH (i := 5) (v := ?_) rfl (Or.inl ⟨by rfl, ?_⟩) ?_; rotate_left; (focus (intro w hSw; (try dsimp only at hSw); obtain ⟨a, b, c, d⟩ := hSw; go_simp; first | done | with_reducible rfl)); (try simp only [Act.put, Na, Nb, Nc, Nd, Nx, Nf]))
 (refine tkH (i := 6) (v := ?_) rfl (Or.inl ⟨by rfl, ?_⟩) ?_; rotate_left; (focus (intro w hSw; (try dsimp only at hSw); obtain ⟨a, b, c, d⟩ := hSw; go_simp; first | done | with_reducible rfl)); (try simp only [Act.put, Na, Nb, Nc, Nd, Nx, Nf]))
 (refine tkH (i := 7) (v := ?_) rfl (Or.inl ⟨by rfl, ?_⟩) ?_; rotate_left; (focus (intro w hSw; (try dsimp only at hSw); obtain ⟨a, b, c, d⟩ := hSw; go_simp; first | done | with_reducible rfl)); (try simp only [Act.put, Na, Nb, Nc, Nd, Nx, Nf]))
 (refine tkH (i := 8) (v := ?_) rfl (Or.inl ⟨by rfl, ?_⟩) ?_; rotate_left; (focus (intro w hSw; (try dsimp only at hSw); obtain ⟨a, b, c, d⟩ := hSw; go_simp; first | done | with_reducible rfl)); (try simp only [Act.put, Na, Nb, Nc, Nd, Nx, Nf]))
 (refine tkH (i := 9) (v := ?_) rfl (Or.inl ⟨by rfl, ?_⟩) ?_; rotate_left; (focus (intro w hSw; (try dsimp only at hSw); obtain ⟨a, b, c, d⟩ := hSw; go_simp; first | done | with_reducible rfl)); (try simp only [Act.put, Na, Nb, Nc, Nd, Nx, Nf]))
 refine wpAnyH_ready (rs := [10]) (by kernel_rfl) (by simp) ?_
 refine (AllReadyH.cons rfl (fun K0 hK0 => ?_) AllReadyH.nil)
 go_simp
 with_reducible refine (tag_any A0 c0 n0 o.x.1 o.x.2 r.sl _ (H.out.below HGR.out).all.sl.rd H.out.all.l0 (by rw [← H.out.all.l0]; exact HF.out.sl) q HQ2.out v HV2.out).mono ?_
 rintro e w1 ⟨rfl, hb⟩
 have HX1 := hide (HGR.out.trans (hb.mono HGR.out.size))
 clear hS0 hb
 have hS0 := HSX.out _ HX1.out
 refine hK0.out _ _ (hS0) (fun _ => ?_)
 clear hK0 K0
 (try simp only [Act.put, Na, Nb, Nc, Nd, Nx, Nf])
 (refine tkH (i := 11) (v := ?_) rfl (Or.inl ⟨by rfl, ?_⟩) ?_; rotate_left; (focus (intro w hSw; (try dsimp only at hSw); obtain ⟨a, b, c, d⟩ := hSw; go_simp; first | done | with_reducible rfl)); (try simp only [Act.put, Na, Nb, Nc, Nd, Nx, Nf]))
 (refine tkH (i := 12) (v := ?_) rfl (Or.inl ⟨by rfl, ?_⟩) ?_; rotate_left; (focus (intro w hSw; (try dsimp only at hSw); obtain ⟨a, b, c, d⟩ := hSw; go_simp; first | done | with_reducible rfl)); (try simp only [Act.put, Na, Nb, Nc, Nd, Nx, Nf]))
 (refine tkH (i := 13) (v := ?_) rfl (Or.inl ⟨by rfl, ?_⟩) ?_; rotate_left; (focus (intro w hSw; (try dsimp only at hSw); obtain ⟨a, b, c, d⟩ := hSw; go_simp; first | done | with_reducible rfl)); (try simp only [Act.put, Na, Nb, Nc, Nd, Nx, Nf]))
 (refine tkH (i := 14) (v := ?_) rfl (Or.inl ⟨by rfl, ?_⟩) ?_; rotate_left; (focus (intro w hSw; (try dsimp only at hSw); obtain ⟨a, b, c, d⟩ := hSw; go_simp; first | done | with_reducible rfl)); (try simp only [Act.put, Na, Nb, Nc, Nd, Nx, Nf]))
 (refine tkH (i := 15) (v := ?_) rfl (Or.inl ⟨by rfl, ?_⟩) ?_; rotate_left; (focus (intro w hSw; (try dsimp only at hSw); obtain ⟨a, b, c, d⟩ := hSw; go_simp; first | done | with_reducible rfl)); (try simp only [Act.put, Na, Nb, Nc, Nd, Nx, Nf]))
 refine wpAnyH_done (by kernel_rfl) ?_ _
 have H1 := hide (H.out.below HX1.out)
 have HP1 := hide (Past.of_below H.out.row.lt HX1.out)
 clear hS0 HSX HGR
 obtain ⟨ok, hok⟩ : ∃ ok, decide (q = true ∧ v = 1) = ok := ⟨_, rfl⟩
 have HOK := hide hok
 have HOKM := hide (show (metR r o.x = true ∧ tagOf r.sl o.x = 1) ↔ ok = true from by
  rw [← hok, decide_eq_true_eq, HQ.out]
  constructor
  ·
   rintro ⟨h1, h2⟩; exact ⟨h1, by rw [← HV.out, if_pos h1]; exact h2⟩
  ·
   rintro ⟨h1, h2⟩; exact ⟨h1, by have := HV.out; rw [if_pos h1] at this; rw [this]; exact h2⟩)
 clear hok
 go_upto_region 1 with (fail)
 cases ok
 case false =>
  have HRR := hide (show res = Except.error 4 from by rw [← HR.out]; unfold backR; rw [if_neg (fun h => by have := HOKM.out.1 h; cases this)])
  cases q
  case false =>
   go_wp2_with fail
   with_reducible refine (eneed_no 4 _).mono ?_
   rintro e w2 ⟨rfl, rfl⟩
   exact ⟨rfl, .inr ⟨4, HRR.out, rfl, ⟨_, H1.out.row, rfl⟩, HP1.out⟩⟩
  case true =>
   have hv1 : ¬ v = 1 := by simpa using HOK.out
   have hd : (v == 1) = false := by simpa using hv1
   clear hv1
   go_wp2_with fail
   with_reducible refine (eneed_no 4 _).mono ?_
   rintro e w2 ⟨rfl, rfl⟩
   exact ⟨rfl, .inr ⟨4, HRR.out, rfl, ⟨_, H1.out.row, rfl⟩, HP1.out⟩⟩
 case true =>
  have hqv : q = true ∧ v = 1 := by simpa using HOK.out
  obtain ⟨hq1, hv1⟩ := hqv
  subst hq1 hv1
  go_wp2_with fail
  with_reducible refine (eneed_ok 4 _).mono ?_
  rintro e w2 ⟨rfl, hw⟩
  subst hw
  obtain ⟨E, hE⟩ : ∃ E, gvE r.sl [(o.x.1, o.x.2)] = E := ⟨_, rfl⟩
  obtain ⟨Y, hY⟩ : ∃ Y, gvA r.sl [(o.x.1, o.x.2)] = Y := ⟨_, rfl⟩
  obtain ⟨k, hk⟩ : ∃ k, Y.length = k := ⟨_, rfl⟩
  have HE := hide hE
  have HY := hide hY
  have HK := hide hk
  clear hE hY hk
  go_upto_region 2 with (fail)
  have HSX := hide (fun (wX : World) (hgX : Below w1.heap.size w1 wX) => show wX.cell? ⟨gh, 0, none⟩ = some (.slice A0 n0 c0) ∧ wX.cell? ⟨gh, 10, none⟩ = some (.int .i64 o.x.1) ∧ wX.cell? ⟨gh, 11, none⟩ = some (.int .u64 o.x.2) ∧ gh < wX.heap.size from by
   obtain ⟨z0, z1, z2, z3, z4, z5, z6, z7, z8, z9, z10, z11, z12⟩ := row13 H1.out.row
   exact ⟨kept hgX z0, kept hgX z10, kept hgX z11, Nat.lt_of_lt_of_le H1.out.row.lt hgX.size⟩)
  have HGR := hide ((Below.refl w1.heap.size w1).drew)
  refine wp_region_T (fun wX => wX.cell? ⟨gh, 0, none⟩ = some (.slice A0 n0 c0) ∧ wX.cell? ⟨gh, 10, none⟩ = some (.int .i64 o.x.1) ∧ wX.cell? ⟨gh, 11, none⟩ = some (.int .u64 o.x.2) ∧ gh < wX.heap.size) 19 (by kernel_rfl) (HSX.out _ HGR.out) (fun hHeld => ?_)
  clear hHeld
  have hS0 := HSX.out _ HGR.out
  (refine wpAnyT_take (i := 0) (v := ?_) rfl (by kernel_rfl) (by kernel_rfl) (by kernel_rfl) (by kernel_rfl) (fun _ _ _ h => h) (Or.inl ⟨by rfl, ?_⟩) (by assumption) ?_; rotate_left; (focus (intro w hSw; (try dsimp only at hSw); obtain ⟨a, b, c, d⟩ := hSw; go_simp; first | done | with_reducible rfl)); (try simp only [Act.put, Na, Nb, Nc, Nd, Nx, Nf]))
  (refine wpAnyT_take (i := 1) (v := ?_) rfl (by kernel_rfl) (by kernel_rfl) (by kernel_rfl) (by kernel_rfl) (fun _ _ _ h => h) (Or.inl ⟨by rfl, ?_⟩) (by assumption) ?_; rotate_left; (focus (intro w hSw; (try dsimp only at hSw); obtain ⟨a, b, c, d⟩ := hSw; go_simp; first | done | with_reducible rfl)); (try simp only [Act.put, Na, Nb, Nc, Nd, Nx, Nf]))
  (refine wpAnyT_take (i := 2) (v := ?_) rfl (by kernel_rfl) (by kernel_rfl) (by kernel_rfl) (by kernel_rfl) (fun _ _ _ h => h) (Or.inl ⟨by rfl, ?_⟩) (by assumption) ?_; rotate_left; (focus (intro w hSw; (try dsimp only at hSw); obtain ⟨a, b, c, d⟩ := hSw; go_simp; first | done | with_reducible rfl)); (try simp only [Act.put, Na, Nb, Nc, Nd, Nx, Nf]))
  (refine wpAnyT_take (i := 3) (v := ?_) rfl (by kernel_rfl) (by kernel_rfl) (by kernel_rfl) (by kernel_rfl) (fun _ _ _ h => h) (Or.inl ⟨by rfl, ?_⟩) (by assumption) ?_; rotate_left; (focus (intro w hSw; (try dsimp only at hSw); obtain ⟨a, b, c, d⟩ := hSw; go_simp; first | done | with_reducible rfl)); (try simp only [Act.put, Na, Nb, Nc, Nd, Nx, Nf]))
  (refine wpAnyT_take (i := 4) (v := ?_) rfl (by kernel_rfl) (by kernel_rfl) (by kernel_rfl) (by kernel_rfl) (fun _ _ _ h => h) (Or.inl ⟨by rfl, ?_⟩) (by assumption) ?_; rotate_left; (focus (intro w hSw; (try dsimp only at hSw); obtain ⟨a, b, c, d⟩ := hSw; go_simp; first | done | with_reducible rfl)); (try simp only [Act.put, Na, Nb, Nc, Nd, Nx, Nf]))
  (refine wpAnyT_take (i := 5) (v := ?_) rfl (by kernel_rfl) (by kernel_rfl) (by kernel_rfl) (by kernel_rfl) (fun _ _ _ h => h) (Or.inl ⟨by rfl, ?_⟩) (by assumption) ?_; rotate_left; (focus (intro w hSw; (try dsimp only at hSw); obtain ⟨a, b, c, d⟩ := hSw; go_simp; first | done | with_reducible rfl)); (try simp only [Act.put, Na, Nb, Nc, Nd, Nx, Nf]))
  (refine wpAnyT_take (i := 6) (v := ?_) rfl (by kernel_rfl) (by kernel_rfl) (by kernel_rfl) (by kernel_rfl) (fun _ _ _ h => h) (Or.inl ⟨by rfl, ?_⟩) (by assumption) ?_; rotate_left; (focus (intro w hSw; (try dsimp only at hSw); obtain ⟨a, b, c, d⟩ := hSw; go_simp; first | done | with_reducible rfl)); (try simp only [Act.put, Na, Nb, Nc, Nd, Nx, Nf]))
  (refine wpAnyT_take (i := 7) (v := ?_) rfl (by kernel_rfl) (by kernel_rfl) (by kernel_rfl) (by kernel_rfl) (fun _ _ _ h => h) (Or.inl ⟨by rfl, ?_⟩) (by assumption) ?_; rotate_left; (focus (intro w hSw; (try dsimp only at hSw); obtain ⟨a, b, c, d⟩ := hSw; go_simp; first | done | with_reducible rfl)); (try simp only [Act.put, Na, Nb, Nc, Nd, Nx, Nf]))
  (refine wpAnyT_take (i := 8) (v := ?_) rfl (by kernel_rfl) (by kernel_rfl) (by kernel_rfl) (by kernel_rfl) (fun _ _ _ h => h) (Or.inl ⟨by rfl, ?_⟩) (by assumption) ?_; rotate_left; (focus (intro w hSw; (try dsimp only at hSw); obtain ⟨a, b, c, d⟩ := hSw; go_simp; first | done | with_reducible rfl)); (try simp only [Act.put, Na, Nb, Nc, Nd, Nx, Nf]))
  (refine wpAnyT_take (i := 9) (v := ?_) rfl (by kernel_rfl) (by kernel_rfl) (by kernel_rfl) (by kernel_rfl) (fun _ _ _ h => h) (Or.inl ⟨by rfl, ?_⟩) (by assumption) ?_; rotate_left; (focus (intro w hSw; (try dsimp only at hSw); obtain ⟨a, b, c, d⟩ := hSw; go_simp; first | done | with_reducible rfl)); (try simp only [Act.put, Na, Nb, Nc, Nd, Nx, Nf]))
  (refine wpAnyT_take (i := 10) (v := ?_) rfl (by kernel_rfl) (by kernel_rfl) (by kernel_rfl) (by kernel_rfl) (fun _ _ _ h => h) (Or.inl ⟨by rfl, ?_⟩) (by assumption) ?_; rotate_left; (focus (intro w hSw; (try dsimp only at hSw); obtain ⟨a, b, c, d⟩ := hSw; go_simp; first | done | with_reducible rfl)); (try simp only [Act.put, Na, Nb, Nc, Nd, Nx, Nf]))
  refine wpAnyT_one (i := 11) rfl (by kernel_rfl) (fun K0 hK0 => ?_)
  go_simp
  have HAL := hide (((Below.refl w1.heap.size w1).alloc (Nat.le_refl _) (.cells #[.int .i64 o.x.1, .int .u64 o.x.2] 41)).drew)
  have HSRC := hide (show Rd (w1.alloc (.cells #[.int .i64 o.x.1, .int .u64 o.x.2] 41)).drew (w1.alloc (.cells #[.int .i64 o.x.1, .int .u64 o.x.2] 41)).drew.heap.size 2 (some ⟨w1.heap.size, 0, none⟩) 1 (Cs encE [(o.x.1, o.x.2)]) from ((Rd.new w1 #[.int .i64 o.x.1, .int .u64 o.x.2] 41 2 1 rfl).below (Below.refl (w1.heap.size + 1) _).drew).more (Nat.le_of_eq (World.size_alloc w1 (.cells #[.int .i64 o.x.1, .int .u64 o.x.2] 41)).symm))
  clear hS0
  have hS0 := HSX.out _ HAL.out
  refine hK0.out _ _ (fun _ => hS0) ?_
  clear hK0 K0
  (try simp only [Act.put, Na, Nb, Nc, Nd, Nx, Nf])
  generalize (w1.alloc (.cells #[.int .i64 o.x.1, .int .u64 o.x.2] 41)).drew = wb at *
  skip
  refine wpAnyT_one (i := 12) rfl (by kernel_rfl) (fun K1 hK1 => ?_)
  go_simp
  have HB4 := hide (H1.out.below HAL.out)
  with_reducible refine (GiveK A0 c0 n0 (some ⟨w1.heap.size, 0, none⟩) 1 1 r.sl [(o.x.1, o.x.2)] wb HB4.out.all.sl.rd HB4.out.all.l0 (by rw [← HB4.out.all.l0]; exact HF.out.sl) HSRC.out rfl (by omega) (by intro x hx; rw [List.mem_singleton] at hx; subst hx; exact HZ.out) E Y k HE.out HY.out HK.out).mono ?_
  rintro e w5 ⟨A1, c1, rfl, hkc, hao, hb⟩
  have HAO := hide (ArOut.rdF hao)
  have HKC := hide hkc
  have HX5 := hide (HAL.out.trans (hb.mono HAL.out.size))
  clear hS0 hb hkc hao
  have hS0 := HSX.out _ HX5.out
  refine hK1.out _ _ (fun _ => hS0) ?_
  clear hK1 K1
  (try simp only [Act.put, Na, Nb, Nc, Nd, Nx, Nf])
  (refine wpAnyT_take (i := 13) (v := ?_) rfl (by kernel_rfl) (by kernel_rfl) (by kernel_rfl) (by kernel_rfl) (fun _ _ _ h => h) (Or.inl ⟨by rfl, ?_⟩) (by assumption) ?_; rotate_left; (focus (intro w hSw; (try dsimp only at hSw); obtain ⟨a, b, c, d⟩ := hSw; go_simp; first | done | with_reducible rfl)); (try simp only [Act.put, Na, Nb, Nc, Nd, Nx, Nf]))
  (refine wpAnyT_take (i := 14) (v := ?_) rfl (by kernel_rfl) (by kernel_rfl) (by kernel_rfl) (by kernel_rfl) (fun _ _ _ h => h) (Or.inl ⟨by rfl, ?_⟩) (by assumption) ?_; rotate_left; (focus (intro w hSw; (try dsimp only at hSw); obtain ⟨a, b, c, d⟩ := hSw; go_simp; first | done | with_reducible rfl)); (try simp only [Act.put, Na, Nb, Nc, Nd, Nx, Nf]))
  by_cases hE0 : E = 0
  case neg =>
   refine wpAnyT_one (i := 15) rfl (by kernel_rfl) (fun K2 hK2 => ?_)
   go_simp
   with_reducible refine (sureA_no A1 k c1 E hE0 w5).mono ?_
   rintro e w6 ⟨rfl, hb⟩
   have HX6 := hide (HX5.out.trans (hb.mono HX5.out.size))
   have HRR := hide (show res = Except.error E from by rw [← HR.out]; unfold backR; rw [if_pos (HOKM.out.2 (by simp))]; rw [if_neg (by rw [show gvE r.sl [o.x] = E from HE.out]; exact hE0)]; rw [show gvE r.sl [o.x] = E from HE.out])
   have HP := hide (HP1.out.trans (Past.of_below H1.out.row.lt HX6.out))
   exact ⟨rfl, .inr ⟨E, HRR.out, rfl, ⟨_, (H1.out.below HX6.out).row, rfl⟩, HP.out⟩⟩
  case pos =>
   subst hE0
   refine wpAnyT_one (i := 15) rfl (by kernel_rfl) (fun K3 hK3 => ?_)
   go_simp
   with_reducible refine (sureA_ok A1 k c1 w5).mono ?_
   rintro e w6 ⟨rfl, hb⟩
   have HX6 := hide (HX5.out.trans (hb.mono HX5.out.size))
   have HAO6 := hide (HAO.out.below hb)
   clear hS0 hb
   have hS0 := HSX.out _ HX6.out
   refine hK3.out _ _ (fun _ => hS0) ?_
   clear hK3 K3
   (try simp only [Act.put, Na, Nb, Nc, Nd, Nx, Nf])
   refine wpAnyT_one (i := 16) rfl (by kernel_rfl) (fun K4 hK4 => ?_)
   go_simp
   refine hK4.out _ _ (fun _ => hS0) ?_
   clear hK4 K4
   (try simp only [Act.put, Na, Nb, Nc, Nd, Nx, Nf])
   refine wpAnyT_one (i := 17) rfl (by kernel_rfl) (fun K5 hK5 => ?_)
   go_simp
   refine hK5.out _ _ (fun _ => hS0) ?_
   clear hK5 K5
   (try simp only [Act.put, Na, Nb, Nc, Nd, Nx, Nf])
   refine wpAnyT_one (i := 18) rfl (by kernel_rfl) (fun K6 hK6 => ?_)
   go_simp
   refine hK6.out _ _ (fun _ => hS0) ?_
   clear hK6 K6
   (try simp only [Act.put, Na, Nb, Nc, Nd, Nx, Nf])
   refine wpAnyT_one (i := 19) rfl (by kernel_rfl) (fun K7 hK7 => ?_)
   have H6 := hide (H1.out.below HX6.out)
   obtain ⟨z0, z1, z2, z3, z4, z5, z6, z7, z8, z9, z10, z11, z12⟩ := row13 H6.out.row
   have zl := H6.out.row.lt
   have f0 := H6.out.row.frozen 0
   go_simp
   have HPS := hide (show Past gh w6 (w6.setCell ⟨gh, 0, none⟩ (.slice A1 k c1)) from ((Past.refl gh w6).trans (Past.set 0 (.slice A1 k c1))))
   have HN := hide (show RowAt (w6.setCell ⟨gh, 0, none⟩ (.slice A1 k c1)) gh 95 #[.slice A1 k c1, .int .u64 r.e, .slice As ns cs, .int .u64 (r.l.E : Int), .slice (A 0) (n 0) (c 0), .slice (A 1) (n 1) (c 1), .slice (A 2) (n 2) (c 2), .int .i64 o.k, .int .i64 o.g, .int .u64 o.b, .int .i64 o.x.1, .int .u64 o.x.2, .slice At nt ct] from by have h := (H6.out.row.set 0 (.slice A1 k c1)); simpa using h)
   clear z0 z1 z2 z3 z4 z5 z6 z7 z8 z9 z10 z11 z12 zl
   clear f0 hS0
   generalize (w6.setCell ⟨gh, 0, none⟩ (.slice A1 k c1)) = wn at *
   refine hK7.out _ _ (fun h => absurd rfl h) ?_
   clear hK7 K7
   (try simp only [Act.put, Na, Nb, Nc, Nd, Nx, Nf])
   refine wpAnyT_done (by kernel_rfl) ?_ _
   have HFR := off_from (Nat.lt_of_lt_of_le H1.out.row.lt HAL.out.size) (own_keepB H1.out.own HAL.out) H1.out.lo
   have HNW := hide (H6.out.past (r' := (⟨Y, r.e, r.S, r.l⟩ : Rec)) HPS.out HN.out ⟨HAO6.out.up (fun j hj _ => HFR j hj), HK.out, HKC.out, H6.out.all.S, H6.out.all.ls, H6.out.all.hs, H6.out.all.rw, H6.out.all.ll, H6.out.all.hl⟩)
   have HPW := hide ((HP1.out.trans (Past.of_below H1.out.row.lt HX6.out)).trans HPS.out)
   clear HFR HN HPS HX6 HX5 HAL HSRC HAO HAO6 HB4 H6
   have HRR := hide (show res = Except.ok ((⟨Y, r.e, r.S, r.l⟩ : Rec), told) from by rw [← HR.out]; unfold backR; rw [if_pos (HOKM.out.2 (by simp)), if_pos (show gvE r.sl [o.x] = 0 from HE.out), show gvA r.sl [o.x] = Y from HY.out])
   go_wp2_with fail
   go_end0
   exact .inl ⟨_, _, HRR.out, rfl, ⟨_, _, _, _, _, _, _, _, _, _, _, _, HNW.out⟩, PastH.of_past HPW.out⟩
set_option maxRecDepth 20000 in
set_option maxHeartbeats 4000000 in
theorem eretire_any (base gh : Nat) (A0 As : Option Addr) (n0 c0 ns cs : Nat) (A : Nat → Option Addr) (n c : Nat → Nat) (o : EOp) (At : Option Addr) (nt ct : Nat) (r : Rec) (told : List Ent) (W : World) (h : HandR W base gh A0 As n0 c0 ns cs A n c o At nt ct r told) (hf : FitR r) (hz : U64 o.x.2) (res : Except Int (Rec × List Ent)) (hres : retiR r told o.x = res) :
  Calls Tryz.prog 80 #[.pointer (some ⟨gh, 0, none⟩)] W (MthRes gh base o At res W) := by
 have H := hide h
 have HF := hide hf
 have HR := hide hres
 have HZ := hide hz
 have HZ2 := hide (show 0 ≤ o.x.2 ∧ o.x.2 < 18446744073709551616 from by unfold U64 at hz; omega)
 clear h hf hres hz
 have HP0 := hide (Past.refl gh W)
 obtain ⟨E, hE⟩ : ∃ E, rtE r.sl [(o.x.1, o.x.2)] = E := ⟨_, rfl⟩
 obtain ⟨Y, hY⟩ : ∃ Y, rtA r.sl [(o.x.1, o.x.2)] = Y := ⟨_, rfl⟩
 obtain ⟨k, hk⟩ : ∃ k, Y.length = k := ⟨_, rfl⟩
 have HE := hide hE
 have HY := hide hY
 have HK := hide hk
 clear hE hY hk
 go_enter Tryz.func80, Tryz.ntmps80
 go_upto_region 0 with (fail)
 have HSX := hide (fun (wX : World) (hgX : Below W.heap.size W wX) => show wX.cell? ⟨gh, 0, none⟩ = some (.slice A0 n0 c0) ∧ wX.cell? ⟨gh, 10, none⟩ = some (.int .i64 o.x.1) ∧ wX.cell? ⟨gh, 11, none⟩ = some (.int .u64 o.x.2) ∧ gh < wX.heap.size from by
  obtain ⟨z0, z1, z2, z3, z4, z5, z6, z7, z8, z9, z10, z11, z12⟩ := row13 H.out.row
  exact ⟨kept hgX z0, kept hgX z10, kept hgX z11, Nat.lt_of_lt_of_le H.out.row.lt hgX.size⟩)
 have HGR := hide ((Below.refl W.heap.size W).drew)
 refine wp_region_T (fun wX => wX.cell? ⟨gh, 0, none⟩ = some (.slice A0 n0 c0) ∧ wX.cell? ⟨gh, 10, none⟩ = some (.int .i64 o.x.1) ∧ wX.cell? ⟨gh, 11, none⟩ = some (.int .u64 o.x.2) ∧ gh < wX.heap.size) 19 (by kernel_rfl) (HSX.out _ HGR.out) (fun hHeld => ?_)
 clear hHeld
 have hS0 := HSX.out _ HGR.out
 (refine wpAnyT_take (i := 0) (v := ?_) rfl (by kernel_rfl) (by kernel_rfl) (by kernel_rfl) (by kernel_rfl) (fun _ _ _ h => h) (Or.inl ⟨by rfl, ?_⟩) (by assumption) ?_; rotate_left; (focus (intro w hSw; (try dsimp only at hSw); obtain ⟨a, b, c, d⟩ := hSw; go_simp; first | done | with_reducible rfl)); (try simp only [Act.put, Na, Nb, Nc, Nd, Nx, Nf]))
 (refine wpAnyT_take (i := 1) (v := ?_) rfl (by kernel_rfl) (by kernel_rfl) (by kernel_rfl) (by kernel_rfl) (fun _ _ _ h => h) (Or.inl ⟨by rfl, ?_⟩) (by assumption) ?_; rotate_left; (focus (intro w hSw; (try dsimp only at hSw); obtain ⟨a, b, c, d⟩ := hSw; go_simp; first | done | with_reducible rfl)); (try simp only [Act.put, Na, Nb, Nc, Nd, Nx, Nf]))
 (refine wpAnyT_take (i := 2) (v := ?_) rfl (by kernel_rfl) (by kernel_rfl) (by kernel_rfl) (by kernel_rfl) (fun _ _ _ h => h) (Or.inl ⟨by rfl, ?_⟩) (by assumption) ?_; rotate_left; (focus (intro w hSw; (try dsimp only at hSw); obtain ⟨a, b, c, d⟩ := hSw; go_simp; first | done | with_reducible rfl)); (try simp only [Act.put, Na, Nb, Nc, Nd, Nx, Nf]))
 (refine wpAnyT_take (i := 3) (v := ?_) rfl (by kernel_rfl) (by kernel_rfl) (by kernel_rfl) (by kernel_rfl) (fun _ _ _ h => h) (Or.inl ⟨by rfl, ?_⟩) (by assumption) ?_; rotate_left; (focus (intro w hSw; (try dsimp only at hSw); obtain ⟨a, b, c, d⟩ := hSw; go_simp; first | done | with_reducible rfl)); (try simp only [Act.put, Na, Nb, Nc, Nd, Nx, Nf]))
 (refine wpAnyT_take (i := 4) (v := ?_) rfl (by kernel_rfl) (by kernel_rfl) (by kernel_rfl) (by kernel_rfl) (fun _ _ _ h => h) (Or.inl ⟨by rfl, ?_⟩) (by assumption) ?_; rotate_left; (focus (intro w hSw; (try dsimp only at hSw); obtain ⟨a, b, c, d⟩ := hSw; go_simp; first | done | with_reducible rfl)); (try simp only [Act.put, Na, Nb, Nc, Nd, Nx, Nf]))
 (refine wpAnyT_take (i := 5) (v := ?_) rfl (by kernel_rfl) (by kernel_rfl) (by kernel_rfl) (by kernel_rfl) (fun _ _ _ h => h) (Or.inl ⟨by rfl, ?_⟩) (by assumption) ?_; rotate_left; (focus (intro w hSw; (try dsimp only at hSw); obtain ⟨a, b, c, d⟩ := hSw; go_simp; first | done | with_reducible rfl)); (try simp only [Act.put, Na, Nb, Nc, Nd, Nx, Nf]))
 (refine wpAnyT_take (i := 6) (v := ?_) rfl (by kernel_rfl) (by kernel_rfl) (by kernel_rfl) (by kernel_rfl) (fun _ _ _ h => h) (Or.inl ⟨by rfl, ?_⟩) (by assumption) ?_; rotate_left; (focus (intro w hSw; (try dsimp only at hSw); obtain ⟨a, b, c, d⟩ := hSw; go_simp; first | done | with_reducible rfl)); (try simp only [Act.put, Na, Nb, Nc, Nd, Nx, Nf]))
 (refine wpAnyT_take (i := 7) (v := ?_) rfl (by kernel_rfl) (by kernel_rfl) (by kernel_rfl) (by kernel_rfl) (fun _ _ _ h => h) (Or.inl ⟨by rfl, ?_⟩) (by assumption) ?_; rotate_left; (focus (intro w hSw; (try dsimp only at hSw); obtain ⟨a, b, c, d⟩ := hSw; go_simp; first | done | with_reducible rfl)); (try simp only [Act.put, Na, Nb, Nc, Nd, Nx, Nf]))
 (refine wpAnyT_take (i := 8) (v := ?_) rfl (by kernel_rfl) (by kernel_rfl) (by kernel_rfl) (by kernel_rfl) (fun _ _ _ h => h) (Or.inl ⟨by rfl, ?_⟩) (by assumption) ?_; rotate_left; (focus (intro w hSw; (try dsimp only at hSw); obtain ⟨a, b, c, d⟩ := hSw; go_simp; first | done | with_reducible rfl)); (try simp only [Act.put, Na, Nb, Nc, Nd, Nx, Nf]))
 (refine wpAnyT_take (i := 9) (v := ?_) rfl (by kernel_rfl) (by kernel_rfl) (by kernel_rfl) (by kernel_rfl) (fun _ _ _ h => h) (Or.inl ⟨by rfl, ?_⟩) (by assumption) ?_; rotate_left; (focus (intro w hSw; (try dsimp only at hSw); obtain ⟨a, b, c, d⟩ := hSw; go_simp; first | done | with_reducible rfl)); (try simp only [Act.put, Na, Nb, Nc, Nd, Nx, Nf]))
 (refine wpAnyT_take (i := 10) (v := ?_) rfl (by kernel_rfl) (by kernel_rfl) (by kernel_rfl) (by kernel_rfl) (fun _ _ _ h => h) (Or.inl ⟨by rfl, ?_⟩) (by assumption) ?_; rotate_left; (focus (intro w hSw; (try dsimp only at hSw); obtain ⟨a, b, c, d⟩ := hSw; go_simp; first | done | with_reducible rfl)); (try simp only [Act.put, Na, Nb, Nc, Nd, Nx, Nf]))
 refine wpAnyT_one (i := 11) rfl (by kernel_rfl) (fun K0 hK0 => ?_)
 go_simp
 have HAL := hide (((Below.refl W.heap.size W).alloc (Nat.le_refl _) (.cells #[.int .i64 o.x.1, .int .u64 o.x.2] 41)).drew)
 have HSRC := hide (show Rd (W.alloc (.cells #[.int .i64 o.x.1, .int .u64 o.x.2] 41)).drew (W.alloc (.cells #[.int .i64 o.x.1, .int .u64 o.x.2] 41)).drew.heap.size 2 (some ⟨W.heap.size, 0, none⟩) 1 (Cs encE [(o.x.1, o.x.2)]) from ((Rd.new W #[.int .i64 o.x.1, .int .u64 o.x.2] 41 2 1 rfl).below (Below.refl (W.heap.size + 1) _).drew).more (Nat.le_of_eq (World.size_alloc W (.cells #[.int .i64 o.x.1, .int .u64 o.x.2] 41)).symm))
 clear hS0
 have hS0 := HSX.out _ HAL.out
 refine hK0.out _ _ (fun _ => hS0) ?_
 clear hK0 K0
 (try simp only [Act.put, Na, Nb, Nc, Nd, Nx, Nf])
 generalize (W.alloc (.cells #[.int .i64 o.x.1, .int .u64 o.x.2] 41)).drew = wb at *
 skip
 refine wpAnyT_one (i := 12) rfl (by kernel_rfl) (fun K1 hK1 => ?_)
 go_simp
 have HB4 := hide (H.out.below HAL.out)
 with_reducible refine (RetireK A0 c0 n0 (some ⟨W.heap.size, 0, none⟩) 1 1 r.sl [(o.x.1, o.x.2)] wb HB4.out.all.sl.rd HB4.out.all.l0 (by rw [← HB4.out.all.l0]; exact HF.out.sl) HSRC.out rfl (by omega) E Y k HE.out HY.out HK.out).mono ?_
 rintro e w5 ⟨A1, c1, rfl, hkc, hao, hb⟩
 have HAO := hide (ArOut.rdF hao)
 have HKC := hide hkc
 have HX5 := hide (HAL.out.trans (hb.mono HAL.out.size))
 clear hS0 hb hkc hao
 have hS0 := HSX.out _ HX5.out
 refine hK1.out _ _ (fun _ => hS0) ?_
 clear hK1 K1
 (try simp only [Act.put, Na, Nb, Nc, Nd, Nx, Nf])
 (refine wpAnyT_take (i := 13) (v := ?_) rfl (by kernel_rfl) (by kernel_rfl) (by kernel_rfl) (by kernel_rfl) (fun _ _ _ h => h) (Or.inl ⟨by rfl, ?_⟩) (by assumption) ?_; rotate_left; (focus (intro w hSw; (try dsimp only at hSw); obtain ⟨a, b, c, d⟩ := hSw; go_simp; first | done | with_reducible rfl)); (try simp only [Act.put, Na, Nb, Nc, Nd, Nx, Nf]))
 (refine wpAnyT_take (i := 14) (v := ?_) rfl (by kernel_rfl) (by kernel_rfl) (by kernel_rfl) (by kernel_rfl) (fun _ _ _ h => h) (Or.inl ⟨by rfl, ?_⟩) (by assumption) ?_; rotate_left; (focus (intro w hSw; (try dsimp only at hSw); obtain ⟨a, b, c, d⟩ := hSw; go_simp; first | done | with_reducible rfl)); (try simp only [Act.put, Na, Nb, Nc, Nd, Nx, Nf]))
 by_cases hE0 : E = 0
 case neg =>
  refine wpAnyT_one (i := 15) rfl (by kernel_rfl) (fun K2 hK2 => ?_)
  go_simp
  with_reducible refine (sureA_no A1 k c1 E hE0 w5).mono ?_
  rintro e w6 ⟨rfl, hb⟩
  have HX6 := hide (HX5.out.trans (hb.mono HX5.out.size))
  have HRR := hide (show res = Except.error E from by rw [← HR.out]; unfold retiR; rw [if_neg (by rw [show rtE r.sl [o.x] = E from HE.out]; exact hE0)]; rw [show rtE r.sl [o.x] = E from HE.out])
  have HP := hide (HP0.out.trans (Past.of_below H.out.row.lt HX6.out))
  exact ⟨rfl, .inr ⟨E, HRR.out, rfl, ⟨_, (H.out.below HX6.out).row, rfl⟩, HP.out⟩⟩
 case pos =>
  subst hE0
  refine wpAnyT_one (i := 15) rfl (by kernel_rfl) (fun K3 hK3 => ?_)
  go_simp
  with_reducible refine (sureA_ok A1 k c1 w5).mono ?_
  rintro e w6 ⟨rfl, hb⟩
  have HX6 := hide (HX5.out.trans (hb.mono HX5.out.size))
  have HAO6 := hide (HAO.out.below hb)
  clear hS0 hb
  have hS0 := HSX.out _ HX6.out
  refine hK3.out _ _ (fun _ => hS0) ?_
  clear hK3 K3
  (try simp only [Act.put, Na, Nb, Nc, Nd, Nx, Nf])
  refine wpAnyT_one (i := 16) rfl (by kernel_rfl) (fun K4 hK4 => ?_)
  go_simp
  refine hK4.out _ _ (fun _ => hS0) ?_
  clear hK4 K4
  (try simp only [Act.put, Na, Nb, Nc, Nd, Nx, Nf])
  refine wpAnyT_one (i := 17) rfl (by kernel_rfl) (fun K5 hK5 => ?_)
  go_simp
  refine hK5.out _ _ (fun _ => hS0) ?_
  clear hK5 K5
  (try simp only [Act.put, Na, Nb, Nc, Nd, Nx, Nf])
  refine wpAnyT_one (i := 18) rfl (by kernel_rfl) (fun K6 hK6 => ?_)
  go_simp
  refine hK6.out _ _ (fun _ => hS0) ?_
  clear hK6 K6
  (try simp only [Act.put, Na, Nb, Nc, Nd, Nx, Nf])
  refine wpAnyT_one (i := 19) rfl (by kernel_rfl) (fun K7 hK7 => ?_)
  have H6 := hide (H.out.below HX6.out)
  obtain ⟨z0, z1, z2, z3, z4, z5, z6, z7, z8, z9, z10, z11, z12⟩ := row13 H6.out.row
  have zl := H6.out.row.lt
  have f0 := H6.out.row.frozen 0
  go_simp
  have HPS := hide (show Past gh w6 (w6.setCell ⟨gh, 0, none⟩ (.slice A1 k c1)) from ((Past.refl gh w6).trans (Past.set 0 (.slice A1 k c1))))
  have HN := hide (show RowAt (w6.setCell ⟨gh, 0, none⟩ (.slice A1 k c1)) gh 95 #[.slice A1 k c1, .int .u64 r.e, .slice As ns cs, .int .u64 (r.l.E : Int), .slice (A 0) (n 0) (c 0), .slice (A 1) (n 1) (c 1), .slice (A 2) (n 2) (c 2), .int .i64 o.k, .int .i64 o.g, .int .u64 o.b, .int .i64 o.x.1, .int .u64 o.x.2, .slice At nt ct] from by have h := (H6.out.row.set 0 (.slice A1 k c1)); simpa using h)
  clear z0 z1 z2 z3 z4 z5 z6 z7 z8 z9 z10 z11 z12 zl
  clear f0 hS0
  generalize (w6.setCell ⟨gh, 0, none⟩ (.slice A1 k c1)) = wn at *
  refine hK7.out _ _ (fun h => absurd rfl h) ?_
  clear hK7 K7
  (try simp only [Act.put, Na, Nb, Nc, Nd, Nx, Nf])
  refine wpAnyT_done (by kernel_rfl) ?_ _
  have HFR := off_from (Nat.lt_of_lt_of_le H.out.row.lt HAL.out.size) (own_keepB H.out.own HAL.out) H.out.lo
  have HNW := hide (H6.out.past (r' := (⟨Y, r.e, r.S, r.l⟩ : Rec)) HPS.out HN.out ⟨HAO6.out.up (fun j hj _ => HFR j hj), HK.out, HKC.out, H6.out.all.S, H6.out.all.ls, H6.out.all.hs, H6.out.all.rw, H6.out.all.ll, H6.out.all.hl⟩)
  have HPW := hide ((HP0.out.trans (Past.of_below H.out.row.lt HX6.out)).trans HPS.out)
  clear HFR HN HPS HX6 HX5 HAL HSRC HAO HAO6 HB4 H6
  clear HSX HGR
  obtain ⟨rt, hrt⟩ : ∃ rt, Li.retR r.l (o.x.1, o.x.2) = rt := ⟨_, rfl⟩
  have HRT := hide hrt
  clear hrt
  go_upto_region 1 with (fail)
  have HSX := hide (fun (wX : World) (hgX : Below wn.heap.size wn wX) => show wX.cell? ⟨gh, 3, none⟩ = some (.int .u64 (r.l.E : Int)) ∧ wX.cell? ⟨gh, 4, none⟩ = some (.slice (A 0) (n 0) (c 0)) ∧ wX.cell? ⟨gh, 5, none⟩ = some (.slice (A 1) (n 1) (c 1)) ∧ wX.cell? ⟨gh, 6, none⟩ = some (.slice (A 2) (n 2) (c 2)) ∧ wX.cell? ⟨gh, 10, none⟩ = some (.int .i64 o.x.1) ∧ wX.cell? ⟨gh, 11, none⟩ = some (.int .u64 o.x.2) ∧ gh < wX.heap.size from by
   obtain ⟨z0, z1, z2, z3, z4, z5, z6, z7, z8, z9, z10, z11, z12⟩ := row13 HNW.out.row
   exact ⟨kept hgX z3, kept hgX z4, kept hgX z5, kept hgX z6, kept hgX z10, kept hgX z11, Nat.lt_of_lt_of_le HNW.out.row.lt hgX.size⟩)
  have HGR := hide ((Below.refl wn.heap.size wn).drew)
  refine wp_region_T (fun wX => wX.cell? ⟨gh, 3, none⟩ = some (.int .u64 (r.l.E : Int)) ∧ wX.cell? ⟨gh, 4, none⟩ = some (.slice (A 0) (n 0) (c 0)) ∧ wX.cell? ⟨gh, 5, none⟩ = some (.slice (A 1) (n 1) (c 1)) ∧ wX.cell? ⟨gh, 6, none⟩ = some (.slice (A 2) (n 2) (c 2)) ∧ wX.cell? ⟨gh, 10, none⟩ = some (.int .i64 o.x.1) ∧ wX.cell? ⟨gh, 11, none⟩ = some (.int .u64 o.x.2) ∧ gh < wX.heap.size) 18 (by kernel_rfl) (HSX.out _ HGR.out) (fun hHeld => ?_)
  clear hHeld
  have hS0 := HSX.out _ HGR.out
  (refine wpAnyT_take (i := 0) (v := ?_) rfl (by kernel_rfl) (by kernel_rfl) (by kernel_rfl) (by kernel_rfl) (fun _ _ _ h => h) (Or.inl ⟨by rfl, ?_⟩) (by assumption) ?_; rotate_left; (focus (intro w hSw; (try dsimp only at hSw); obtain ⟨a, b, c, d, e, f, g⟩ := hSw; go_simp; first | done | with_reducible rfl)); (try simp only [Act.put, Na, Nb, Nc, Nd, Nx, Nf]))
  (refine wpAnyT_take (i := 1) (v := ?_) rfl (by kernel_rfl) (by kernel_rfl) (by kernel_rfl) (by kernel_rfl) (fun _ _ _ h => h) (Or.inl ⟨by rfl, ?_⟩) (by assumption) ?_; rotate_left; (focus (intro w hSw; (try dsimp only at hSw); obtain ⟨a, b, c, d, e, f, g⟩ := hSw; go_simp; first | done | with_reducible rfl)); (try simp only [Act.put, Na, Nb, Nc, Nd, Nx, Nf]))
  (refine wpAnyT_take (i := 2) (v := ?_) rfl (by kernel_rfl) (by kernel_rfl) (by kernel_rfl) (by kernel_rfl) (fun _ _ _ h => h) (Or.inl ⟨by rfl, ?_⟩) (by assumption) ?_; rotate_left; (focus (intro w hSw; (try dsimp only at hSw); obtain ⟨a, b, c, d, e, f, g⟩ := hSw; go_simp; first | done | with_reducible rfl)); (try simp only [Act.put, Na, Nb, Nc, Nd, Nx, Nf]))
  (refine wpAnyT_take (i := 3) (v := ?_) rfl (by kernel_rfl) (by kernel_rfl) (by kernel_rfl) (by kernel_rfl) (fun _ _ _ h => h) (Or.inl ⟨by rfl, ?_⟩) (by assumption) ?_; rotate_left; (focus (intro w hSw; (try dsimp only at hSw); obtain ⟨a, b, c, d, e, f, g⟩ := hSw; go_simp; first | done | with_reducible rfl)); (try simp only [Act.put, Na, Nb, Nc, Nd, Nx, Nf]))
  (refine wpAnyT_take (i := 4) (v := ?_) rfl (by kernel_rfl) (by kernel_rfl) (by kernel_rfl) (by kernel_rfl) (fun _ _ _ h => h) (Or.inl ⟨by rfl, ?_⟩) (by assumption) ?_; rotate_left; (focus (intro w hSw; (try dsimp only at hSw); obtain ⟨a, b, c, d, e, f, g⟩ := hSw; go_simp; first | done | with_reducible rfl)); (try simp only [Act.put, Na, Nb, Nc, Nd, Nx, Nf]))
  (refine wpAnyT_take (i := 5) (v := ?_) rfl (by kernel_rfl) (by kernel_rfl) (by kernel_rfl) (by kernel_rfl) (fun _ _ _ h => h) (Or.inl ⟨by rfl, ?_⟩) (by assumption) ?_; rotate_left; (focus (intro w hSw; (try dsimp only at hSw); obtain ⟨a, b, c, d, e, f, g⟩ := hSw; go_simp; first | done | with_reducible rfl)); (try simp only [Act.put, Na, Nb, Nc, Nd, Nx, Nf]))
  (refine wpAnyT_take (i := 6) (v := ?_) rfl (by kernel_rfl) (by kernel_rfl) (by kernel_rfl) (by kernel_rfl) (fun _ _ _ h => h) (Or.inl ⟨by rfl, ?_⟩) (by assumption) ?_; rotate_left; (focus (intro w hSw; (try dsimp only at hSw); obtain ⟨a, b, c, d, e, f, g⟩ := hSw; go_simp; first | done | with_reducible rfl)); (try simp only [Act.put, Na, Nb, Nc, Nd, Nx, Nf]))
  (refine wpAnyT_take (i := 7) (v := ?_) rfl (by kernel_rfl) (by kernel_rfl) (by kernel_rfl) (by kernel_rfl) (fun _ _ _ h => h) (Or.inl ⟨by rfl, ?_⟩) (by assumption) ?_; rotate_left; (focus (intro w hSw; (try dsimp only at hSw); obtain ⟨a, b, c, d, e, f, g⟩ := hSw; go_simp; first | done | with_reducible rfl)); (try simp only [Act.put, Na, Nb, Nc, Nd, Nx, Nf]))
  (refine wpAnyT_take (i := 8) (v := ?_) rfl (by kernel_rfl) (by kernel_rfl) (by kernel_rfl) (by kernel_rfl) (fun _ _ _ h => h) (Or.inl ⟨by rfl, ?_⟩) (by assumption) ?_; rotate_left; (focus (intro w hSw; (try dsimp only at hSw); obtain ⟨a, b, c, d, e, f, g⟩ := hSw; go_simp; first | done | with_reducible rfl)); (try simp only [Act.put, Na, Nb, Nc, Nd, Nx, Nf]))
  (refine wpAnyT_take (i := 9) (v := ?_) rfl (by kernel_rfl) (by kernel_rfl) (by kernel_rfl) (by kernel_rfl) (fun _ _ _ h => h) (Or.inl ⟨by rfl, ?_⟩) (by assumption) ?_; rotate_left; (focus (intro w hSw; (try dsimp only at hSw); obtain ⟨a, b, c, d, e, f, g⟩ := hSw; go_simp; first | done | with_reducible rfl)); (try simp only [Act.put, Na, Nb, Nc, Nd, Nx, Nf]))
  (refine wpAnyT_take (i := 10) (v := ?_) rfl (by kernel_rfl) (by kernel_rfl) (by kernel_rfl) (by kernel_rfl) (fun _ _ _ h => h) (Or.inl ⟨by rfl, ?_⟩) (by assumption) ?_; rotate_left; (focus (intro w hSw; (try dsimp only at hSw); obtain ⟨a, b, c, d, e, f, g⟩ := hSw; go_simp; first | done | with_reducible rfl)); (try simp only [Act.put, Na, Nb, Nc, Nd, Nx, Nf]))
  refine wpAnyT_one (i := 11) rfl (by kernel_rfl) (fun K0 hK0 => ?_)
  go_simp
  with_reducible refine (Li.Retire_any wn.drew.heap.size A n c r.l o.x.1 o.x.2 wn.drew (HNW.out.below HGR.out).all.lim HF.out.E (Nat.le_refl _) (fun k hk => by rw [← HNW.out.all.ll k hk]; exact HF.out.rw k hk) HF.out.g HZ2.out).mono ?_
  rw [HRT.out]
  rintro e w8 ⟨hb, (⟨l', A4, n4, c4, hr4, rfl, hown⟩ | ⟨kk, hr4, rfl⟩)⟩
  case inr =>
   have HRR := hide (show res = Except.error kk from by rw [← HR.out]; unfold retiR; rw [if_pos (show rtE r.sl [o.x] = 0 from HE.out), show Li.retR r.l o.x = rt from HRT.out, hr4])
   have HKK := hide (show kk ≠ 0 from by have h := HRT.out; rw [hr4] at h; unfold Li.retR at h; split at h; (· exact Li.doRet_ne h); (· injection h with h; omega))
   have HX8 := hide (HGR.out.trans (hb.mono HGR.out.size))
   clear hS0 hb hr4
   have hS0 := HSX.out _ HX8.out
   refine hK0.out _ _ (fun _ => hS0) ?_
   clear hK0 K0
   (try simp only [Act.put, Na, Nb, Nc, Nd, Nx, Nf])
   (refine wpAnyT_take (i := 12) (v := ?_) rfl (by kernel_rfl) (by kernel_rfl) (by kernel_rfl) (by kernel_rfl) (fun _ _ _ h => h) (Or.inl ⟨by rfl, ?_⟩) (by assumption) ?_; rotate_left; (focus (intro w hSw; (try dsimp only at hSw); obtain ⟨a, b, c, d, e, f, g⟩ := hSw; go_simp; first | done | with_reducible rfl)); (try simp only [Act.put, Na, Nb, Nc, Nd, Nx, Nf]))
   (refine wpAnyT_take (i := 13) (v := ?_) rfl (by kernel_rfl) (by kernel_rfl) (by kernel_rfl) (by kernel_rfl) (fun _ _ _ h => h) (Or.inl ⟨by rfl, ?_⟩) (by assumption) ?_; rotate_left; (focus (intro w hSw; (try dsimp only at hSw); obtain ⟨a, b, c, d, e, f, g⟩ := hSw; go_simp; first | done | with_reducible rfl)); (try simp only [Act.put, Na, Nb, Nc, Nd, Nx, Nf]))
   refine wpAnyT_one (i := 14) rfl (by kernel_rfl) (fun K1 hK1 => ?_)
   go_simp
   with_reducible refine (sureL_no 0 none none none 0 0 0 0 0 0 kk HKK.out w8).mono ?_
   rintro e w9 ⟨rfl, hb⟩
   have HX9 := hide (HX8.out.trans (hb.mono HX8.out.size))
   exact ⟨rfl, .inr ⟨kk, HRR.out, rfl, ⟨_, (HNW.out.below HX9.out).row, rfl⟩, HPW.out.trans (Past.of_below HNW.out.row.lt HX9.out)⟩⟩
  case inl =>
   have HRR := hide (show res = Except.ok ((⟨Y, r.e, r.S, l'⟩ : Rec), told) from by rw [← HR.out]; unfold retiR; rw [if_pos (show rtE r.sl [o.x] = 0 from HE.out), show Li.retR r.l o.x = rt from HRT.out, hr4]; dsimp only; rw [show rtA r.sl [o.x] = Y from HY.out])
   have HX8 := hide (HGR.out.trans (hb.mono HGR.out.size))
   have HOW := hide hown
   clear hS0 hb hr4 hown
   have hS0 := HSX.out _ HX8.out
   refine hK0.out _ _ (fun _ => hS0) ?_
   clear hK0 K0
   (try simp only [Act.put, Na, Nb, Nc, Nd, Nx, Nf])
   (refine wpAnyT_take (i := 12) (v := ?_) rfl (by kernel_rfl) (by kernel_rfl) (by kernel_rfl) (by kernel_rfl) (fun _ _ _ h => h) (Or.inl ⟨by rfl, ?_⟩) (by assumption) ?_; rotate_left; (focus (intro w hSw; (try dsimp only at hSw); obtain ⟨a, b, c, d, e, f, g⟩ := hSw; go_simp; first | done | with_reducible rfl)); (try simp only [Act.put, Na, Nb, Nc, Nd, Nx, Nf]))
   (refine wpAnyT_take (i := 13) (v := ?_) rfl (by kernel_rfl) (by kernel_rfl) (by kernel_rfl) (by kernel_rfl) (fun _ _ _ h => h) (Or.inl ⟨by rfl, ?_⟩) (by assumption) ?_; rotate_left; (focus (intro w hSw; (try dsimp only at hSw); obtain ⟨a, b, c, d, e, f, g⟩ := hSw; go_simp; first | done | with_reducible rfl)); (try simp only [Act.put, Na, Nb, Nc, Nd, Nx, Nf]))
   refine wpAnyT_one (i := 14) rfl (by kernel_rfl) (fun K2 hK2 => ?_)
   go_simp
   with_reducible refine (sureL_ok (l'.E : Int) (A4 0) (A4 1) (A4 2) (n4 0) (n4 1) (n4 2) (c4 0) (c4 1) (c4 2) w8).mono ?_
   rintro e wp ⟨rfl, hb⟩
   have HXp := hide (HX8.out.trans (hb.mono HX8.out.size))
   have HOWp := hide (HOW.out.keepB hb)
   clear hS0 hb
   have hS0 := HSX.out _ HXp.out
   refine hK2.out _ _ (fun _ => hS0) ?_
   clear hK2 K2
   (try simp only [Act.put, Na, Nb, Nc, Nd, Nx, Nf])
   refine wpAnyT_one (i := 15) rfl (by kernel_rfl) (fun K3 hK3 => ?_)
   go_simp
   refine hK3.out _ _ (fun _ => hS0) ?_
   clear hK3 K3
   (try simp only [Act.put, Na, Nb, Nc, Nd, Nx, Nf])
   refine wpAnyT_one (i := 16) rfl (by kernel_rfl) (fun K4 hK4 => ?_)
   go_simp
   refine hK4.out _ _ (fun _ => hS0) ?_
   clear hK4 K4
   (try simp only [Act.put, Na, Nb, Nc, Nd, Nx, Nf])
   refine wpAnyT_one (i := 17) rfl (by kernel_rfl) (fun K5 hK5 => ?_)
   go_simp
   refine hK5.out _ _ (fun _ => hS0) ?_
   clear hK5 K5
   (try simp only [Act.put, Na, Nb, Nc, Nd, Nx, Nf])
   refine wpAnyT_one (i := 18) rfl (by kernel_rfl) (fun K6 hK6 => ?_)
   have Hp := hide (HNW.out.below HXp.out)
   obtain ⟨z0, z1, z2, z3, z4, z5, z6, z7, z8, z9, z10, z11, z12⟩ := row13 Hp.out.row
   have zl := Hp.out.row.lt
   have f3 := Hp.out.row.frozen 3
   have f4 := Hp.out.row.frozen 4
   have f5 := Hp.out.row.frozen 5
   have f6 := Hp.out.row.frozen 6
   go_simp
   have HPS := hide (show Past gh wp ((((wp.setCell ⟨gh, 3, none⟩ (.int .u64 (l'.E : Int))).setCell ⟨gh, 4, none⟩ (.slice (A4 0) (n4 0) (c4 0))).setCell ⟨gh, 5, none⟩ (.slice (A4 1) (n4 1) (c4 1))).setCell ⟨gh, 6, none⟩ (.slice (A4 2) (n4 2) (c4 2))) from (((((Past.refl gh wp).trans (Past.set 3 (.int .u64 (l'.E : Int)))).trans (Past.set 4 (.slice (A4 0) (n4 0) (c4 0)))).trans (Past.set 5 (.slice (A4 1) (n4 1) (c4 1)))).trans (Past.set 6 (.slice (A4 2) (n4 2) (c4 2)))))
   have HN := hide (show RowAt ((((wp.setCell ⟨gh, 3, none⟩ (.int .u64 (l'.E : Int))).setCell ⟨gh, 4, none⟩ (.slice (A4 0) (n4 0) (c4 0))).setCell ⟨gh, 5, none⟩ (.slice (A4 1) (n4 1) (c4 1))).setCell ⟨gh, 6, none⟩ (.slice (A4 2) (n4 2) (c4 2))) gh 95 #[.slice A1 k c1, .int .u64 r.e, .slice As ns cs, .int .u64 (l'.E : Int), .slice (A4 0) (n4 0) (c4 0), .slice (A4 1) (n4 1) (c4 1), .slice (A4 2) (n4 2) (c4 2), .int .i64 o.k, .int .i64 o.g, .int .u64 o.b, .int .i64 o.x.1, .int .u64 o.x.2, .slice At nt ct] from by have h := ((((Hp.out.row.set 3 (.int .u64 (l'.E : Int))).set 4 (.slice (A4 0) (n4 0) (c4 0))).set 5 (.slice (A4 1) (n4 1) (c4 1))).set 6 (.slice (A4 2) (n4 2) (c4 2))); simpa using h)
   clear z0 z1 z2 z3 z4 z5 z6 z7 z8 z9 z10 z11 z12 zl
   clear f3 f4 f5 f6 hS0
   generalize ((((wp.setCell ⟨gh, 3, none⟩ (.int .u64 (l'.E : Int))).setCell ⟨gh, 4, none⟩ (.slice (A4 0) (n4 0) (c4 0))).setCell ⟨gh, 5, none⟩ (.slice (A4 1) (n4 1) (c4 1))).setCell ⟨gh, 6, none⟩ (.slice (A4 2) (n4 2) (c4 2))) = wq at *
   refine hK6.out _ _ (fun h => absurd rfl h) ?_
   clear hK6 K6
   (try simp only [Act.put, Na, Nb, Nc, Nd, Nx, Nf])
   refine wpAnyT_done (by kernel_rfl) ?_ _
   have HFR := off_from HNW.out.row.lt HNW.out.own HNW.out.lo
   go_wp2_with fail
   go_end0
   refine .inl ⟨_, _, HRR.out, rfl, ⟨_, _, _, _, _, _, _, _, _, _, _, _, Hp.out.past (r' := (⟨Y, r.e, r.S, l'⟩ : Rec)) HPS.out HN.out ⟨Hp.out.all.sl, Hp.out.all.l0, Hp.out.all.h0, Hp.out.all.S, Hp.out.all.ls, Hp.out.all.hs, fun k hk => ((LimOwn.rdF HOWp.out k hk).1).up (fun j hj _ => HFR j hj), fun k hk => HOWp.out.len k hk, fun k hk => (LimOwn.rdF HOWp.out k hk).2⟩⟩, PastH.of_past ((HPW.out.trans (Past.of_below HNW.out.row.lt HXp.out)).trans HPS.out)⟩
end Go.Proofs.YtkicidopjihjmaaGreat
set_option linter.unusedSimpArgs false
set_option linter.unusedVariables false
namespace Go.Proofs.YtkicidopjihjmaaGreat
open Go Go.RowKit
attribute [local go_sem] via_cell via_frozen
theorem row4 {w : World} {g : Nat} {t : TypeId} {v0 v1 v2 v3 : Value} (h : RowAt w g t #[v0, v1, v2, v3]) : w.cell? ⟨g, 0, none⟩ = some v0 ∧ w.cell? ⟨g, 1, none⟩ = some v1 ∧ w.cell? ⟨g, 2, none⟩ = some v2 ∧ w.cell? ⟨g, 3, none⟩ = some v3 :=
 ⟨by have := h.cell 0; simpa using this, by have := h.cell 1; simpa using this, by have := h.cell 2; simpa using this, by have := h.cell 3; simpa using this⟩
set_option maxRecDepth 20000 in
set_option maxHeartbeats 4000000 in
theorem efree_any (base gh : Nat) (A0 As : Option Addr) (n0 c0 ns cs : Nat) (A : Nat → Option Addr) (n c : Nat → Nat) (o : EOp) (At : Option Addr) (nt ct : Nat) (r : Rec) (told : List Ent) (W : World) (h : HandR W base gh A0 As n0 c0 ns cs A n c o At nt ct r told) (hf : FitR r) (ht : (nt : Int) ≤ 1000000) (res : Except Int (Rec × List Ent)) (hres : freeR r told = res) :
  Calls Tryz.prog 81 #[.pointer (some ⟨gh, 0, none⟩)] W (MthRes gh base o At res W) := by
 have H := hide h
 have HF := hide hf
 have HR := hide hres
 have HT := hide ht
 obtain ⟨tk, htk⟩ : ∃ tk, Li.takR r.l = tk := ⟨_, rfl⟩
 have HTK := hide htk
 clear h hf hres ht htk
 go_enter Tryz.func81, Tryz.ntmps81
 obtain ⟨z0, z1, z2, z3, z4, z5, z6, z7, z8, z9, z10, z11, z12⟩ := row13 H.out.row
 have zl := H.out.row.lt
 go_wp2_with fail
 with_reducible refine (Li.Take_any W.heap.size A n c r.l W H.out.all.lim HF.out.E (Nat.le_refl _) (fun k hk => by rw [← H.out.all.ll k hk]; exact HF.out.rw k hk) HF.out.g).mono ?_
 rw [HTK.out]
 rintro e w1 ⟨hb, (⟨l', x, A4, n4, c4, hr4, rfl, hown⟩ | ⟨kk, hr4, rfl⟩)⟩
 case inr =>
  have HRR := hide (show res = Except.error kk from by rw [← HR.out]; unfold freeR; rw [HTK.out, hr4])
  have HKK := hide (show kk ≠ 0 from by have h := HTK.out; rw [hr4] at h; unfold Li.takR at h; split at h; (· unfold Li.doTake at h; split at h; (· injection h with h; omega); (· cases h)); (· injection h with h; omega))
  go_upto_region 1 with (fail)
  have hb2 : Below w1.heap.size w1 ((w1.alloc (.cells #[.int .u64 0, .slice none 0 0, .slice none 0 0, .slice none 0 0] 32)).alloc (.cells #[.int .i64 0, .int .u64 0] 41)) := ((Below.refl _ _).alloc (Nat.le_refl _) _).alloc (by simp) _
  have HB2 := hide (hb.trans (hb2.mono hb.size))
  have H2 := hide (H.out.below HB2.out)
  have hd : (kk == 0) = false := by simpa using HKK.out
  clear hb hb2 hr4
  clear z0 z1 z2 z3 z4 z5 z6 z7 z8 z9 z10 z11 z12 zl
  generalize ((w1.alloc (.cells #[.int .u64 0, .slice none 0 0, .slice none 0 0, .slice none 0 0] 32)).alloc (.cells #[.int .i64 0, .int .u64 0] 41)) = w3 at *
  go_wp2_with fail
  with_reducible refine (eneed_no kk _).mono ?_
  rintro e w4 ⟨rfl, rfl⟩
  exact ⟨rfl, .inr ⟨kk, HRR.out, rfl, ⟨_, H2.out.row, rfl⟩, Past.of_below H.out.row.lt HB2.out⟩⟩
 case inl =>
  have HRT := hide (show freeR r told = (if gvE r.sl [x] = 0 then .ok ((⟨gvA r.sl [x], r.e, r.S, l'⟩ : Rec), told ++ [x]) else .error (gvE r.sl [x])) from by unfold freeR; rw [HTK.out, hr4])
  have HZ := hide (show U64 x.2 from by have h := HTK.out; rw [hr4] at h; unfold Li.takR at h; split at h; (· exact (Li.gen_take HF.out.g h).2); (· cases h))
  go_upto_region 1 with (fail)
  have b2 : Below w1.heap.size w1 (w1.alloc (.cells #[.int .u64 (l'.E : Int), .slice (A4 0) (n4 0) (c4 0), .slice (A4 1) (n4 1) (c4 1), .slice (A4 2) (n4 2) (c4 2)] 32)) := (Below.refl _ _).alloc (Nat.le_refl _) _
  have b3 : Below (w1.alloc (.cells #[.int .u64 (l'.E : Int), .slice (A4 0) (n4 0) (c4 0), .slice (A4 1) (n4 1) (c4 1), .slice (A4 2) (n4 2) (c4 2)] 32)).heap.size (w1.alloc (.cells #[.int .u64 (l'.E : Int), .slice (A4 0) (n4 0) (c4 0), .slice (A4 1) (n4 1) (c4 1), .slice (A4 2) (n4 2) (c4 2)] 32)) ((w1.alloc (.cells #[.int .u64 (l'.E : Int), .slice (A4 0) (n4 0) (c4 0), .slice (A4 1) (n4 1) (c4 1), .slice (A4 2) (n4 2) (c4 2)] 32)).alloc (.cells #[.int .i64 x.1, .int .u64 x.2] 41)) := (Below.refl _ _).alloc (Nat.le_refl _) _
  have hb2 := b2.trans (b3.mono b2.size)
  have R2 := hide ((RowAt.new w1 32 #[.int .u64 (l'.E : Int), .slice (A4 0) (n4 0) (c4 0), .slice (A4 1) (n4 1) (c4 1), .slice (A4 2) (n4 2) (c4 2)]).below b3)
  have R3 := hide (show RowAt ((w1.alloc (.cells #[.int .u64 (l'.E : Int), .slice (A4 0) (n4 0) (c4 0), .slice (A4 1) (n4 1) (c4 1), .slice (A4 2) (n4 2) (c4 2)] 32)).alloc (.cells #[.int .i64 x.1, .int .u64 x.2] 41)) (w1.heap.size + 1) 41 #[.int .i64 x.1, .int .u64 x.2] from by have h := RowAt.new (w1.alloc (.cells #[.int .u64 (l'.E : Int), .slice (A4 0) (n4 0) (c4 0), .slice (A4 1) (n4 1) (c4 1), .slice (A4 2) (n4 2) (c4 2)] 32)) 41 #[.int .i64 x.1, .int .u64 x.2]; simpa using h)
  have HB2 := hide (hb.trans (hb2.mono hb.size))
  have H2 := hide (H.out.below HB2.out)
  have HOW := hide (hown.keepB hb2)
  have HWL := hide hb.size
  clear hb hb2 b2 b3 hr4 hown
  clear z0 z1 z2 z3 z4 z5 z6 z7 z8 z9 z10 z11 z12 zl
  generalize ((w1.alloc (.cells #[.int .u64 (l'.E : Int), .slice (A4 0) (n4 0) (c4 0), .slice (A4 1) (n4 1) (c4 1), .slice (A4 2) (n4 2) (c4 2)] 32)).alloc (.cells #[.int .i64 x.1, .int .u64 x.2] 41)) = w3 at *
  generalize w1.heap.size = g2 at *
  have HP3 := hide (Past.of_below H.out.row.lt HB2.out)
  have HLT := hide H.out.row.lt
  have HT3 := hide (show ∀ q, At = some q → q.block ≠ g2 + 1 from fun q hq => by have := (told_lt H.out.own q hq).2; have := HWL.out; omega)
  go_wp2_with fail
  with_reducible refine (eneed_ok 0 _).mono ?_
  rintro e w4 ⟨rfl, hw⟩
  subst hw
  obtain ⟨E, hE⟩ : ∃ E, gvE r.sl [(x.1, x.2)] = E := ⟨_, rfl⟩
  obtain ⟨Y, hY⟩ : ∃ Y, gvA r.sl [(x.1, x.2)] = Y := ⟨_, rfl⟩
  obtain ⟨k, hk⟩ : ∃ k, Y.length = k := ⟨_, rfl⟩
  have HE := hide hE
  have HY := hide hY
  have HK := hide hk
  clear hE hY hk
  go_upto_region 2 with (fail)
  have HSX := hide (fun (wX : World) (hgX : Below w3.heap.size w3 wX) => show wX.cell? ⟨gh, 0, none⟩ = some (.slice A0 n0 c0) ∧ wX.cell? ⟨g2 + 1, 0, none⟩ = some (.int .i64 x.1) ∧ wX.cell? ⟨g2 + 1, 1, none⟩ = some (.int .u64 x.2) ∧ gh < wX.heap.size ∧ g2 + 1 < wX.heap.size from by
   obtain ⟨z0, z1, z2, z3, z4, z5, z6, z7, z8, z9, z10, z11, z12⟩ := row13 H2.out.row
   exact ⟨kept hgX z0, kept hgX (row20 R3.out), kept hgX (row21 R3.out), Nat.lt_of_lt_of_le H2.out.row.lt hgX.size, Nat.lt_of_lt_of_le R3.out.lt hgX.size⟩)
  have HGR := hide ((Below.refl w3.heap.size w3).drew)
  have HP0 := hide (Past.refl gh w3)
  refine wp_region_T (fun wX => wX.cell? ⟨gh, 0, none⟩ = some (.slice A0 n0 c0) ∧ wX.cell? ⟨g2 + 1, 0, none⟩ = some (.int .i64 x.1) ∧ wX.cell? ⟨g2 + 1, 1, none⟩ = some (.int .u64 x.2) ∧ gh < wX.heap.size ∧ g2 + 1 < wX.heap.size) 15 (by kernel_rfl) (HSX.out _ HGR.out) (fun hHeld => ?_)
  clear hHeld
  have hS0 := HSX.out _ HGR.out
  (refine wpAnyT_take (i := 0) (v := ?_) rfl (by kernel_rfl) (by kernel_rfl) (by kernel_rfl) (by kernel_rfl) (fun _ _ _ h => h) (Or.inl ⟨by rfl, ?_⟩) (by assumption) ?_; rotate_left; (focus (intro w hSw; (try dsimp only at hSw); obtain ⟨a, b, c, d, e⟩ := hSw; go_simp; first | done | with_reducible rfl)); (try simp only [Act.put, Na, Nb, Nc, Nd, Nx, Nf]))
  (refine wpAnyT_take (i := 1) (v := ?_) rfl (by kernel_rfl) (by kernel_rfl) (by kernel_rfl) (by kernel_rfl) (fun _ _ _ h => h) (Or.inl ⟨by rfl, ?_⟩) (by assumption) ?_; rotate_left; (focus (intro w hSw; (try dsimp only at hSw); obtain ⟨a, b, c, d, e⟩ := hSw; go_simp; first | done | with_reducible rfl)); (try simp only [Act.put, Na, Nb, Nc, Nd, Nx, Nf]))
  (refine wpAnyT_take (i := 2) (v := ?_) rfl (by kernel_rfl) (by kernel_rfl) (by kernel_rfl) (by kernel_rfl) (fun _ _ _ h => h) (Or.inl ⟨by rfl, ?_⟩) (by assumption) ?_; rotate_left; (focus (intro w hSw; (try dsimp only at hSw); obtain ⟨a, b, c, d, e⟩ := hSw; go_simp; first | done | with_reducible rfl)); (try simp only [Act.put, Na, Nb, Nc, Nd, Nx, Nf]))
  (refine wpAnyT_take (i := 3) (v := ?_) rfl (by kernel_rfl) (by kernel_rfl) (by kernel_rfl) (by kernel_rfl) (fun _ _ _ h => h) (Or.inl ⟨by rfl, ?_⟩) (by assumption) ?_; rotate_left; (focus (intro w hSw; (try dsimp only at hSw); obtain ⟨a, b, c, d, e⟩ := hSw; go_simp; first | done | with_reducible rfl)); (try simp only [Act.put, Na, Nb, Nc, Nd, Nx, Nf]))
  (refine wpAnyT_take (i := 4) (v := ?_) rfl (by kernel_rfl) (by kernel_rfl) (by kernel_rfl) (by kernel_rfl) (fun _ _ _ h => h) (Or.inl ⟨by rfl, ?_⟩) (by assumption) ?_; rotate_left; (focus (intro w hSw; (try dsimp only at hSw); obtain ⟨a, b, c, d, e⟩ := hSw; go_simp; first | done | with_reducible rfl)); (try simp only [Act.put, Na, Nb, Nc, Nd, Nx, Nf]))
  (refine wpAnyT_take (i := 5) (v := ?_) rfl (by kernel_rfl) (by kernel_rfl) (by kernel_rfl) (by kernel_rfl) (fun _ _ _ h => h) (Or.inl ⟨by rfl, ?_⟩) (by assumption) ?_; rotate_left; (focus (intro w hSw; (try dsimp only at hSw); obtain ⟨a, b, c, d, e⟩ := hSw; go_simp; first | done | with_reducible rfl)); (try simp only [Act.put, Na, Nb, Nc, Nd, Nx, Nf]))
  (refine wpAnyT_take (i := 6) (v := ?_) rfl (by kernel_rfl) (by kernel_rfl) (by kernel_rfl) (by kernel_rfl) (fun _ _ _ h => h) (Or.inl ⟨by rfl, ?_⟩) (by assumption) ?_; rotate_left; (focus (intro w hSw; (try dsimp only at hSw); obtain ⟨a, b, c, d, e⟩ := hSw; go_simp; first | done | with_reducible rfl)); (try simp only [Act.put, Na, Nb, Nc, Nd, Nx, Nf]))
  refine wpAnyT_one (i := 7) rfl (by kernel_rfl) (fun K0 hK0 => ?_)
  go_simp
  have HAL := hide (((Below.refl w3.heap.size w3).alloc (Nat.le_refl _) (.cells #[.int .i64 x.1, .int .u64 x.2] 41)).drew)
  have HSRC := hide (show Rd (w3.alloc (.cells #[.int .i64 x.1, .int .u64 x.2] 41)).drew (w3.alloc (.cells #[.int .i64 x.1, .int .u64 x.2] 41)).drew.heap.size 2 (some ⟨w3.heap.size, 0, none⟩) 1 (Cs encE [(x.1, x.2)]) from ((Rd.new w3 #[.int .i64 x.1, .int .u64 x.2] 41 2 1 rfl).below (Below.refl (w3.heap.size + 1) _).drew).more (Nat.le_of_eq (World.size_alloc w3 (.cells #[.int .i64 x.1, .int .u64 x.2] 41)).symm))
  clear hS0
  have hS0 := HSX.out _ HAL.out
  refine hK0.out _ _ (fun _ => hS0) ?_
  clear hK0 K0
  (try simp only [Act.put, Na, Nb, Nc, Nd, Nx, Nf])
  generalize (w3.alloc (.cells #[.int .i64 x.1, .int .u64 x.2] 41)).drew = wb at *
  skip
  refine wpAnyT_one (i := 8) rfl (by kernel_rfl) (fun K1 hK1 => ?_)
  go_simp
  have HB4 := hide (H2.out.below HAL.out)
  with_reducible refine (GiveK A0 c0 n0 (some ⟨w3.heap.size, 0, none⟩) 1 1 r.sl [(x.1, x.2)] wb HB4.out.all.sl.rd HB4.out.all.l0 (by rw [← HB4.out.all.l0]; exact HF.out.sl) HSRC.out rfl (by omega) (by intro x hx; rw [List.mem_singleton] at hx; subst hx; exact HZ.out) E Y k HE.out HY.out HK.out).mono ?_
  rintro e w5 ⟨A1, c1, rfl, hkc, hao, hb⟩
  have HAO := hide (ArOut.rdF hao)
  have HKC := hide hkc
  have HX5 := hide (HAL.out.trans (hb.mono HAL.out.size))
  clear hS0 hb hkc hao
  have hS0 := HSX.out _ HX5.out
  refine hK1.out _ _ (fun _ => hS0) ?_
  clear hK1 K1
  (try simp only [Act.put, Na, Nb, Nc, Nd, Nx, Nf])
  (refine wpAnyT_take (i := 9) (v := ?_) rfl (by kernel_rfl) (by kernel_rfl) (by kernel_rfl) (by kernel_rfl) (fun _ _ _ h => h) (Or.inl ⟨by rfl, ?_⟩) (by assumption) ?_; rotate_left; (focus (intro w hSw; (try dsimp only at hSw); obtain ⟨a, b, c, d, e⟩ := hSw; go_simp; first | done | with_reducible rfl)); (try simp only [Act.put, Na, Nb, Nc, Nd, Nx, Nf]))
  (refine wpAnyT_take (i := 10) (v := ?_) rfl (by kernel_rfl) (by kernel_rfl) (by kernel_rfl) (by kernel_rfl) (fun _ _ _ h => h) (Or.inl ⟨by rfl, ?_⟩) (by assumption) ?_; rotate_left; (focus (intro w hSw; (try dsimp only at hSw); obtain ⟨a, b, c, d, e⟩ := hSw; go_simp; first | done | with_reducible rfl)); (try simp only [Act.put, Na, Nb, Nc, Nd, Nx, Nf]))
  by_cases hE0 : E = 0
  case neg =>
   refine wpAnyT_one (i := 11) rfl (by kernel_rfl) (fun K2 hK2 => ?_)
   go_simp
   with_reducible refine (sureA_no A1 k c1 E hE0 w5).mono ?_
   rintro e w6 ⟨rfl, hb⟩
   have HX6 := hide (HX5.out.trans (hb.mono HX5.out.size))
   have HRR := hide (show res = Except.error E from by rw [← HR.out]; rw [HRT.out, if_neg (by rw [show gvE r.sl [x] = E from HE.out]; exact hE0), show gvE r.sl [x] = E from HE.out])
   have HP := hide (HP3.out.trans (Past.of_below H2.out.row.lt HX6.out))
   exact ⟨rfl, .inr ⟨E, HRR.out, rfl, ⟨_, (H2.out.below HX6.out).row, rfl⟩, HP.out⟩⟩
  case pos =>
   subst hE0
   refine wpAnyT_one (i := 11) rfl (by kernel_rfl) (fun K3 hK3 => ?_)
   go_simp
   with_reducible refine (sureA_ok A1 k c1 w5).mono ?_
   rintro e w6 ⟨rfl, hb⟩
   have HX6 := hide (HX5.out.trans (hb.mono HX5.out.size))
   have HAO6 := hide (HAO.out.below hb)
   clear hS0 hb
   have hS0 := HSX.out _ HX6.out
   refine hK3.out _ _ (fun _ => hS0) ?_
   clear hK3 K3
   (try simp only [Act.put, Na, Nb, Nc, Nd, Nx, Nf])
   refine wpAnyT_one (i := 12) rfl (by kernel_rfl) (fun K4 hK4 => ?_)
   go_simp
   refine hK4.out _ _ (fun _ => hS0) ?_
   clear hK4 K4
   (try simp only [Act.put, Na, Nb, Nc, Nd, Nx, Nf])
   refine wpAnyT_one (i := 13) rfl (by kernel_rfl) (fun K5 hK5 => ?_)
   go_simp
   refine hK5.out _ _ (fun _ => hS0) ?_
   clear hK5 K5
   (try simp only [Act.put, Na, Nb, Nc, Nd, Nx, Nf])
   refine wpAnyT_one (i := 14) rfl (by kernel_rfl) (fun K6 hK6 => ?_)
   go_simp
   refine hK6.out _ _ (fun _ => hS0) ?_
   clear hK6 K6
   (try simp only [Act.put, Na, Nb, Nc, Nd, Nx, Nf])
   refine wpAnyT_one (i := 15) rfl (by kernel_rfl) (fun K7 hK7 => ?_)
   have H6 := hide (H2.out.below HX6.out)
   obtain ⟨z0, z1, z2, z3, z4, z5, z6, z7, z8, z9, z10, z11, z12⟩ := row13 H6.out.row
   have zl := H6.out.row.lt
   have f0 := H6.out.row.frozen 0
   go_simp
   have HPS := hide (show Past gh w6 (w6.setCell ⟨gh, 0, none⟩ (.slice A1 k c1)) from ((Past.refl gh w6).trans (Past.set 0 (.slice A1 k c1))))
   have HN := hide (show RowAt (w6.setCell ⟨gh, 0, none⟩ (.slice A1 k c1)) gh 95 #[.slice A1 k c1, .int .u64 r.e, .slice As ns cs, .int .u64 (r.l.E : Int), .slice (A 0) (n 0) (c 0), .slice (A 1) (n 1) (c 1), .slice (A 2) (n 2) (c 2), .int .i64 o.k, .int .i64 o.g, .int .u64 o.b, .int .i64 o.x.1, .int .u64 o.x.2, .slice At nt ct] from by have h := (H6.out.row.set 0 (.slice A1 k c1)); simpa using h)
   clear z0 z1 z2 z3 z4 z5 z6 z7 z8 z9 z10 z11 z12 zl
   clear f0 hS0
   generalize (w6.setCell ⟨gh, 0, none⟩ (.slice A1 k c1)) = wn at *
   refine hK7.out _ _ (fun h => absurd rfl h) ?_
   clear hK7 K7
   (try simp only [Act.put, Na, Nb, Nc, Nd, Nx, Nf])
   refine wpAnyT_done (by kernel_rfl) ?_ _
   have HFR := off_from (Nat.lt_of_lt_of_le H2.out.row.lt HAL.out.size) (own_keepB H2.out.own HAL.out) H2.out.lo
   have HNW := hide (H6.out.past (r' := (⟨Y, r.e, r.S, r.l⟩ : Rec)) HPS.out HN.out ⟨HAO6.out.up (fun j hj _ => HFR j hj), HK.out, HKC.out, H6.out.all.S, H6.out.all.ls, H6.out.all.hs, H6.out.all.rw, H6.out.all.ll, H6.out.all.hl⟩)
   have HPW := hide ((HP0.out.trans (Past.of_below H2.out.row.lt HX6.out)).trans HPS.out)
   clear HFR HN HPS HX6 HX5 HAL HSRC HAO HAO6 HB4 H6
   have HRR := hide (show res = Except.ok ((⟨Y, r.e, r.S, l'⟩ : Rec), told ++ [x]) from by rw [← HR.out, HRT.out, if_pos (show gvE r.sl [x] = 0 from HE.out), show gvA r.sl [x] = Y from HY.out])
   have R2n := hide (R2.out.past HPW.out (fun e => by have h := R2.out; rw [e] at h; exact absurd (row_typ h H2.out.row) (by decide)))
   have R3n := hide (R3.out.past HPW.out (fun e => by have h := R3.out; rw [e] at h; exact absurd (row_typ h H2.out.row) (by decide)))
   have HOWn := hide (HOW.out.other (fun g hg hl => HPW.out.block g (by have := HLT.out; have := HWL.out; omega) hl))
   clear HSX HGR HOW
   obtain ⟨l0, l1, l2, l3⟩ := row4 R2n.out
   have ll := R2n.out.lt
   obtain ⟨z0, z1, z2, z3, z4, z5, z6, z7, z8, z9, z10, z11, z12⟩ := row13 HNW.out.row
   have zl := HNW.out.row.lt
   have f3 := HNW.out.row.frozen 3
   have f4 := HNW.out.row.frozen 4
   have f5 := HNW.out.row.frozen 5
   have f6 := HNW.out.row.frozen 6
   go_upto_region 4 with (fail)
   have HPS := hide (show Past gh wn ((((wn.setCell ⟨gh, 3, none⟩ (.int .u64 (l'.E : Int))).setCell ⟨gh, 4, none⟩ (.slice (A4 0) (n4 0) (c4 0))).setCell ⟨gh, 5, none⟩ (.slice (A4 1) (n4 1) (c4 1))).setCell ⟨gh, 6, none⟩ (.slice (A4 2) (n4 2) (c4 2))) from (((((Past.refl gh wn).trans (Past.set 3 (.int .u64 (l'.E : Int)))).trans (Past.set 4 (.slice (A4 0) (n4 0) (c4 0)))).trans (Past.set 5 (.slice (A4 1) (n4 1) (c4 1)))).trans (Past.set 6 (.slice (A4 2) (n4 2) (c4 2)))))
   have HN := hide (show RowAt ((((wn.setCell ⟨gh, 3, none⟩ (.int .u64 (l'.E : Int))).setCell ⟨gh, 4, none⟩ (.slice (A4 0) (n4 0) (c4 0))).setCell ⟨gh, 5, none⟩ (.slice (A4 1) (n4 1) (c4 1))).setCell ⟨gh, 6, none⟩ (.slice (A4 2) (n4 2) (c4 2))) gh 95 #[.slice A1 k c1, .int .u64 r.e, .slice As ns cs, .int .u64 (l'.E : Int), .slice (A4 0) (n4 0) (c4 0), .slice (A4 1) (n4 1) (c4 1), .slice (A4 2) (n4 2) (c4 2), .int .i64 o.k, .int .i64 o.g, .int .u64 o.b, .int .i64 o.x.1, .int .u64 o.x.2, .slice At nt ct] from by have h := ((((HNW.out.row.set 3 (.int .u64 (l'.E : Int))).set 4 (.slice (A4 0) (n4 0) (c4 0))).set 5 (.slice (A4 1) (n4 1) (c4 1))).set 6 (.slice (A4 2) (n4 2) (c4 2))); simpa using h)
   clear z0 z1 z2 z3 z4 z5 z6 z7 z8 z9 z10 z11 z12 zl
   clear f3 f4 f5 f6 l0 l1 l2 l3 ll
   generalize ((((wn.setCell ⟨gh, 3, none⟩ (.int .u64 (l'.E : Int))).setCell ⟨gh, 4, none⟩ (.slice (A4 0) (n4 0) (c4 0))).setCell ⟨gh, 5, none⟩ (.slice (A4 1) (n4 1) (c4 1))).setCell ⟨gh, 6, none⟩ (.slice (A4 2) (n4 2) (c4 2))) = wq at *
   have HFR := off_from HLT.out H.out.own H.out.lo
   have HQ := hide (HNW.out.past (r' := (⟨Y, r.e, r.S, l'⟩ : Rec)) HPS.out HN.out ⟨HNW.out.all.sl, HNW.out.all.l0, HNW.out.all.h0, HNW.out.all.S, HNW.out.all.ls, HNW.out.all.hs, fun k hk => ((LimOwn.rdF HOWn.out k hk).1).up (fun j hj _ => HFR j hj), fun k hk => HOWn.out.len k hk, fun k hk => (LimOwn.rdF HOWn.out k hk).2⟩)
   have R3q := hide (R3n.out.past HPS.out (fun e => by have h := R3n.out; rw [e] at h; exact absurd (row_typ h HNW.out.row) (by decide)))
   have HPQ := hide ((HP3.out.trans HPW.out).trans HPS.out)
   clear HFR HN HPS HOWn R2n R3n
   have HBW := hide (show base ≤ wq.heap.size from by have := HQ.out.lo; have := HQ.out.row.lt; omega)
   have HSX := hide (fun (wX : World) (hgX : Below wq.heap.size wq wX) => show wX.cell? ⟨gh, 12, none⟩ = some (.slice At nt ct) ∧ wX.cell? ⟨g2 + 1, 0, none⟩ = some (.int .i64 x.1) ∧ wX.cell? ⟨g2 + 1, 1, none⟩ = some (.int .u64 x.2) ∧ gh < wX.heap.size ∧ g2 + 1 < wX.heap.size from by
    obtain ⟨z0, z1, z2, z3, z4, z5, z6, z7, z8, z9, z10, z11, z12⟩ := row13 HQ.out.row
    exact ⟨kept hgX z12, kept hgX (row20 R3q.out), kept hgX (row21 R3q.out), Nat.lt_of_lt_of_le HQ.out.row.lt hgX.size, Nat.lt_of_lt_of_le R3q.out.lt hgX.size⟩)
   have HGR := hide ((Below.refl wq.heap.size wq).drew)
   refine wp_region_T (fun wX => wX.cell? ⟨gh, 12, none⟩ = some (.slice At nt ct) ∧ wX.cell? ⟨g2 + 1, 0, none⟩ = some (.int .i64 x.1) ∧ wX.cell? ⟨g2 + 1, 1, none⟩ = some (.int .u64 x.2) ∧ gh < wX.heap.size ∧ g2 + 1 < wX.heap.size) 10 (by kernel_rfl) (HSX.out _ HGR.out) (fun hHeld => ?_)
   clear hHeld
   have hS0 := HSX.out _ HGR.out
   (refine wpAnyT_take (i := 0) (v := ?_) rfl (by kernel_rfl) (by kernel_rfl) (by kernel_rfl) (by kernel_rfl) (fun _ _ _ h => h) (Or.inl ⟨by rfl, ?_⟩) (by assumption) ?_; rotate_left; (focus (intro w hSw; (try dsimp only at hSw); obtain ⟨a, b, c, d, e⟩ := hSw; go_simp; first | done | with_reducible rfl)); (try simp only [Act.put, Na, Nb, Nc, Nd, Nx, Nf]))
   (refine wpAnyT_take (i := 1) (v := ?_) rfl (by kernel_rfl) (by kernel_rfl) (by kernel_rfl) (by kernel_rfl) (fun _ _ _ h => h) (Or.inl ⟨by rfl, ?_⟩) (by assumption) ?_; rotate_left; (focus (intro w hSw; (try dsimp only at hSw); obtain ⟨a, b, c, d, e⟩ := hSw; go_simp; first | done | with_reducible rfl)); (try simp only [Act.put, Na, Nb, Nc, Nd, Nx, Nf]))
   (refine wpAnyT_take (i := 2) (v := ?_) rfl (by kernel_rfl) (by kernel_rfl) (by kernel_rfl) (by kernel_rfl) (fun _ _ _ h => h) (Or.inl ⟨by rfl, ?_⟩) (by assumption) ?_; rotate_left; (focus (intro w hSw; (try dsimp only at hSw); obtain ⟨a, b, c, d, e⟩ := hSw; go_simp; first | done | with_reducible rfl)); (try simp only [Act.put, Na, Nb, Nc, Nd, Nx, Nf]))
   (refine wpAnyT_take (i := 3) (v := ?_) rfl (by kernel_rfl) (by kernel_rfl) (by kernel_rfl) (by kernel_rfl) (fun _ _ _ h => h) (Or.inl ⟨by rfl, ?_⟩) (by assumption) ?_; rotate_left; (focus (intro w hSw; (try dsimp only at hSw); obtain ⟨a, b, c, d, e⟩ := hSw; go_simp; first | done | with_reducible rfl)); (try simp only [Act.put, Na, Nb, Nc, Nd, Nx, Nf]))
   (refine wpAnyT_take (i := 4) (v := ?_) rfl (by kernel_rfl) (by kernel_rfl) (by kernel_rfl) (by kernel_rfl) (fun _ _ _ h => h) (Or.inl ⟨by rfl, ?_⟩) (by assumption) ?_; rotate_left; (focus (intro w hSw; (try dsimp only at hSw); obtain ⟨a, b, c, d, e⟩ := hSw; go_simp; first | done | with_reducible rfl)); (try simp only [Act.put, Na, Nb, Nc, Nd, Nx, Nf]))
   (refine wpAnyT_take (i := 5) (v := ?_) rfl (by kernel_rfl) (by kernel_rfl) (by kernel_rfl) (by kernel_rfl) (fun _ _ _ h => h) (Or.inl ⟨by rfl, ?_⟩) (by assumption) ?_; rotate_left; (focus (intro w hSw; (try dsimp only at hSw); obtain ⟨a, b, c, d, e⟩ := hSw; go_simp; first | done | with_reducible rfl)); (try simp only [Act.put, Na, Nb, Nc, Nd, Nx, Nf]))
   refine wpAnyT_one (i := 6) rfl (by kernel_rfl) (fun K0 hK0 => ?_)
   go_simp
   have HAL := hide (((Below.refl wq.heap.size wq).alloc (Nat.le_refl _) (.cells #[.int .i64 x.1, .int .u64 x.2] 41)).drew)
   have HSRC := hide (show Rd (wq.alloc (.cells #[.int .i64 x.1, .int .u64 x.2] 41)).drew (wq.alloc (.cells #[.int .i64 x.1, .int .u64 x.2] 41)).drew.heap.size 2 (some ⟨wq.heap.size, 0, none⟩) 1 (Cs encE [x]) from ((Rd.new wq #[.int .i64 x.1, .int .u64 x.2] 41 2 1 rfl).below (Below.refl (wq.heap.size + 1) _).drew).more (Nat.le_of_eq (World.size_alloc wq (.cells #[.int .i64 x.1, .int .u64 x.2] 41)).symm))
   clear hS0
   have hS0 := HSX.out _ HAL.out
   have HQb := hide (HQ.out.below HAL.out)
   have R3b := hide (R3q.out.below HAL.out)
   refine hK0.out _ _ (fun _ => hS0) ?_
   clear hK0 K0
   (try simp only [Act.put, Na, Nb, Nc, Nd, Nx, Nf])
   generalize (wq.alloc (.cells #[.int .i64 x.1, .int .u64 x.2] 41)).drew = wb at *
   refine wpAnyT_one (i := 7) rfl (by kernel_rfl) (fun K1 hK1 => ?_)
   rw [if_pos (by rfl)]
   refine wp_app (m := 1) (n := nt) (v := .slice At nt ct) elE _ _ rfl rfl HQb.out.own rfl HSRC.out (Cs_one_cell encE_one _) (by have := HT.out; omega) (Nat.le_trans HBW.out HAL.out.size) ?_
   intro v6 w6 hown6 hb6 hg6 hv6
   obtain ⟨A7, c7, rfl, hc7, hcm7⟩ := own_form2 hown6
   have HR6 := hide (HandR.kept HQb.out hg6)
   have R36 := hide (R3b.out.heap (hg6.block _ R3b.out.lt (fun e => by rw [own_block] at e; cases At with | none => cases e | some q => (injection e with e; exact HT3.out q rfl e.symm))))
   have HO6 := hide hown6
   have HG6 := hide hg6
   have HV6 := hide hv6
   clear hown6 hb6 hg6 hv6 hS0
   obtain ⟨z0, z1, z2, z3, z4, z5, z6, z7, z8, z9, z10, z11, z12⟩ := row13 HR6.out
   have hS0 : w6.cell? ⟨gh, 12, none⟩ = some (.slice At nt ct) ∧ w6.cell? ⟨g2 + 1, 0, none⟩ = some (.int .i64 x.1) ∧ w6.cell? ⟨g2 + 1, 1, none⟩ = some (.int .u64 x.2) ∧ gh < w6.heap.size ∧ g2 + 1 < w6.heap.size := ⟨z12, row20 R36.out, row21 R36.out, HR6.out.lt, R36.out.lt⟩
   clear z0 z1 z2 z3 z4 z5 z6 z7 z8 z9 z10 z11 z12
   refine hK1.out _ _ (fun _ => hS0) ?_
   clear hK1 K1
   (try simp only [Act.put, Na, Nb, Nc, Nd, Nx, Nf])
   refine wpAnyT_one (i := 8) rfl (by kernel_rfl) (fun K2 hK2 => ?_)
   go_simp
   refine hK2.out _ _ (fun _ => hS0) ?_
   clear hK2 K2
   (try simp only [Act.put, Na, Nb, Nc, Nd, Nx, Nf])
   refine wpAnyT_one (i := 9) rfl (by kernel_rfl) (fun K3 hK3 => ?_)
   go_simp
   refine hK3.out _ _ (fun _ => hS0) ?_
   clear hK3 K3
   (try simp only [Act.put, Na, Nb, Nc, Nd, Nx, Nf])
   refine wpAnyT_one (i := 10) rfl (by kernel_rfl) (fun K4 hK4 => ?_)
   obtain ⟨z0, z1, z2, z3, z4, z5, z6, z7, z8, z9, z10, z11, z12⟩ := row13 HR6.out
   have zl := HR6.out.lt
   have f12 := HR6.out.frozen 12
   clear hS0
   go_simp
   have HPS := hide (show Past gh w6 (w6.setCell ⟨gh, 12, none⟩ (.slice A7 (nt + 1) c7)) from ((Past.refl gh w6).trans (Past.set 12 (.slice A7 (nt + 1) c7))))
   have HN := hide (show RowAt (w6.setCell ⟨gh, 12, none⟩ (.slice A7 (nt + 1) c7)) gh 95 #[.slice A1 k c1, .int .u64 r.e, .slice As ns cs, .int .u64 (l'.E : Int), .slice (A4 0) (n4 0) (c4 0), .slice (A4 1) (n4 1) (c4 1), .slice (A4 2) (n4 2) (c4 2), .int .i64 o.k, .int .i64 o.g, .int .u64 o.b, .int .i64 o.x.1, .int .u64 o.x.2, .slice A7 (nt + 1) c7] from by have h := (HR6.out.set 12 (.slice A7 (nt + 1) c7)); simpa using h)
   clear z0 z1 z2 z3 z4 z5 z6 z7 z8 z9 z10 z11 z12 zl
   clear f12
   generalize (w6.setCell ⟨gh, 12, none⟩ (.slice A7 (nt + 1) c7)) = w7 at *
   refine hK4.out _ _ (fun h => absurd rfl h) ?_
   clear hK4 K4
   (try simp only [Act.put, Na, Nb, Nc, Nd, Nx, Nf])
   refine wpAnyT_done (by kernel_rfl) ?_ _
   go_wp2_with fail
   go_end0
   have H7 := HQb.out.tell HG6.out (told' := told ++ [x]) (by rw [Cs_append]; exact HO6.out) (by rw [List.length_append, HQb.out.len]; rfl) HV6.out HPS.out HN.out
   exact .inl ⟨_, _, HRR.out, rfl, ⟨_, _, _, _, _, _, _, _, _, _, _, _, H7⟩, (((PastH.of_past HPQ.out).trans (PastH.of_below HAL.out)).trans (PastH.grown HG6.out)).trans (PastH.of_past HPS.out)⟩
end Go.Proofs.YtkicidopjihjmaaGreat
set_option linter.unusedSimpArgs false
set_option linter.unusedVariables false
namespace Go.Proofs.YtkicidopjihjmaaGreat
open Go Go.RowKit
attribute [local go_sem] via_cell via_frozen
@[local go_sem] theorem wpmfE (fn : Fn) (first cap : Array Value) (w : World) : (Instr.makeFunc fn first cap).run Tryz.prog w = .ok (.func fn first cap) w := rfl
@[local go_sem] theorem assert_errnoE (k : Int) (W : World) : (Instr.typeAssert (.iface 44 (.int .i64 k)) 20 44 true).run Tryz.prog W = .ok (.tuple #[.int .i64 k, .bool true]) W := by
 simp [Instr.typeAssert]
theorem ecatch_idle (p q s : Addr) (w : World) :
  CallsD Tryz.prog 75 #[.pointer (some p), .pointer (some q), .pointer (some s)] .returning w fun e u' w' => e = .returned (.tuple #[]) ∧ u' = .returning ∧ w' = w := by
 refine callsD_of_wpS Tryz.func75 rfl fun c₀ cs hu => ?_
 apply wpS_seq
 apply wpS_region
 simp [wpOpsS, go_sem, recoverD, hu, Tryz.ntmps75, Exit.thenS]
 refine wpS_of_wp ?_
 simp only [List.size_toArray, List.length_cons, List.length_nil, Nat.reduceAdd, Nat.reduceSub, Array.replicate_succ, Array.replicate_zero, List.push_toArray, List.append_toArray, List.nil_append, List.cons_append, List.setIfInBounds_toArray, List.set_cons_succ, List.set_cons_zero]
 go_wp2
 cases c₀
 simp_all [bodyPostS, results, Tryz.results75]
structure CaughtE (gh ge : Nat) (k : Int) (C : Array Value) (w w' : World) : Prop where
 hand : RowAt w' gh 95 C
 err : RowAt w' ge 44 #[.int .i64 k]
 os : w'.os = w.os
 tape : w'.tape = w.tape
 output : w'.output = w.output
 size : w.heap.size ≤ w'.heap.size
 block : ∀ j, j ≠ gh → j ≠ ge → j < w.heap.size → w'.heap[j]? = w.heap[j]?
set_option maxRecDepth 100000 in
set_option maxHeartbeats 4000000 in
theorem ecatch_err (gw gb ge gh : Nat) (k : Int) (v0 v1 v2 v3 v4 v5 v6 v7 v8 v9 v10 v11 v12 : Value) (h1 : (#[v0, v1, v2, v3, v4, v5, v6, v7, v8, v9, v10, v11, v12] : Array Value).all (·.oneCell') = true) (cs : Array Value) (w : World) (hw : RowAt w gw 95 #[v0, v1, v2, v3, v4, v5, v6, v7, v8, v9, v10, v11, v12]) (hb : RowAt w gb 91 #[.pointer (some ⟨gh, 0, none⟩)]) (he : RowAt w ge 44 #[.int .i64 0]) (hh : RowAt w gh 95 cs) (hsz : cs.size = 13) (hne : gh ≠ ge) :
  CallsD Tryz.prog 75 #[.pointer (some ⟨gw, 0, none⟩), .pointer (some ⟨gb, 0, none⟩), .pointer (some ⟨ge, 0, none⟩)] (.panicking (errX k)) w fun e u' w' =>
   e = .returned (.tuple #[]) ∧ u' = .panicking [{ v := .iface 44 (.int .i64 k), recovered := true }] ∧ CaughtE gh ge k #[v0, v1, v2, v3, v4, v5, v6, v7, v8, v9, v10, v11, v12] w w' := by
 obtain ⟨z0, z1, z2, z3, z4, z5, z6, z7, z8, z9, z10, z11, z12⟩ := row13 hw
 have zl := hw.lt
 have b0 := row1 hb
 have bl := hb.lt
 have e0 := row1 he
 have el := he.lt
 have ef := he.frozen 0
 have HH := hide hh
 have HE := hide he
 have HSZ := hide hsz
 have H1 := hide h1
 have HNE := hide hne
 clear hw hb he hh hsz h1
 refine callsD_of_wpS Tryz.func75 rfl fun c₀ cs hu => ?_
 apply wpS_seq
 apply wpS_region
 simp [wpOpsS, go_sem, recoverD, hu, Tryz.ntmps75, Exit.thenS, errX]
 refine wpS_of_wp ?_
 simp only [List.size_toArray, List.length_cons, List.length_nil, Nat.reduceAdd, Nat.reduceSub, Array.replicate_succ, Array.replicate_zero, List.push_toArray, List.append_toArray, List.nil_append, List.cons_append, List.setIfInBounds_toArray, List.set_cons_succ, List.set_cons_zero]
 go_wp2_with (refine wpList_store_rowAt rfl 95 _ _ rfl gh 95 _ #[v0, v1, v2, v3, v4, v5, v6, v7, v8, v9, v10, v11, v12] rfl rfl HH.out (by rw [HSZ.out]; rfl) (by kernel_rfl) H1.out ?_; intro w1 hr1 hp1; have HR1 := hide hr1; have HP1 := hide hp1; have he1 := HE.out.past hp1 (Ne.symm HNE.out); have HE1 := hide he1; have y0 := row1 he1; have yf := he1.frozen 0; have yl := he1.lt; clear hr1 hp1 he1)
 have HC : Hid (CaughtE gh ge k #[v0, v1, v2, v3, v4, v5, v6, v7, v8, v9, v10, v11, v12] w (w1.setCell ⟨ge, 0, none⟩ (.int .i64 k))) := hide ⟨HR1.out.setNe HNE.out, by have h := HE1.out.set 0 (.int .i64 k); simpa using h, HP1.out.below.os, HP1.out.below.tape, HP1.out.below.output, by have := HP1.out.size; simpa using this, fun j h1 h2 hl => (heap_setCell_ne _ _ _ _ h2).trans (HP1.out.block j h1 hl)⟩
 simp [bodyPostS, results, Tryz.results75]
 exact HC.out
abbrev kindsE (gh : Nat) : Array MapEntry := #[⟨.int .i64 1, .func (.func 76) #[.pointer (some ⟨gh, 0, none⟩)] #[], 0⟩, ⟨.int .i64 2, .func (.func 77) #[.pointer (some ⟨gh, 0, none⟩)] #[], 1⟩, ⟨.int .i64 3, .func (.func 78) #[.pointer (some ⟨gh, 0, none⟩)] #[], 2⟩, ⟨.int .i64 4, .func (.func 79) #[.pointer (some ⟨gh, 0, none⟩)] #[], 3⟩, ⟨.int .i64 5, .func (.func 80) #[.pointer (some ⟨gh, 0, none⟩)] #[], 4⟩, ⟨.int .i64 6, .func (.func 81) #[.pointer (some ⟨gh, 0, none⟩)] #[], 5⟩, ⟨.int .i64 7, .func (.func 82) #[.pointer (some ⟨gh, 0, none⟩)] #[], 6⟩]
theorem run_ins (w : World) (es : Array MapEntry) (c : Nat) (k : Int) (v : Value) (h : Instr.findNow (.int .i64) (.int .i64 k) es.toList 0 = some none) :
  (Instr.mapUpdate 123 (.map (some w.heap.size)) (.int .i64 k) v).run Tryz.prog (w.alloc (.map es c)) = .ok () (w.alloc (.map (es.push ⟨.int .i64 k, v, c⟩) (c + 1))) := by
 have hb : (w.alloc (.map es c)).heap[w.heap.size]? = some (.map es c) := heap_alloc_new w _
 have hs : ({ w.alloc (.map es c) with heap := (w.alloc (.map es c)).heap.setIfInBounds w.heap.size (.map (es.push ⟨.int .i64 k, v, c⟩) (c + 1)) } : World) = w.alloc (.map (es.push ⟨.int .i64 k, v, c⟩) (c + 1)) := by
  have e1 : (w.alloc (.map es c)).heap = w.heap.push (.map es c) := rfl
  rw [e1]
  have e2 : (w.heap.push (Obj.map es c)).setIfInBounds w.heap.size (.map (es.push ⟨.int .i64 k, v, c⟩) (c + 1)) = w.heap.push (.map (es.push ⟨.int .i64 k, v, c⟩) (c + 1)) := by
   apply Array.ext_getElem?
   intro i
   rw [Array.getElem?_setIfInBounds, Array.getElem?_push, Array.getElem?_push]
   by_cases hi : i = w.heap.size
   ·
    subst hi; simp
   ·
    rw [if_neg (fun e => hi e.symm), if_neg hi, if_neg hi]
  rw [e2]
  rfl
 simp [Instr.mapUpdate, run_underlying Tryz.underlying123, MapKept.run_getObj_map hb, MapKept.run_checkKey (k := .int .i64 k) Tryz.underlying3 rfl, MapKept.run_findKey Tryz.underlying3 h, MapKept.run_setObj_map _ hb, Result.andThen]
 exact hs
theorem run_look (w : World) (g : Nat) (es : Array MapEntry) (c : Nat) (k : Int) (v : Value) (i : Nat) (hw : w.heap[g]? = some (.map es c)) (h : Instr.findNow (.int .i64) (.int .i64 k) es.toList 0 = some (some (i, v))) :
  (Instr.lookup 123 (.map (some g)) (.int .i64 k) true).run Tryz.prog w = .ok (.tuple #[v, .bool true]) w := by
 simp [Instr.lookup, run_underlying Tryz.underlying123, MapKept.run_getObj_map hw, MapKept.run_checkKey (k := .int .i64 k) Tryz.underlying3 rfl, MapKept.run_findKey Tryz.underlying3 h, Result.andThen]
theorem run_lookn (w : World) (g : Nat) (es : Array MapEntry) (c : Nat) (k : Int) (hw : w.heap[g]? = some (.map es c)) (h : Instr.findNow (.int .i64) (.int .i64 k) es.toList 0 = some none) :
  (Instr.lookup 123 (.map (some g)) (.int .i64 k) true).run Tryz.prog w = .ok (.tuple #[.nilFunc, .bool false]) w := by
 have hz : (zeroValue 1).run Tryz.prog w = .ok .nilFunc w := by kernel_rfl
 simp [Instr.lookup, run_underlying Tryz.underlying123, MapKept.run_getObj_map hw, MapKept.run_checkKey (k := .int .i64 k) Tryz.underlying3 rfl, MapKept.run_findKey Tryz.underlying3 h, Result.andThen, hz]
end Go.Proofs.YtkicidopjihjmaaGreat
set_option linter.unusedSimpArgs false
set_option linter.unusedVariables false
namespace Go.Proofs.YtkicidopjihjmaaGreat
open Go Go.RowKit
attribute [local go_sem] via_cell via_frozen
theorem row_alloc {w : World} {g : Nat} {t : TypeId} {cs : Array Value} (h : RowAt w g t cs) (x : Obj) : RowAt (w.alloc x) g t cs := h.below ((Below.refl w.heap.size w).alloc (Nat.le_refl _) x)
theorem row5 {w : World} {g : Nat} {t : TypeId} {v0 v1 v2 v3 v4 : Value} (h : RowAt w g t #[v0, v1, v2, v3, v4]) : w.cell? ⟨g, 0, none⟩ = some v0 ∧ w.cell? ⟨g, 1, none⟩ = some v1 ∧ w.cell? ⟨g, 2, none⟩ = some v2 ∧ w.cell? ⟨g, 3, none⟩ = some v3 ∧ w.cell? ⟨g, 4, none⟩ = some v4 := by
 refine ⟨?_, ?_, ?_, ?_, ?_⟩
 ·
  have := h.cell 0; simpa using this
 ·
  have := h.cell 1; simpa using this
 ·
  have := h.cell 2; simpa using this
 ·
  have := h.cell 3; simpa using this
 ·
  have := h.cell 4; simpa using this
def okK (res : Except Int (Rec × List Ent)) : Int := match res with | .ok _ => 0 | .error k => k
def okR (r : Rec) (told : List Ent) (res : Except Int (Rec × List Ent)) : Rec × List Ent := match res with | .ok x => x | .error _ => (r, told)
theorem HandR.box {w : World} {base gh : Nat} {A0 As : Option Addr} {n0 c0 ns cs : Nat} {A : Nat → Option Addr} {n c : Nat → Nat} {o : EOp} {At : Option Addr} {nt ct : Nat} {r : Rec} {told : List Ent} {ge : Nat} {z : Int} (h : HandR w base gh A0 As n0 c0 ns cs A n c o At nt ct r told) (hg : RowAt w ge 44 #[.int .i64 z]) (hne : gh ≠ ge) (hz : ge ≠ 0) (v : Value) : HandR (w.setCell ⟨ge, 0, none⟩ v) base gh A0 As n0 c0 ns cs A n c o At nt ct r told := by
 refine ⟨h.row.setNe hne, ((h.all.apart hg hz).stay (StayF.set (fun hf => hf.2 rfl))).up (fun j hj _ => hj.1), own_kept h.own (fun g hg' hl => heap_setCell_ne _ _ _ _ (fun e => ?_)), h.len, h.lo⟩
 obtain ⟨_, cs', h2⟩ := own_typ h.own hg'
 have e : g = ge := e
 subst e
 exact absurd (row_typ h2 hg) (by decide)
theorem PastH.up {gh ge : Nat} {At : Option Addr} {w w' : World} (h : PastH gh At w w') (hg : w.heap.size ≤ ge) (v : Value) : PastH gh At w (w'.setCell ⟨ge, 0, none⟩ v) :=
 ⟨h.os, h.tape, h.output, by have := h.size; simpa using this, fun j hj hl => (heap_setCell_ne _ _ _ _ (fun e => by have e : j = ge := e; omega)).trans (h.block j hj hl)⟩
theorem PastH.trans2 {gh ge : Nat} {k : Int} {C : Array Value} {At : Option Addr} {w w' w2 : World} (h : PastH gh At w w') (hc : CaughtE gh ge k C w' w2) (hg : w.heap.size ≤ ge) : PastH gh At w w2 :=
 ⟨hc.os.trans h.os, hc.tape.trans h.tape, hc.output.trans h.output, Nat.le_trans h.size hc.size, fun j hj hl => (hc.block j hj.1 (by omega) (Nat.lt_of_lt_of_le hl h.size)).trans (h.block j hj hl)⟩
theorem HandR.caught {w w' : World} {base gh ge : Nat} {A0 As : Option Addr} {n0 c0 ns cs : Nat} {A : Nat → Option Addr} {n c : Nat → Nat} {o0 : EOp} {At : Option Addr} {nt ct : Nat} {r : Rec} {told : List Ent} {k z : Int} (h : RecF (OffB base gh At) w A0 As n0 c0 ns cs A n c r) (ho : w.ownsRow base 41 2 (.slice At nt ct) nt (Cs encE told)) (hl : told.length = nt) (hlo : base ≤ gh) (hat : ∀ q, At = some q → q.block ≠ gh) (hg : RowAt w ge 44 #[.int .i64 z]) (hz : ge ≠ 0) (hc : CaughtE gh ge k (handC r.e r.l.E A0 As n0 c0 ns cs A n c o0 At nt ct) w w') : HandR w' base gh A0 As n0 c0 ns cs A n c o0 At nt ct r told := by
 refine ⟨hc.hand, ((h.apart hg hz).stay ⟨hc.size, fun j hj hl => hc.block j hj.1.2.1 hj.2 hl⟩).up (fun j hj _ => hj.1), own_kept ho (fun g hg' hl => hc.block g (fun e => ?_) (fun e => ?_) hl), hl, hlo⟩
 ·
  rw [own_block] at hg'
  cases At with
  | none => cases hg'
  | some q => injection hg' with hg'; exact hat q rfl (hg'.trans e)
 ·
  obtain ⟨_, cs', h2⟩ := own_typ ho hg'
  subst e
  exact absurd (row_typ h2 hg) (by decide)
def EDoesRes (gh base : Nat) (At : Option Addr) (r : Rec) (told : List Ent) (res : Except Int (Rec × List Ent)) (W : World) (e : Ending) (W' : World) : Prop :=
 e = .returned (.int .i64 (okK res)) ∧ (∃ o3, HandX W' base gh o3 (okR r told res).1 (okR r told res).2) ∧ PastH gh At W W'
set_option maxRecDepth 100000 in
set_option maxHeartbeats 4000000 in
theorem does_way (F i : Nat) (base gh : Nat) (A0 As : Option Addr) (n0 c0 ns cs : Nat) (A : Nat → Option Addr) (n c : Nat → Nat) (o0 o : EOp) (At : Option Addr) (nt ct : Nat) (r : Rec) (told : List Ent) (W : World) (h : HandR W base gh A0 As n0 c0 ns cs A n c o0 At nt ct r told) (res : Except Int (Rec × List Ent))
  (hk : Instr.findNow (.int .i64) (.int .i64 o.k) (kindsE gh).toList 0 = some (some (i, .func (.func F) #[.pointer (some ⟨gh, 0, none⟩)] #[])))
  (hg : ∀ args w, (callFunc F args).run Tryz.prog w = .ok (.enter F args) w)
  (HC : ∀ w, HandR w base gh A0 As n0 c0 ns cs A n c o At nt ct r told → Calls Tryz.prog F #[.pointer (some ⟨gh, 0, none⟩)] w (MthRes gh base o At res w)) :
  Calls Tryz.prog 48 #[.pointer (some ⟨gh, 0, none⟩), .agg #[.int .i64 o.k, .int .i64 o.g, .int .u64 o.b, .int .i64 o.x.1, .int .u64 o.x.2]] W (EDoesRes gh base At r told res W) := by
 have H := hide h
 have HCC := hide HC
 have HKK := hide hk
 clear h HC hk
 go_enter_defers Tryz.func48, Tryz.ntmps48
 go_upto_region 1 with (fail)
 have b1 : Below W.heap.size W (((W.alloc (.cells #[.pointer (some ⟨gh, 0, none⟩)] 91)).alloc (.cells #[.int .i64 o.k, .int .i64 o.g, .int .u64 o.b, .int .i64 o.x.1, .int .u64 o.x.2] 43)).alloc (.cells #[.int .i64 0] 44)) := (((Below.refl _ _).alloc (Nat.le_refl _) _).alloc (by simp) _).alloc (by simp; omega) _
 have RP := hide (show RowAt (((W.alloc (.cells #[.pointer (some ⟨gh, 0, none⟩)] 91)).alloc (.cells #[.int .i64 o.k, .int .i64 o.g, .int .u64 o.b, .int .i64 o.x.1, .int .u64 o.x.2] 43)).alloc (.cells #[.int .i64 0] 44)) W.heap.size 91 #[.pointer (some ⟨gh, 0, none⟩)] from row_alloc (row_alloc (RowAt.new W 91 #[.pointer (some ⟨gh, 0, none⟩)]) _) _)
 have RO := hide (show RowAt (((W.alloc (.cells #[.pointer (some ⟨gh, 0, none⟩)] 91)).alloc (.cells #[.int .i64 o.k, .int .i64 o.g, .int .u64 o.b, .int .i64 o.x.1, .int .u64 o.x.2] 43)).alloc (.cells #[.int .i64 0] 44)) (W.heap.size + 1) 43 #[.int .i64 o.k, .int .i64 o.g, .int .u64 o.b, .int .i64 o.x.1, .int .u64 o.x.2] from by
  have h := row_alloc (RowAt.new (W.alloc (.cells #[.pointer (some ⟨gh, 0, none⟩)] 91)) 43 #[.int .i64 o.k, .int .i64 o.g, .int .u64 o.b, .int .i64 o.x.1, .int .u64 o.x.2]) (.cells #[.int .i64 0] 44)
  rw [World.size_alloc] at h; exact h)
 have RE := hide (show RowAt (((W.alloc (.cells #[.pointer (some ⟨gh, 0, none⟩)] 91)).alloc (.cells #[.int .i64 o.k, .int .i64 o.g, .int .u64 o.b, .int .i64 o.x.1, .int .u64 o.x.2] 43)).alloc (.cells #[.int .i64 0] 44)) (W.heap.size + 1 + 1) 44 #[.int .i64 0] from by
  have h := RowAt.new ((W.alloc (.cells #[.pointer (some ⟨gh, 0, none⟩)] 91)).alloc (.cells #[.int .i64 o.k, .int .i64 o.g, .int .u64 o.b, .int .i64 o.x.1, .int .u64 o.x.2] 43)) 44 #[.int .i64 0]
  rw [World.size_alloc, World.size_alloc] at h; exact h)
 have HS1 := hide (show (((W.alloc (.cells #[.pointer (some ⟨gh, 0, none⟩)] 91)).alloc (.cells #[.int .i64 o.k, .int .i64 o.g, .int .u64 o.b, .int .i64 o.x.1, .int .u64 o.x.2] 43)).alloc (.cells #[.int .i64 0] 44)).heap.size = W.heap.size + 3 from by simp)
 have HB1 := hide b1
 have H1 := hide (H.out.below b1)
 have HWL := hide H.out.row.lt
 clear b1
 generalize ((W.alloc (.cells #[.pointer (some ⟨gh, 0, none⟩)] 91)).alloc (.cells #[.int .i64 o.k, .int .i64 o.g, .int .u64 o.b, .int .i64 o.x.1, .int .u64 o.x.2] 43)).alloc (.cells #[.int .i64 0] 44) = w1 at *
 obtain ⟨z0, z1, z2, z3, z4, z5, z6, z7, z8, z9, z10, z11, z12⟩ := row13 H1.out.row
 have zl := H1.out.row.lt
 have p0 := row1 RP.out
 have pl := RP.out.lt
 go_upto_region 2 with (fail)
 have RW := hide (RowAt.new w1 95 (handC r.e r.l.E A0 As n0 c0 ns cs A n c o0 At nt ct))
 have HB2 := hide ((Below.refl w1.heap.size w1).alloc (Nat.le_refl _) (.cells (handC r.e r.l.E A0 As n0 c0 ns cs A n c o0 At nt ct) 95))
 obtain ⟨w2, hw2⟩ : ∃ w2, w1.alloc (.cells (handC r.e r.l.E A0 As n0 c0 ns cs A n c o0 At nt ct) 95) = w2 := ⟨_, rfl⟩
 dsimp only [handC] at hw2
 rw [hw2]
 rw [show w1.alloc (.cells (handC r.e r.l.E A0 As n0 c0 ns cs A n c o0 At nt ct) 95) = w2 from hw2] at RW HB2
 have HS2 := hide (show w2.heap.size = w1.heap.size + 1 from by rw [← hw2]; simp)
 clear hw2 z0 z1 z2 z3 z4 z5 z6 z7 z8 z9 z10 z11 z12 zl p0 pl
 have H2 := hide (H1.out.below HB2.out)
 have RP2 := hide (RP.out.below HB2.out)
 have RO2 := hide (RO.out.below HB2.out)
 have RE2 := hide (RE.out.below HB2.out)
 obtain ⟨gw, hgw⟩ : ∃ gw, w1.heap.size = gw := ⟨_, rfl⟩
 rw [hgw] at RW HS2 ⊢
 obtain ⟨z0, z1, z2, z3, z4, z5, z6, z7, z8, z9, z10, z11, z12⟩ := row13 H2.out.row
 have zl := H2.out.row.lt
 have zf7 := H2.out.row.frozen 7
 have zf8 := H2.out.row.frozen 8
 have zf9 := H2.out.row.frozen 9
 have zf10 := H2.out.row.frozen 10
 have zf11 := H2.out.row.frozen 11
 have p0 := row1 RP2.out
 have pl := RP2.out.lt
 obtain ⟨y0, y1, y2, y3, y4⟩ := row5 RO2.out
 have yl := RO2.out.lt
 go_upto_region 4 with (fail)
 have hp5 : Past gh w2 (((((w2.setCell ⟨gh, 7, none⟩ (.int .i64 o.k)).setCell ⟨gh, 8, none⟩ (.int .i64 o.g)).setCell ⟨gh, 9, none⟩ (.int .u64 o.b)).setCell ⟨gh, 10, none⟩ (.int .i64 o.x.1)).setCell ⟨gh, 11, none⟩ (.int .u64 o.x.2)) := ((((Past.set 7 (.int .i64 o.k)).trans (Past.set 8 (.int .i64 o.g))).trans (Past.set 9 (.int .u64 o.b))).trans (Past.set 10 (.int .i64 o.x.1))).trans (Past.set 11 (.int .u64 o.x.2))
 have hr5 : RowAt (((((w2.setCell ⟨gh, 7, none⟩ (.int .i64 o.k)).setCell ⟨gh, 8, none⟩ (.int .i64 o.g)).setCell ⟨gh, 9, none⟩ (.int .u64 o.b)).setCell ⟨gh, 10, none⟩ (.int .i64 o.x.1)).setCell ⟨gh, 11, none⟩ (.int .u64 o.x.2)) gh 95 (handC r.e r.l.E A0 As n0 c0 ns cs A n c o At nt ct) := by
  have h := ((((H2.out.row.set 7 (.int .i64 o.k)).set 8 (.int .i64 o.g)).set 9 (.int .u64 o.b)).set 10 (.int .i64 o.x.1)).set 11 (.int .u64 o.x.2)
  simpa using h
 have H5 := hide (H2.out.past hp5 hr5 H2.out.all)
 have HP5 := hide hp5
 clear hp5 hr5 z0 z1 z2 z3 z4 z5 z6 z7 z8 z9 z10 z11 z12 zl zf7 zf8 zf9 zf10 zf11 p0 pl y0 y1 y2 y3 y4 yl
 generalize ((((w2.setCell ⟨gh, 7, none⟩ (.int .i64 o.k)).setCell ⟨gh, 8, none⟩ (.int .i64 o.g)).setCell ⟨gh, 9, none⟩ (.int .u64 o.b)).setCell ⟨gh, 10, none⟩ (.int .i64 o.x.1)).setCell ⟨gh, 11, none⟩ (.int .u64 o.x.2) = w5 at *
 have HGW := hide (show gw < w2.heap.size from by rw [HS2.out]; omega)
 have hne : W.heap.size ≠ gh := by have := HWL.out; omega
 have hneo : W.heap.size + 1 ≠ gh := by have := HWL.out; omega
 have hnee : W.heap.size + 1 + 1 ≠ gh := by have := HWL.out; omega
 have hnew : gw ≠ gh := by have := HWL.out; have := HS1.out; have := HB1.out.size; omega
 have RP5 := hide (RP2.out.past HP5.out hne)
 have RO5 := hide (RO2.out.past HP5.out hneo)
 have RE5 := hide (RE2.out.past HP5.out hnee)
 have RW5 := hide (RW.out.past HP5.out hnew)
 have mk := run_makeMap (P := Tryz.prog) 123 w5
 have pc0 := row1 (row_alloc RP5.out (.map #[] 0))
 have pl0 := (row_alloc RP5.out (.map #[] 0)).lt
 have pc1 := row1 (row_alloc RP5.out (.map #[⟨.int .i64 1, .func (.func 76) #[.pointer (some ⟨gh, 0, none⟩)] #[], 0⟩] 1))
 have pl1 := (row_alloc RP5.out (.map #[⟨.int .i64 1, .func (.func 76) #[.pointer (some ⟨gh, 0, none⟩)] #[], 0⟩] 1)).lt
 have pc2 := row1 (row_alloc RP5.out (.map #[⟨.int .i64 1, .func (.func 76) #[.pointer (some ⟨gh, 0, none⟩)] #[], 0⟩, ⟨.int .i64 2, .func (.func 77) #[.pointer (some ⟨gh, 0, none⟩)] #[], 1⟩] 2))
 have pl2 := (row_alloc RP5.out (.map #[⟨.int .i64 1, .func (.func 76) #[.pointer (some ⟨gh, 0, none⟩)] #[], 0⟩, ⟨.int .i64 2, .func (.func 77) #[.pointer (some ⟨gh, 0, none⟩)] #[], 1⟩] 2)).lt
 have pc3 := row1 (row_alloc RP5.out (.map #[⟨.int .i64 1, .func (.func 76) #[.pointer (some ⟨gh, 0, none⟩)] #[], 0⟩, ⟨.int .i64 2, .func (.func 77) #[.pointer (some ⟨gh, 0, none⟩)] #[], 1⟩, ⟨.int .i64 3, .func (.func 78) #[.pointer (some ⟨gh, 0, none⟩)] #[], 2⟩] 3))
 have pl3 := (row_alloc RP5.out (.map #[⟨.int .i64 1, .func (.func 76) #[.pointer (some ⟨gh, 0, none⟩)] #[], 0⟩, ⟨.int .i64 2, .func (.func 77) #[.pointer (some ⟨gh, 0, none⟩)] #[], 1⟩, ⟨.int .i64 3, .func (.func 78) #[.pointer (some ⟨gh, 0, none⟩)] #[], 2⟩] 3)).lt
 have pc4 := row1 (row_alloc RP5.out (.map #[⟨.int .i64 1, .func (.func 76) #[.pointer (some ⟨gh, 0, none⟩)] #[], 0⟩, ⟨.int .i64 2, .func (.func 77) #[.pointer (some ⟨gh, 0, none⟩)] #[], 1⟩, ⟨.int .i64 3, .func (.func 78) #[.pointer (some ⟨gh, 0, none⟩)] #[], 2⟩, ⟨.int .i64 4, .func (.func 79) #[.pointer (some ⟨gh, 0, none⟩)] #[], 3⟩] 4))
 have pl4 := (row_alloc RP5.out (.map #[⟨.int .i64 1, .func (.func 76) #[.pointer (some ⟨gh, 0, none⟩)] #[], 0⟩, ⟨.int .i64 2, .func (.func 77) #[.pointer (some ⟨gh, 0, none⟩)] #[], 1⟩, ⟨.int .i64 3, .func (.func 78) #[.pointer (some ⟨gh, 0, none⟩)] #[], 2⟩, ⟨.int .i64 4, .func (.func 79) #[.pointer (some ⟨gh, 0, none⟩)] #[], 3⟩] 4)).lt
 have pc5 := row1 (row_alloc RP5.out (.map #[⟨.int .i64 1, .func (.func 76) #[.pointer (some ⟨gh, 0, none⟩)] #[], 0⟩, ⟨.int .i64 2, .func (.func 77) #[.pointer (some ⟨gh, 0, none⟩)] #[], 1⟩, ⟨.int .i64 3, .func (.func 78) #[.pointer (some ⟨gh, 0, none⟩)] #[], 2⟩, ⟨.int .i64 4, .func (.func 79) #[.pointer (some ⟨gh, 0, none⟩)] #[], 3⟩, ⟨.int .i64 5, .func (.func 80) #[.pointer (some ⟨gh, 0, none⟩)] #[], 4⟩] 5))
 have pl5 := (row_alloc RP5.out (.map #[⟨.int .i64 1, .func (.func 76) #[.pointer (some ⟨gh, 0, none⟩)] #[], 0⟩, ⟨.int .i64 2, .func (.func 77) #[.pointer (some ⟨gh, 0, none⟩)] #[], 1⟩, ⟨.int .i64 3, .func (.func 78) #[.pointer (some ⟨gh, 0, none⟩)] #[], 2⟩, ⟨.int .i64 4, .func (.func 79) #[.pointer (some ⟨gh, 0, none⟩)] #[], 3⟩, ⟨.int .i64 5, .func (.func 80) #[.pointer (some ⟨gh, 0, none⟩)] #[], 4⟩] 5)).lt
 have pc6 := row1 (row_alloc RP5.out (.map #[⟨.int .i64 1, .func (.func 76) #[.pointer (some ⟨gh, 0, none⟩)] #[], 0⟩, ⟨.int .i64 2, .func (.func 77) #[.pointer (some ⟨gh, 0, none⟩)] #[], 1⟩, ⟨.int .i64 3, .func (.func 78) #[.pointer (some ⟨gh, 0, none⟩)] #[], 2⟩, ⟨.int .i64 4, .func (.func 79) #[.pointer (some ⟨gh, 0, none⟩)] #[], 3⟩, ⟨.int .i64 5, .func (.func 80) #[.pointer (some ⟨gh, 0, none⟩)] #[], 4⟩, ⟨.int .i64 6, .func (.func 81) #[.pointer (some ⟨gh, 0, none⟩)] #[], 5⟩] 6))
 have pl6 := (row_alloc RP5.out (.map #[⟨.int .i64 1, .func (.func 76) #[.pointer (some ⟨gh, 0, none⟩)] #[], 0⟩, ⟨.int .i64 2, .func (.func 77) #[.pointer (some ⟨gh, 0, none⟩)] #[], 1⟩, ⟨.int .i64 3, .func (.func 78) #[.pointer (some ⟨gh, 0, none⟩)] #[], 2⟩, ⟨.int .i64 4, .func (.func 79) #[.pointer (some ⟨gh, 0, none⟩)] #[], 3⟩, ⟨.int .i64 5, .func (.func 80) #[.pointer (some ⟨gh, 0, none⟩)] #[], 4⟩, ⟨.int .i64 6, .func (.func 81) #[.pointer (some ⟨gh, 0, none⟩)] #[], 5⟩] 6)).lt
 have pc7 := row1 (row_alloc RP5.out (.map #[⟨.int .i64 1, .func (.func 76) #[.pointer (some ⟨gh, 0, none⟩)] #[], 0⟩, ⟨.int .i64 2, .func (.func 77) #[.pointer (some ⟨gh, 0, none⟩)] #[], 1⟩, ⟨.int .i64 3, .func (.func 78) #[.pointer (some ⟨gh, 0, none⟩)] #[], 2⟩, ⟨.int .i64 4, .func (.func 79) #[.pointer (some ⟨gh, 0, none⟩)] #[], 3⟩, ⟨.int .i64 5, .func (.func 80) #[.pointer (some ⟨gh, 0, none⟩)] #[], 4⟩, ⟨.int .i64 6, .func (.func 81) #[.pointer (some ⟨gh, 0, none⟩)] #[], 5⟩, ⟨.int .i64 7, .func (.func 82) #[.pointer (some ⟨gh, 0, none⟩)] #[], 6⟩] 7))
 have pl7 := (row_alloc RP5.out (.map #[⟨.int .i64 1, .func (.func 76) #[.pointer (some ⟨gh, 0, none⟩)] #[], 0⟩, ⟨.int .i64 2, .func (.func 77) #[.pointer (some ⟨gh, 0, none⟩)] #[], 1⟩, ⟨.int .i64 3, .func (.func 78) #[.pointer (some ⟨gh, 0, none⟩)] #[], 2⟩, ⟨.int .i64 4, .func (.func 79) #[.pointer (some ⟨gh, 0, none⟩)] #[], 3⟩, ⟨.int .i64 5, .func (.func 80) #[.pointer (some ⟨gh, 0, none⟩)] #[], 4⟩, ⟨.int .i64 6, .func (.func 81) #[.pointer (some ⟨gh, 0, none⟩)] #[], 5⟩, ⟨.int .i64 7, .func (.func 82) #[.pointer (some ⟨gh, 0, none⟩)] #[], 6⟩] 7)).lt
 have in0 : (Instr.mapUpdate 123 (.map (some w5.heap.size)) (.int .i64 1) (.func (.func 76) #[.pointer (some ⟨gh, 0, none⟩)] #[])).run Tryz.prog (w5.alloc (.map #[] 0)) = .ok () (w5.alloc (.map #[⟨.int .i64 1, .func (.func 76) #[.pointer (some ⟨gh, 0, none⟩)] #[], 0⟩] 1)) := run_ins w5 #[] 0 1 (.func (.func 76) #[.pointer (some ⟨gh, 0, none⟩)] #[]) rfl
 have in1 : (Instr.mapUpdate 123 (.map (some w5.heap.size)) (.int .i64 2) (.func (.func 77) #[.pointer (some ⟨gh, 0, none⟩)] #[])).run Tryz.prog (w5.alloc (.map #[⟨.int .i64 1, .func (.func 76) #[.pointer (some ⟨gh, 0, none⟩)] #[], 0⟩] 1)) = .ok () (w5.alloc (.map #[⟨.int .i64 1, .func (.func 76) #[.pointer (some ⟨gh, 0, none⟩)] #[], 0⟩, ⟨.int .i64 2, .func (.func 77) #[.pointer (some ⟨gh, 0, none⟩)] #[], 1⟩] 2)) := run_ins w5 #[⟨.int .i64 1, .func (.func 76) #[.pointer (some ⟨gh, 0, none⟩)] #[], 0⟩] 1 2 (.func (.func 77) #[.pointer (some ⟨gh, 0, none⟩)] #[]) rfl
 have in2 : (Instr.mapUpdate 123 (.map (some w5.heap.size)) (.int .i64 3) (.func (.func 78) #[.pointer (some ⟨gh, 0, none⟩)] #[])).run Tryz.prog (w5.alloc (.map #[⟨.int .i64 1, .func (.func 76) #[.pointer (some ⟨gh, 0, none⟩)] #[], 0⟩, ⟨.int .i64 2, .func (.func 77) #[.pointer (some ⟨gh, 0, none⟩)] #[], 1⟩] 2)) = .ok () (w5.alloc (.map #[⟨.int .i64 1, .func (.func 76) #[.pointer (some ⟨gh, 0, none⟩)] #[], 0⟩, ⟨.int .i64 2, .func (.func 77) #[.pointer (some ⟨gh, 0, none⟩)] #[], 1⟩, ⟨.int .i64 3, .func (.func 78) #[.pointer (some ⟨gh, 0, none⟩)] #[], 2⟩] 3)) := run_ins w5 #[⟨.int .i64 1, .func (.func 76) #[.pointer (some ⟨gh, 0, none⟩)] #[], 0⟩, ⟨.int .i64 2, .func (.func 77) #[.pointer (some ⟨gh, 0, none⟩)] #[], 1⟩] 2 3 (.func (.func 78) #[.pointer (some ⟨gh, 0, none⟩)] #[]) rfl
 have in3 : (Instr.mapUpdate 123 (.map (some w5.heap.size)) (.int .i64 4) (.func (.func 79) #[.pointer (some ⟨gh, 0, none⟩)] #[])).run Tryz.prog (w5.alloc (.map #[⟨.int .i64 1, .func (.func 76) #[.pointer (some ⟨gh, 0, none⟩)] #[], 0⟩, ⟨.int .i64 2, .func (.func 77) #[.pointer (some ⟨gh, 0, none⟩)] #[], 1⟩, ⟨.int .i64 3, .func (.func 78) #[.pointer (some ⟨gh, 0, none⟩)] #[], 2⟩] 3)) = .ok () (w5.alloc (.map #[⟨.int .i64 1, .func (.func 76) #[.pointer (some ⟨gh, 0, none⟩)] #[], 0⟩, ⟨.int .i64 2, .func (.func 77) #[.pointer (some ⟨gh, 0, none⟩)] #[], 1⟩, ⟨.int .i64 3, .func (.func 78) #[.pointer (some ⟨gh, 0, none⟩)] #[], 2⟩, ⟨.int .i64 4, .func (.func 79) #[.pointer (some ⟨gh, 0, none⟩)] #[], 3⟩] 4)) := run_ins w5 #[⟨.int .i64 1, .func (.func 76) #[.pointer (some ⟨gh, 0, none⟩)] #[], 0⟩, ⟨.int .i64 2, .func (.func 77) #[.pointer (some ⟨gh, 0, none⟩)] #[], 1⟩, ⟨.int .i64 3, .func (.func 78) #[.pointer (some ⟨gh, 0, none⟩)] #[], 2⟩] 3 4 (.func (.func 79) #[.pointer (some ⟨gh, 0, none⟩)] #[]) rfl
 have in4 : (Instr.mapUpdate 123 (.map (some w5.heap.size)) (.int .i64 5) (.func (.func 80) #[.pointer (some ⟨gh, 0, none⟩)] #[])).run Tryz.prog (w5.alloc (.map #[⟨.int .i64 1, .func (.func 76) #[.pointer (some ⟨gh, 0, none⟩)] #[], 0⟩, ⟨.int .i64 2, .func (.func 77) #[.pointer (some ⟨gh, 0, none⟩)] #[], 1⟩, ⟨.int .i64 3, .func (.func 78) #[.pointer (some ⟨gh, 0, none⟩)] #[], 2⟩, ⟨.int .i64 4, .func (.func 79) #[.pointer (some ⟨gh, 0, none⟩)] #[], 3⟩] 4)) = .ok () (w5.alloc (.map #[⟨.int .i64 1, .func (.func 76) #[.pointer (some ⟨gh, 0, none⟩)] #[], 0⟩, ⟨.int .i64 2, .func (.func 77) #[.pointer (some ⟨gh, 0, none⟩)] #[], 1⟩, ⟨.int .i64 3, .func (.func 78) #[.pointer (some ⟨gh, 0, none⟩)] #[], 2⟩, ⟨.int .i64 4, .func (.func 79) #[.pointer (some ⟨gh, 0, none⟩)] #[], 3⟩, ⟨.int .i64 5, .func (.func 80) #[.pointer (some ⟨gh, 0, none⟩)] #[], 4⟩] 5)) := run_ins w5 #[⟨.int .i64 1, .func (.func 76) #[.pointer (some ⟨gh, 0, none⟩)] #[], 0⟩, ⟨.int .i64 2, .func (.func 77) #[.pointer (some ⟨gh, 0, none⟩)] #[], 1⟩, ⟨.int .i64 3, .func (.func 78) #[.pointer (some ⟨gh, 0, none⟩)] #[], 2⟩, ⟨.int .i64 4, .func (.func 79) #[.pointer (some ⟨gh, 0, none⟩)] #[], 3⟩] 4 5 (.func (.func 80) #[.pointer (some ⟨gh, 0, none⟩)] #[]) rfl
 have in5 : (Instr.mapUpdate 123 (.map (some w5.heap.size)) (.int .i64 6) (.func (.func 81) #[.pointer (some ⟨gh, 0, none⟩)] #[])).run Tryz.prog (w5.alloc (.map #[⟨.int .i64 1, .func (.func 76) #[.pointer (some ⟨gh, 0, none⟩)] #[], 0⟩, ⟨.int .i64 2, .func (.func 77) #[.pointer (some ⟨gh, 0, none⟩)] #[], 1⟩, ⟨.int .i64 3, .func (.func 78) #[.pointer (some ⟨gh, 0, none⟩)] #[], 2⟩, ⟨.int .i64 4, .func (.func 79) #[.pointer (some ⟨gh, 0, none⟩)] #[], 3⟩, ⟨.int .i64 5, .func (.func 80) #[.pointer (some ⟨gh, 0, none⟩)] #[], 4⟩] 5)) = .ok () (w5.alloc (.map #[⟨.int .i64 1, .func (.func 76) #[.pointer (some ⟨gh, 0, none⟩)] #[], 0⟩, ⟨.int .i64 2, .func (.func 77) #[.pointer (some ⟨gh, 0, none⟩)] #[], 1⟩, ⟨.int .i64 3, .func (.func 78) #[.pointer (some ⟨gh, 0, none⟩)] #[], 2⟩, ⟨.int .i64 4, .func (.func 79) #[.pointer (some ⟨gh, 0, none⟩)] #[], 3⟩, ⟨.int .i64 5, .func (.func 80) #[.pointer (some ⟨gh, 0, none⟩)] #[], 4⟩, ⟨.int .i64 6, .func (.func 81) #[.pointer (some ⟨gh, 0, none⟩)] #[], 5⟩] 6)) := run_ins w5 #[⟨.int .i64 1, .func (.func 76) #[.pointer (some ⟨gh, 0, none⟩)] #[], 0⟩, ⟨.int .i64 2, .func (.func 77) #[.pointer (some ⟨gh, 0, none⟩)] #[], 1⟩, ⟨.int .i64 3, .func (.func 78) #[.pointer (some ⟨gh, 0, none⟩)] #[], 2⟩, ⟨.int .i64 4, .func (.func 79) #[.pointer (some ⟨gh, 0, none⟩)] #[], 3⟩, ⟨.int .i64 5, .func (.func 80) #[.pointer (some ⟨gh, 0, none⟩)] #[], 4⟩] 5 6 (.func (.func 81) #[.pointer (some ⟨gh, 0, none⟩)] #[]) rfl
 have in6 : (Instr.mapUpdate 123 (.map (some w5.heap.size)) (.int .i64 7) (.func (.func 82) #[.pointer (some ⟨gh, 0, none⟩)] #[])).run Tryz.prog (w5.alloc (.map #[⟨.int .i64 1, .func (.func 76) #[.pointer (some ⟨gh, 0, none⟩)] #[], 0⟩, ⟨.int .i64 2, .func (.func 77) #[.pointer (some ⟨gh, 0, none⟩)] #[], 1⟩, ⟨.int .i64 3, .func (.func 78) #[.pointer (some ⟨gh, 0, none⟩)] #[], 2⟩, ⟨.int .i64 4, .func (.func 79) #[.pointer (some ⟨gh, 0, none⟩)] #[], 3⟩, ⟨.int .i64 5, .func (.func 80) #[.pointer (some ⟨gh, 0, none⟩)] #[], 4⟩, ⟨.int .i64 6, .func (.func 81) #[.pointer (some ⟨gh, 0, none⟩)] #[], 5⟩] 6)) = .ok () (w5.alloc (.map #[⟨.int .i64 1, .func (.func 76) #[.pointer (some ⟨gh, 0, none⟩)] #[], 0⟩, ⟨.int .i64 2, .func (.func 77) #[.pointer (some ⟨gh, 0, none⟩)] #[], 1⟩, ⟨.int .i64 3, .func (.func 78) #[.pointer (some ⟨gh, 0, none⟩)] #[], 2⟩, ⟨.int .i64 4, .func (.func 79) #[.pointer (some ⟨gh, 0, none⟩)] #[], 3⟩, ⟨.int .i64 5, .func (.func 80) #[.pointer (some ⟨gh, 0, none⟩)] #[], 4⟩, ⟨.int .i64 6, .func (.func 81) #[.pointer (some ⟨gh, 0, none⟩)] #[], 5⟩, ⟨.int .i64 7, .func (.func 82) #[.pointer (some ⟨gh, 0, none⟩)] #[], 6⟩] 7)) := run_ins w5 #[⟨.int .i64 1, .func (.func 76) #[.pointer (some ⟨gh, 0, none⟩)] #[], 0⟩, ⟨.int .i64 2, .func (.func 77) #[.pointer (some ⟨gh, 0, none⟩)] #[], 1⟩, ⟨.int .i64 3, .func (.func 78) #[.pointer (some ⟨gh, 0, none⟩)] #[], 2⟩, ⟨.int .i64 4, .func (.func 79) #[.pointer (some ⟨gh, 0, none⟩)] #[], 3⟩, ⟨.int .i64 5, .func (.func 80) #[.pointer (some ⟨gh, 0, none⟩)] #[], 4⟩, ⟨.int .i64 6, .func (.func 81) #[.pointer (some ⟨gh, 0, none⟩)] #[], 5⟩] 6 7 (.func (.func 82) #[.pointer (some ⟨gh, 0, none⟩)] #[]) rfl
 go_upto_region 5 with (fail)
 have lk := run_look (w5.alloc (.map #[⟨.int .i64 1, .func (.func 76) #[.pointer (some ⟨gh, 0, none⟩)] #[], 0⟩, ⟨.int .i64 2, .func (.func 77) #[.pointer (some ⟨gh, 0, none⟩)] #[], 1⟩, ⟨.int .i64 3, .func (.func 78) #[.pointer (some ⟨gh, 0, none⟩)] #[], 2⟩, ⟨.int .i64 4, .func (.func 79) #[.pointer (some ⟨gh, 0, none⟩)] #[], 3⟩, ⟨.int .i64 5, .func (.func 80) #[.pointer (some ⟨gh, 0, none⟩)] #[], 4⟩, ⟨.int .i64 6, .func (.func 81) #[.pointer (some ⟨gh, 0, none⟩)] #[], 5⟩, ⟨.int .i64 7, .func (.func 82) #[.pointer (some ⟨gh, 0, none⟩)] #[], 6⟩] 7)) w5.heap.size #[⟨.int .i64 1, .func (.func 76) #[.pointer (some ⟨gh, 0, none⟩)] #[], 0⟩, ⟨.int .i64 2, .func (.func 77) #[.pointer (some ⟨gh, 0, none⟩)] #[], 1⟩, ⟨.int .i64 3, .func (.func 78) #[.pointer (some ⟨gh, 0, none⟩)] #[], 2⟩, ⟨.int .i64 4, .func (.func 79) #[.pointer (some ⟨gh, 0, none⟩)] #[], 3⟩, ⟨.int .i64 5, .func (.func 80) #[.pointer (some ⟨gh, 0, none⟩)] #[], 4⟩, ⟨.int .i64 6, .func (.func 81) #[.pointer (some ⟨gh, 0, none⟩)] #[], 5⟩, ⟨.int .i64 7, .func (.func 82) #[.pointer (some ⟨gh, 0, none⟩)] #[], 6⟩] 7 o.k _ i (heap_alloc_new w5 _) HKK.out
 have b6 : Below w5.heap.size w5 (w5.alloc (.map #[⟨.int .i64 1, .func (.func 76) #[.pointer (some ⟨gh, 0, none⟩)] #[], 0⟩, ⟨.int .i64 2, .func (.func 77) #[.pointer (some ⟨gh, 0, none⟩)] #[], 1⟩, ⟨.int .i64 3, .func (.func 78) #[.pointer (some ⟨gh, 0, none⟩)] #[], 2⟩, ⟨.int .i64 4, .func (.func 79) #[.pointer (some ⟨gh, 0, none⟩)] #[], 3⟩, ⟨.int .i64 5, .func (.func 80) #[.pointer (some ⟨gh, 0, none⟩)] #[], 4⟩, ⟨.int .i64 6, .func (.func 81) #[.pointer (some ⟨gh, 0, none⟩)] #[], 5⟩, ⟨.int .i64 7, .func (.func 82) #[.pointer (some ⟨gh, 0, none⟩)] #[], 6⟩] 7)) := (Below.refl _ _).alloc (Nat.le_refl _) _
 have H6 := hide (H5.out.below b6)
 have HB6 := hide b6
 have RP6 := hide (RP5.out.below b6)
 have RO6 := hide (RO5.out.below b6)
 have RE6 := hide (RE5.out.below b6)
 have RW6 := hide (RW5.out.below b6)
 clear pc0 pl0 pc1 pl1 pc2 pl2 pc3 pl3 pc4 pl4 pc5 pl5 pc6 pl6 pc7 pl7 in0 in1 in2 in3 in4 in5 in6 mk b6
 generalize w5.alloc (.map #[⟨.int .i64 1, .func (.func 76) #[.pointer (some ⟨gh, 0, none⟩)] #[], 0⟩, ⟨.int .i64 2, .func (.func 77) #[.pointer (some ⟨gh, 0, none⟩)] #[], 1⟩, ⟨.int .i64 3, .func (.func 78) #[.pointer (some ⟨gh, 0, none⟩)] #[], 2⟩, ⟨.int .i64 4, .func (.func 79) #[.pointer (some ⟨gh, 0, none⟩)] #[], 3⟩, ⟨.int .i64 5, .func (.func 80) #[.pointer (some ⟨gh, 0, none⟩)] #[], 4⟩, ⟨.int .i64 6, .func (.func 81) #[.pointer (some ⟨gh, 0, none⟩)] #[], 5⟩, ⟨.int .i64 7, .func (.func 82) #[.pointer (some ⟨gh, 0, none⟩)] #[], 6⟩] 7) = w6 at *
 obtain ⟨y0, y1, y2, y3, y4⟩ := row5 RO6.out
 have yl := RO6.out.lt
 go_upto_region 6 with (fail)
 go_wp2_with fail
 with_reducible refine (eneed_ok 251 w6).mono ?_
 rintro e w7 ⟨rfl, rfl⟩
 go_wp2_with fail
 have HP6 := hide ((((PastH.of_below (gh := gh) (At := At) HB1.out).trans (PastH.of_below HB2.out)).trans (PastH.of_past HP5.out)).trans (PastH.of_below HB6.out))
 have HAT := hide (told_lt H.out.own)
 have HNEE := hide hnee
 have hoff : ∀ k, W.heap.size + k ≠ gh → Off gh At (W.heap.size + k) := fun k hk => ⟨hk, fun q hq => by have := (HAT.out q hq).2; omega⟩
 have HATG := hide (told_ne H6.out.own H6.out.row)
 refine (HCC.out w6 H6.out).mono ?_
 rintro e w8 (⟨r', t', hr, rfl, hx, hp⟩ | ⟨k, hr, rfl, ⟨cs8, hc8, hs8⟩, hp⟩)
 ·
  have re8 : RowAt w8 (W.heap.size + 1 + 1) 44 #[.int .i64 0] := RE6.out.heap (hp.block _ (hoff 2 hnee) RE6.out.lt)
  have HX := hide hx
  have HP8 := hide (HP6.out.trans hp)
  have c2 := row1 re8
  have f2 := re8.frozen 0
  have l2 := re8.lt
  have RE8 := hide re8
  clear hx hp re8 HCC HKK
  subst hr
  go_wp2_with fail
  refine leaves_cons (f := 75) (args := #[.pointer (some ⟨gw, 0, none⟩), .pointer (some ⟨W.heap.size, 0, none⟩), .pointer (some ⟨W.heap.size + 1 + 1, 0, none⟩)]) (by simp) (by simp [go_sem]) ?_
  refine (ecatch_idle ⟨gw, 0, none⟩ ⟨W.heap.size, 0, none⟩ ⟨W.heap.size + 1 + 1, 0, none⟩ _).mono ?_
  rintro x u' w'' ⟨rfl, rfl, rfl⟩
  have hr2 : RowAt (w8.setCell ⟨W.heap.size + 1 + 1, 0, none⟩ (.int .i64 0)) (W.heap.size + 1 + 1) 44 #[.int .i64 0] := by have h := RE8.out.set 0 (.int .i64 0); simpa using h
  have hpF := HP8.out.up (ge := W.heap.size + 1 + 1) (by omega) (.int .i64 0)
  obtain ⟨a0, a1, a2, a3, a4, a5, a6, a7, a8, a9, a10, a11, H8⟩ := HX.out
  have hxF := H8.box RE8.out (Ne.symm HNEE.out) (by omega) (.int .i64 0)
  generalize (w8.setCell ⟨W.heap.size + 1 + 1, 0, none⟩ (.int .i64 0)) = wF at *
  simp [Leaves, settle, results, Tryz.results48, go_sem, row1 hr2, hr2.lt]
  exact ⟨rfl, ⟨_, _, _, _, _, _, _, _, _, _, _, _, _, hxF⟩, hpF⟩
 ·
  have re8 : RowAt w8 (W.heap.size + 1 + 1) 44 #[.int .i64 0] := RE6.out.past hp hnee
  have RE8 := hide re8
  have RW8 := hide (RW6.out.past hp hnew)
  have RP8 := hide (RP6.out.past hp hne)
  have HC8 := hide hc8
  have HS8 := hide hs8
  have HP8 := hide (HP6.out.trans (PastH.of_past hp))
  have HA8 := hide (H6.out.all.stay ((PastH.of_past (At := At) hp).stayB base))
  have HO8 := hide (own_kept H6.out.own (fun g hg' hl => hp.block g (fun e => by
   rw [own_block] at hg'
   cases At with
   | none => cases hg'
   | some q => injection hg' with hg'; exact HATG.out q rfl (hg'.trans e)) hl))
  subst hr
  clear re8 hc8 hs8 hp HCC HKK
  dsimp only
  refine leaves_cons (f := 75) (args := #[.pointer (some ⟨gw, 0, none⟩), .pointer (some ⟨W.heap.size, 0, none⟩), .pointer (some ⟨W.heap.size + 1 + 1, 0, none⟩)]) (by simp) (by simp [go_sem]) ?_
  refine (ecatch_err gw W.heap.size (W.heap.size + 1 + 1) gh k _ _ _ _ _ _ _ _ _ _ _ _ _ (by simp [Value.oneCell']) cs8 w8 RW8.out RP8.out RE8.out HC8.out HS8.out (Ne.symm HNEE.out)).mono ?_
  rintro x u' w'' ⟨rfl, rfl, hca⟩
  have hxF := HandR.caught HA8.out HO8.out H.out.len H.out.lo HATG.out RE8.out (by omega) hca
  have hr2 := hca.err
  have hpF : PastH gh At W w'' := HP8.out.trans2 hca (by omega)
  simp [Leaves, settle, results, Tryz.results48, go_sem, row1 hr2, hr2.lt]
  exact ⟨rfl, ⟨_, _, _, _, _, _, _, _, _, _, _, _, _, hxF⟩, hpF⟩
set_option maxRecDepth 100000 in
set_option maxHeartbeats 4000000 in
theorem does_bad (base gh : Nat) (A0 As : Option Addr) (n0 c0 ns cs : Nat) (A : Nat → Option Addr) (n c : Nat → Nat) (o0 o : EOp) (At : Option Addr) (nt ct : Nat) (r : Rec) (told : List Ent) (W : World) (h : HandR W base gh A0 As n0 c0 ns cs A n c o0 At nt ct r told)
  (hk : Instr.findNow (.int .i64) (.int .i64 o.k) (kindsE gh).toList 0 = some none) :
  Calls Tryz.prog 48 #[.pointer (some ⟨gh, 0, none⟩), .agg #[.int .i64 o.k, .int .i64 o.g, .int .u64 o.b, .int .i64 o.x.1, .int .u64 o.x.2]] W (EDoesRes gh base At r told (.error 251) W) := by
 have H := hide h
 have HKK := hide hk
 clear h hk
 go_enter_defers Tryz.func48, Tryz.ntmps48
 go_upto_region 1 with (fail)
 have b1 : Below W.heap.size W (((W.alloc (.cells #[.pointer (some ⟨gh, 0, none⟩)] 91)).alloc (.cells #[.int .i64 o.k, .int .i64 o.g, .int .u64 o.b, .int .i64 o.x.1, .int .u64 o.x.2] 43)).alloc (.cells #[.int .i64 0] 44)) := (((Below.refl _ _).alloc (Nat.le_refl _) _).alloc (by simp) _).alloc (by simp; omega) _
 have RP := hide (show RowAt (((W.alloc (.cells #[.pointer (some ⟨gh, 0, none⟩)] 91)).alloc (.cells #[.int .i64 o.k, .int .i64 o.g, .int .u64 o.b, .int .i64 o.x.1, .int .u64 o.x.2] 43)).alloc (.cells #[.int .i64 0] 44)) W.heap.size 91 #[.pointer (some ⟨gh, 0, none⟩)] from row_alloc (row_alloc (RowAt.new W 91 #[.pointer (some ⟨gh, 0, none⟩)]) _) _)
 have RO := hide (show RowAt (((W.alloc (.cells #[.pointer (some ⟨gh, 0, none⟩)] 91)).alloc (.cells #[.int .i64 o.k, .int .i64 o.g, .int .u64 o.b, .int .i64 o.x.1, .int .u64 o.x.2] 43)).alloc (.cells #[.int .i64 0] 44)) (W.heap.size + 1) 43 #[.int .i64 o.k, .int .i64 o.g, .int .u64 o.b, .int .i64 o.x.1, .int .u64 o.x.2] from by
  have h := row_alloc (RowAt.new (W.alloc (.cells #[.pointer (some ⟨gh, 0, none⟩)] 91)) 43 #[.int .i64 o.k, .int .i64 o.g, .int .u64 o.b, .int .i64 o.x.1, .int .u64 o.x.2]) (.cells #[.int .i64 0] 44)
  rw [World.size_alloc] at h; exact h)
 have RE := hide (show RowAt (((W.alloc (.cells #[.pointer (some ⟨gh, 0, none⟩)] 91)).alloc (.cells #[.int .i64 o.k, .int .i64 o.g, .int .u64 o.b, .int .i64 o.x.1, .int .u64 o.x.2] 43)).alloc (.cells #[.int .i64 0] 44)) (W.heap.size + 1 + 1) 44 #[.int .i64 0] from by
  have h := RowAt.new ((W.alloc (.cells #[.pointer (some ⟨gh, 0, none⟩)] 91)).alloc (.cells #[.int .i64 o.k, .int .i64 o.g, .int .u64 o.b, .int .i64 o.x.1, .int .u64 o.x.2] 43)) 44 #[.int .i64 0]
  rw [World.size_alloc, World.size_alloc] at h; exact h)
 have HS1 := hide (show (((W.alloc (.cells #[.pointer (some ⟨gh, 0, none⟩)] 91)).alloc (.cells #[.int .i64 o.k, .int .i64 o.g, .int .u64 o.b, .int .i64 o.x.1, .int .u64 o.x.2] 43)).alloc (.cells #[.int .i64 0] 44)).heap.size = W.heap.size + 3 from by simp)
 have HB1 := hide b1
 have H1 := hide (H.out.below b1)
 have HWL := hide H.out.row.lt
 clear b1
 generalize ((W.alloc (.cells #[.pointer (some ⟨gh, 0, none⟩)] 91)).alloc (.cells #[.int .i64 o.k, .int .i64 o.g, .int .u64 o.b, .int .i64 o.x.1, .int .u64 o.x.2] 43)).alloc (.cells #[.int .i64 0] 44) = w1 at *
 obtain ⟨z0, z1, z2, z3, z4, z5, z6, z7, z8, z9, z10, z11, z12⟩ := row13 H1.out.row
 have zl := H1.out.row.lt
 have p0 := row1 RP.out
 have pl := RP.out.lt
 go_upto_region 2 with (fail)
 have RW := hide (RowAt.new w1 95 (handC r.e r.l.E A0 As n0 c0 ns cs A n c o0 At nt ct))
 have HB2 := hide ((Below.refl w1.heap.size w1).alloc (Nat.le_refl _) (.cells (handC r.e r.l.E A0 As n0 c0 ns cs A n c o0 At nt ct) 95))
 obtain ⟨w2, hw2⟩ : ∃ w2, w1.alloc (.cells (handC r.e r.l.E A0 As n0 c0 ns cs A n c o0 At nt ct) 95) = w2 := ⟨_, rfl⟩
 dsimp only [handC] at hw2
 rw [hw2]
 rw [show w1.alloc (.cells (handC r.e r.l.E A0 As n0 c0 ns cs A n c o0 At nt ct) 95) = w2 from hw2] at RW HB2
 have HS2 := hide (show w2.heap.size = w1.heap.size + 1 from by rw [← hw2]; simp)
 clear hw2 z0 z1 z2 z3 z4 z5 z6 z7 z8 z9 z10 z11 z12 zl p0 pl
 have H2 := hide (H1.out.below HB2.out)
 have RP2 := hide (RP.out.below HB2.out)
 have RO2 := hide (RO.out.below HB2.out)
 have RE2 := hide (RE.out.below HB2.out)
 obtain ⟨gw, hgw⟩ : ∃ gw, w1.heap.size = gw := ⟨_, rfl⟩
 rw [hgw] at RW HS2 ⊢
 obtain ⟨z0, z1, z2, z3, z4, z5, z6, z7, z8, z9, z10, z11, z12⟩ := row13 H2.out.row
 have zl := H2.out.row.lt
 have zf7 := H2.out.row.frozen 7
 have zf8 := H2.out.row.frozen 8
 have zf9 := H2.out.row.frozen 9
 have zf10 := H2.out.row.frozen 10
 have zf11 := H2.out.row.frozen 11
 have p0 := row1 RP2.out
 have pl := RP2.out.lt
 obtain ⟨y0, y1, y2, y3, y4⟩ := row5 RO2.out
 have yl := RO2.out.lt
 go_upto_region 4 with (fail)
 have hp5 : Past gh w2 (((((w2.setCell ⟨gh, 7, none⟩ (.int .i64 o.k)).setCell ⟨gh, 8, none⟩ (.int .i64 o.g)).setCell ⟨gh, 9, none⟩ (.int .u64 o.b)).setCell ⟨gh, 10, none⟩ (.int .i64 o.x.1)).setCell ⟨gh, 11, none⟩ (.int .u64 o.x.2)) := ((((Past.set 7 (.int .i64 o.k)).trans (Past.set 8 (.int .i64 o.g))).trans (Past.set 9 (.int .u64 o.b))).trans (Past.set 10 (.int .i64 o.x.1))).trans (Past.set 11 (.int .u64 o.x.2))
 have hr5 : RowAt (((((w2.setCell ⟨gh, 7, none⟩ (.int .i64 o.k)).setCell ⟨gh, 8, none⟩ (.int .i64 o.g)).setCell ⟨gh, 9, none⟩ (.int .u64 o.b)).setCell ⟨gh, 10, none⟩ (.int .i64 o.x.1)).setCell ⟨gh, 11, none⟩ (.int .u64 o.x.2)) gh 95 (handC r.e r.l.E A0 As n0 c0 ns cs A n c o At nt ct) := by
  have h := ((((H2.out.row.set 7 (.int .i64 o.k)).set 8 (.int .i64 o.g)).set 9 (.int .u64 o.b)).set 10 (.int .i64 o.x.1)).set 11 (.int .u64 o.x.2)
  simpa using h
 have H5 := hide (H2.out.past hp5 hr5 H2.out.all)
 have HP5 := hide hp5
 clear hp5 hr5 z0 z1 z2 z3 z4 z5 z6 z7 z8 z9 z10 z11 z12 zl zf7 zf8 zf9 zf10 zf11 p0 pl y0 y1 y2 y3 y4 yl
 generalize ((((w2.setCell ⟨gh, 7, none⟩ (.int .i64 o.k)).setCell ⟨gh, 8, none⟩ (.int .i64 o.g)).setCell ⟨gh, 9, none⟩ (.int .u64 o.b)).setCell ⟨gh, 10, none⟩ (.int .i64 o.x.1)).setCell ⟨gh, 11, none⟩ (.int .u64 o.x.2) = w5 at *
 have HGW := hide (show gw < w2.heap.size from by rw [HS2.out]; omega)
 have hne : W.heap.size ≠ gh := by have := HWL.out; omega
 have hneo : W.heap.size + 1 ≠ gh := by have := HWL.out; omega
 have hnee : W.heap.size + 1 + 1 ≠ gh := by have := HWL.out; omega
 have hnew : gw ≠ gh := by have := HWL.out; have := HS1.out; have := HB1.out.size; omega
 have RP5 := hide (RP2.out.past HP5.out hne)
 have RO5 := hide (RO2.out.past HP5.out hneo)
 have RE5 := hide (RE2.out.past HP5.out hnee)
 have RW5 := hide (RW.out.past HP5.out hnew)
 have mk := run_makeMap (P := Tryz.prog) 123 w5
 have pc0 := row1 (row_alloc RP5.out (.map #[] 0))
 have pl0 := (row_alloc RP5.out (.map #[] 0)).lt
 have pc1 := row1 (row_alloc RP5.out (.map #[⟨.int .i64 1, .func (.func 76) #[.pointer (some ⟨gh, 0, none⟩)] #[], 0⟩] 1))
 have pl1 := (row_alloc RP5.out (.map #[⟨.int .i64 1, .func (.func 76) #[.pointer (some ⟨gh, 0, none⟩)] #[], 0⟩] 1)).lt
 have pc2 := row1 (row_alloc RP5.out (.map #[⟨.int .i64 1, .func (.func 76) #[.pointer (some ⟨gh, 0, none⟩)] #[], 0⟩, ⟨.int .i64 2, .func (.func 77) #[.pointer (some ⟨gh, 0, none⟩)] #[], 1⟩] 2))
 have pl2 := (row_alloc RP5.out (.map #[⟨.int .i64 1, .func (.func 76) #[.pointer (some ⟨gh, 0, none⟩)] #[], 0⟩, ⟨.int .i64 2, .func (.func 77) #[.pointer (some ⟨gh, 0, none⟩)] #[], 1⟩] 2)).lt
 have pc3 := row1 (row_alloc RP5.out (.map #[⟨.int .i64 1, .func (.func 76) #[.pointer (some ⟨gh, 0, none⟩)] #[], 0⟩, ⟨.int .i64 2, .func (.func 77) #[.pointer (some ⟨gh, 0, none⟩)] #[], 1⟩, ⟨.int .i64 3, .func (.func 78) #[.pointer (some ⟨gh, 0, none⟩)] #[], 2⟩] 3))
 have pl3 := (row_alloc RP5.out (.map #[⟨.int .i64 1, .func (.func 76) #[.pointer (some ⟨gh, 0, none⟩)] #[], 0⟩, ⟨.int .i64 2, .func (.func 77) #[.pointer (some ⟨gh, 0, none⟩)] #[], 1⟩, ⟨.int .i64 3, .func (.func 78) #[.pointer (some ⟨gh, 0, none⟩)] #[], 2⟩] 3)).lt
 have pc4 := row1 (row_alloc RP5.out (.map #[⟨.int .i64 1, .func (.func 76) #[.pointer (some ⟨gh, 0, none⟩)] #[], 0⟩, ⟨.int .i64 2, .func (.func 77) #[.pointer (some ⟨gh, 0, none⟩)] #[], 1⟩, ⟨.int .i64 3, .func (.func 78) #[.pointer (some ⟨gh, 0, none⟩)] #[], 2⟩, ⟨.int .i64 4, .func (.func 79) #[.pointer (some ⟨gh, 0, none⟩)] #[], 3⟩] 4))
 have pl4 := (row_alloc RP5.out (.map #[⟨.int .i64 1, .func (.func 76) #[.pointer (some ⟨gh, 0, none⟩)] #[], 0⟩, ⟨.int .i64 2, .func (.func 77) #[.pointer (some ⟨gh, 0, none⟩)] #[], 1⟩, ⟨.int .i64 3, .func (.func 78) #[.pointer (some ⟨gh, 0, none⟩)] #[], 2⟩, ⟨.int .i64 4, .func (.func 79) #[.pointer (some ⟨gh, 0, none⟩)] #[], 3⟩] 4)).lt
 have pc5 := row1 (row_alloc RP5.out (.map #[⟨.int .i64 1, .func (.func 76) #[.pointer (some ⟨gh, 0, none⟩)] #[], 0⟩, ⟨.int .i64 2, .func (.func 77) #[.pointer (some ⟨gh, 0, none⟩)] #[], 1⟩, ⟨.int .i64 3, .func (.func 78) #[.pointer (some ⟨gh, 0, none⟩)] #[], 2⟩, ⟨.int .i64 4, .func (.func 79) #[.pointer (some ⟨gh, 0, none⟩)] #[], 3⟩, ⟨.int .i64 5, .func (.func 80) #[.pointer (some ⟨gh, 0, none⟩)] #[], 4⟩] 5))
 have pl5 := (row_alloc RP5.out (.map #[⟨.int .i64 1, .func (.func 76) #[.pointer (some ⟨gh, 0, none⟩)] #[], 0⟩, ⟨.int .i64 2, .func (.func 77) #[.pointer (some ⟨gh, 0, none⟩)] #[], 1⟩, ⟨.int .i64 3, .func (.func 78) #[.pointer (some ⟨gh, 0, none⟩)] #[], 2⟩, ⟨.int .i64 4, .func (.func 79) #[.pointer (some ⟨gh, 0, none⟩)] #[], 3⟩, ⟨.int .i64 5, .func (.func 80) #[.pointer (some ⟨gh, 0, none⟩)] #[], 4⟩] 5)).lt
 have pc6 := row1 (row_alloc RP5.out (.map #[⟨.int .i64 1, .func (.func 76) #[.pointer (some ⟨gh, 0, none⟩)] #[], 0⟩, ⟨.int .i64 2, .func (.func 77) #[.pointer (some ⟨gh, 0, none⟩)] #[], 1⟩, ⟨.int .i64 3, .func (.func 78) #[.pointer (some ⟨gh, 0, none⟩)] #[], 2⟩, ⟨.int .i64 4, .func (.func 79) #[.pointer (some ⟨gh, 0, none⟩)] #[], 3⟩, ⟨.int .i64 5, .func (.func 80) #[.pointer (some ⟨gh, 0, none⟩)] #[], 4⟩, ⟨.int .i64 6, .func (.func 81) #[.pointer (some ⟨gh, 0, none⟩)] #[], 5⟩] 6))
 have pl6 := (row_alloc RP5.out (.map #[⟨.int .i64 1, .func (.func 76) #[.pointer (some ⟨gh, 0, none⟩)] #[], 0⟩, ⟨.int .i64 2, .func (.func 77) #[.pointer (some ⟨gh, 0, none⟩)] #[], 1⟩, ⟨.int .i64 3, .func (.func 78) #[.pointer (some ⟨gh, 0, none⟩)] #[], 2⟩, ⟨.int .i64 4, .func (.func 79) #[.pointer (some ⟨gh, 0, none⟩)] #[], 3⟩, ⟨.int .i64 5, .func (.func 80) #[.pointer (some ⟨gh, 0, none⟩)] #[], 4⟩, ⟨.int .i64 6, .func (.func 81) #[.pointer (some ⟨gh, 0, none⟩)] #[], 5⟩] 6)).lt
 have pc7 := row1 (row_alloc RP5.out (.map #[⟨.int .i64 1, .func (.func 76) #[.pointer (some ⟨gh, 0, none⟩)] #[], 0⟩, ⟨.int .i64 2, .func (.func 77) #[.pointer (some ⟨gh, 0, none⟩)] #[], 1⟩, ⟨.int .i64 3, .func (.func 78) #[.pointer (some ⟨gh, 0, none⟩)] #[], 2⟩, ⟨.int .i64 4, .func (.func 79) #[.pointer (some ⟨gh, 0, none⟩)] #[], 3⟩, ⟨.int .i64 5, .func (.func 80) #[.pointer (some ⟨gh, 0, none⟩)] #[], 4⟩, ⟨.int .i64 6, .func (.func 81) #[.pointer (some ⟨gh, 0, none⟩)] #[], 5⟩, ⟨.int .i64 7, .func (.func 82) #[.pointer (some ⟨gh, 0, none⟩)] #[], 6⟩] 7))
 have pl7 := (row_alloc RP5.out (.map #[⟨.int .i64 1, .func (.func 76) #[.pointer (some ⟨gh, 0, none⟩)] #[], 0⟩, ⟨.int .i64 2, .func (.func 77) #[.pointer (some ⟨gh, 0, none⟩)] #[], 1⟩, ⟨.int .i64 3, .func (.func 78) #[.pointer (some ⟨gh, 0, none⟩)] #[], 2⟩, ⟨.int .i64 4, .func (.func 79) #[.pointer (some ⟨gh, 0, none⟩)] #[], 3⟩, ⟨.int .i64 5, .func (.func 80) #[.pointer (some ⟨gh, 0, none⟩)] #[], 4⟩, ⟨.int .i64 6, .func (.func 81) #[.pointer (some ⟨gh, 0, none⟩)] #[], 5⟩, ⟨.int .i64 7, .func (.func 82) #[.pointer (some ⟨gh, 0, none⟩)] #[], 6⟩] 7)).lt
 have in0 : (Instr.mapUpdate 123 (.map (some w5.heap.size)) (.int .i64 1) (.func (.func 76) #[.pointer (some ⟨gh, 0, none⟩)] #[])).run Tryz.prog (w5.alloc (.map #[] 0)) = .ok () (w5.alloc (.map #[⟨.int .i64 1, .func (.func 76) #[.pointer (some ⟨gh, 0, none⟩)] #[], 0⟩] 1)) := run_ins w5 #[] 0 1 (.func (.func 76) #[.pointer (some ⟨gh, 0, none⟩)] #[]) rfl
 have in1 : (Instr.mapUpdate 123 (.map (some w5.heap.size)) (.int .i64 2) (.func (.func 77) #[.pointer (some ⟨gh, 0, none⟩)] #[])).run Tryz.prog (w5.alloc (.map #[⟨.int .i64 1, .func (.func 76) #[.pointer (some ⟨gh, 0, none⟩)] #[], 0⟩] 1)) = .ok () (w5.alloc (.map #[⟨.int .i64 1, .func (.func 76) #[.pointer (some ⟨gh, 0, none⟩)] #[], 0⟩, ⟨.int .i64 2, .func (.func 77) #[.pointer (some ⟨gh, 0, none⟩)] #[], 1⟩] 2)) := run_ins w5 #[⟨.int .i64 1, .func (.func 76) #[.pointer (some ⟨gh, 0, none⟩)] #[], 0⟩] 1 2 (.func (.func 77) #[.pointer (some ⟨gh, 0, none⟩)] #[]) rfl
 have in2 : (Instr.mapUpdate 123 (.map (some w5.heap.size)) (.int .i64 3) (.func (.func 78) #[.pointer (some ⟨gh, 0, none⟩)] #[])).run Tryz.prog (w5.alloc (.map #[⟨.int .i64 1, .func (.func 76) #[.pointer (some ⟨gh, 0, none⟩)] #[], 0⟩, ⟨.int .i64 2, .func (.func 77) #[.pointer (some ⟨gh, 0, none⟩)] #[], 1⟩] 2)) = .ok () (w5.alloc (.map #[⟨.int .i64 1, .func (.func 76) #[.pointer (some ⟨gh, 0, none⟩)] #[], 0⟩, ⟨.int .i64 2, .func (.func 77) #[.pointer (some ⟨gh, 0, none⟩)] #[], 1⟩, ⟨.int .i64 3, .func (.func 78) #[.pointer (some ⟨gh, 0, none⟩)] #[], 2⟩] 3)) := run_ins w5 #[⟨.int .i64 1, .func (.func 76) #[.pointer (some ⟨gh, 0, none⟩)] #[], 0⟩, ⟨.int .i64 2, .func (.func 77) #[.pointer (some ⟨gh, 0, none⟩)] #[], 1⟩] 2 3 (.func (.func 78) #[.pointer (some ⟨gh, 0, none⟩)] #[]) rfl
 have in3 : (Instr.mapUpdate 123 (.map (some w5.heap.size)) (.int .i64 4) (.func (.func 79) #[.pointer (some ⟨gh, 0, none⟩)] #[])).run Tryz.prog (w5.alloc (.map #[⟨.int .i64 1, .func (.func 76) #[.pointer (some ⟨gh, 0, none⟩)] #[], 0⟩, ⟨.int .i64 2, .func (.func 77) #[.pointer (some ⟨gh, 0, none⟩)] #[], 1⟩, ⟨.int .i64 3, .func (.func 78) #[.pointer (some ⟨gh, 0, none⟩)] #[], 2⟩] 3)) = .ok () (w5.alloc (.map #[⟨.int .i64 1, .func (.func 76) #[.pointer (some ⟨gh, 0, none⟩)] #[], 0⟩, ⟨.int .i64 2, .func (.func 77) #[.pointer (some ⟨gh, 0, none⟩)] #[], 1⟩, ⟨.int .i64 3, .func (.func 78) #[.pointer (some ⟨gh, 0, none⟩)] #[], 2⟩, ⟨.int .i64 4, .func (.func 79) #[.pointer (some ⟨gh, 0, none⟩)] #[], 3⟩] 4)) := run_ins w5 #[⟨.int .i64 1, .func (.func 76) #[.pointer (some ⟨gh, 0, none⟩)] #[], 0⟩, ⟨.int .i64 2, .func (.func 77) #[.pointer (some ⟨gh, 0, none⟩)] #[], 1⟩, ⟨.int .i64 3, .func (.func 78) #[.pointer (some ⟨gh, 0, none⟩)] #[], 2⟩] 3 4 (.func (.func 79) #[.pointer (some ⟨gh, 0, none⟩)] #[]) rfl
 have in4 : (Instr.mapUpdate 123 (.map (some w5.heap.size)) (.int .i64 5) (.func (.func 80) #[.pointer (some ⟨gh, 0, none⟩)] #[])).run Tryz.prog (w5.alloc (.map #[⟨.int .i64 1, .func (.func 76) #[.pointer (some ⟨gh, 0, none⟩)] #[], 0⟩, ⟨.int .i64 2, .func (.func 77) #[.pointer (some ⟨gh, 0, none⟩)] #[], 1⟩, ⟨.int .i64 3, .func (.func 78) #[.pointer (some ⟨gh, 0, none⟩)] #[], 2⟩, ⟨.int .i64 4, .func (.func 79) #[.pointer (some ⟨gh, 0, none⟩)] #[], 3⟩] 4)) = .ok () (w5.alloc (.map #[⟨.int .i64 1, .func (.func 76) #[.pointer (some ⟨gh, 0, none⟩)] #[], 0⟩, ⟨.int .i64 2, .func (.func 77) #[.pointer (some ⟨gh, 0, none⟩)] #[], 1⟩, ⟨.int .i64 3, .func (.func 78) #[.pointer (some ⟨gh, 0, none⟩)] #[], 2⟩, ⟨.int .i64 4, .func (.func 79) #[.pointer (some ⟨gh, 0, none⟩)] #[], 3⟩, ⟨.int .i64 5, .func (.func 80) #[.pointer (some ⟨gh, 0, none⟩)] #[], 4⟩] 5)) := run_ins w5 #[⟨.int .i64 1, .func (.func 76) #[.pointer (some ⟨gh, 0, none⟩)] #[], 0⟩, ⟨.int .i64 2, .func (.func 77) #[.pointer (some ⟨gh, 0, none⟩)] #[], 1⟩, ⟨.int .i64 3, .func (.func 78) #[.pointer (some ⟨gh, 0, none⟩)] #[], 2⟩, ⟨.int .i64 4, .func (.func 79) #[.pointer (some ⟨gh, 0, none⟩)] #[], 3⟩] 4 5 (.func (.func 80) #[.pointer (some ⟨gh, 0, none⟩)] #[]) rfl
 have in5 : (Instr.mapUpdate 123 (.map (some w5.heap.size)) (.int .i64 6) (.func (.func 81) #[.pointer (some ⟨gh, 0, none⟩)] #[])).run Tryz.prog (w5.alloc (.map #[⟨.int .i64 1, .func (.func 76) #[.pointer (some ⟨gh, 0, none⟩)] #[], 0⟩, ⟨.int .i64 2, .func (.func 77) #[.pointer (some ⟨gh, 0, none⟩)] #[], 1⟩, ⟨.int .i64 3, .func (.func 78) #[.pointer (some ⟨gh, 0, none⟩)] #[], 2⟩, ⟨.int .i64 4, .func (.func 79) #[.pointer (some ⟨gh, 0, none⟩)] #[], 3⟩, ⟨.int .i64 5, .func (.func 80) #[.pointer (some ⟨gh, 0, none⟩)] #[], 4⟩] 5)) = .ok () (w5.alloc (.map #[⟨.int .i64 1, .func (.func 76) #[.pointer (some ⟨gh, 0, none⟩)] #[], 0⟩, ⟨.int .i64 2, .func (.func 77) #[.pointer (some ⟨gh, 0, none⟩)] #[], 1⟩, ⟨.int .i64 3, .func (.func 78) #[.pointer (some ⟨gh, 0, none⟩)] #[], 2⟩, ⟨.int .i64 4, .func (.func 79) #[.pointer (some ⟨gh, 0, none⟩)] #[], 3⟩, ⟨.int .i64 5, .func (.func 80) #[.pointer (some ⟨gh, 0, none⟩)] #[], 4⟩, ⟨.int .i64 6, .func (.func 81) #[.pointer (some ⟨gh, 0, none⟩)] #[], 5⟩] 6)) := run_ins w5 #[⟨.int .i64 1, .func (.func 76) #[.pointer (some ⟨gh, 0, none⟩)] #[], 0⟩, ⟨.int .i64 2, .func (.func 77) #[.pointer (some ⟨gh, 0, none⟩)] #[], 1⟩, ⟨.int .i64 3, .func (.func 78) #[.pointer (some ⟨gh, 0, none⟩)] #[], 2⟩, ⟨.int .i64 4, .func (.func 79) #[.pointer (some ⟨gh, 0, none⟩)] #[], 3⟩, ⟨.int .i64 5, .func (.func 80) #[.pointer (some ⟨gh, 0, none⟩)] #[], 4⟩] 5 6 (.func (.func 81) #[.pointer (some ⟨gh, 0, none⟩)] #[]) rfl
 have in6 : (Instr.mapUpdate 123 (.map (some w5.heap.size)) (.int .i64 7) (.func (.func 82) #[.pointer (some ⟨gh, 0, none⟩)] #[])).run Tryz.prog (w5.alloc (.map #[⟨.int .i64 1, .func (.func 76) #[.pointer (some ⟨gh, 0, none⟩)] #[], 0⟩, ⟨.int .i64 2, .func (.func 77) #[.pointer (some ⟨gh, 0, none⟩)] #[], 1⟩, ⟨.int .i64 3, .func (.func 78) #[.pointer (some ⟨gh, 0, none⟩)] #[], 2⟩, ⟨.int .i64 4, .func (.func 79) #[.pointer (some ⟨gh, 0, none⟩)] #[], 3⟩, ⟨.int .i64 5, .func (.func 80) #[.pointer (some ⟨gh, 0, none⟩)] #[], 4⟩, ⟨.int .i64 6, .func (.func 81) #[.pointer (some ⟨gh, 0, none⟩)] #[], 5⟩] 6)) = .ok () (w5.alloc (.map #[⟨.int .i64 1, .func (.func 76) #[.pointer (some ⟨gh, 0, none⟩)] #[], 0⟩, ⟨.int .i64 2, .func (.func 77) #[.pointer (some ⟨gh, 0, none⟩)] #[], 1⟩, ⟨.int .i64 3, .func (.func 78) #[.pointer (some ⟨gh, 0, none⟩)] #[], 2⟩, ⟨.int .i64 4, .func (.func 79) #[.pointer (some ⟨gh, 0, none⟩)] #[], 3⟩, ⟨.int .i64 5, .func (.func 80) #[.pointer (some ⟨gh, 0, none⟩)] #[], 4⟩, ⟨.int .i64 6, .func (.func 81) #[.pointer (some ⟨gh, 0, none⟩)] #[], 5⟩, ⟨.int .i64 7, .func (.func 82) #[.pointer (some ⟨gh, 0, none⟩)] #[], 6⟩] 7)) := run_ins w5 #[⟨.int .i64 1, .func (.func 76) #[.pointer (some ⟨gh, 0, none⟩)] #[], 0⟩, ⟨.int .i64 2, .func (.func 77) #[.pointer (some ⟨gh, 0, none⟩)] #[], 1⟩, ⟨.int .i64 3, .func (.func 78) #[.pointer (some ⟨gh, 0, none⟩)] #[], 2⟩, ⟨.int .i64 4, .func (.func 79) #[.pointer (some ⟨gh, 0, none⟩)] #[], 3⟩, ⟨.int .i64 5, .func (.func 80) #[.pointer (some ⟨gh, 0, none⟩)] #[], 4⟩, ⟨.int .i64 6, .func (.func 81) #[.pointer (some ⟨gh, 0, none⟩)] #[], 5⟩] 6 7 (.func (.func 82) #[.pointer (some ⟨gh, 0, none⟩)] #[]) rfl
 go_upto_region 5 with (fail)
 have lk := run_lookn (w5.alloc (.map #[⟨.int .i64 1, .func (.func 76) #[.pointer (some ⟨gh, 0, none⟩)] #[], 0⟩, ⟨.int .i64 2, .func (.func 77) #[.pointer (some ⟨gh, 0, none⟩)] #[], 1⟩, ⟨.int .i64 3, .func (.func 78) #[.pointer (some ⟨gh, 0, none⟩)] #[], 2⟩, ⟨.int .i64 4, .func (.func 79) #[.pointer (some ⟨gh, 0, none⟩)] #[], 3⟩, ⟨.int .i64 5, .func (.func 80) #[.pointer (some ⟨gh, 0, none⟩)] #[], 4⟩, ⟨.int .i64 6, .func (.func 81) #[.pointer (some ⟨gh, 0, none⟩)] #[], 5⟩, ⟨.int .i64 7, .func (.func 82) #[.pointer (some ⟨gh, 0, none⟩)] #[], 6⟩] 7)) w5.heap.size #[⟨.int .i64 1, .func (.func 76) #[.pointer (some ⟨gh, 0, none⟩)] #[], 0⟩, ⟨.int .i64 2, .func (.func 77) #[.pointer (some ⟨gh, 0, none⟩)] #[], 1⟩, ⟨.int .i64 3, .func (.func 78) #[.pointer (some ⟨gh, 0, none⟩)] #[], 2⟩, ⟨.int .i64 4, .func (.func 79) #[.pointer (some ⟨gh, 0, none⟩)] #[], 3⟩, ⟨.int .i64 5, .func (.func 80) #[.pointer (some ⟨gh, 0, none⟩)] #[], 4⟩, ⟨.int .i64 6, .func (.func 81) #[.pointer (some ⟨gh, 0, none⟩)] #[], 5⟩, ⟨.int .i64 7, .func (.func 82) #[.pointer (some ⟨gh, 0, none⟩)] #[], 6⟩] 7 o.k (heap_alloc_new w5 _) HKK.out
 have b6 : Below w5.heap.size w5 (w5.alloc (.map #[⟨.int .i64 1, .func (.func 76) #[.pointer (some ⟨gh, 0, none⟩)] #[], 0⟩, ⟨.int .i64 2, .func (.func 77) #[.pointer (some ⟨gh, 0, none⟩)] #[], 1⟩, ⟨.int .i64 3, .func (.func 78) #[.pointer (some ⟨gh, 0, none⟩)] #[], 2⟩, ⟨.int .i64 4, .func (.func 79) #[.pointer (some ⟨gh, 0, none⟩)] #[], 3⟩, ⟨.int .i64 5, .func (.func 80) #[.pointer (some ⟨gh, 0, none⟩)] #[], 4⟩, ⟨.int .i64 6, .func (.func 81) #[.pointer (some ⟨gh, 0, none⟩)] #[], 5⟩, ⟨.int .i64 7, .func (.func 82) #[.pointer (some ⟨gh, 0, none⟩)] #[], 6⟩] 7)) := (Below.refl _ _).alloc (Nat.le_refl _) _
 have H6 := hide (H5.out.below b6)
 have HB6 := hide b6
 have RP6 := hide (RP5.out.below b6)
 have RO6 := hide (RO5.out.below b6)
 have RE6 := hide (RE5.out.below b6)
 have RW6 := hide (RW5.out.below b6)
 clear pc0 pl0 pc1 pl1 pc2 pl2 pc3 pl3 pc4 pl4 pc5 pl5 pc6 pl6 pc7 pl7 in0 in1 in2 in3 in4 in5 in6 mk b6
 generalize w5.alloc (.map #[⟨.int .i64 1, .func (.func 76) #[.pointer (some ⟨gh, 0, none⟩)] #[], 0⟩, ⟨.int .i64 2, .func (.func 77) #[.pointer (some ⟨gh, 0, none⟩)] #[], 1⟩, ⟨.int .i64 3, .func (.func 78) #[.pointer (some ⟨gh, 0, none⟩)] #[], 2⟩, ⟨.int .i64 4, .func (.func 79) #[.pointer (some ⟨gh, 0, none⟩)] #[], 3⟩, ⟨.int .i64 5, .func (.func 80) #[.pointer (some ⟨gh, 0, none⟩)] #[], 4⟩, ⟨.int .i64 6, .func (.func 81) #[.pointer (some ⟨gh, 0, none⟩)] #[], 5⟩, ⟨.int .i64 7, .func (.func 82) #[.pointer (some ⟨gh, 0, none⟩)] #[], 6⟩] 7) = w6 at *
 obtain ⟨y0, y1, y2, y3, y4⟩ := row5 RO6.out
 have yl := RO6.out.lt
 go_upto_region 6 with (fail)
 go_wp2_with fail
 have HP6 := hide ((((PastH.of_below (gh := gh) (At := At) HB1.out).trans (PastH.of_below HB2.out)).trans (PastH.of_past HP5.out)).trans (PastH.of_below HB6.out))
 have HNEE := hide hnee
 have HATG := hide (told_ne H6.out.own H6.out.row)
 with_reducible refine (eneed_no 251 w6).mono ?_
 rintro e w7 ⟨rfl, rfl⟩
 dsimp only
 refine leaves_cons (f := 75) (args := #[.pointer (some ⟨gw, 0, none⟩), .pointer (some ⟨W.heap.size, 0, none⟩), .pointer (some ⟨W.heap.size + 1 + 1, 0, none⟩)]) (by simp) (by simp [go_sem]) ?_
 refine (ecatch_err gw W.heap.size (W.heap.size + 1 + 1) gh 251 _ _ _ _ _ _ _ _ _ _ _ _ _ (by simp [Value.oneCell']) _ w6 RW6.out RP6.out RE6.out H6.out.row rfl (Ne.symm HNEE.out)).mono ?_
 rintro x u' w'' ⟨rfl, rfl, hca⟩
 have hxF := HandR.caught H6.out.all H6.out.own H.out.len H.out.lo HATG.out RE6.out (by omega) hca
 have hr2 := hca.err
 have hpF : PastH gh At W w'' := HP6.out.trans2 hca (by omega)
 simp [Leaves, settle, results, Tryz.results48, go_sem, row1 hr2, hr2.lt]
 exact ⟨rfl, ⟨_, _, _, _, _, _, _, _, _, _, _, _, _, hxF⟩, hpF⟩
theorem callF {P : Program} {f : FuncId} {fn : Func} (hf : P.funcs[f]? = some fn) (hname : (fn.name == "runtime.NumGoroutine") = false) (hb : fn.body.isNone = false) (args : Array Value) (w : World) : (callFunc f args).run P w = .ok (.enter f args) w := by
 have h1 : (fn.name = "runtime.NumGoroutine") = False := by simpa using hname
 have hb2 : fn.body ≠ none := by intro e; rw [e] at hb; cases hb
 simp [callFunc, hf, h1, hb2]
structure FitO (r : Rec) (o : EOp) : Prop where
 b : 0 ≤ o.b
 x : U64 o.x.2
 tk : (tkL r.sl 1).length ≤ 4096
theorem does_any (base gh : Nat) (A0 As : Option Addr) (n0 c0 ns cs : Nat) (A : Nat → Option Addr) (n c : Nat → Nat) (o0 o : EOp) (At : Option Addr) (nt ct : Nat) (r : Rec) (told : List Ent) (W : World) (h : HandR W base gh A0 As n0 c0 ns cs A n c o0 At nt ct r told) (hf : FitR r) (ho : FitO r o) (ht : (nt : Int) ≤ 1000000) :
  Calls Tryz.prog 48 #[.pointer (some ⟨gh, 0, none⟩), .agg #[.int .i64 o.k, .int .i64 o.g, .int .u64 o.b, .int .i64 o.x.1, .int .u64 o.x.2]] W (EDoesRes gh base At r told (stepR r told o) W) := by
 by_cases hk : 1 ≤ o.k ∧ o.k ≤ 7
 ·
  have hk7 : o.k = 1 ∨ o.k = 2 ∨ o.k = 3 ∨ o.k = 4 ∨ o.k = 5 ∨ o.k = 6 ∨ o.k = 7 := by omega
  rcases hk7 with e | e | e | e | e | e | e
  ·
   rw [show stepR r told o = pinR r told o 1 from by simp [stepR, e]]
   exact does_way 76 0 base gh A0 As n0 c0 ns cs A n c o0 o At nt ct r told W h _ (by rw [e]; rfl) (callF Tryz.func76 (by kernel_rfl) (by kernel_rfl)) (fun w hw => pin_any base gh A0 As n0 c0 ns cs A n c o At nt ct r told w hw hf ho.b _ rfl)
  ·
   rw [show stepR r told o = pinR r told o 2 from by simp [stepR, e]]
   exact does_way 77 1 base gh A0 As n0 c0 ns cs A n c o0 o At nt ct r told W h _ (by rw [e]; rfl) (callF Tryz.func77 (by kernel_rfl) (by kernel_rfl)) (fun w hw => unpin_any base gh A0 As n0 c0 ns cs A n c o At nt ct r told w hw hf ho.b _ rfl)
  ·
   rw [show stepR r told o = takeR r told from by simp [stepR, e]]
   exact does_way 78 2 base gh A0 As n0 c0 ns cs A n c o0 o At nt ct r told W h _ (by rw [e]; rfl) (callF Tryz.func78 (by kernel_rfl) (by kernel_rfl)) (fun w hw => etake_any base gh A0 As n0 c0 ns cs A n c o At nt ct r told w hw hf ht ho.tk _ rfl)
  ·
   rw [show stepR r told o = backR r told o.x from by simp [stepR, e]]
   exact does_way 79 3 base gh A0 As n0 c0 ns cs A n c o0 o At nt ct r told W h _ (by rw [e]; rfl) (callF Tryz.func79 (by kernel_rfl) (by kernel_rfl)) (fun w hw => eback_any base gh A0 As n0 c0 ns cs A n c o At nt ct r told w hw hf ho.x _ rfl)
  ·
   rw [show stepR r told o = retiR r told o.x from by simp [stepR, e]]
   exact does_way 80 4 base gh A0 As n0 c0 ns cs A n c o0 o At nt ct r told W h _ (by rw [e]; rfl) (callF Tryz.func80 (by kernel_rfl) (by kernel_rfl)) (fun w hw => eretire_any base gh A0 As n0 c0 ns cs A n c o At nt ct r told w hw hf ho.x _ rfl)
  ·
   rw [show stepR r told o = freeR r told from by simp [stepR, e]]
   exact does_way 81 5 base gh A0 As n0 c0 ns cs A n c o0 o At nt ct r told W h _ (by rw [e]; rfl) (callF Tryz.func81 (by kernel_rfl) (by kernel_rfl)) (fun w hw => efree_any base gh A0 As n0 c0 ns cs A n c o At nt ct r told w hw hf ht _ rfl)
  ·
   rw [show stepR r told o = goR r told o from by simp [stepR, e]]
   exact does_way 82 6 base gh A0 As n0 c0 ns cs A n c o0 o At nt ct r told W h _ (by rw [e]; rfl) (callF Tryz.func82 (by kernel_rfl) (by kernel_rfl)) (fun w hw => egoes_any base gh A0 As n0 c0 ns cs A n c o At nt ct r told w hw hf ho.b _ rfl)
 ·
  rw [show stepR r told o = .error 251 from by unfold stepR; rw [if_neg (by omega), if_neg (by omega), if_neg (by omega), if_neg (by omega), if_neg (by omega), if_neg (by omega), if_neg (by omega)]]
  refine does_bad base gh A0 As n0 c0 ns cs A n c o0 o At nt ct r told W h ?_
  have h1 : ∀ k : Int, 1 ≤ k → k ≤ 7 → (o.k == k) = false := fun k h1 h2 => by simp; omega
  simp [kindsE, Instr.findNow, Instr.sameNow, h1]
end Go.Proofs.YtkicidopjihjmaaGreat
set_option linter.unusedSimpArgs false
set_option linter.unusedVariables false
namespace Go.Proofs.YtkicidopjihjmaaGreat
open Go Go.RowKit
attribute [local go_sem] via_cell via_frozen
def o00 : EOp := ⟨0, 0, 0, (0, 0)⟩
theorem recC_updn (e : Int) (E : Nat) (A0 As : Option Addr) (n0 c0 ns cs : Nat) (A : Nat → Option Addr) (n c : Nat → Nat) {k : Nat} (hk : k < 3) (A1 : Option Addr) (c1 : Nat) :
  (recC e E A0 As n0 c0 ns cs A n c).setIfInBounds (4 + k) (.slice A1 (n k) c1) = recC e E A0 As n0 c0 ns cs (fun j => if j = k then A1 else A j) n (fun j => if j = k then c1 else c j) := by
 match k, hk with
 | 0, _ => rfl
 | 1, _ => rfl
 | 2, _ => rfl
theorem recC_at (e : Int) (E : Nat) (A0 As : Option Addr) (n0 c0 ns cs : Nat) (A : Nat → Option Addr) (n c : Nat → Nat) {k : Nat} (hk : k < 3) : (recC e E A0 As n0 c0 ns cs A n c)[4 + k]? = some (.slice (A k) (n k) (c k)) := by
 match k, hk with
 | 0, _ => rfl
 | 1, _ => rfl
 | 2, _ => rfl
theorem row7 {w : World} {g : Nat} {t : TypeId} {v0 v1 v2 v3 v4 v5 v6 : Value} (h : RowAt w g t #[v0, v1, v2, v3, v4, v5, v6]) : w.cell? ⟨g, 0, none⟩ = some v0 ∧ w.cell? ⟨g, 1, none⟩ = some v1 ∧ w.cell? ⟨g, 2, none⟩ = some v2 ∧ w.cell? ⟨g, 3, none⟩ = some v3 ∧ w.cell? ⟨g, 4, none⟩ = some v4 ∧ w.cell? ⟨g, 5, none⟩ = some v5 ∧ w.cell? ⟨g, 6, none⟩ = some v6 := by
 refine ⟨?_, ?_, ?_, ?_, ?_, ?_, ?_⟩
 ·
  have := h.cell 0; simpa using this
 ·
  have := h.cell 1; simpa using this
 ·
  have := h.cell 2; simpa using this
 ·
  have := h.cell 3; simpa using this
 ·
  have := h.cell 4; simpa using this
 ·
  have := h.cell 5; simpa using this
 ·
  have := h.cell 6; simpa using this
theorem RdF.typ {w : World} {base g : Nat} {e t : TypeId} {sz n c : Nat} {A : Option Addr} {xs : List Value} {C : Array Value} (h : w.ownsRow base e sz (.slice A n c) n xs) (hg : RowAt w g t C) (hne : e ≠ t) : RdF (fun j => base ≤ j ∧ j ≠ g) w sz A n xs :=
 RdF.of (Rd.of_own h) (fun hn q hq => ⟨(own_typ (g := q.block) h (by rw [hq]; rfl)).1, fun hj => by
  obtain ⟨_, cs, h2⟩ := own_typ (g := q.block) h (by rw [hq]; rfl)
  rw [hj] at h2
  exact hne (row_typ h2 hg)⟩) (fun _ _ q hq => by
  obtain ⟨_, cs, h2⟩ := own_typ (g := q.block) h (by rw [hq]; rfl)
  exact ⟨_, _, h2⟩)
theorem own_lo {w : World} {base b : Nat} {e : TypeId} {sz n : Nat} {v : Value} {xs : List Value} (h : w.ownsRow base e sz v n xs) (hb : b ≤ base) : w.ownsRow b e sz v n xs :=
 ⟨h.1, h.2.imp id (fun ⟨g, cap, cur, hv, hg, r⟩ => ⟨g, cap, cur, hv, Nat.le_trans hb hg, r⟩)⟩
structure OwnS (W w : World) (gx k : Nat) (A0' As' : Option Addr) (n0 c0' ns cs' : Nat) (A : Nat → Option Addr) (n c : Nat → Nat) (r : Rec) : Prop where
 row : RowAt w gx 34 (recC r.e r.l.E A0' As' n0 c0' ns cs' A n c)
 lo : W.heap.size < gx
 sl : RdF (fun j => W.heap.size ≤ j ∧ j ≠ gx) w 2 A0' n0 (Cs encE r.sl)
 h0 : n0 ≤ c0'
 S : RdF (fun j => W.heap.size ≤ j ∧ j ≠ gx) w 1 As' ns (Cs encW r.S)
 hs : ns ≤ cs' ∧ cs' ≤ MaxLen
 rw : ∀ j, j < k → j < 3 → RdF (fun i => W.heap.size ≤ i ∧ i ≠ gx) w 2 (A j) (n j) (Cs encE (r.l.r j)) ∧ n j ≤ c j ∧ c j ≤ MaxLen
 below : Below W.heap.size W w
theorem OwnS.next {W w w1 : World} {gx k : Nat} {A0' As' : Option Addr} {n0 c0' ns cs' : Nat} {A : Nat → Option Addr} {n c : Nat → Nat} {r : Rec} (h : OwnS W w gx k A0' As' n0 c0' ns cs' A n c r) (hk : k < 3) (hb : Below w.heap.size w w1) (A1 : Option Addr) (c1 : Nat) (hown : w1.ownsRow w.heap.size 41 2 (.slice A1 (n k) c1) (n k) (Cs encE (r.l.r k))) (hc : n k ≤ c1 ∧ c1 ≤ MaxLen) :
  OwnS W (w1.setCell ⟨gx, 4 + k, none⟩ (.slice A1 (n k) c1)) gx (k + 1) A0' As' n0 c0' ns cs' (fun j => if j = k then A1 else A j) n (fun j => if j = k then c1 else c j) r := by
 have hst : StayF (fun j => W.heap.size ≤ j ∧ j ≠ gx) w (w1.setCell ⟨gx, 4 + k, none⟩ (.slice A1 (n k) c1)) := (StayF.of_below hb).trans (StayF.set (fun h => h.2 rfl))
 refine ⟨?_, h.lo, h.sl.stay hst, h.h0, h.S.stay hst, h.hs, fun j hj h3 => ?_, (h.below.trans (hb.mono h.below.size)).setCell (p := ⟨gx, 4 + k, none⟩) (by have := h.lo; simp; omega) _⟩
 ·
  have h1 := (h.row.below hb).set (4 + k) (.slice A1 (n k) c1)
  rw [recC_updn _ _ _ _ _ _ _ _ _ _ _ hk] at h1
  exact h1
 ·
  by_cases e : j = k
  ·
   subst e
   simp only [if_true]
   exact ⟨((RdF.typ hown (h.row.below hb) (by decide)).up (fun j hj _ => ⟨Nat.le_trans h.below.size hj.1, hj.2⟩)).stay (StayF.set (fun h => h.2 rfl)), hc⟩
  ·
   simp only [if_neg e]
   have h1 := h.rw j (by omega) h3
   exact ⟨h1.1.stay hst, h1.2⟩
def OwnRes (r : Rec) (W : World) (e : Ending) (W' : World) : Prop := (∃ gh, e = .returned (.pointer (some ⟨gh, 0, none⟩)) ∧ ∃ A0 As n0 c0 ns cs A n c, HandR W' W.heap.size gh A0 As n0 c0 ns cs A n c o00 none 0 0 r []) ∧ Below W.heap.size W W'
set_option maxRecDepth 20000 in
set_option maxHeartbeats 8000000 in
theorem own_any (F : Nat → Prop) (A0 As : Option Addr) (n0 c0 ns cs : Nat) (A : Nat → Option Addr) (n c : Nat → Nat) (r : Rec) (W : World) (h : RecF F W A0 As n0 c0 ns cs A n c r) (hf : FitR r) :
  Calls Tryz.prog 47 #[.agg (recC r.e r.l.E A0 As n0 c0 ns cs A n c)] W (OwnRes r W) := by
 have hb1 : Below W.heap.size W (W.alloc (.cells #[.slice A0 n0 c0, .int .u64 r.e, .slice As ns cs, .int .u64 (r.l.E : Int), .slice (A 0) (n 0) (c 0), .slice (A 1) (n 1) (c 1), .slice (A 2) (n 2) (c 2)] 34)) := (Below.refl _ _).alloc (Nat.le_refl _) _
 have R1 := hide (RowAt.new W 34 #[.slice A0 n0 c0, .int .u64 r.e, .slice As ns cs, .int .u64 (r.l.E : Int), .slice (A 0) (n 0) (c 0), .slice (A 1) (n 1) (c 1), .slice (A 2) (n 2) (c 2)])
 have HB1 := hide hb1
 have H := hide (h.below hb1)
 have HF := hide hf
 have HS1 := hide (show (W.alloc (.cells #[.slice A0 n0 c0, .int .u64 r.e, .slice As ns cs, .int .u64 (r.l.E : Int), .slice (A 0) (n 0) (c 0), .slice (A 1) (n 1) (c 1), .slice (A 2) (n 2) (c 2)] 34)).heap.size = W.heap.size + 1 from by simp)
 clear hb1 h hf
 go_enter Tryz.func47, Tryz.ntmps47
 go_upto_region 1 with (fail)
 generalize (W.alloc (.cells #[.slice A0 n0 c0, .int .u64 r.e, .slice As ns cs, .int .u64 (r.l.E : Int), .slice (A 0) (n 0) (c 0), .slice (A 1) (n 1) (c 1), .slice (A 2) (n 2) (c 2)] 34)) = w1 at *
 go_cut [3] from 6 to 21 (fun s3 wx => ∃ gx A0' As' c0' cs', s3 = .pointer (some ⟨gx, 0, none⟩) ∧ Below w1.heap.size w1 wx ∧ OwnS W wx gx 0 A0' As' n0 c0' ns cs' A n c r)
 case first =>
  have HSX := hide (fun (wX : World) (hgX : Below w1.heap.size w1 wX) => show wX.cell? ⟨W.heap.size, 0, none⟩ = some (.slice A0 n0 c0) ∧ wX.cell? ⟨W.heap.size, 1, none⟩ = some (.int .u64 r.e) ∧ wX.cell? ⟨W.heap.size, 2, none⟩ = some (.slice As ns cs) ∧ wX.cell? ⟨W.heap.size, 3, none⟩ = some (.int .u64 (r.l.E : Int)) ∧ wX.cell? ⟨W.heap.size, 4, none⟩ = some (.slice (A 0) (n 0) (c 0)) ∧ wX.cell? ⟨W.heap.size, 5, none⟩ = some (.slice (A 1) (n 1) (c 1)) ∧ wX.cell? ⟨W.heap.size, 6, none⟩ = some (.slice (A 2) (n 2) (c 2)) ∧ W.heap.size < wX.heap.size from by
   obtain ⟨z0, z1, z2, z3, z4, z5, z6⟩ := row7 R1.out
   exact ⟨kept hgX z0, kept hgX z1, kept hgX z2, kept hgX z3, kept hgX z4, kept hgX z5, kept hgX z6, Nat.lt_of_lt_of_le R1.out.lt hgX.size⟩)
  have HX := hide ((Below.refl w1.heap.size w1).drew)
  refine wp_region_held_drew (S := fun wX => wX.cell? ⟨W.heap.size, 0, none⟩ = some (.slice A0 n0 c0) ∧ wX.cell? ⟨W.heap.size, 1, none⟩ = some (.int .u64 r.e) ∧ wX.cell? ⟨W.heap.size, 2, none⟩ = some (.slice As ns cs) ∧ wX.cell? ⟨W.heap.size, 3, none⟩ = some (.int .u64 (r.l.E : Int)) ∧ wX.cell? ⟨W.heap.size, 4, none⟩ = some (.slice (A 0) (n 0) (c 0)) ∧ wX.cell? ⟨W.heap.size, 5, none⟩ = some (.slice (A 1) (n 1) (c 1)) ∧ wX.cell? ⟨W.heap.size, 6, none⟩ = some (.slice (A 2) (n 2) (c 2)) ∧ W.heap.size < wX.heap.size) (by kernel_rfl) (HSX.out _ HX.out) (fun hHeld => ?_)
  clear hHeld
  have hS0 := HSX.out _ HX.out
  generalize w1.drew = wd at *
  (refine tkH (i := 0) (v := ?_) rfl (Or.inl ⟨by rfl, ?_⟩) ?_; rotate_left; (focus (intro w hSw; (try dsimp only at hSw); obtain ⟨a, b, c, d, e, f, g, h⟩ := hSw; go_simp; first | done | with_reducible rfl)); (try simp only [Act.put, Na, Nb, Nc, Nd, Nx, Nf]))
  (refine tkH (i := 1) (v := ?_) rfl (Or.inl ⟨by rfl, ?_⟩) ?_; rotate_left; (focus (intro w hSw; (try dsimp only at hSw); obtain ⟨a, b, c, d, e, f, g, h⟩ := hSw; go_simp; first | done | with_reducible rfl)); (try simp only [Act.put, Na, Nb, Nc, Nd, Nx, Nf]))
  (refine tkH (i := 2) (v := ?_) rfl (Or.inl ⟨by rfl, ?_⟩) ?_; rotate_left; (focus (intro w hSw; (try dsimp only at hSw); obtain ⟨a, b, c, d, e, f, g, h⟩ := hSw; go_simp; first | done | with_reducible rfl)); (try simp only [Act.put, Na, Nb, Nc, Nd, Nx, Nf]))
  (refine tkH (i := 5) (v := ?_) rfl (Or.inl ⟨by rfl, ?_⟩) ?_; rotate_left; (focus (intro w hSw; (try dsimp only at hSw); obtain ⟨a, b, c, d, e, f, g, h⟩ := hSw; go_simp; first | done | with_reducible rfl)); (try simp only [Act.put, Na, Nb, Nc, Nd, Nx, Nf]))
  (refine tkH (i := 6) (v := ?_) rfl (Or.inl ⟨by rfl, ?_⟩) ?_; rotate_left; (focus (intro w hSw; (try dsimp only at hSw); obtain ⟨a, b, c, d, e, f, g, h⟩ := hSw; go_simp; first | done | with_reducible rfl)); (try simp only [Act.put, Na, Nb, Nc, Nd, Nx, Nf]))
  (refine tkH (i := 7) (v := ?_) rfl (Or.inl ⟨by rfl, ?_⟩) ?_; rotate_left; (focus (intro w hSw; (try dsimp only at hSw); obtain ⟨a, b, c, d, e, f, g, h⟩ := hSw; go_simp; first | done | with_reducible rfl)); (try simp only [Act.put, Na, Nb, Nc, Nd, Nx, Nf]))
  (refine tkH (i := 8) (v := ?_) rfl (Or.inl ⟨by rfl, ?_⟩) ?_; rotate_left; (focus (intro w hSw; (try dsimp only at hSw); obtain ⟨a, b, c, d, e, f, g, h⟩ := hSw; go_simp; first | done | with_reducible rfl)); (try simp only [Act.put, Na, Nb, Nc, Nd, Nx, Nf]))
  (refine tkH (i := 9) (v := ?_) rfl (Or.inl ⟨by rfl, ?_⟩) ?_; rotate_left; (focus (intro w hSw; (try dsimp only at hSw); obtain ⟨a, b, c, d, e, f, g, h⟩ := hSw; go_simp; first | done | with_reducible rfl)); (try simp only [Act.put, Na, Nb, Nc, Nd, Nx, Nf]))
  (refine tkH (i := 10) (v := ?_) rfl (Or.inl ⟨by rfl, ?_⟩) ?_; rotate_left; (focus (intro w hSw; (try dsimp only at hSw); obtain ⟨a, b, c, d, e, f, g, h⟩ := hSw; go_simp; first | done | with_reducible rfl)); (try simp only [Act.put, Na, Nb, Nc, Nd, Nx, Nf]))
  (refine tkH (i := 13) (v := ?_) rfl (Or.inl ⟨by rfl, ?_⟩) ?_; rotate_left; (focus (intro w hSw; (try dsimp only at hSw); obtain ⟨a, b, c, d, e, f, g, h⟩ := hSw; go_simp; first | done | with_reducible rfl)); (try simp only [Act.put, Na, Nb, Nc, Nd, Nx, Nf]))
  (refine tkH (i := 14) (v := ?_) rfl (Or.inl ⟨by rfl, ?_⟩) ?_; rotate_left; (focus (intro w hSw; (try dsimp only at hSw); obtain ⟨a, b, c, d, e, f, g, h⟩ := hSw; go_simp; first | done | with_reducible rfl)); (try simp only [Act.put, Na, Nb, Nc, Nd, Nx, Nf]))
  refine wpAnyH_ready (rs := [3, 16]) (by kernel_rfl) (by simp) ?_
  refine (AllReadyH.cons rfl (fun K0 hK0 => ?_) (AllReadyH.cons rfl (fun K1 hK1 => ?_) AllReadyH.nil))
  ·
   go_simp
   with_reducible refine (CloneS wd.heap.size A0 n0 c0 (Cs encE r.sl) wd (H.out.sl.rd.below HX.out |>.more HX.out.size) (Nat.le_refl _) (Cs_one_cell encE_one _) (by rw [← H.out.l0]; exact HF.out.sl)).mono ?_
   rintro e wc0 ⟨v, rfl, hown, hb⟩
   obtain ⟨A0', c0', rfl, hca1, hca2⟩ := own_form2 hown
   have HC1 := hide hca1
   have O1 := hide (own_lo (b := W.heap.size) hown (Nat.le_trans HB1.out.size HX.out.size))
   have hX2 := HX.out.trans (hb.mono HX.out.size)
   replace HX := hide hX2
   clear hX2 hS0 hown hb hca1 hca2
   have hS0 := HSX.out _ HX.out
   refine hK0.out _ _ (hS0) (fun _ => ?_)
   clear hK0 K0
   (try simp only [Act.put, Na, Nb, Nc, Nd, Nx, Nf])
   (refine tkH (i := 4) (v := ?_) rfl (Or.inl ⟨by rfl, ?_⟩) ?_; rotate_left; (focus (intro w hSw; (try dsimp only at hSw); obtain ⟨a, b, c, d, e, f, g, h⟩ := hSw; go_simp; first | done | with_reducible rfl)); (try simp only [Act.put, Na, Nb, Nc, Nd, Nx, Nf]))
   refine wpAnyH_ready (rs := [11, 16]) (by kernel_rfl) (by simp) ?_
   refine (AllReadyH.cons rfl (fun K2 hK2 => ?_) (AllReadyH.cons rfl (fun K3 hK3 => ?_) AllReadyH.nil))
   ·
    go_simp
    with_reducible refine (Pn.CloneW wc0.heap.size As ns cs (Cs encW r.S) wc0 (H.out.S.rd.below HX.out |>.more HX.out.size) (Nat.le_refl _) (Cs_one_cell encW_one _) (by rw [← H.out.ls]; exact HF.out.S)).mono ?_
    rintro e wc1 ⟨v, rfl, hown, hb⟩
    obtain ⟨As', cs', rfl, hca1, hca2⟩ := own_form2 hown
    have HC2 := hide (And.intro hca1 hca2)
    replace O1 := hide (own_keepB O1.out hb)
    have O2 := hide (own_lo (b := W.heap.size) hown (Nat.le_trans HB1.out.size HX.out.size))
    have hX2 := HX.out.trans (hb.mono HX.out.size)
    replace HX := hide hX2
    clear hX2 hS0 hown hb hca1 hca2
    have hS0 := HSX.out _ HX.out
    refine hK2.out _ _ (hS0) (fun _ => ?_)
    clear hK2 K2
    (try simp only [Act.put, Na, Nb, Nc, Nd, Nx, Nf])
    (refine tkH (i := 12) (v := ?_) rfl (Or.inl ⟨by rfl, ?_⟩) ?_; rotate_left; (focus (intro w hSw; (try dsimp only at hSw); obtain ⟨a, b, c, d, e, f, g, h⟩ := hSw; go_simp; first | done | with_reducible rfl)); (try simp only [Act.put, Na, Nb, Nc, Nd, Nx, Nf]))
    (refine tkH (i := 15) (v := ?_) rfl (Or.inl ⟨by rfl, ?_⟩) ?_; rotate_left; (focus (intro w hSw; (try dsimp only at hSw); obtain ⟨a, b, c, d, e, f, g, h⟩ := hSw; go_simp; first | done | with_reducible rfl)); (try simp only [Act.put, Na, Nb, Nc, Nd, Nx, Nf]))
    refine wpAnyH_ready (rs := [16]) (by kernel_rfl) (by simp) ?_
    refine (AllReadyH.cons rfl (fun K4 hK4 => ?_) AllReadyH.nil)
    go_simp
    have RXX := hide (RowAt.new wc1 34 #[.slice none 0 0, .int .u64 0, .slice none 0 0, .int .u64 0, .slice none 0 0, .slice none 0 0, .slice none 0 0])
    have HG := hide ((Below.refl wc1.heap.size wc1).alloc (Nat.le_refl _) (.cells #[.slice none 0 0, .int .u64 0, .slice none 0 0, .int .u64 0, .slice none 0 0, .slice none 0 0, .slice none 0 0] 34))
    obtain ⟨gx, hgx⟩ : ∃ gx, wc1.heap.size = gx := ⟨_, rfl⟩
    have HGX := hide (show w1.heap.size ≤ gx from by rw [← hgx]; exact HX.out.size)
    rw [hgx] at RXX ⊢
    have hX2 := HX.out.trans (HG.out.mono HX.out.size)
    replace HX := hide hX2
    clear hX2 hS0
    replace O1 := hide (own_keepB O1.out HG.out)
    replace O2 := hide (own_keepB O2.out HG.out)
    generalize wc1.alloc (.cells #[.slice none 0 0, .int .u64 0, .slice none 0 0, .int .u64 0, .slice none 0 0, .slice none 0 0, .slice none 0 0] 34) = wa2 at *
    clear HG hgx
    have hS0 := HSX.out _ HX.out
    refine hK4.out _ _ (hS0) (fun _ => ?_)
    clear hK4 K4
    (try simp only [Act.put, Na, Nb, Nc, Nd, Nx, Nf])
    refine wpAnyH_ready (rs := [17]) (by kernel_rfl) (by simp) ?_
    refine (AllReadyH.cons rfl (fun K5 hK5 => ?_) AllReadyH.nil)
    have RX := RXX.out
    obtain ⟨y0, y1, y2, y3, y4, y5, y6⟩ := row7 RX
    have yl := RX.lt
    have yf0 := RX.frozen 0
    have yf1 := RX.frozen 1
    have yf2 := RX.frozen 2
    have yf3 := RX.frozen 3
    have yf4 := RX.frozen 4
    have yf5 := RX.frozen 5
    have yf6 := RX.frozen 6
    clear hS0
    go_simp
    have hst : StayF (fun j => W.heap.size ≤ j ∧ j ≠ gx) wa2 (((((((wa2.setCell ⟨gx, 0, none⟩ (.slice A0' n0 c0')).setCell ⟨gx, 1, none⟩ (.int .u64 r.e)).setCell ⟨gx, 2, none⟩ (.slice As' ns cs')).setCell ⟨gx, 3, none⟩ (.int .u64 (r.l.E : Int))).setCell ⟨gx, 4, none⟩ (.slice (A 0) (n 0) (c 0))).setCell ⟨gx, 5, none⟩ (.slice (A 1) (n 1) (c 1))).setCell ⟨gx, 6, none⟩ (.slice (A 2) (n 2) (c 2))) := ((((((((StayF.refl _ _).trans (StayF.set (fun h => h.2 rfl))).trans (StayF.set (fun h => h.2 rfl))).trans (StayF.set (fun h => h.2 rfl))).trans (StayF.set (fun h => h.2 rfl))).trans (StayF.set (fun h => h.2 rfl))).trans (StayF.set (fun h => h.2 rfl))).trans (StayF.set (fun h => h.2 rfl)))
    have hb9 : Below w1.heap.size w1 (((((((wa2.setCell ⟨gx, 0, none⟩ (.slice A0' n0 c0')).setCell ⟨gx, 1, none⟩ (.int .u64 r.e)).setCell ⟨gx, 2, none⟩ (.slice As' ns cs')).setCell ⟨gx, 3, none⟩ (.int .u64 (r.l.E : Int))).setCell ⟨gx, 4, none⟩ (.slice (A 0) (n 0) (c 0))).setCell ⟨gx, 5, none⟩ (.slice (A 1) (n 1) (c 1))).setCell ⟨gx, 6, none⟩ (.slice (A 2) (n 2) (c 2))) := (((((((HX.out.setCell (p := ⟨gx, 0, none⟩) (by have := HGX.out; simp; omega) _).setCell (p := ⟨gx, 1, none⟩) (by have := HGX.out; simp; omega) _).setCell (p := ⟨gx, 2, none⟩) (by have := HGX.out; simp; omega) _).setCell (p := ⟨gx, 3, none⟩) (by have := HGX.out; simp; omega) _).setCell (p := ⟨gx, 4, none⟩) (by have := HGX.out; simp; omega) _).setCell (p := ⟨gx, 5, none⟩) (by have := HGX.out; simp; omega) _).setCell (p := ⟨gx, 6, none⟩) (by have := HGX.out; simp; omega) _)
    have HO := hide (show OwnS W (((((((wa2.setCell ⟨gx, 0, none⟩ (.slice A0' n0 c0')).setCell ⟨gx, 1, none⟩ (.int .u64 r.e)).setCell ⟨gx, 2, none⟩ (.slice As' ns cs')).setCell ⟨gx, 3, none⟩ (.int .u64 (r.l.E : Int))).setCell ⟨gx, 4, none⟩ (.slice (A 0) (n 0) (c 0))).setCell ⟨gx, 5, none⟩ (.slice (A 1) (n 1) (c 1))).setCell ⟨gx, 6, none⟩ (.slice (A 2) (n 2) (c 2))) gx 0 A0' As' n0 c0' ns cs' A n c r from ⟨by have h := (((((((RX.set 0 (.slice A0' n0 c0')).set 1 (.int .u64 r.e)).set 2 (.slice As' ns cs')).set 3 (.int .u64 (r.l.E : Int))).set 4 (.slice (A 0) (n 0) (c 0))).set 5 (.slice (A 1) (n 1) (c 1))).set 6 (.slice (A 2) (n 2) (c 2))); simpa using h, by have := HGX.out; have := HS1.out; omega, (RdF.typ O1.out RX (by decide)).stay hst, HC1.out, (RdF.typ O2.out RX (by decide)).stay hst, HC2.out, fun j hj => absurd hj (by omega), HB1.out.trans (hb9.mono (by have := HS1.out; omega))⟩)
    have HB9 := hide hb9
    clear hb9 hst RX y0 y1 y2 y3 y4 y5 y6 yf0 yf1 yf2 yf3 yf4 yf5 yf6 yl
    generalize World.setCell _ _ _ = w9 at *
    refine hK5.out _ _ (HSX.out _ HB9.out) (fun _ => ?_)
    clear hK5 K5
    (try simp only [Act.put, Na, Nb, Nc, Nd, Nx, Nf])
    refine wpAnyH_done (by kernel_rfl) ?_ _
    go_wp2_with fail
    go_meet
    case rel => exact ⟨gx, A0', As', c0', cs', rfl, HB9.out, HO.out⟩
   ·
    go_simp
    have RXX := hide (RowAt.new wc0 34 #[.slice none 0 0, .int .u64 0, .slice none 0 0, .int .u64 0, .slice none 0 0, .slice none 0 0, .slice none 0 0])
    have HG := hide ((Below.refl wc0.heap.size wc0).alloc (Nat.le_refl _) (.cells #[.slice none 0 0, .int .u64 0, .slice none 0 0, .int .u64 0, .slice none 0 0, .slice none 0 0, .slice none 0 0] 34))
    obtain ⟨gx, hgx⟩ : ∃ gx, wc0.heap.size = gx := ⟨_, rfl⟩
    have HGX := hide (show w1.heap.size ≤ gx from by rw [← hgx]; exact HX.out.size)
    rw [hgx] at RXX ⊢
    have hX2 := HX.out.trans (HG.out.mono HX.out.size)
    replace HX := hide hX2
    clear hX2 hS0
    replace O1 := hide (own_keepB O1.out HG.out)
    generalize wc0.alloc (.cells #[.slice none 0 0, .int .u64 0, .slice none 0 0, .int .u64 0, .slice none 0 0, .slice none 0 0, .slice none 0 0] 34) = wa1 at *
    clear HG hgx
    have hS0 := HSX.out _ HX.out
    refine hK3.out _ _ (hS0) (fun _ => ?_)
    clear hK3 K3
    (try simp only [Act.put, Na, Nb, Nc, Nd, Nx, Nf])
    refine wpAnyH_ready (rs := [11]) (by kernel_rfl) (by simp) ?_
    refine (AllReadyH.cons rfl (fun K6 hK6 => ?_) AllReadyH.nil)
    go_simp
    with_reducible refine (Pn.CloneW wa1.heap.size As ns cs (Cs encW r.S) wa1 (H.out.S.rd.below HX.out |>.more HX.out.size) (Nat.le_refl _) (Cs_one_cell encW_one _) (by rw [← H.out.ls]; exact HF.out.S)).mono ?_
    rintro e wc2 ⟨v, rfl, hown, hb⟩
    obtain ⟨As', cs', rfl, hca1, hca2⟩ := own_form2 hown
    have HC2 := hide (And.intro hca1 hca2)
    replace O1 := hide (own_keepB O1.out hb)
    replace RXX := hide (RXX.out.below hb)
    have O2 := hide (own_lo (b := W.heap.size) hown (Nat.le_trans HB1.out.size HX.out.size))
    have hX2 := HX.out.trans (hb.mono HX.out.size)
    replace HX := hide hX2
    clear hX2 hS0 hown hb hca1 hca2
    have hS0 := HSX.out _ HX.out
    refine hK6.out _ _ (hS0) (fun _ => ?_)
    clear hK6 K6
    (try simp only [Act.put, Na, Nb, Nc, Nd, Nx, Nf])
    (refine tkH (i := 12) (v := ?_) rfl (Or.inl ⟨by rfl, ?_⟩) ?_; rotate_left; (focus (intro w hSw; (try dsimp only at hSw); obtain ⟨a, b, c, d, e, f, g, h⟩ := hSw; go_simp; first | done | with_reducible rfl)); (try simp only [Act.put, Na, Nb, Nc, Nd, Nx, Nf]))
    (refine tkH (i := 15) (v := ?_) rfl (Or.inl ⟨by rfl, ?_⟩) ?_; rotate_left; (focus (intro w hSw; (try dsimp only at hSw); obtain ⟨a, b, c, d, e, f, g, h⟩ := hSw; go_simp; first | done | with_reducible rfl)); (try simp only [Act.put, Na, Nb, Nc, Nd, Nx, Nf]))
    refine wpAnyH_ready (rs := [17]) (by kernel_rfl) (by simp) ?_
    refine (AllReadyH.cons rfl (fun K7 hK7 => ?_) AllReadyH.nil)
    have RX := RXX.out
    obtain ⟨y0, y1, y2, y3, y4, y5, y6⟩ := row7 RX
    have yl := RX.lt
    have yf0 := RX.frozen 0
    have yf1 := RX.frozen 1
    have yf2 := RX.frozen 2
    have yf3 := RX.frozen 3
    have yf4 := RX.frozen 4
    have yf5 := RX.frozen 5
    have yf6 := RX.frozen 6
    clear hS0
    go_simp
    have hst : StayF (fun j => W.heap.size ≤ j ∧ j ≠ gx) wc2 (((((((wc2.setCell ⟨gx, 0, none⟩ (.slice A0' n0 c0')).setCell ⟨gx, 1, none⟩ (.int .u64 r.e)).setCell ⟨gx, 2, none⟩ (.slice As' ns cs')).setCell ⟨gx, 3, none⟩ (.int .u64 (r.l.E : Int))).setCell ⟨gx, 4, none⟩ (.slice (A 0) (n 0) (c 0))).setCell ⟨gx, 5, none⟩ (.slice (A 1) (n 1) (c 1))).setCell ⟨gx, 6, none⟩ (.slice (A 2) (n 2) (c 2))) := ((((((((StayF.refl _ _).trans (StayF.set (fun h => h.2 rfl))).trans (StayF.set (fun h => h.2 rfl))).trans (StayF.set (fun h => h.2 rfl))).trans (StayF.set (fun h => h.2 rfl))).trans (StayF.set (fun h => h.2 rfl))).trans (StayF.set (fun h => h.2 rfl))).trans (StayF.set (fun h => h.2 rfl)))
    have hb9 : Below w1.heap.size w1 (((((((wc2.setCell ⟨gx, 0, none⟩ (.slice A0' n0 c0')).setCell ⟨gx, 1, none⟩ (.int .u64 r.e)).setCell ⟨gx, 2, none⟩ (.slice As' ns cs')).setCell ⟨gx, 3, none⟩ (.int .u64 (r.l.E : Int))).setCell ⟨gx, 4, none⟩ (.slice (A 0) (n 0) (c 0))).setCell ⟨gx, 5, none⟩ (.slice (A 1) (n 1) (c 1))).setCell ⟨gx, 6, none⟩ (.slice (A 2) (n 2) (c 2))) := (((((((HX.out.setCell (p := ⟨gx, 0, none⟩) (by have := HGX.out; simp; omega) _).setCell (p := ⟨gx, 1, none⟩) (by have := HGX.out; simp; omega) _).setCell (p := ⟨gx, 2, none⟩) (by have := HGX.out; simp; omega) _).setCell (p := ⟨gx, 3, none⟩) (by have := HGX.out; simp; omega) _).setCell (p := ⟨gx, 4, none⟩) (by have := HGX.out; simp; omega) _).setCell (p := ⟨gx, 5, none⟩) (by have := HGX.out; simp; omega) _).setCell (p := ⟨gx, 6, none⟩) (by have := HGX.out; simp; omega) _)
    have HO := hide (show OwnS W (((((((wc2.setCell ⟨gx, 0, none⟩ (.slice A0' n0 c0')).setCell ⟨gx, 1, none⟩ (.int .u64 r.e)).setCell ⟨gx, 2, none⟩ (.slice As' ns cs')).setCell ⟨gx, 3, none⟩ (.int .u64 (r.l.E : Int))).setCell ⟨gx, 4, none⟩ (.slice (A 0) (n 0) (c 0))).setCell ⟨gx, 5, none⟩ (.slice (A 1) (n 1) (c 1))).setCell ⟨gx, 6, none⟩ (.slice (A 2) (n 2) (c 2))) gx 0 A0' As' n0 c0' ns cs' A n c r from ⟨by have h := (((((((RX.set 0 (.slice A0' n0 c0')).set 1 (.int .u64 r.e)).set 2 (.slice As' ns cs')).set 3 (.int .u64 (r.l.E : Int))).set 4 (.slice (A 0) (n 0) (c 0))).set 5 (.slice (A 1) (n 1) (c 1))).set 6 (.slice (A 2) (n 2) (c 2))); simpa using h, by have := HGX.out; have := HS1.out; omega, (RdF.typ O1.out RX (by decide)).stay hst, HC1.out, (RdF.typ O2.out RX (by decide)).stay hst, HC2.out, fun j hj => absurd hj (by omega), HB1.out.trans (hb9.mono (by have := HS1.out; omega))⟩)
    have HB9 := hide hb9
    clear hb9 hst RX y0 y1 y2 y3 y4 y5 y6 yf0 yf1 yf2 yf3 yf4 yf5 yf6 yl
    generalize World.setCell _ _ _ = w9 at *
    refine hK7.out _ _ (HSX.out _ HB9.out) (fun _ => ?_)
    clear hK7 K7
    (try simp only [Act.put, Na, Nb, Nc, Nd, Nx, Nf])
    refine wpAnyH_done (by kernel_rfl) ?_ _
    go_wp2_with fail
    go_meet
    case rel => exact ⟨gx, A0', As', c0', cs', rfl, HB9.out, HO.out⟩
  ·
   go_simp
   have RXX := hide (RowAt.new wd 34 #[.slice none 0 0, .int .u64 0, .slice none 0 0, .int .u64 0, .slice none 0 0, .slice none 0 0, .slice none 0 0])
   have HG := hide ((Below.refl wd.heap.size wd).alloc (Nat.le_refl _) (.cells #[.slice none 0 0, .int .u64 0, .slice none 0 0, .int .u64 0, .slice none 0 0, .slice none 0 0, .slice none 0 0] 34))
   obtain ⟨gx, hgx⟩ : ∃ gx, wd.heap.size = gx := ⟨_, rfl⟩
   have HGX := hide (show w1.heap.size ≤ gx from by rw [← hgx]; exact HX.out.size)
   rw [hgx] at RXX ⊢
   have hX2 := HX.out.trans (HG.out.mono HX.out.size)
   replace HX := hide hX2
   clear hX2 hS0
   generalize wd.alloc (.cells #[.slice none 0 0, .int .u64 0, .slice none 0 0, .int .u64 0, .slice none 0 0, .slice none 0 0, .slice none 0 0] 34) = wa0 at *
   clear HG hgx
   have hS0 := HSX.out _ HX.out
   refine hK1.out _ _ (hS0) (fun _ => ?_)
   clear hK1 K1
   (try simp only [Act.put, Na, Nb, Nc, Nd, Nx, Nf])
   refine wpAnyH_ready (rs := [3]) (by kernel_rfl) (by simp) ?_
   refine (AllReadyH.cons rfl (fun K8 hK8 => ?_) AllReadyH.nil)
   go_simp
   with_reducible refine (CloneS wa0.heap.size A0 n0 c0 (Cs encE r.sl) wa0 (H.out.sl.rd.below HX.out |>.more HX.out.size) (Nat.le_refl _) (Cs_one_cell encE_one _) (by rw [← H.out.l0]; exact HF.out.sl)).mono ?_
   rintro e wc1 ⟨v, rfl, hown, hb⟩
   obtain ⟨A0', c0', rfl, hca1, hca2⟩ := own_form2 hown
   have HC1 := hide hca1
   replace RXX := hide (RXX.out.below hb)
   have O1 := hide (own_lo (b := W.heap.size) hown (Nat.le_trans HB1.out.size HX.out.size))
   have hX2 := HX.out.trans (hb.mono HX.out.size)
   replace HX := hide hX2
   clear hX2 hS0 hown hb hca1 hca2
   have hS0 := HSX.out _ HX.out
   refine hK8.out _ _ (hS0) (fun _ => ?_)
   clear hK8 K8
   (try simp only [Act.put, Na, Nb, Nc, Nd, Nx, Nf])
   (refine tkH (i := 4) (v := ?_) rfl (Or.inl ⟨by rfl, ?_⟩) ?_; rotate_left; (focus (intro w hSw; (try dsimp only at hSw); obtain ⟨a, b, c, d, e, f, g, h⟩ := hSw; go_simp; first | done | with_reducible rfl)); (try simp only [Act.put, Na, Nb, Nc, Nd, Nx, Nf]))
   refine wpAnyH_ready (rs := [11]) (by kernel_rfl) (by simp) ?_
   refine (AllReadyH.cons rfl (fun K9 hK9 => ?_) AllReadyH.nil)
   go_simp
   with_reducible refine (Pn.CloneW wc1.heap.size As ns cs (Cs encW r.S) wc1 (H.out.S.rd.below HX.out |>.more HX.out.size) (Nat.le_refl _) (Cs_one_cell encW_one _) (by rw [← H.out.ls]; exact HF.out.S)).mono ?_
   rintro e wc2 ⟨v, rfl, hown, hb⟩
   obtain ⟨As', cs', rfl, hca1, hca2⟩ := own_form2 hown
   have HC2 := hide (And.intro hca1 hca2)
   replace O1 := hide (own_keepB O1.out hb)
   replace RXX := hide (RXX.out.below hb)
   have O2 := hide (own_lo (b := W.heap.size) hown (Nat.le_trans HB1.out.size HX.out.size))
   have hX2 := HX.out.trans (hb.mono HX.out.size)
   replace HX := hide hX2
   clear hX2 hS0 hown hb hca1 hca2
   have hS0 := HSX.out _ HX.out
   refine hK9.out _ _ (hS0) (fun _ => ?_)
   clear hK9 K9
   (try simp only [Act.put, Na, Nb, Nc, Nd, Nx, Nf])
   (refine tkH (i := 12) (v := ?_) rfl (Or.inl ⟨by rfl, ?_⟩) ?_; rotate_left; (focus (intro w hSw; (try dsimp only at hSw); obtain ⟨a, b, c, d, e, f, g, h⟩ := hSw; go_simp; first | done | with_reducible rfl)); (try simp only [Act.put, Na, Nb, Nc, Nd, Nx, Nf]))
   (refine tkH (i := 15) (v := ?_) rfl (Or.inl ⟨by rfl, ?_⟩) ?_; rotate_left; (focus (intro w hSw; (try dsimp only at hSw); obtain ⟨a, b, c, d, e, f, g, h⟩ := hSw; go_simp; first | done | with_reducible rfl)); (try simp only [Act.put, Na, Nb, Nc, Nd, Nx, Nf]))
   refine wpAnyH_ready (rs := [17]) (by kernel_rfl) (by simp) ?_
   refine (AllReadyH.cons rfl (fun K10 hK10 => ?_) AllReadyH.nil)
   have RX := RXX.out
   obtain ⟨y0, y1, y2, y3, y4, y5, y6⟩ := row7 RX
   have yl := RX.lt
   have yf0 := RX.frozen 0
   have yf1 := RX.frozen 1
   have yf2 := RX.frozen 2
   have yf3 := RX.frozen 3
   have yf4 := RX.frozen 4
   have yf5 := RX.frozen 5
   have yf6 := RX.frozen 6
   clear hS0
   go_simp
   have hst : StayF (fun j => W.heap.size ≤ j ∧ j ≠ gx) wc2 (((((((wc2.setCell ⟨gx, 0, none⟩ (.slice A0' n0 c0')).setCell ⟨gx, 1, none⟩ (.int .u64 r.e)).setCell ⟨gx, 2, none⟩ (.slice As' ns cs')).setCell ⟨gx, 3, none⟩ (.int .u64 (r.l.E : Int))).setCell ⟨gx, 4, none⟩ (.slice (A 0) (n 0) (c 0))).setCell ⟨gx, 5, none⟩ (.slice (A 1) (n 1) (c 1))).setCell ⟨gx, 6, none⟩ (.slice (A 2) (n 2) (c 2))) := ((((((((StayF.refl _ _).trans (StayF.set (fun h => h.2 rfl))).trans (StayF.set (fun h => h.2 rfl))).trans (StayF.set (fun h => h.2 rfl))).trans (StayF.set (fun h => h.2 rfl))).trans (StayF.set (fun h => h.2 rfl))).trans (StayF.set (fun h => h.2 rfl))).trans (StayF.set (fun h => h.2 rfl)))
   have hb9 : Below w1.heap.size w1 (((((((wc2.setCell ⟨gx, 0, none⟩ (.slice A0' n0 c0')).setCell ⟨gx, 1, none⟩ (.int .u64 r.e)).setCell ⟨gx, 2, none⟩ (.slice As' ns cs')).setCell ⟨gx, 3, none⟩ (.int .u64 (r.l.E : Int))).setCell ⟨gx, 4, none⟩ (.slice (A 0) (n 0) (c 0))).setCell ⟨gx, 5, none⟩ (.slice (A 1) (n 1) (c 1))).setCell ⟨gx, 6, none⟩ (.slice (A 2) (n 2) (c 2))) := (((((((HX.out.setCell (p := ⟨gx, 0, none⟩) (by have := HGX.out; simp; omega) _).setCell (p := ⟨gx, 1, none⟩) (by have := HGX.out; simp; omega) _).setCell (p := ⟨gx, 2, none⟩) (by have := HGX.out; simp; omega) _).setCell (p := ⟨gx, 3, none⟩) (by have := HGX.out; simp; omega) _).setCell (p := ⟨gx, 4, none⟩) (by have := HGX.out; simp; omega) _).setCell (p := ⟨gx, 5, none⟩) (by have := HGX.out; simp; omega) _).setCell (p := ⟨gx, 6, none⟩) (by have := HGX.out; simp; omega) _)
   have HO := hide (show OwnS W (((((((wc2.setCell ⟨gx, 0, none⟩ (.slice A0' n0 c0')).setCell ⟨gx, 1, none⟩ (.int .u64 r.e)).setCell ⟨gx, 2, none⟩ (.slice As' ns cs')).setCell ⟨gx, 3, none⟩ (.int .u64 (r.l.E : Int))).setCell ⟨gx, 4, none⟩ (.slice (A 0) (n 0) (c 0))).setCell ⟨gx, 5, none⟩ (.slice (A 1) (n 1) (c 1))).setCell ⟨gx, 6, none⟩ (.slice (A 2) (n 2) (c 2))) gx 0 A0' As' n0 c0' ns cs' A n c r from ⟨by have h := (((((((RX.set 0 (.slice A0' n0 c0')).set 1 (.int .u64 r.e)).set 2 (.slice As' ns cs')).set 3 (.int .u64 (r.l.E : Int))).set 4 (.slice (A 0) (n 0) (c 0))).set 5 (.slice (A 1) (n 1) (c 1))).set 6 (.slice (A 2) (n 2) (c 2))); simpa using h, by have := HGX.out; have := HS1.out; omega, (RdF.typ O1.out RX (by decide)).stay hst, HC1.out, (RdF.typ O2.out RX (by decide)).stay hst, HC2.out, fun j hj => absurd hj (by omega), HB1.out.trans (hb9.mono (by have := HS1.out; omega))⟩)
   have HB9 := hide hb9
   clear hb9 hst RX y0 y1 y2 y3 y4 y5 y6 yf0 yf1 yf2 yf3 yf4 yf5 yf6 yl
   generalize World.setCell _ _ _ = w9 at *
   refine hK10.out _ _ (HSX.out _ HB9.out) (fun _ => ?_)
   clear hK10 K10
   (try simp only [Act.put, Na, Nb, Nc, Nd, Nx, Nf])
   refine wpAnyH_done (by kernel_rfl) ?_ _
   go_wp2_with fail
   go_meet
   case rel => exact ⟨gx, A0', As', c0', cs', rfl, HB9.out, HO.out⟩
 case rest =>
  rename_i K hK
  refine hK _ _ ?_
  clear hK K
  obtain ⟨w2, hw2⟩ : ∃ w, w = wc := ⟨_, rfl⟩
  subst hw2
  obtain ⟨gx, A0', As', c0', cs', rfl, hbx, hst⟩ := hcut
  have HBX := hide hbx
  have HST0 := hide hst
  have HGB := hide (show w1.heap.size ≤ gx from by have := hst.lo; have := HS1.out; omega)
  have R2 := hide (R1.out.below hbx)
  have H2 := hide (H.out.below hbx)
  clear hbx hst
  obtain ⟨z0, z1, z2, z3, z4, z5, z6⟩ := row7 R2.out
  have zl := R2.out.lt
  go_upto_region 3 with (fail)
  clear z0 z1 z2 z3 z4 z5 z6 zl
  go_loopw [25] (fun i wr => ∃ (k : Nat), k ≤ 3 ∧ i = .int .i64 (k : Int) ∧ Below w1.heap.size w1 wr ∧ ∃ A1 c1, OwnS W wr gx k A0' As' n0 c0' ns cs' A1 n c1 r) (fun i _ => 3 - (intOf i).toNat)
  case atStart => exact ⟨0, by omega, rfl, HBX.out, A, c, HST0.out⟩
  case round =>
   obtain ⟨k, hk, rfl, hbw, A1, c1, hst⟩ := hrel
   have HST := hide hst
   have HBW := hide hbw
   clear hst hbw
   by_cases hlt : k < 3
   ·
    have hki : (k : Int) < 3 := by omega
    have hix := Li.index_rows A n c k hlt
    have HCL := hide (CloneE wr.heap.size (A k) (n k) (c k) (Cs encE (r.l.r k)) wr (((H.out.rw k hlt).rd.below HBW.out).more HBW.out.size) (Nat.le_refl _) (Cs_one_cell encE_one _) (by rw [← H.out.ll k hlt]; exact HF.out.rw k hlt))
    go_wp2_with fail
    with_reducible refine HCL.out.mono ?_
    rintro e w3 ⟨v, rfl, hown, hb⟩
    obtain ⟨A3, c3, rfl, hc3, hcm3⟩ := own_form2 hown
    have HN := hide (HST.out.next hlt hb A3 c3 hown ⟨hc3, hcm3⟩)
    have HBN := hide ((HBW.out.trans (hb.mono HBW.out.size)).setCell (p := ⟨gx, 4 + k, none⟩) (HGB.out) (.slice A3 (n k) c3))
    have hc0 : w3.cell? ⟨gx, 4 + k, none⟩ = some (.slice (A1 k) (n k) (c1 k)) := ((HST.out.row.below hb).cell (4 + k)).trans (recC_at _ _ _ _ _ _ _ _ _ _ _ hlt)
    have hcl := (HST.out.row.below hb).lt
    have hcf := (HST.out.row.below hb).frozen (4 + k)
    clear hown hb HCL hix
    go_wp2_with fail
    go_roundw
    case rel => exact ⟨k + 1, by omega, by go_num, HBN.out, _, _, HN.out⟩
    case measure => simp [intOf]; omega
   ·
    obtain rfl : k = 3 := by omega
    obtain ⟨z0, z1, z2, z3, z4, z5, z6⟩ := row7 HST.out.row
    have zl := HST.out.row.lt
    go_wp2_with fail
    have HR9 := hide (RowAt.new wr 95 (handC r.e r.l.E A0' As' n0 c0' ns cs' A1 n c1 o00 none 0 0))
    have HB9 := hide ((Below.refl wr.heap.size wr).alloc (Nat.le_refl _) (.cells (handC r.e r.l.E A0' As' n0 c0' ns cs' A1 n c1 o00 none 0 0) 95))
    obtain ⟨w9, hw9⟩ : ∃ w9, wr.alloc (.cells (handC r.e r.l.E A0' As' n0 c0' ns cs' A1 n c1 o00 none 0 0) 95) = w9 := ⟨_, rfl⟩
    dsimp only [handC, o00] at hw9
    rw [hw9]
    rw [show wr.alloc (.cells (handC r.e r.l.E A0' As' n0 c0' ns cs' A1 n c1 o00 none 0 0) 95) = w9 from hw9] at HR9 HB9
    clear z0 z1 z2 z3 z4 z5 z6 zl hw9
    go_ret
    refine ⟨⟨_, rfl, A0', As', n0, c0', ns, cs', A1, n, c1, HR9.out, ?_, ?_, rfl, HST.out.below.size⟩, HST.out.below.trans (HB9.out.mono HST.out.below.size)⟩
    ·
     have hst : StayF (fun j => W.heap.size ≤ j ∧ j ≠ gx) wr w9 := StayF.of_below HB9.out
     have up : ∀ j, (W.heap.size ≤ j ∧ j ≠ gx) → j < wr.heap.size → OffB W.heap.size wr.heap.size none j := fun j hj hl => ⟨hj.1, by omega, fun q hq => by cases hq⟩
     refine ⟨(HST.out.sl.up up).stay (StayF.of_below HB9.out), H.out.l0, HST.out.h0, (HST.out.S.up up).stay (StayF.of_below HB9.out), H.out.ls, HST.out.hs, fun j hj => ((HST.out.rw j hj hj).1.up up).stay (StayF.of_below HB9.out), H.out.ll, fun j hj => (HST.out.rw j hj hj).2⟩
    ·
     exact World.ownsRow_nil _ _ _ _
end Go.Proofs.YtkicidopjihjmaaGreat
set_option linter.unusedSimpArgs false
set_option linter.unusedVariables false
namespace Go.Proofs.YtkicidopjihjmaaGreat
def setAll (t : Int) (d : Int) (xs l : List (Int × Int)) : List (Int × Int) := l.foldl (fun ys e => ys.set e.1.toNat (t, e.2 + d)) xs
structure Fit (xs : List (Int × Int)) (tag : Int) (l : List (Int × Int)) : Prop where
 nodup : (l.map fun e => e.1.toNat).Nodup
 at_ : ∀ e ∈ l, 0 ≤ e.1 ∧ xs[e.1.toNat]? = some (tag, e.2)
theorem Fit.tail {xs : List (Int × Int)} {tag : Int} {e : Int × Int} {l : List (Int × Int)} (h : Fit xs tag (e :: l)) (s : Int × Int) : Fit (xs.set e.1.toNat s) tag l := by
 have hn := h.nodup
 rw [List.map_cons, List.nodup_cons] at hn
 refine ⟨hn.2, fun x hx => ?_⟩
 have h1 := h.at_ x (by simp [hx])
 refine ⟨h1.1, ?_⟩
 rw [List.getElem?_set_ne]
 ·
  exact h1.2
 ·
  intro he
  exact hn.1 (by rw [List.mem_map]; exact ⟨x, hx, he.symm⟩)
theorem Fit.lt {xs : List (Int × Int)} {tag : Int} {e : Int × Int} {l : List (Int × Int)} (h : Fit xs tag l) (he : e ∈ l) : e.1.toNat < xs.length := (List.getElem?_eq_some_iff.1 (h.at_ e he).2).1
theorem setAll_off (t d : Int) : ∀ (l xs : List (Int × Int)) (i : Nat), i ∉ l.map (fun e => e.1.toNat) → (setAll t d xs l)[i]? = xs[i]?
 | [], xs, i, _ => rfl
 | e :: l, xs, i, h => by
  rw [List.map_cons, List.mem_cons, not_or] at h
  have := setAll_off t d l (xs.set e.1.toNat (t, e.2 + d)) i h.2
  have h2 : (setAll t d xs (e :: l)) = setAll t d (xs.set e.1.toNat (t, e.2 + d)) l := rfl
  rw [h2, this, List.getElem?_set_ne (fun hh => h.1 hh.symm)]
theorem setAll_at (t d : Int) : ∀ (l xs : List (Int × Int)), (l.map fun e => e.1.toNat).Nodup → ∀ e ∈ l, e.1.toNat < xs.length → (setAll t d xs l)[e.1.toNat]? = some (t, e.2 + d)
 | [], _, _, _, h, _ => by cases h
 | x :: l, xs, hn, e, he, hl => by
  rw [List.map_cons, List.nodup_cons] at hn
  have h2 : (setAll t d xs (x :: l)) = setAll t d (xs.set x.1.toNat (t, x.2 + d)) l := rfl
  rw [h2]
  rcases List.mem_cons.1 he with rfl | he
  ·
   rw [setAll_off _ _ _ _ _ hn.1, List.getElem?_set_self (by simpa using hl)]
  ·
   exact setAll_at t d l _ hn.2 e he (by simpa using hl)
theorem Fit.set {xs : List (Int × Int)} {tag : Int} {l : List (Int × Int)} (h : Fit xs tag l) (t : Int) : Fit (setAll t 0 xs l) t l :=
 ⟨h.nodup, fun e he => ⟨(h.at_ e he).1, by rw [setAll_at t 0 l xs h.nodup e he (h.lt he), Int.add_zero]⟩⟩
def cnt (xs : List (Int × Int)) (t : Int) : Nat := xs.countP fun s => decide (s.1 = t)
theorem entsF_cnt (tag : Int) : ∀ (xs : List (Int × Int)) (i : Nat), (entsF tag i xs).length = cnt xs tag
 | [], _ => rfl
 | s :: xs, i => by
  have := entsF_cnt tag xs (i + 1)
  unfold cnt at *
  simp only [entsF, List.countP_cons]
  by_cases h : s.1 = tag <;> simp [h, this]
theorem ents_cnt (xs : List (Int × Int)) (tag : Int) : (ents xs tag).length = cnt xs tag := entsF_cnt tag xs 0
theorem cnt_set (xs : List (Int × Int)) (t : Int) (k : Nat) (s old : Int × Int) (hk : xs[k]? = some old) : cnt (xs.set k s) t + (if old.1 = t then 1 else 0) = cnt xs t + (if s.1 = t then 1 else 0) := by
 induction xs generalizing k with
 | nil => simp at hk
 | cons x xs ih =>
  cases k with
  | zero =>
   simp at hk; subst hk
   simp only [cnt, List.set_cons_zero, List.countP_cons, decide_eq_true_eq]
   omega
  | succ k =>
   have := ih k (by simpa using hk)
   simp only [cnt, List.set_cons_succ, List.countP_cons, decide_eq_true_eq] at this ⊢
   omega
end Go.Proofs.YtkicidopjihjmaaGreat
set_option linter.unusedSimpArgs false
set_option linter.unusedVariables false
namespace Go.Proofs.YtkicidopjihjmaaGreat
open Go Go.RowKit
theorem entsF_iff (tag : Int) : ∀ (ss : List Ent) (i : Nat) (e : Ent), e ∈ entsF tag i ss ↔ ∃ j, e.1 = ((i + j : Nat) : Int) ∧ ss[j]? = some (tag, e.2)
 | [], i, e => by simp [entsF]
 | s :: ss, i, e => by
  constructor
  ·
   intro h
   obtain ⟨j, h1, h2, h3⟩ := entsF_mem tag (s :: ss) i e h
   exact ⟨j, h2, h3⟩
  ·
   rintro ⟨j, h1, h2⟩
   simp only [entsF]
   cases j with
   | zero =>
    simp at h2
    rw [if_pos (by rw [h2])]
    refine List.mem_cons.2 (.inl ?_)
    rw [h2]
    exact Prod.ext h1 rfl
   | succ j =>
    have h3 : e ∈ entsF tag (i + 1) ss := (entsF_iff tag ss (i + 1) e).2 ⟨j, by rw [h1]; omega, by simpa using h2⟩
    split
    ·
     exact List.mem_cons.2 (.inr h3)
    ·
     exact h3
theorem ents_iff {ss : List Ent} {tag : Int} {e : Ent} : e ∈ ents ss tag ↔ 0 ≤ e.1 ∧ ss[e.1.toNat]? = some (tag, e.2) := by
 unfold ents
 rw [entsF_iff]
 constructor
 ·
  rintro ⟨j, h1, h2⟩
  rw [Nat.zero_add] at h1
  refine ⟨by omega, ?_⟩
  rw [h1, Int.toNat_natCast]
  exact h2
 ·
  rintro ⟨h1, h2⟩
  exact ⟨e.1.toNat, by omega, h2⟩
theorem ents_off {ss : List Ent} {k : Nat} {s old : Ent} {u : Int} (hk : ss[k]? = some old) (h1 : old.1 ≠ u) (h2 : s.1 ≠ u) : (∀ y, y ∈ ents (ss.set k s) u ↔ y ∈ ents ss u) ∧ (ents (ss.set k s) u).length = (ents ss u).length := by
 refine ⟨fun y => ?_, ?_⟩
 ·
  rw [ents_iff, ents_iff, List.getElem?_set]
  by_cases e : k = y.1.toNat
  ·
   rw [if_pos e]
   subst e
   rw [if_pos (List.getElem?_eq_some_iff.1 hk).1, hk]
   simp only [Option.some.injEq]
   constructor
   ·
    rintro ⟨_, h⟩; rw [h] at h2; exact absurd rfl h2
   ·
    rintro ⟨_, h⟩; rw [h] at h1; exact absurd rfl h1
  ·
   rw [if_neg e]
 ·
  rw [ents_cnt, ents_cnt]
  have := cnt_set ss u k s old hk
  rw [if_neg h1, if_neg h2] at this
  omega
theorem ents_in {ss : List Ent} {k : Nat} {s old : Ent} {u : Int} (hk : ss[k]? = some old) (h1 : old.1 ≠ u) (h2 : s.1 = u) : (∀ y, y ∈ ents ss u → y ∈ ents (ss.set k s) u) ∧ (((k : Nat) : Int), s.2) ∈ ents (ss.set k s) u ∧ (ents (ss.set k s) u).length = (ents ss u).length + 1 := by
 refine ⟨fun y hy => ?_, ?_, ?_⟩
 ·
  rw [ents_iff] at hy ⊢
  refine ⟨hy.1, ?_⟩
  rw [List.getElem?_set, if_neg (fun e => by rw [e, hy.2] at hk; injection hk with hk; rw [← hk] at h1; exact h1 rfl)]
  exact hy.2
 ·
  rw [ents_iff]
  refine ⟨by simp, ?_⟩
  rw [List.getElem?_set]
  simp only [Int.toNat_natCast, if_true]
  rw [if_pos (List.getElem?_eq_some_iff.1 hk).1, ← h2]
 ·
  rw [ents_cnt, ents_cnt]
  have := cnt_set ss u k s old hk
  rw [if_neg h1, if_pos h2] at this
  omega
theorem ents_out {ss : List Ent} {k : Nat} {s old : Ent} {u : Int} (hk : ss[k]? = some old) (h1 : old.1 = u) (h2 : s.1 ≠ u) : (∀ y, y ∈ ents ss u → y.1 ≠ (k : Int) → y ∈ ents (ss.set k s) u) ∧ (ents (ss.set k s) u).length + 1 = (ents ss u).length := by
 refine ⟨fun y hy hne => ?_, ?_⟩
 ·
  rw [ents_iff] at hy ⊢
  refine ⟨hy.1, ?_⟩
  rw [List.getElem?_set, if_neg (by omega)]
  exact hy.2
 ·
  rw [ents_cnt, ents_cnt]
  have := cnt_set ss u k s old hk
  rw [if_pos h1, if_neg h2] at this
  omega
theorem meant_at {ss : List Ent} {e : Ent} (h : meantB ss e = true) : 0 ≤ e.1 ∧ ss[e.1.toNat]? = some (tagOf ss e, e.2) := by
 obtain ⟨k, h1, h2, h3⟩ := meantB_out h
 refine ⟨by omega, ?_⟩
 rw [h1, Int.toNat_natCast]
 unfold tagOf
 rw [h1, Int.toNat_natCast, ← h3]
 rw [List.getD_eq_getElem?_getD, List.getElem?_eq_getElem h2]
 rfl
structure WfR (r : Rec) : Prop where
 ok : OkR r
 sn : ∀ s ∈ r.S, 0 ≤ s
 gn : ∀ s ∈ r.sl, 0 ≤ s.2
theorem held_row {l : Li.Lim} {k : Nat} (hk : k < 3) {x : Ent} (hx : x ∈ l.r k) : x ∈ l.held := by
 obtain ⟨a, ha, h⟩ : ∃ a, a < 3 ∧ Li.rowN l.E a = k := by
  unfold Li.rowN
  have h3 := Nat.mod_lt l.E (show 0 < 3 by omega)
  exact ⟨(l.E + 3 - k) % 3, Nat.mod_lt _ (by omega), by omega⟩
 have h2 : x ∈ l.at a := by unfold Li.Lim.at; rw [h]; exact hx
 unfold Li.Lim.held
 simp only [List.mem_append]
 obtain rfl | rfl | rfl : a = 0 ∨ a = 1 ∨ a = 2 := by omega
 ·
  exact .inr (.inr h2)
 ·
  exact .inr (.inl h2)
 ·
  exact .inl h2
theorem WfR.fit {r : Rec} (h : WfR r) : FitR r := by
 obtain ⟨a1, a2, a3⟩ := arOk_out h.ok.ar
 obtain ⟨p1, p2, p3, p4⟩ := Pn.pOk_out h.ok.pn
 obtain ⟨l1, _⟩ := Li.ok_out h.ok.lm
 have he := h.ok.ep
 have hL : r.l.E ≤ 4611686018427387904 := l1
 refine ⟨by omega, by omega, fun k hk => by have := Li.row_len h.ok.lm hk; omega, ⟨by omega, by omega⟩, fun x hx => ?_, by omega, fun k hk x hx => ?_⟩
 ·
  have := p4 x hx
  have := h.sn x hx
  unfold U64; omega
 ·
  obtain ⟨_, _, h3⟩ := ents_mem (h.ok.sub x (held_row hk hx))
  have hm := List.mem_of_getElem? h3
  have := h.gn _ hm
  have h4 := slabOk_out (a3 _ hm)
  exact ⟨this, by have := h4.2.2; dsimp only at this; omega⟩
theorem gn_set {ss : List Ent} (h : ∀ s ∈ ss, 0 ≤ s.2) {k : Nat} {s : Ent} (hs : 0 ≤ s.2) : ∀ x ∈ ss.set k s, 0 ≤ x.2 := fun x hx => by
 rcases List.mem_or_eq_of_mem_set hx with hx | rfl
 ·
  exact h x hx
 ·
  exact hs
theorem wf_sl {r : Rec} (h : WfR r) {k : Nat} {s old : Ent} (hk : r.sl[k]? = some old) (h1 : old.1 ≠ 2) (h2 : s.1 ≠ 2) (hs : slabOk s = true) (hg : 0 ≤ s.2) : WfR ⟨r.sl.set k s, r.e, r.S, r.l⟩ := by
 obtain ⟨e1, e2⟩ := ents_off hk h1 h2
 exact ⟨⟨arOk_set h.ok.ar k s hs, h.ok.pn, h.ok.lm, h.ok.ep, fun x hx => (e1 x).2 (h.ok.sub x hx), h.ok.len.trans e2.symm⟩, h.sn, gn_set h.gn hg⟩
theorem wf_pin {r r' : Rec} {told t' : List Ent} {o : EOp} {k : Int} (h : WfR r) (hk : k = 1 ∨ k = 2) (hb : 0 ≤ o.b) (hs : pinR r told o k = .ok (r', t')) : WfR r' ∧ t' = told := by
 unfold pinR at hs
 split at hs
 ·
  rename_i h0
  injection hs with hs
  injection hs with hs1 hs2
  subst hs1
  have hd : Pn.dE r.e r.S k o.g o.b = 0 := by unfold Pn.doE at h0; rw [if_pos h.ok.pn] at h0; exact h0
  have he : 0 ≤ r.e := by have := h.ok.ep; omega
  have hx : Pn.doX r.e r.S k o.g o.b = r.e := by unfold Pn.doX; rw [if_pos h0]; unfold Pn.dX; rw [if_neg (by omega)]
  have hS : Pn.doS r.e r.S k o.g o.b = Pn.dS r.e r.S k o.g o.b := by unfold Pn.doS; rw [if_pos h0]
  have hp := Pn.pOk_do h.ok.pn he hb hd
  have hn := Pn.dS_nonneg h.sn hd he
  refine ⟨⟨⟨h.ok.ar, ?_, h.ok.lm, ?_, h.ok.sub, h.ok.len⟩, ?_, h.gn⟩, hs2.symm⟩
  ·
   show Pn.pOk (Pn.doX _ _ _ _ _) (Pn.doS _ _ _ _ _) = true
   rw [hx, hS]
   have : Pn.dX r.e k = r.e := by unfold Pn.dX; rw [if_neg (by omega)]
   rwa [this] at hp
  ·
   show (r.l.E : Int) = Pn.doX _ _ _ _ _
   rw [hx]; exact h.ok.ep
  ·
   show ∀ s ∈ Pn.doS _ _ _ _ _, 0 ≤ s
   rw [hS]; exact hn
 ·
  cases hs
theorem wf_take {r r' : Rec} {told t' : List Ent} (h : WfR r) (hs : takeR r told = .ok (r', t')) : WfR r' ∧ ∃ e, e ∈ ents r.sl 0 ∧ t' = told ++ [e] ∧ r' = ⟨r.sl.set e.1.toNat (1, e.2), r.e, r.S, r.l⟩ := by
 unfold takeR at hs
 split at hs
 ·
  rename_i h0
  injection hs with hs
  injection hs with hs1 hs2
  have hl : 0 < (ents r.sl 0).length := by unfold tkE at h0; rw [if_pos h.ok.ar] at h0; split at h0 <;> first | omega | (split at h0 <;> omega)
  have e1 : tkA r.sl 1 = put1 1 r.sl (ents r.sl 0)[0] := by unfold tkA; rw [if_pos h0]; exact tk_succ r.sl 0 hl
  have e2 : tkL r.sl 1 = [(ents r.sl 0)[0]] := by
   unfold tkL; rw [if_pos h0]
   show (ents r.sl 0).take 1 = _
   rw [List.take_one, List.head?_eq_getElem?, List.getElem?_eq_getElem hl]; rfl
  have hm : (ents r.sl 0)[0] ∈ ents r.sl 0 := List.getElem_mem _
  obtain ⟨m1, m2⟩ := ents_iff.1 hm
  have hmm := List.mem_of_getElem? m2
  have hg := h.gn _ hmm
  have hsl := slabOk_out ((arOk_out h.ok.ar).2.2 _ hmm)
  have hr : r' = ⟨r.sl.set (ents r.sl 0)[0].1.toNat (1, (ents r.sl 0)[0].2), r.e, r.S, r.l⟩ := by rw [← hs1, e1]; rfl
  refine ⟨?_, _, hm, by rw [← hs2, e2], hr⟩
  rw [hr]
  exact wf_sl h m2 (show (0 : Int) ≠ 2 by omega) (show (1 : Int) ≠ 2 by omega) (slabOk_mk (by omega) (by omega) hsl.2.2) hg
 ·
  cases hs
theorem giv_one {ss ys : List Ent} {x : Ent} (ho : arOk ss = true) (h0 : gvE ss [x] = 0) : meantB ss x = true ∧ tagOf ss x ≠ 0 ∧ x.2 < 1099511627775 ∧ gvA ss [x] = ss.set x.1.toNat (0, x.2 + 1) := by
 unfold gvE at h0
 unfold gvA
 rw [if_pos ho] at h0 ⊢
 simp only [givS] at h0 ⊢
 by_cases h1 : meantB ss x = true ∧ tagOf ss x ≠ 0
 ·
  rw [if_pos h1] at h0 ⊢
  by_cases h2 : x.2 < 1099511627775
  ·
   rw [if_pos h2] at h0 ⊢
   exact ⟨h1.1, h1.2, h2, rfl⟩
  ·
   rw [if_neg h2] at h0; simp at h0
 ·
  rw [if_neg h1] at h0; simp at h0
theorem ret_one {ss : List Ent} {x : Ent} (ho : arOk ss = true) (h0 : rtE ss [x] = 0) : meantB ss x = true ∧ tagOf ss x = 1 ∧ rtA ss [x] = ss.set x.1.toNat (2, x.2) := by
 unfold rtE at h0
 unfold rtA
 rw [if_pos ho] at h0 ⊢
 simp only [retS] at h0 ⊢
 by_cases h1 : meantB ss x = true ∧ tagOf ss x = 1
 ·
  rw [if_pos h1]
  exact ⟨h1.1, h1.2, rfl⟩
 ·
  rw [if_neg h1] at h0; simp at h0
theorem wf_back {r r' : Rec} {told t' : List Ent} {x : Ent} (h : WfR r) (hs : backR r told x = .ok (r', t')) : WfR r' ∧ t' = told ∧ meantB r.sl x = true ∧ tagOf r.sl x = 1 ∧ x.2 < 1099511627775 ∧ r' = ⟨r.sl.set x.1.toNat (0, x.2 + 1), r.e, r.S, r.l⟩ := by
 unfold backR at hs
 split at hs
 ·
  rename_i hm
  split at hs
  ·
   rename_i h0
   injection hs with hs
   injection hs with hs1 hs2
   obtain ⟨g1, g2, g3, g4⟩ := giv_one (ys := []) h.ok.ar h0
   obtain ⟨m1, m2⟩ := meant_at g1
   have hmm := List.mem_of_getElem? m2
   have hg := h.gn _ hmm
   rw [hm.2] at m2
   rw [g4] at hs1
   refine ⟨?_, hs2.symm, g1, hm.2, g3, hs1.symm⟩
   rw [← hs1]
   exact wf_sl h m2 (show (1 : Int) ≠ 2 by omega) (show (0 : Int) ≠ 2 by omega) (slabOk_mk (by omega) (by omega) (by omega)) (by have hg : 0 ≤ x.2 := hg; show 0 ≤ x.2 + 1; omega)
  ·
   cases hs
 ·
  cases hs
theorem wf_reti {r r' : Rec} {told t' : List Ent} {x : Ent} (h : WfR r) (hs : retiR r told x = .ok (r', t')) : WfR r' ∧ t' = told ∧ meantB r.sl x = true ∧ tagOf r.sl x = 1 ∧ ∃ l, Li.doRet r.l x = .ok l ∧ r' = ⟨r.sl.set x.1.toNat (2, x.2), r.e, r.S, l⟩ := by
 unfold retiR at hs
 split at hs
 ·
  rename_i h0
  obtain ⟨g1, g2, g3⟩ := ret_one h.ok.ar h0
  split at hs
  ·
   rename_i l hl
   injection hs with hs
   injection hs with hs1 hs2
   have hl : Li.doRet r.l x = .ok l := by unfold Li.retR at hl; rw [if_pos h.ok.lm] at hl; exact hl
   obtain ⟨m1, m2⟩ := meant_at g1
   have hmm := List.mem_of_getElem? m2
   have hg : 0 ≤ x.2 := h.gn (tagOf r.sl x, x.2) hmm
   have hsl := slabOk_out ((arOk_out h.ok.ar).2.2 _ hmm)
   rw [g2] at m2
   rw [g3] at hs1
   obtain ⟨e1, e2, e3⟩ := ents_in (s := (2, x.2)) (u := 2) m2 (show (1 : Int) ≠ 2 by omega) rfl
   have hh := Li.held_ret hl
   have hE := (Li.each_ret hl).2.1
   refine ⟨?_, hs2.symm, g1, g2, l, hl, hs1.symm⟩
   rw [← hs1]
   refine ⟨⟨arOk_set h.ok.ar _ _ (slabOk_mk (by omega) (by omega) hsl.2.2), h.ok.pn, Li.ok_ret h.ok.lm hl, ?_, fun y hy => ?_, ?_⟩, h.sn, gn_set h.gn hg⟩
   ·
    show (l.E : Int) = r.e
    rw [hE]; exact h.ok.ep
   ·
    have hy : y ∈ l.held := hy
    rw [hh, List.mem_append, List.mem_singleton] at hy
    rcases hy with hy | rfl
    ·
     exact e1 y (h.ok.sub y hy)
    ·
     have : ((y.1.toNat : Nat) : Int) = y.1 := by omega
     rw [this] at e2
     exact e2
   ·
    show l.held.length = _
    rw [hh, List.length_append, h.ok.len]
    exact e3.symm
  ·
   cases hs
 ·
  cases hs
theorem okP_apart {E : Nat} : ∀ {l : List (Nat × Ent)} {met : List Int}, Li.okP E l met = true → ∀ p ∈ l, p.2.1 ∈ met → False
 | [], _, _, _, hp, _ => by cases hp
 | q :: l, met, h, p, hp, hm => by
  simp only [Li.okP, Bool.and_eq_true] at h
  rcases List.mem_cons.1 hp with rfl | hp
  ·
   have h1 := h.1.2.2
   simp at h1
   exact h1 hm
  ·
   exact okP_apart h.2 p hp (List.mem_cons_of_mem _ hm)
theorem tak_out {l l' : Li.Lim} {x : Ent} (ho : l.ok = true) (h : Li.takR l = .ok (l', x)) : Li.doTake l = .ok (l', x) := by
 unfold Li.takR at h; rw [if_pos ho] at h; exact h
theorem wf_free {r r' : Rec} {told t' : List Ent} (h : WfR r) (hs : freeR r told = .ok (r', t')) : WfR r' ∧ ∃ l x, Li.doTake r.l = .ok (l, x) ∧ x ∈ ents r.sl 2 ∧ x.2 < 1099511627775 ∧ t' = told ++ [x] ∧ r' = ⟨r.sl.set x.1.toNat (0, x.2 + 1), r.e, r.S, l⟩ := by
 unfold freeR at hs
 split at hs
 ·
  rename_i l x hl
  split at hs
  ·
   rename_i h0
   injection hs with hs
   injection hs with hs1 hs2
   have hl := tak_out h.ok.lm hl
   obtain ⟨g1, g2, g3, g4⟩ := giv_one (ys := []) h.ok.ar h0
   have hh := Li.held_take hl
   have hx : x ∈ ents r.sl 2 := h.ok.sub x (by rw [hh]; simp)
   obtain ⟨m1, m2⟩ := ents_iff.1 hx
   have hg : 0 ≤ x.2 := h.gn (2, x.2) (List.mem_of_getElem? m2)
   rw [g4] at hs1
   obtain ⟨e1, e2⟩ := ents_out (s := (0, x.2 + 1)) (u := 2) m2 rfl (show (0 : Int) ≠ 2 by omega)
   refine ⟨?_, l, x, hl, hx, g3, hs2.symm, hs1.symm⟩
   rw [← hs1]
   refine ⟨⟨arOk_set h.ok.ar _ _ (slabOk_mk (by omega) (by omega) (by omega)), h.ok.pn, Li.ok_take h.ok.lm hl, ?_, fun y hy => ?_, ?_⟩, h.sn, gn_set h.gn (by show 0 ≤ x.2 + 1; omega)⟩
   ·
    show (l.E : Int) = r.e
    rw [(Li.each_take hl).2.1]; exact h.ok.ep
   ·
    have hy : y ∈ l.held := hy
    refine e1 y (h.ok.sub y (by rw [hh]; simp [hy])) (fun hc => ?_)
    have h1 := (Li.ok_out h.ok.lm).2
    rw [(Li.each_take hl).1] at h1
    have h2 : y ∈ l.each.map (·.2) := by rw [Li.each_held]; exact hy
    obtain ⟨p, hp, rfl⟩ := List.mem_map.1 h2
    rw [show ((2, x) :: l.each : List (Nat × Ent)) = [(2, x)] ++ l.each from rfl, Li.okP_append] at h1
    simp only [Bool.and_eq_true] at h1
    refine okP_apart h1.2 p hp (by simp [Li.metOf]; omega)
   ·
    show l.held.length = _
    have := h.ok.len
    rw [hh, List.length_cons] at this
    show l.held.length = (ents (r.sl.set x.1.toNat (0, x.2 + 1)) 2).length
    omega
  ·
   cases hs
 ·
  cases hs
theorem go_parts {r r' : Rec} {told t' : List Ent} {o : EOp} (h : WfR r) (hs : goR r told o = .ok (r', t')) : t' = told ∧ r.l.at 2 = [] ∧ r.S.any (Pn.heldB r.e) = false ∧ r.e ≠ 4611686018427387904 ∧ ∃ l, Li.doAdv r.l = .ok l ∧ r' = ⟨r.sl, r.e + 1, r.S, l⟩ := by
 unfold goR at hs
 rw [if_pos h.ok.lm] at hs
 split at hs
 ·
  rename_i hl
  have hl : r.l.at 2 = [] := List.length_eq_zero_iff.1 hl
  split at hs
  ·
   rename_i r1 t1 hp
   unfold pinR at hp
   split at hp
   ·
    rename_i h0
    injection hp with hp
    injection hp with hp1 hp2
    have hd : Pn.dE r.e r.S 3 o.g o.b = 0 := by unfold Pn.doE at h0; rw [if_pos h.ok.pn] at h0; exact h0
    have hx : Pn.doX r.e r.S 3 o.g o.b = r.e + 1 := by unfold Pn.doX; rw [if_pos h0]; rfl
    have hS : Pn.doS r.e r.S 3 o.g o.b = r.S := by unfold Pn.doS; rw [if_pos h0]; rfl
    rw [hx, hS] at hp1
    subst hp1
    split at hs
    ·
     rename_i l hl2
     injection hs with hs
     injection hs with hs1 hs2
     have hl2 : Li.doAdv r.l = .ok l := by unfold Li.advR at hl2; rw [if_pos h.ok.lm] at hl2; exact hl2
     have hc := Pn.dE_cases r.e r.S 3 o.g o.b hd
     simp at hc
     exact ⟨by rw [← hs2, hp2], hl, by simpa using hc.1, hc.2, l, hl2, hs1.symm⟩
    ·
     cases hs
   ·
    cases hp
  ·
   cases hs
 ·
  cases hs
theorem wf_go {r r' : Rec} {told t' : List Ent} {o : EOp} (h : WfR r) (hs : goR r told o = .ok (r', t')) : WfR r' := by
 obtain ⟨_, hl, hS, he, l, hl2, rfl⟩ := go_parts h hs
 obtain ⟨p1, p2, p3, p4⟩ := Pn.pOk_out h.ok.pn
 refine ⟨⟨h.ok.ar, Pn.pOk_mk ⟨p1, p2, by show r.e + 1 ≤ _; omega, fun s hs => by have := p4 s hs; show s ≤ r.e + 1 + 1; omega⟩, Li.ok_adv h.ok.lm hl2, ?_, fun x hx => ?_, ?_⟩, h.sn, h.gn⟩
 ·
  show (l.E : Int) = r.e + 1
  rw [(Li.each_adv hl2).2.1]
  have := h.ok.ep; omega
 ·
  have hx : x ∈ l.held := hx
  rw [Li.held_adv hl2] at hx
  exact h.ok.sub x hx
 ·
  show l.held.length = _
  rw [Li.held_adv hl2]
  exact h.ok.len
theorem wf_step {r r' : Rec} {told t' : List Ent} {o : EOp} (h : WfR r) (hb : 0 ≤ o.b) (hs : stepR r told o = .ok (r', t')) : WfR r' := by
 unfold stepR at hs
 split at hs
 ·
  exact (wf_pin h (.inl rfl) hb hs).1
 split at hs
 ·
  exact (wf_pin h (.inr rfl) hb hs).1
 split at hs
 ·
  exact (wf_take h hs).1
 split at hs
 ·
  exact (wf_back h hs).1
 split at hs
 ·
  exact (wf_reti h hs).1
 split at hs
 ·
  exact (wf_free h hs).1
 split at hs
 ·
  exact wf_go h hs
 ·
  cases hs
end Go.Proofs.YtkicidopjihjmaaGreat
set_option linter.unusedSimpArgs false
set_option linter.unusedVariables false
namespace Go.Proofs.YtkicidopjihjmaaGreat
open Go Go.RowKit
theorem pin_ne {r : Rec} {told : List Ent} {o : EOp} {k e : Int} (h : pinR r told o k = .error e) : e ≠ 0 := by
 unfold pinR at h
 split at h
 ·
  cases h
 ·
  rename_i h0; injection h with h; rw [← h]; exact h0
theorem free_ne {r : Rec} {told : List Ent} {e : Int} (h : freeR r told = .error e) : e ≠ 0 := by
 unfold freeR at h
 split at h
 ·
  split at h
  ·
   cases h
  ·
   rename_i h0; injection h with h; rw [← h]; exact h0
 ·
  rename_i k hk
  injection h with h
  subst h
  unfold Li.takR at hk
  split at hk
  ·
   unfold Li.doTake at hk
   split at hk
   ·
    injection hk with hk; omega
   ·
    cases hk
  ·
   injection hk with hk; omega
theorem reti_ne {r : Rec} {told : List Ent} {x : Ent} {e : Int} (h : retiR r told x = .error e) : e ≠ 0 := by
 unfold retiR at h
 split at h
 ·
  split at h
  ·
   cases h
  ·
   rename_i k hk
   injection h with h
   subst h
   unfold Li.retR at hk
   split at hk
   ·
    exact Li.doRet_ne hk
   ·
    injection hk with hk; omega
 ·
  rename_i h0; injection h with h; rw [← h]; exact h0
theorem go_ne {r : Rec} {told : List Ent} {o : EOp} {e : Int} (h : goR r told o = .error e) : e ≠ 0 := by
 unfold goR at h
 generalize (if r.l.ok = true then r.l.at 2 else []).length = n at h
 split at h
 ·
  split at h
  ·
   split at h
   ·
    cases h
   ·
    rename_i k hk
    injection h with h
    subst h
    unfold Li.advR at hk
    split at hk
    ·
     unfold Li.doAdv at hk
     split at hk
     ·
      injection hk with hk; omega
     ·
      split at hk
      ·
       cases hk
      ·
       injection hk with hk; omega
    ·
     injection hk with hk; omega
  ·
   rename_i hp
   injection h with h
   subst h
   exact pin_ne hp
 ·
  injection h with h; omega
theorem step_ne {r : Rec} {told : List Ent} {o : EOp} {e : Int} (h : stepR r told o = .error e) : e ≠ 0 := by
 unfold stepR at h
 split at h
 ·
  exact pin_ne h
 split at h
 ·
  exact pin_ne h
 split at h
 ·
  unfold takeR at h
  split at h
  ·
   cases h
  ·
   rename_i h0; injection h with h; rw [← h]; exact h0
 split at h
 ·
  unfold backR at h
  split at h
  ·
   split at h
   ·
    cases h
   ·
    rename_i h0; injection h with h; rw [← h]; exact h0
  ·
   injection h with h; omega
 split at h
 ·
  exact reti_ne h
 split at h
 ·
  exact free_ne h
 split at h
 ·
  exact go_ne h
 ·
  injection h with h; omega
theorem step_told {r r' : Rec} {told t' : List Ent} {o : EOp} (h : WfR r) (hb : 0 ≤ o.b) (hs : stepR r told o = .ok (r', t')) : t' = told ∨ ∃ x, t' = told ++ [x] := by
 unfold stepR at hs
 split at hs
 ·
  exact .inl (wf_pin h (.inl rfl) hb hs).2
 split at hs
 ·
  exact .inl (wf_pin h (.inr rfl) hb hs).2
 split at hs
 ·
  obtain ⟨_, e, _, h1, _⟩ := wf_take h hs; exact .inr ⟨e, h1⟩
 split at hs
 ·
  exact .inl (wf_back h hs).2.1
 split at hs
 ·
  exact .inl (wf_reti h hs).2.1
 split at hs
 ·
  obtain ⟨_, l, x, _, _, _, h1, _⟩ := wf_free h hs; exact .inr ⟨x, h1⟩
 split at hs
 ·
  exact .inl (go_parts h hs).1
 ·
  cases hs
theorem fitO {r : Rec} {o : EOp} (hb : 0 ≤ o.b) (hx : U64 o.x.2) : (tkL r.sl 1).length ≤ 4096 := by
 unfold tkL
 split
 ·
  rw [List.length_take]; show min 1 _ ≤ _; omega
 ·
  exact Nat.zero_le _
def oFree : EOp := ⟨6, 0, 0, (0, 0)⟩
def oGo : EOp := ⟨7, 0, 0, (0, 0)⟩
theorem step_free (r : Rec) (t : List Ent) : stepR r t oFree = freeR r t := rfl
theorem step_go (r : Rec) (t : List Ent) : stepR r t oGo = goR r t oGo := rfl
def freesF : Nat → Rec → List Ent → Rec × List Ent
 | 0, r, t => (r, t)
 | n + 1, r, t => match freeR r t with
  | .ok (r', t') => freesF n r' t'
  | .error _ => (r, t)
def freesR (r : Rec) (t : List Ent) : Rec × List Ent := freesF r.l.held.length r t
theorem free_held {r r' : Rec} {t t' : List Ent} (h : WfR r) (hs : freeR r t = .ok (r', t')) : r.l.held.length = r'.l.held.length + 1 ∧ t'.length = t.length + 1 := by
 obtain ⟨_, l, x, hl, _, _, h1, h2⟩ := wf_free h hs
 rw [h2, h1, Li.held_take hl]
 simp
theorem freesR_ok {r r' : Rec} {t t' : List Ent} (h : WfR r) (hs : freeR r t = .ok (r', t')) : freesR r t = freesR r' t' := by
 unfold freesR
 rw [(free_held h hs).1]
 show (match freeR r t with | .ok (r', t') => freesF _ r' t' | .error _ => (r, t)) = _
 rw [hs]
theorem freesR_no {r : Rec} {t : List Ent} {k : Int} (hs : freeR r t = .error k) : freesR r t = (r, t) := by
 unfold freesR
 cases r.l.held.length with
 | zero => rfl
 | succ n =>
  show (match freeR r t with | .ok (r', t') => freesF _ r' t' | .error _ => (r, t)) = _
  rw [hs]
theorem frees_ind {P : Rec → List Ent → Prop} (step : ∀ r t r' t', WfR r → P r t → freeR r t = .ok (r', t') → P r' t') : ∀ (n : Nat) (r : Rec) (t : List Ent), WfR r → r.l.held.length = n → P r t → P (freesR r t).1 (freesR r t).2 ∧ WfR (freesR r t).1 ∧ ∃ k, freeR (freesR r t).1 (freesR r t).2 = .error k := by
 intro n
 induction n with
 | zero =>
  intro r t h hn hp
  have h0 : freesR r t = (r, t) := by unfold freesR; rw [hn]; rfl
  rw [h0]
  refine ⟨hp, h, ?_⟩
  cases hs : freeR r t with
  | error k => exact ⟨k, rfl⟩
  | ok x => have := (free_held h (r' := x.1) (t' := x.2) hs).1; omega
 | succ n ih =>
  intro r t h hn hp
  cases hs : freeR r t with
  | error k => rw [freesR_no hs]; exact ⟨hp, h, k, hs⟩
  | ok x =>
   rw [freesR_ok h (r' := x.1) (t' := x.2) hs]
   have hl := (free_held h (r' := x.1) (t' := x.2) hs).1
   exact ih x.1 x.2 (wf_free h (r' := x.1) (t' := x.2) hs).1 (by omega) (step r t x.1 x.2 h hp hs)
def triesR (r : Rec) (t : List Ent) : Rec × List Ent × Bool :=
 match goR (freesR r t).1 (freesR r t).2 oGo with
 | .ok (r', t') => ((freesR r' t').1, (freesR r' t').2, true)
 | .error _ => ((freesR r t).1, (freesR r t).2, false)
def contR (b : Bool) (r : Rec) (t : List Ent) : Rec × List Ent × Bool := if b = true then ((freesR r t).1, (freesR r t).2, true) else triesR r t
theorem contR_free {b : Bool} {r r' : Rec} {t t' : List Ent} (h : WfR r) (hs : freeR r t = .ok (r', t')) : contR b r t = contR b r' t' := by
 unfold contR triesR
 rw [freesR_ok h hs]
theorem contR_go {r r' : Rec} {t t' : List Ent} {k : Int} (hs : freeR r t = .error k) (hg : goR r t oGo = .ok (r', t')) : contR false r t = contR true r' t' := by
 unfold contR triesR
 simp only [Bool.false_eq_true, if_false, if_true]
 rw [freesR_no hs]
 simp only [hg]
theorem contR_stay {r : Rec} {t : List Ent} {k k2 : Int} (hs : freeR r t = .error k) (hg : goR r t oGo = .error k2) : contR false r t = (r, t, false) := by
 unfold contR triesR
 simp only [Bool.false_eq_true, if_false]
 rw [freesR_no hs]
 simp only [hg]
theorem contR_end {r : Rec} {t : List Ent} {k : Int} (hs : freeR r t = .error k) : contR true r t = (r, t, true) := by
 unfold contR
 simp only [if_true]
 rw [freesR_no hs]
theorem go_held {r r' : Rec} {t t' : List Ent} (h : WfR r) (hs : goR r t oGo = .ok (r', t')) : r'.l.held = r.l.held ∧ t' = t ∧ r'.l.E = r.l.E + 1 ∧ r.l.E < Li.LAST := by
 obtain ⟨h1, _, _, _, l, hl, rfl⟩ := go_parts h hs
 exact ⟨Li.held_adv hl, h1, (Li.each_adv hl).2.1, (Li.each_adv hl).2.2.1⟩
theorem tries_ind {P : Rec → List Ent → Prop} (step : ∀ r t r' t', WfR r → P r t → freeR r t = .ok (r', t') → P r' t') (go : ∀ r t r' t', WfR r → P r t → goR r t oGo = .ok (r', t') → P r' t') {r : Rec} {t : List Ent} (h : WfR r) (hp : P r t) : P (triesR r t).1 (triesR r t).2.1 ∧ WfR (triesR r t).1 := by
 obtain ⟨h1, h2, _⟩ := frees_ind step _ r t h rfl hp
 unfold triesR
 cases hg : goR (freesR r t).1 (freesR r t).2 oGo with
 | error k => exact ⟨h1, h2⟩
 | ok x =>
  have h3 := wf_go h2 (r' := x.1) (t' := x.2) hg
  obtain ⟨h4, h5, _⟩ := frees_ind step _ x.1 x.2 h3 rfl (go _ _ x.1 x.2 h2 h1 hg)
  exact ⟨h4, h5⟩
def lastT (t : List Ent) : Ent := t.getLastD (0, 0)
def doR (r : Rec) (o : EOp) : Rec × Ent × Int :=
 if r.ok = true then (match stepR r [] o with
  | .ok (r', t) => (r', lastT t, 0)
  | .error k => (rec0, (0, 0), k))
 else (rec0, (0, 0), 250)
def runL : Rec → List Ent → Nat → List EOp → Option (Rec × List Ent × Nat)
 | r, t, n, [] => some (r, t, n)
 | r, t, n, o :: l => match stepR r t o with
  | .ok (r', t') => runL r' t' n l
  | .error k => if k = 251 then none else runL r t (n + 1) l
def runOut : Option (Rec × List Ent × Nat) → Rec × List Ent × Nat × Int
 | some x => (x.1, x.2.1, x.2.2, 0)
 | none => (rec0, [], 0, 251)
def runR (r : Rec) (l : List EOp) : Rec × List Ent × Nat × Int :=
 if r.ok = true then runOut (runL r [] 0 l) else (rec0, [], 0, 250)
def tryR (r : Rec) : Rec × List Ent × Bool × Int := if r.ok = true then ((triesR r []).1, (triesR r []).2.1, (triesR r []).2.2, 0) else (rec0, [], false, 250)
end Go.Proofs.YtkicidopjihjmaaGreat
