/-
  Does a monitor's layer do anything?
-/
import Derived.Test.YtfpbabafeecncaaMowr
import Derived.Deep.RegionHeld3
import Derived.Deep.CutRange
import Derived.Deep.CutBlock
set_option linter.unusedSimpArgs false
set_option linter.unusedVariables false
namespace Go.Proofs.Ytfpbabafeecncaa
open Go Go.RowKit
attribute [local go_sem] via_cell via_frozen

set_option maxRecDepth 100000 in
set_option maxHeartbeats 64000000 in
theorem wakes_any (W : World) : Calls Try.prog 7 #[] W fun e W' => e = .returned (.bool true) ∧ Below W.heap.size W W' := by
  obtain ⟨w1, hw1⟩ : ∃ w1, W.alloc (.cells #[.int .i64 0, .int .u64 0] 43) = w1 := ⟨_, rfl⟩
  obtain ⟨w2, hw2⟩ : ∃ w2, w1.alloc (.cells #[.int .i64 0, .int .u64 0] 43) = w2 := ⟨_, rfl⟩
  have s1 : w1.heap.size = W.heap.size + 1 := by rw [← hw1]; simp
  have b1 : Below W.heap.size W w1 := by rw [← hw1]; exact (Below.refl _ _).alloc (Nat.le_refl _) _
  have b2 : Below w1.heap.size w1 w2 := by rw [← hw2]; exact (Below.refl _ _).alloc (Nat.le_refl _) _
  have r1 : RowAt w2 W.heap.size 43 #[.int .i64 0, .int .u64 0] := by have h := RowAt.new W 43 #[.int .i64 0, .int .u64 0]; rw [hw1] at h; exact h.below b2
  have r2 : RowAt w2 (W.heap.size + 1) 43 #[.int .i64 0, .int .u64 0] := by have h := RowAt.new w1 43 #[.int .i64 0, .int .u64 0]; rw [hw2, s1] at h; exact h
  have HE := hide (show WkE W w2 from ⟨r1, r2, b1.trans (b2.mono b1.size)⟩)
  have HC := hide (New_any 2 2 w2)
  clear b1 b2 r1 r2 s1
  subst hw2
  subst hw1
  go_enter Try.func7, Try.ntmps7
  go_wp2_with fail
  generalize (W.alloc (.cells #[.int .i64 0, .int .u64 0] 43)).alloc (.cells #[.int .i64 0, .int .u64 0] 43) = w2 at *
  with_reducible refine HC.out.mono ?_
  rintro e w3 ⟨⟨v, rfl, hm⟩, hb⟩
  have hm : MonOut 0 w3 v (newM 2 2) := hm
  have HM := hide hm
  obtain ⟨xa0, xa1, xa2, xa3, xn0, xn1, xn2, xn3, xc0, xc1, xc2, xc3, rfl⟩ := hm.form
  replace HE := hide (HE.out.keep hb)
  clear hb HC hm
  go_upto_region 3 with (refine wpList_store_new rfl 32 _ _ rfl _ #[.slice xa0 xn0 xc0, .slice xa1 xn1 xc1, .slice xa2 xn2 xc2, .slice xa3 xn3 xc3] w3.heap.size rfl rfl rfl (by kernel_rfl) rfl (by simp [Value.oneCell']) ?_)
  have hbx : Below w3.heap.size w3 (w3.alloc (.cells #[.slice xa0 xn0 xc0, .slice xa1 xn1 xc1, .slice xa2 xn2 xc2, .slice xa3 xn3 xc3] 32)) := (Below.refl _ _).alloc (Nat.le_refl _) _
  have R3 := hide (RowAt.new w3 32 #[.slice xa0 xn0 xc0, .slice xa1 xn1 xc1, .slice xa2 xn2 xc2, .slice xa3 xn3 xc3])
  replace HM := hide (HM.out.below hbx)
  have HG3 := hide (show W.heap.size + 1 < w3.heap.size from HE.out.r2.lt)
  replace HE := hide (HE.out.keep hbx)
  have ke : outK (NewM 2 2) = 0 := rfl
  try rw [ke]
  clear hbx ke
  generalize w3.alloc (.cells #[.slice xa0 xn0 xc0, .slice xa1 xn1 xc1, .slice xa2 xn2 xc2, .slice xa3 xn3 xc3] 32) = w4 at *
  generalize w3.heap.size = g3 at *
  refine wk_r3 (N0 := W.heap.size) HE.out.below.size (by have := HG3.out; omega) R3.out HE.out.r1 HE.out.r2 HM.out _ _ _ (by simp) rfl rfl rfl _ (by kernel_rfl) (fun y26 y27 y28 y29 y30 y31 y32 y33 y34 y35 y36 y25 y37 y38 y39 A5 cc5 ya0 ya1 ya2 ya3 yn0 yn1 yn2 yn3 yc0 yc1 yc2 yc3 w5 b3 hb r1 r2 rm mm h3 hr => ?_)
  simp only [puts_cons, zC, zN, puts_nil, yZ, yS]
  have HEN := hide (show WkE W w5 from ⟨r1, r2, HE.out.below.trans hb⟩)
  have H3 := hide (show RowMon (g3 + 1) w5 g3 #[.slice ya0 yn0 yc0, .slice ya1 yn1 yc1, .slice ya2 yn2 yc2, .slice ya3 yn3 yc3] wk1 from ⟨rm, mm.up (Nat.le_trans R3.out.lt h3)⟩)
  have HR5 := hide hr
  clear HE HM R3 hb r1 r2 rm mm h3 hr
  have HE := HEN
  clear HEN
  go_upto_region 4 with (fail)
  refine wk_r4 (N0 := w5.heap.size) (Nat.le_refl _) H3.out.row HE.out.r1 HE.out.r2 H3.out.out _ _ _ (by simp) rfl rfl rfl _ (by kernel_rfl) (fun y41 y42 y43 y44 y45 y46 y47 y48 y49 y50 y51 y40 y52 y53 y54 A7 cc7 g7 za0 za1 za2 za3 zn0 zn1 zn2 zn3 zc0 zc1 zc2 zc3 w6 b3 hb r1 r2 hg rm0 rm mm h3 hr => ?_)
  simp only [puts_cons, zC, zN, puts_nil, yZ, yS]
  replace HE := hide (HE.out.keep hb)
  replace H3 := hide (H3.out.below hb)
  replace HR5 := hide (HR5.out.belowX hb)
  have R7 := hide rm
  have M7 := hide (mm.up (Nat.zero_le _))
  have HR7 := hide hr
  clear hb r1 r2 hg rm0 rm mm h3 hr
  go_upto_region 5 with (fail)
  refine wk_r5 H3.out.row HE.out.r1 H3.out.out _ _ _ (by simp) rfl rfl _ (by kernel_rfl) (fun y56 y57 y58 y59 y55 y60 y61 y62 g10 ge10 pa0 pa1 pa2 pa3 pn0 pn1 pn2 pn3 pc0 pc1 pc2 pc3 wc hb rr mm => ?_)
  simp only [puts_cons, zC, zN, puts_nil, yZ, yS]
  obtain ⟨w7, hw7⟩ : ∃ w, w = wc := ⟨_, rfl⟩
  subst hw7
  replace HE := hide (HE.out.keep hb)
  replace H3 := hide (H3.out.below hb)
  replace HR5 := hide (HR5.out.belowX hb)
  replace R7 := hide (R7.out.below hb)
  replace M7 := hide (M7.out.below hb)
  replace HR7 := hide (HR7.out.belowX hb)
  have R10 := hide rr
  have M10 := hide mm
  clear rr mm hb
  go_upto_region 6 with (fail)
  refine wk_r6 R7.out HE.out.r2 M7.out _ _ _ (by simp) rfl rfl _ (by kernel_rfl) (fun y64 y65 y66 y67 y63 y68 y69 y70 g13 ge13 qa0 qa1 qa2 qa3 qn0 qn1 qn2 qn3 qc0 qc1 qc2 qc3 wc hb rr mm => ?_)
  simp only [puts_cons, zC, zN, puts_nil, yZ, yS]
  obtain ⟨w8, hw8⟩ : ∃ w, w = wc := ⟨_, rfl⟩
  subst hw8
  replace HE := hide (HE.out.keep hb)
  replace H3 := hide (H3.out.below hb)
  replace HR5 := hide (HR5.out.belowX hb)
  replace R7 := hide (R7.out.below hb)
  replace HR7 := hide (HR7.out.belowX hb)
  replace R10 := hide (R10.out.below hb)
  replace M10 := hide (M10.out.below hb)
  have R13 := hide rr
  have M13 := hide mm
  have LB7 := hide (show zn3 = 1 from by obtain ⟨_, _, _, _, _, _, _, _, _, _, _, _, ts, hv, h1, _⟩ := M7.out; injection hv with hv; have h2 := (h1 _ (Nat.le_refl _) (fun _ _ _ => rfl)).l3; simp at hv; rw [hv.2.2.2.2.1, ← h2]; rfl)
  clear rr mm hb M7
  go_upto_region 7 with (fail)
  refine wk_r7 R13.out HE.out.r2 M13.out _ _ _ (by simp) rfl rfl _ (by kernel_rfl) (fun y72 y73 y74 y75 y71 y76 y77 y78 g16 ge16 ra0 ra1 ra2 ra3 rn0 rn1 rn2 rn3 rc0 rc1 rc2 rc3 wc hb rr mm => ?_)
  simp only [puts_cons, zC, zN, puts_nil, yZ, yS]
  obtain ⟨w9, hw9⟩ : ∃ w, w = wc := ⟨_, rfl⟩
  subst hw9
  replace HE := hide (HE.out.keep hb)
  replace H3 := hide (H3.out.below hb)
  replace HR5 := hide (HR5.out.belowX hb)
  replace R7 := hide (R7.out.below hb)
  replace HR7 := hide (HR7.out.belowX hb)
  replace R10 := hide (R10.out.below hb)
  replace M10 := hide (M10.out.below hb)
  have hz3 := LB7.out
  subst hz3
  clear rr mm hb R13 M13
  obtain ⟨a0, a1, _, _, _, _⟩ := HE.out.s1
  obtain ⟨x0, x1, x2, x3⟩ := row4 H3.out.row
  obtain ⟨z0, z1, z2, z3⟩ := row4 R7.out
  obtain ⟨p0, p1, p2, p3⟩ := row4 R10.out
  go_upto_region 8 with (fail)

  refine wp_region_held_drew (S := fun wX => Below w9.heap.size w9 wX) (by kernel_rfl) (Below.refl _ _).drew (fun hHeld => ?_)
  clear hHeld
  have HQ := hide ((Below.refl w9.heap.size w9).drew)
  have hS0 := HQ.out
  (refine tkO 0 (v := ?_) rfl (by kernel_rfl) (fun _ _ _ h => h) (by kernel_rfl) ?_ (by assumption) ?_; rotate_left; (focus (intro w hSw; (try dsimp only at hSw); go_simp; first | done | with_reducible rfl)); (try simp only [Act.put, zE, zS, zZ, zB, yZ, yS]))
  (refine tkO 1 (v := ?_) rfl (by kernel_rfl) (fun _ _ _ h => h) (by kernel_rfl) ?_ (by assumption) ?_; rotate_left; (focus (intro w hSw; (try dsimp only at hSw); go_simp; first | done | with_reducible rfl)); (try simp only [Act.put, zE, zS, zZ, zB, yZ, yS]))
  (refine tkO 2 (v := ?_) rfl (by kernel_rfl) (fun _ _ _ h => h) (by kernel_rfl) ?_ (by assumption) ?_; rotate_left; (focus (intro w hSw; (try dsimp only at hSw); go_simp; first | done | with_reducible rfl)); (try simp only [Act.put, zE, zS, zZ, zB, yZ, yS]))
  (refine tkO 3 (v := ?_) rfl (by kernel_rfl) (fun _ _ _ h => h) (by kernel_rfl) ?_ (by assumption) ?_; rotate_left; (focus (intro w hSw; (try dsimp only at hSw); go_simp; first | done | with_reducible rfl)); (try simp only [Act.put, zE, zS, zZ, zB, yZ, yS]))
  (refine tkO 4 (v := ?_) rfl (by kernel_rfl) (fun _ _ _ h => h) (by kernel_rfl) ?_ (by assumption) ?_; rotate_left; (focus (intro w hSw; (try dsimp only at hSw); go_simp; first | done | with_reducible rfl)); (try simp only [Act.put, zE, zS, zZ, zB, yZ, yS]))
  (refine tkO 5 (v := ?_) rfl (by kernel_rfl) (fun _ _ _ h => h) (by kernel_rfl) ?_ (by assumption) ?_; rotate_left; (focus (intro w hSw; (try dsimp only at hSw); go_simp; first | done | with_reducible rfl)); (try simp only [Act.put, zE, zS, zZ, zB, yZ, yS]))
  (refine tkO 6 (v := ?_) rfl (by kernel_rfl) (fun _ _ _ h => h) (by kernel_rfl) ?_ (by assumption) ?_; rotate_left; (focus (intro w hSw; (try dsimp only at hSw); go_simp; first | done | with_reducible rfl)); (try simp only [Act.put, zE, zS, zZ, zB, yZ, yS]))
  (refine tkO 7 (v := ?_) rfl (by kernel_rfl) (fun _ _ _ h => h) (by kernel_rfl) ?_ (by assumption) ?_; rotate_left; (focus (intro w hSw; (try dsimp only at hSw); go_simp; first | done | with_reducible rfl)); (try simp only [Act.put, zE, zS, zZ, zB, yZ, yS]))
  (refine tkO 8 (v := ?_) rfl (by kernel_rfl) (fun _ _ _ h => h) (by kernel_rfl) ?_ (by assumption) ?_; rotate_left; (focus (intro w hSw; (try dsimp only at hSw); go_simp; first | done | with_reducible rfl)); (try simp only [Act.put, zE, zS, zZ, zB, yZ, yS]))
  (refine tkO 9 (v := ?_) rfl (by kernel_rfl) (fun _ _ _ h => h) (by kernel_rfl) ?_ (by assumption) ?_; rotate_left; (focus (intro w hSw; (try dsimp only at hSw); go_simp; first | done | with_reducible rfl)); (try simp only [Act.put, zE, zS, zZ, zB, yZ, yS]))
  (refine tkO 10 (v := ?_) rfl (by kernel_rfl) (fun _ _ _ h => h) (by kernel_rfl) ?_ (by assumption) ?_; rotate_left; (focus (intro w hSw; (try dsimp only at hSw); go_simp; first | done | with_reducible rfl)); (try simp only [Act.put, zE, zS, zZ, zB, yZ, yS]))
  (refine tkO 11 (v := ?_) rfl (by kernel_rfl) (fun _ _ _ h => h) (by kernel_rfl) ?_ (by assumption) ?_; rotate_left; (focus (intro w hSw; (try dsimp only at hSw); go_simp; first | done | with_reducible rfl)); (try simp only [Act.put, zE, zS, zZ, zB, yZ, yS]))
  (refine tkO 12 (v := ?_) rfl (by kernel_rfl) (fun _ _ _ h => h) (by kernel_rfl) ?_ (by assumption) ?_; rotate_left; (focus (intro w hSw; (try dsimp only at hSw); go_simp; first | done | with_reducible rfl)); (try simp only [Act.put, zE, zS, zZ, zB, yZ, yS]))
  (refine tkO 13 (v := ?_) rfl (by kernel_rfl) (fun _ _ _ h => h) (by kernel_rfl) ?_ (by assumption) ?_; rotate_left; (focus (intro w hSw; (try dsimp only at hSw); go_simp; first | done | with_reducible rfl)); (try simp only [Act.put, zE, zS, zZ, zB, yZ, yS]))
  (refine tkO 14 (v := ?_) rfl (by kernel_rfl) (fun _ _ _ h => h) (by kernel_rfl) ?_ (by assumption) ?_; rotate_left; (focus (intro w hSw; (try dsimp only at hSw); go_simp; first | done | with_reducible rfl)); (try simp only [Act.put, zE, zS, zZ, zB, yZ, yS]))
  (refine tkO 15 (v := ?_) rfl (by kernel_rfl) (fun _ _ _ h => h) (by kernel_rfl) ?_ (by assumption) ?_; rotate_left; (focus (intro w hSw; (try dsimp only at hSw); go_simp; first | done | with_reducible rfl)); (try simp only [Act.put, zE, zS, zZ, zB, yZ, yS]))
  (refine tkO 16 (v := ?_) rfl (by kernel_rfl) (fun _ _ _ h => h) (by kernel_rfl) ?_ (by assumption) ?_; rotate_left; (focus (intro w hSw; (try dsimp only at hSw); go_simp; first | done | with_reducible rfl)); (try simp only [Act.put, zE, zS, zZ, zB, yZ, yS]))
  (refine tkO 17 (v := ?_) rfl (by kernel_rfl) (fun _ _ _ h => h) (by kernel_rfl) ?_ (by assumption) ?_; rotate_left; (focus (intro w hSw; (try dsimp only at hSw); go_simp; first | done | with_reducible rfl)); (try simp only [Act.put, zE, zS, zZ, zB, yZ, yS]))
  (refine tkO 18 (v := ?_) rfl (by kernel_rfl) (fun _ _ _ h => h) (by kernel_rfl) ?_ (by assumption) ?_; rotate_left; (focus (intro w hSw; (try dsimp only at hSw); go_simp; first | done | with_reducible rfl)); (try simp only [Act.put, zE, zS, zZ, zB, yZ, yS]))
  (refine tkO 19 (v := ?_) rfl (by kernel_rfl) (fun _ _ _ h => h) (by kernel_rfl) ?_ (by assumption) ?_; rotate_left; (focus (intro w hSw; (try dsimp only at hSw); go_simp; first | done | with_reducible rfl)); (try simp only [Act.put, zE, zS, zZ, zB, yZ, yS]))
  (refine tkO 20 (v := ?_) rfl (by kernel_rfl) (fun _ _ _ h => h) (by kernel_rfl) ?_ (by assumption) ?_; rotate_left; (focus (intro w hSw; (try dsimp only at hSw); go_simp; first | done | with_reducible rfl)); (try simp only [Act.put, zE, zS, zZ, zB, yZ, yS]))
  (refine tkO 21 (v := ?_) rfl (by kernel_rfl) (fun _ _ _ h => h) (by kernel_rfl) ?_ (by assumption) ?_; rotate_left; (focus (intro w hSw; (try dsimp only at hSw); go_simp; first | done | with_reducible rfl)); (try simp only [Act.put, zE, zS, zZ, zB, yZ, yS]))
  (refine tkO 22 (v := ?_) rfl (by kernel_rfl) (fun _ _ _ h => h) (by kernel_rfl) ?_ (by assumption) ?_; rotate_left; (focus (intro w hSw; (try dsimp only at hSw); go_simp; first | done | with_reducible rfl)); (try simp only [Act.put, zE, zS, zZ, zB, yZ, yS]))
  (refine tkO 23 (v := ?_) rfl (by kernel_rfl) (fun _ _ _ h => h) (by kernel_rfl) ?_ (by assumption) ?_; rotate_left; (focus (intro w hSw; (try dsimp only at hSw); go_simp; first | done | with_reducible rfl)); (try simp only [Act.put, zE, zS, zZ, zB, yZ, yS]))
  (refine tkO 24 (v := ?_) rfl (by kernel_rfl) (fun _ _ _ h => h) (by kernel_rfl) ?_ (by assumption) ?_; rotate_left; (focus (intro w hSw; (try dsimp only at hSw); have kf0 := kept hSw a0; have kf1 := kept hSw a1; go_simp; first | done | with_reducible rfl)); (try simp only [Act.put, zE, zS, zZ, zB, yZ, yS]))
  refine wpAnyH_ready (rs := [25]) (by kernel_rfl) (by simp) ?_
  refine (AllReadyH.cons rfl (fun K0 hK0 => ?_) AllReadyH.nil)
  rw [if_pos (by kernel_rfl)]
  go_simp
  have hb : Below w9.heap.size w9 (w9.alloc (.cells #[.int .i64 0, .int .u64 0] 43)).drew := ((Below.refl _ _).alloc (Nat.le_refl _) _).drew
  have S1 := hide (show Rd (w9.alloc (.cells #[.int .i64 0, .int .u64 0] 43)).drew (w9.alloc (.cells #[.int .i64 0, .int .u64 0] 43)).drew.heap.size 2 (some ⟨w9.heap.size, 0, none⟩) 1 (Cs encE [(0, 0)]) from ((Rd.new w9 #[.int .i64 0, .int .u64 0] 43 2 1 rfl).below (Below.refl _ _).drew).more (by simp))
  replace HQ := hide hb
  clear hb
  refine hK0.out _ _ (HQ.out) (fun _ => ?_)
  clear hK0 K0
  (try simp only [Act.put, zE, zS, zZ, zB, yZ, yS])
  generalize (w9.alloc (.cells #[.int .i64 0, .int .u64 0] 43)).drew = v1 at *
  clear hS0
  have hS0 := HQ.out
  refine wpAnyH_ready (rs := [26]) (by kernel_rfl) (by simp) ?_
  refine (AllReadyH.cons rfl (fun K1 hK1 => ?_) AllReadyH.nil)
  rw [if_pos (by kernel_rfl)]
  go_simp
  with_reducible refine (eqEn A5 (some ⟨w9.heap.size, 0, none⟩) cc5 1 1 1 [(0, 0)] [(0, 0)] v1 (HR5.out.belowX HQ.out) S1.out rfl rfl (by omega) (by omega) true rfl).mono ?_
  rintro e v2 ⟨rfl, hb⟩
  replace S1 := hide (S1.out.belowX hb)
  replace HQ := hide (HQ.out.trans (hb.mono HQ.out.size))
  clear hb
  refine hK1.out _ _ (HQ.out) (fun _ => ?_)
  clear hK1 K1
  (try simp only [Act.put, zE, zS, zZ, zB, yZ, yS])
  clear hS0
  have hS0 := HQ.out
  (refine tkO 27 (v := ?_) rfl (by kernel_rfl) (fun _ _ _ h => h) (by kernel_rfl) ?_ (by assumption) ?_; rotate_left; (focus (intro w hSw; (try dsimp only at hSw); go_simp; first | done | with_reducible rfl)); (try simp only [Act.put, zE, zS, zZ, zB, yZ, yS]))
  (refine tkO 28 (v := ?_) rfl (by kernel_rfl) (fun _ _ _ h => h) (by kernel_rfl) ?_ (by assumption) ?_; rotate_left; (focus (intro w hSw; (try dsimp only at hSw); go_simp; first | done | with_reducible rfl)); (try simp only [Act.put, zE, zS, zZ, zB, yZ, yS]))
  (refine tkO 29 (v := ?_) rfl (by kernel_rfl) (fun _ _ _ h => h) (by kernel_rfl) ?_ (by assumption) ?_; rotate_left; (focus (intro w hSw; (try dsimp only at hSw); go_simp; first | done | with_reducible rfl)); (try simp only [Act.put, zE, zS, zZ, zB, yZ, yS]))
  (refine tkO 30 (v := ?_) rfl (by kernel_rfl) (fun _ _ _ h => h) (by kernel_rfl) ?_ (by assumption) ?_; rotate_left; (focus (intro w hSw; (try dsimp only at hSw); go_simp; first | done | with_reducible rfl)); (try simp only [Act.put, zE, zS, zZ, zB, yZ, yS]))
  refine wpAnyH_ready (rs := [31]) (by kernel_rfl) (by simp) ?_
  refine (AllReadyH.cons rfl (fun K2 hK2 => ?_) AllReadyH.nil)
  rw [if_pos (by kernel_rfl)]
  go_simp
  have hb : Below v2.heap.size v2 (v2.alloc (.cells #[.int .i64 0, .int .u64 1] 43)) := (Below.refl _ _).alloc (Nat.le_refl _) _
  replace S1 := hide (S1.out.belowX hb)
  have S2 := hide (show Rd (v2.alloc (.cells #[.int .i64 0, .int .u64 1] 43)) (v2.alloc (.cells #[.int .i64 0, .int .u64 1] 43)).heap.size 2 (some ⟨v2.heap.size, 0, none⟩) 1 (Cs encE [(0, 1)]) from (Rd.new v2 #[.int .i64 0, .int .u64 1] 43 2 1 rfl).more (by simp))
  replace HQ := hide (HQ.out.trans (hb.mono HQ.out.size))
  clear hb
  refine hK2.out _ _ (HQ.out) (fun _ => ?_)
  clear hK2 K2
  (try simp only [Act.put, zE, zS, zZ, zB, yZ, yS])
  generalize (v2.alloc (.cells #[.int .i64 0, .int .u64 1] 43)) = v3 at *
  clear hS0
  have hS0 := HQ.out
  refine wpAnyH_ready (rs := [32]) (by kernel_rfl) (by simp) ?_
  refine (AllReadyH.cons rfl (fun K3 hK3 => ?_) AllReadyH.nil)
  rw [if_pos (by kernel_rfl)]
  go_simp
  with_reducible refine (eqEn A7 (some ⟨v2.heap.size, 0, none⟩) cc7 1 1 1 [(0, 1)] [(0, 1)] v3 (HR7.out.belowX HQ.out) S2.out rfl rfl (by omega) (by omega) true rfl).mono ?_
  rintro e v4 ⟨rfl, hb⟩
  replace S1 := hide (S1.out.belowX hb)
  replace S2 := hide (S2.out.belowX hb)
  replace HQ := hide (HQ.out.trans (hb.mono HQ.out.size))
  clear hb
  refine hK3.out _ _ (HQ.out) (fun _ => ?_)
  clear hK3 K3
  (try simp only [Act.put, zE, zS, zZ, zB, yZ, yS])
  clear hS0
  have hS0 := HQ.out
  (refine tkO 33 (v := ?_) rfl (by kernel_rfl) (fun _ _ _ h => h) (by kernel_rfl) ?_ (by assumption) ?_; rotate_left; (focus (intro w hSw; (try dsimp only at hSw); go_simp; first | done | with_reducible rfl)); (try simp only [Act.put, zE, zS, zZ, zB, yZ, yS]))
  (refine tkO 34 (v := ?_) rfl (by kernel_rfl) (fun _ _ _ h => h) (by kernel_rfl) ?_ (by assumption) ?_; rotate_left; (focus (intro w hSw; (try dsimp only at hSw); go_simp; first | done | with_reducible rfl)); (try simp only [Act.put, zE, zS, zZ, zB, yZ, yS]))
  (refine tkO 35 (v := ?_) rfl (by kernel_rfl) (fun _ _ _ h => h) (by kernel_rfl) ?_ (by assumption) ?_; rotate_left; (focus (intro w hSw; (try dsimp only at hSw); have kf0 := kept hSw x0; have kf1 := kept hSw x1; have kf2 := kept hSw x2; have kf3 := kept hSw x3; go_simp; first | done | with_reducible rfl)); (try simp only [Act.put, zE, zS, zZ, zB, yZ, yS]))
  (refine tkO 36 (v := ?_) rfl (by kernel_rfl) (fun _ _ _ h => h) (by kernel_rfl) ?_ (by assumption) ?_; rotate_left; (focus (intro w hSw; (try dsimp only at hSw); have kf0 := kept hSw a0; have kf1 := kept hSw a1; go_simp; first | done | with_reducible rfl)); (try simp only [Act.put, zE, zS, zZ, zB, yZ, yS]))
  refine wpAnyH_ready (rs := [37, 38]) (by kernel_rfl) (by simp) ?_
  refine (AllReadyH.cons rfl (fun K4 hK4 => ?_) (AllReadyH.cons rfl (fun K5 hK5 => ?_) AllReadyH.nil))
  · skip
    rw [if_pos (by kernel_rfl)]
    go_simp
    with_reducible refine (vHolders (H3.out.below HQ.out).out fit1 0 0 [0, 1] wkH 2 rfl).mono ?_
    rintro e v5 ⟨⟨AH, cH, rfl, hh⟩, hb⟩
    replace S1 := hide (S1.out.belowX hb)
    replace S2 := hide (S2.out.belowX hb)
    have HH := hide hh
    replace HQ := hide (HQ.out.trans (hb.mono HQ.out.size))
    clear hb hh
    refine hK4.out _ _ (HQ.out) (fun _ => ?_)
    clear hK4 K4
    (try simp only [Act.put, zE, zS, zZ, zB, yZ, yS])
    refine wpAnyH_ready (rs := [38]) (by kernel_rfl) (by simp) ?_
    refine (AllReadyH.cons rfl (fun K6 hK6 => ?_) AllReadyH.nil)
    rw [if_pos (by kernel_rfl)]
    go_simp
    have hb : Below v5.heap.size v5 (v5.alloc (.cells #[.int .i64 0, .int .i64 1] 3)) := (Below.refl _ _).alloc (Nat.le_refl _) _
    replace S1 := hide (S1.out.belowX hb)
    replace S2 := hide (S2.out.belowX hb)
    replace HH := hide (HH.out.belowX hb)
    have S3 := hide (show Rd (v5.alloc (.cells #[.int .i64 0, .int .i64 1] 3)) (v5.alloc (.cells #[.int .i64 0, .int .i64 1] 3)).heap.size 1 (some ⟨v5.heap.size, 0, none⟩) 2 (Cs encI [0, 1]) from (Rd.new v5 #[.int .i64 0, .int .i64 1] 3 1 2 rfl).more (by simp))
    replace HQ := hide (HQ.out.trans (hb.mono HQ.out.size))
    clear hb
    refine hK6.out _ _ (HQ.out) (fun _ => ?_)
    clear hK6 K6
    (try simp only [Act.put, zE, zS, zZ, zB, yZ, yS])
    generalize (v5.alloc (.cells #[.int .i64 0, .int .i64 1] 3)) = v6 at *
    refine wpAnyH_ready (rs := [39]) (by kernel_rfl) (by simp) ?_
    refine (AllReadyH.cons rfl (fun K7 hK7 => ?_) AllReadyH.nil)
    rw [if_pos (by kernel_rfl)]
    go_simp
    with_reducible refine (eqIn AH (some ⟨v5.heap.size, 0, none⟩) cH 2 2 2 [0, 1] [0, 1] v6 HH.out S3.out rfl rfl (by omega) (by omega) true rfl).mono ?_
    rintro e v7 ⟨rfl, hb⟩
    replace S1 := hide (S1.out.belowX hb)
    replace S2 := hide (S2.out.belowX hb)
    replace HH := hide (HH.out.belowX hb)
    replace S3 := hide (S3.out.belowX hb)
    replace HQ := hide (HQ.out.trans (hb.mono HQ.out.size))
    clear hb
    refine hK7.out _ _ (HQ.out) (fun _ => ?_)
    clear hK7 K7
    (try simp only [Act.put, zE, zS, zZ, zB, yZ, yS])
    clear hS0
    have hS0 := HQ.out
    (refine tkO 40 (v := ?_) rfl (by kernel_rfl) (fun _ _ _ h => h) (by kernel_rfl) ?_ (by assumption) ?_; rotate_left; (focus (intro w hSw; (try dsimp only at hSw); go_simp; first | done | with_reducible rfl)); (try simp only [Act.put, zE, zS, zZ, zB, yZ, yS]))
    (refine tkO 41 (v := ?_) rfl (by kernel_rfl) (fun _ _ _ h => h) (by kernel_rfl) ?_ (by assumption) ?_; rotate_left; (focus (intro w hSw; (try dsimp only at hSw); go_simp; first | done | with_reducible rfl)); (try simp only [Act.put, zE, zS, zZ, zB, yZ, yS]))
    (refine tkO 42 (v := ?_) rfl (by kernel_rfl) (fun _ _ _ h => h) (by kernel_rfl) ?_ (by assumption) ?_; rotate_left; (focus (intro w hSw; (try dsimp only at hSw); have kf0 := kept hSw x0; have kf1 := kept hSw x1; have kf2 := kept hSw x2; have kf3 := kept hSw x3; go_simp; first | done | with_reducible rfl)); (try simp only [Act.put, zE, zS, zZ, zB, yZ, yS]))
    (refine tkO 43 (v := ?_) rfl (by kernel_rfl) (fun _ _ _ h => h) (by kernel_rfl) ?_ (by assumption) ?_; rotate_left; (focus (intro w hSw; (try dsimp only at hSw); have kf0 := kept hSw a0; have kf1 := kept hSw a1; go_simp; first | done | with_reducible rfl)); (try simp only [Act.put, zE, zS, zZ, zB, yZ, yS]))
    refine wpAnyH_ready (rs := [44]) (by kernel_rfl) (by simp) ?_
    refine (AllReadyH.cons rfl (fun K8 hK8 => ?_) AllReadyH.nil)
    rw [if_pos (by kernel_rfl)]
    go_simp
    with_reducible refine (vSafe (H3.out.below HQ.out).out fit1 0 0 _ wkS).mono ?_
    rintro e v8 ⟨rfl, hb⟩
    replace S1 := hide (S1.out.belowX hb)
    replace S2 := hide (S2.out.belowX hb)
    replace HH := hide (HH.out.belowX hb)
    replace S3 := hide (S3.out.belowX hb)
    replace HQ := hide (HQ.out.trans (hb.mono HQ.out.size))
    clear hb
    refine hK8.out _ _ (HQ.out) (fun _ => ?_)
    clear hK8 K8
    (try simp only [Act.put, zE, zS, zZ, zB, yZ, yS])
    clear hS0
    have hS0 := HQ.out
    (refine tkO 45 (v := ?_) rfl (by kernel_rfl) (fun _ _ _ h => h) (by kernel_rfl) ?_ (by assumption) ?_; rotate_left; (focus (intro w hSw; (try dsimp only at hSw); go_simp; first | done | with_reducible rfl)); (try simp only [Act.put, zE, zS, zZ, zB, yZ, yS]))
    (refine tkO 46 (v := ?_) rfl (by kernel_rfl) (fun _ _ _ h => h) (by kernel_rfl) ?_ (by assumption) ?_; rotate_left; (focus (intro w hSw; (try dsimp only at hSw); go_simp; first | done | with_reducible rfl)); (try simp only [Act.put, zE, zS, zZ, zB, yZ, yS]))
    (refine tkO 47 (v := ?_) rfl (by kernel_rfl) (fun _ _ _ h => h) (by kernel_rfl) ?_ (by assumption) ?_; rotate_left; (focus (intro w hSw; (try dsimp only at hSw); go_simp; first | done | with_reducible rfl)); (try simp only [Act.put, zE, zS, zZ, zB, yZ, yS]))
    (refine tkO 48 (v := ?_) rfl (by kernel_rfl) (fun _ _ _ h => h) (by kernel_rfl) ?_ (by assumption) ?_; rotate_left; (focus (intro w hSw; (try dsimp only at hSw); have kf0 := kept hSw x0; have kf1 := kept hSw x1; have kf2 := kept hSw x2; have kf3 := kept hSw x3; go_simp; first | done | with_reducible rfl)); (try simp only [Act.put, zE, zS, zZ, zB, yZ, yS]))
    (refine tkO 49 (v := ?_) rfl (by kernel_rfl) (fun _ _ _ h => h) (by kernel_rfl) ?_ (by assumption) ?_; rotate_left; (focus (intro w hSw; (try dsimp only at hSw); have kf0 := kept hSw a0; have kf1 := kept hSw a1; go_simp; first | done | with_reducible rfl)); (try simp only [Act.put, zE, zS, zZ, zB, yZ, yS]))
    refine wpAnyH_ready (rs := [50]) (by kernel_rfl) (by simp) ?_
    refine (AllReadyH.cons rfl (fun K9 hK9 => ?_) AllReadyH.nil)
    rw [if_pos (by kernel_rfl)]
    go_simp
    with_reducible refine (watch_any 4 1 0 0 v8).mono ?_
    rintro e v9 ⟨rfl, hb⟩
    replace S1 := hide (S1.out.belowX hb)
    replace S2 := hide (S2.out.belowX hb)
    replace HH := hide (HH.out.belowX hb)
    replace S3 := hide (S3.out.belowX hb)
    replace HQ := hide (HQ.out.trans (hb.mono HQ.out.size))
    clear hb
    refine hK9.out _ _ (HQ.out) (fun _ => ?_)
    clear hK9 K9
    (try simp only [Act.put, zE, zS, zZ, zB, yZ, yS])
    clear hS0
    have hS0 := HQ.out
    refine wpAnyH_ready (rs := [51]) (by kernel_rfl) (by simp) ?_
    refine (AllReadyH.cons rfl (fun K10 hK10 => ?_) AllReadyH.nil)
    rw [if_pos (by kernel_rfl)]
    go_simp
    with_reducible refine (vGood (H3.out.below HQ.out).out fit1 4 1 0 0 _ wkG1).mono ?_
    rintro e v10 ⟨rfl, hb⟩
    replace S1 := hide (S1.out.belowX hb)
    replace S2 := hide (S2.out.belowX hb)
    replace HH := hide (HH.out.belowX hb)
    replace S3 := hide (S3.out.belowX hb)
    replace HQ := hide (HQ.out.trans (hb.mono HQ.out.size))
    clear hb
    refine hK10.out _ _ (HQ.out) (fun _ => ?_)
    clear hK10 K10
    (try simp only [Act.put, zE, zS, zZ, zB, yZ, yS])
    clear hS0
    have hS0 := HQ.out
    (refine tkO 52 (v := ?_) rfl (by kernel_rfl) (fun _ _ _ h => h) (by kernel_rfl) ?_ (by assumption) ?_; rotate_left; (focus (intro w hSw; (try dsimp only at hSw); go_simp; first | done | with_reducible rfl)); (try simp only [Act.put, zE, zS, zZ, zB, yZ, yS]))
    (refine tkO 53 (v := ?_) rfl (by kernel_rfl) (fun _ _ _ h => h) (by kernel_rfl) ?_ (by assumption) ?_; rotate_left; (focus (intro w hSw; (try dsimp only at hSw); go_simp; first | done | with_reducible rfl)); (try simp only [Act.put, zE, zS, zZ, zB, yZ, yS]))
    (refine tkO 54 (v := ?_) rfl (by kernel_rfl) (fun _ _ _ h => h) (by kernel_rfl) ?_ (by assumption) ?_; rotate_left; (focus (intro w hSw; (try dsimp only at hSw); have kf0 := kept hSw p0; have kf1 := kept hSw p1; have kf2 := kept hSw p2; have kf3 := kept hSw p3; go_simp; first | done | with_reducible rfl)); (try simp only [Act.put, zE, zS, zZ, zB, yZ, yS]))
    (refine tkO 55 (v := ?_) rfl (by kernel_rfl) (fun _ _ _ h => h) (by kernel_rfl) ?_ (by assumption) ?_; rotate_left; (focus (intro w hSw; (try dsimp only at hSw); have kf0 := kept hSw a0; have kf1 := kept hSw a1; go_simp; first | done | with_reducible rfl)); (try simp only [Act.put, zE, zS, zZ, zB, yZ, yS]))
    refine wpAnyH_ready (rs := [56]) (by kernel_rfl) (by simp) ?_
    refine (AllReadyH.cons rfl (fun K11 hK11 => ?_) AllReadyH.nil)
    rw [if_pos (by kernel_rfl)]
    go_simp
    with_reducible refine (watch_any 5 1 0 0 v10).mono ?_
    rintro e v11 ⟨rfl, hb⟩
    replace S1 := hide (S1.out.belowX hb)
    replace S2 := hide (S2.out.belowX hb)
    replace HH := hide (HH.out.belowX hb)
    replace S3 := hide (S3.out.belowX hb)
    replace HQ := hide (HQ.out.trans (hb.mono HQ.out.size))
    clear hb
    refine hK11.out _ _ (HQ.out) (fun _ => ?_)
    clear hK11 K11
    (try simp only [Act.put, zE, zS, zZ, zB, yZ, yS])
    clear hS0
    have hS0 := HQ.out
    refine wpAnyH_ready (rs := [57]) (by kernel_rfl) (by simp) ?_
    refine (AllReadyH.cons rfl (fun K12 hK12 => ?_) AllReadyH.nil)
    rw [if_pos (by kernel_rfl)]
    go_simp
    with_reducible refine (vGood (M10.out.below HQ.out) fit3 5 1 0 0 _ wkG2).mono ?_
    rintro e v12 ⟨rfl, hb⟩
    replace S1 := hide (S1.out.belowX hb)
    replace S2 := hide (S2.out.belowX hb)
    replace HH := hide (HH.out.belowX hb)
    replace S3 := hide (S3.out.belowX hb)
    replace HQ := hide (HQ.out.trans (hb.mono HQ.out.size))
    clear hb
    refine hK12.out _ _ (HQ.out) (fun _ => ?_)
    clear hK12 K12
    (try simp only [Act.put, zE, zS, zZ, zB, yZ, yS])
    clear hS0
    have hS0 := HQ.out
    (refine tkO 58 (v := ?_) rfl (by kernel_rfl) (fun _ _ _ h => h) (by kernel_rfl) ?_ (by assumption) ?_; rotate_left; (focus (intro w hSw; (try dsimp only at hSw); go_simp; first | done | with_reducible rfl)); (try simp only [Act.put, zE, zS, zZ, zB, yZ, yS]))
    (refine tkO 59 (v := ?_) rfl (by kernel_rfl) (fun _ _ _ h => h) (by kernel_rfl) ?_ (by assumption) ?_; rotate_left; (focus (intro w hSw; (try dsimp only at hSw); go_simp; first | done | with_reducible rfl)); (try simp only [Act.put, zE, zS, zZ, zB, yZ, yS]))
    (refine tkO 60 (v := ?_) rfl (by kernel_rfl) (fun _ _ _ h => h) (by kernel_rfl) ?_ (by assumption) ?_; rotate_left; (focus (intro w hSw; (try dsimp only at hSw); go_simp; first | done | with_reducible rfl)); (try simp only [Act.put, zE, zS, zZ, zB, yZ, yS]))
    (refine tkO 61 (v := ?_) rfl (by kernel_rfl) (fun _ _ _ h => h) (by kernel_rfl) ?_ (by assumption) ?_; rotate_left; (focus (intro w hSw; (try dsimp only at hSw); have kf0 := kept hSw p0; have kf1 := kept hSw p1; have kf2 := kept hSw p2; have kf3 := kept hSw p3; go_simp; first | done | with_reducible rfl)); (try simp only [Act.put, zE, zS, zZ, zB, yZ, yS]))
    (refine tkO 62 (v := ?_) rfl (by kernel_rfl) (fun _ _ _ h => h) (by kernel_rfl) ?_ (by assumption) ?_; rotate_left; (focus (intro w hSw; (try dsimp only at hSw); have kf0 := kept hSw a0; have kf1 := kept hSw a1; go_simp; first | done | with_reducible rfl)); (try simp only [Act.put, zE, zS, zZ, zB, yZ, yS]))
    refine wpAnyH_ready (rs := [63]) (by kernel_rfl) (by simp) ?_
    refine (AllReadyH.cons rfl (fun K13 hK13 => ?_) AllReadyH.nil)
    rw [if_pos (by kernel_rfl)]
    go_simp
    with_reducible refine (watch_any 4 1 0 0 v12).mono ?_
    rintro e v13 ⟨rfl, hb⟩
    replace S1 := hide (S1.out.belowX hb)
    replace S2 := hide (S2.out.belowX hb)
    replace HH := hide (HH.out.belowX hb)
    replace S3 := hide (S3.out.belowX hb)
    replace HQ := hide (HQ.out.trans (hb.mono HQ.out.size))
    clear hb
    refine hK13.out _ _ (HQ.out) (fun _ => ?_)
    clear hK13 K13
    (try simp only [Act.put, zE, zS, zZ, zB, yZ, yS])
    clear hS0
    have hS0 := HQ.out
    refine wpAnyH_ready (rs := [64]) (by kernel_rfl) (by simp) ?_
    refine (AllReadyH.cons rfl (fun K14 hK14 => ?_) AllReadyH.nil)
    rw [if_pos (by kernel_rfl)]
    go_simp
    with_reducible refine (vGood (M10.out.below HQ.out) fit3 4 1 0 0 _ wkG3).mono ?_
    rintro e v14 ⟨rfl, hb⟩
    replace S1 := hide (S1.out.belowX hb)
    replace S2 := hide (S2.out.belowX hb)
    replace HH := hide (HH.out.belowX hb)
    replace S3 := hide (S3.out.belowX hb)
    replace HQ := hide (HQ.out.trans (hb.mono HQ.out.size))
    clear hb
    refine hK14.out _ _ (HQ.out) (fun _ => ?_)
    clear hK14 K14
    (try simp only [Act.put, zE, zS, zZ, zB, yZ, yS])
    clear hS0
    have hS0 := HQ.out
    (refine tkO 65 (v := ?_) rfl (by kernel_rfl) (fun _ _ _ h => h) (by kernel_rfl) ?_ (by assumption) ?_; rotate_left; (focus (intro w hSw; (try dsimp only at hSw); go_simp; first | done | with_reducible rfl)); (try simp only [Act.put, zE, zS, zZ, zB, yZ, yS]))
    (refine tkO 66 (v := ?_) rfl (by kernel_rfl) (fun _ _ _ h => h) (by kernel_rfl) ?_ (by assumption) ?_; rotate_left; (focus (intro w hSw; (try dsimp only at hSw); go_simp; first | done | with_reducible rfl)); (try simp only [Act.put, zE, zS, zZ, zB, yZ, yS]))
    (refine tkO 67 (v := ?_) rfl (by kernel_rfl) (fun _ _ _ h => h) (by kernel_rfl) ?_ (by assumption) ?_; rotate_left; (focus (intro w hSw; (try dsimp only at hSw); go_simp; first | done | with_reducible rfl)); (try simp only [Act.put, zE, zS, zZ, zB, yZ, yS]))
    (refine tkO 68 (v := ?_) rfl (by kernel_rfl) (fun _ _ _ h => h) (by kernel_rfl) ?_ (by assumption) ?_; rotate_left; (focus (intro w hSw; (try dsimp only at hSw); have kf0 := kept hSw z3; go_simp; first | done | with_reducible rfl)); (try simp only [Act.put, zE, zS, zZ, zB, yZ, yS]))
    (refine tkO 69 (v := ?_) rfl (by kernel_rfl) (fun _ _ _ h => h) (by kernel_rfl) ?_ (by assumption) ?_; rotate_left; (focus (intro w hSw; (try dsimp only at hSw); go_simp; first | done | with_reducible rfl)); (try simp only [Act.put, zE, zS, zZ, zB, yZ, yS]))
    (refine tkO 70 (v := ?_) rfl (by kernel_rfl) (fun _ _ _ h => h) (by kernel_rfl) ?_ (by assumption) ?_; rotate_left; (focus (intro w hSw; (try dsimp only at hSw); go_simp; first | done | with_reducible rfl)); (try simp only [Act.put, zE, zS, zZ, zB, yZ, yS]))
    (refine tkO 71 (v := ?_) rfl (by kernel_rfl) (fun _ _ _ h => h) (by kernel_rfl) ?_ (by assumption) ?_; rotate_left; (focus (intro w hSw; (try dsimp only at hSw); go_simp; first | done | with_reducible rfl)); (try simp only [Act.put, zE, zS, zZ, zB, yZ, yS]))
    (refine tkO 72 (v := ?_) rfl (by kernel_rfl) (fun _ _ _ h => h) (by kernel_rfl) ?_ (by assumption) ?_; rotate_left; (focus (intro w hSw; (try dsimp only at hSw); go_simp; first | done | with_reducible rfl)); (try simp only [Act.put, zE, zS, zZ, zB, yZ, yS]))
    clear hS0
    refine wpAnyH_done (by kernel_rfl) ?_ _
    have HF := hide (HE.out.below.trans (HQ.out.mono HE.out.below.size))
    go_wp2_with fail
    go_ret
    exact ⟨rfl, HF.out⟩
  · skip
    rw [if_pos (by kernel_rfl)]
    go_simp
    have hb : Below v4.heap.size v4 (v4.alloc (.cells #[.int .i64 0, .int .i64 1] 3)) := (Below.refl _ _).alloc (Nat.le_refl _) _
    replace S1 := hide (S1.out.belowX hb)
    replace S2 := hide (S2.out.belowX hb)
    have S3 := hide (show Rd (v4.alloc (.cells #[.int .i64 0, .int .i64 1] 3)) (v4.alloc (.cells #[.int .i64 0, .int .i64 1] 3)).heap.size 1 (some ⟨v4.heap.size, 0, none⟩) 2 (Cs encI [0, 1]) from (Rd.new v4 #[.int .i64 0, .int .i64 1] 3 1 2 rfl).more (by simp))
    replace HQ := hide (HQ.out.trans (hb.mono HQ.out.size))
    clear hb
    refine hK5.out _ _ (HQ.out) (fun _ => ?_)
    clear hK5 K5
    (try simp only [Act.put, zE, zS, zZ, zB, yZ, yS])
    generalize (v4.alloc (.cells #[.int .i64 0, .int .i64 1] 3)) = v15 at *
    refine wpAnyH_ready (rs := [37]) (by kernel_rfl) (by simp) ?_
    refine (AllReadyH.cons rfl (fun K15 hK15 => ?_) AllReadyH.nil)
    rw [if_pos (by kernel_rfl)]
    go_simp
    with_reducible refine (vHolders (H3.out.below HQ.out).out fit1 0 0 [0, 1] wkH 2 rfl).mono ?_
    rintro e v16 ⟨⟨AH, cH, rfl, hh⟩, hb⟩
    replace S1 := hide (S1.out.belowX hb)
    replace S2 := hide (S2.out.belowX hb)
    replace S3 := hide (S3.out.belowX hb)
    have HH := hide hh
    replace HQ := hide (HQ.out.trans (hb.mono HQ.out.size))
    clear hb hh
    refine hK15.out _ _ (HQ.out) (fun _ => ?_)
    clear hK15 K15
    (try simp only [Act.put, zE, zS, zZ, zB, yZ, yS])
    refine wpAnyH_ready (rs := [39]) (by kernel_rfl) (by simp) ?_
    refine (AllReadyH.cons rfl (fun K16 hK16 => ?_) AllReadyH.nil)
    rw [if_pos (by kernel_rfl)]
    go_simp
    with_reducible refine (eqIn AH (some ⟨v4.heap.size, 0, none⟩) cH 2 2 2 [0, 1] [0, 1] v16 HH.out S3.out rfl rfl (by omega) (by omega) true rfl).mono ?_
    rintro e v17 ⟨rfl, hb⟩
    replace S1 := hide (S1.out.belowX hb)
    replace S2 := hide (S2.out.belowX hb)
    replace S3 := hide (S3.out.belowX hb)
    replace HH := hide (HH.out.belowX hb)
    replace HQ := hide (HQ.out.trans (hb.mono HQ.out.size))
    clear hb
    refine hK16.out _ _ (HQ.out) (fun _ => ?_)
    clear hK16 K16
    (try simp only [Act.put, zE, zS, zZ, zB, yZ, yS])
    clear hS0
    have hS0 := HQ.out
    (refine tkO 40 (v := ?_) rfl (by kernel_rfl) (fun _ _ _ h => h) (by kernel_rfl) ?_ (by assumption) ?_; rotate_left; (focus (intro w hSw; (try dsimp only at hSw); go_simp; first | done | with_reducible rfl)); (try simp only [Act.put, zE, zS, zZ, zB, yZ, yS]))
    (refine tkO 41 (v := ?_) rfl (by kernel_rfl) (fun _ _ _ h => h) (by kernel_rfl) ?_ (by assumption) ?_; rotate_left; (focus (intro w hSw; (try dsimp only at hSw); go_simp; first | done | with_reducible rfl)); (try simp only [Act.put, zE, zS, zZ, zB, yZ, yS]))
    (refine tkO 42 (v := ?_) rfl (by kernel_rfl) (fun _ _ _ h => h) (by kernel_rfl) ?_ (by assumption) ?_; rotate_left; (focus (intro w hSw; (try dsimp only at hSw); have kf0 := kept hSw x0; have kf1 := kept hSw x1; have kf2 := kept hSw x2; have kf3 := kept hSw x3; go_simp; first | done | with_reducible rfl)); (try simp only [Act.put, zE, zS, zZ, zB, yZ, yS]))
    (refine tkO 43 (v := ?_) rfl (by kernel_rfl) (fun _ _ _ h => h) (by kernel_rfl) ?_ (by assumption) ?_; rotate_left; (focus (intro w hSw; (try dsimp only at hSw); have kf0 := kept hSw a0; have kf1 := kept hSw a1; go_simp; first | done | with_reducible rfl)); (try simp only [Act.put, zE, zS, zZ, zB, yZ, yS]))
    refine wpAnyH_ready (rs := [44]) (by kernel_rfl) (by simp) ?_
    refine (AllReadyH.cons rfl (fun K17 hK17 => ?_) AllReadyH.nil)
    rw [if_pos (by kernel_rfl)]
    go_simp
    with_reducible refine (vSafe (H3.out.below HQ.out).out fit1 0 0 _ wkS).mono ?_
    rintro e v18 ⟨rfl, hb⟩
    replace S1 := hide (S1.out.belowX hb)
    replace S2 := hide (S2.out.belowX hb)
    replace S3 := hide (S3.out.belowX hb)
    replace HH := hide (HH.out.belowX hb)
    replace HQ := hide (HQ.out.trans (hb.mono HQ.out.size))
    clear hb
    refine hK17.out _ _ (HQ.out) (fun _ => ?_)
    clear hK17 K17
    (try simp only [Act.put, zE, zS, zZ, zB, yZ, yS])
    clear hS0
    have hS0 := HQ.out
    (refine tkO 45 (v := ?_) rfl (by kernel_rfl) (fun _ _ _ h => h) (by kernel_rfl) ?_ (by assumption) ?_; rotate_left; (focus (intro w hSw; (try dsimp only at hSw); go_simp; first | done | with_reducible rfl)); (try simp only [Act.put, zE, zS, zZ, zB, yZ, yS]))
    (refine tkO 46 (v := ?_) rfl (by kernel_rfl) (fun _ _ _ h => h) (by kernel_rfl) ?_ (by assumption) ?_; rotate_left; (focus (intro w hSw; (try dsimp only at hSw); go_simp; first | done | with_reducible rfl)); (try simp only [Act.put, zE, zS, zZ, zB, yZ, yS]))
    (refine tkO 47 (v := ?_) rfl (by kernel_rfl) (fun _ _ _ h => h) (by kernel_rfl) ?_ (by assumption) ?_; rotate_left; (focus (intro w hSw; (try dsimp only at hSw); go_simp; first | done | with_reducible rfl)); (try simp only [Act.put, zE, zS, zZ, zB, yZ, yS]))
    (refine tkO 48 (v := ?_) rfl (by kernel_rfl) (fun _ _ _ h => h) (by kernel_rfl) ?_ (by assumption) ?_; rotate_left; (focus (intro w hSw; (try dsimp only at hSw); have kf0 := kept hSw x0; have kf1 := kept hSw x1; have kf2 := kept hSw x2; have kf3 := kept hSw x3; go_simp; first | done | with_reducible rfl)); (try simp only [Act.put, zE, zS, zZ, zB, yZ, yS]))
    (refine tkO 49 (v := ?_) rfl (by kernel_rfl) (fun _ _ _ h => h) (by kernel_rfl) ?_ (by assumption) ?_; rotate_left; (focus (intro w hSw; (try dsimp only at hSw); have kf0 := kept hSw a0; have kf1 := kept hSw a1; go_simp; first | done | with_reducible rfl)); (try simp only [Act.put, zE, zS, zZ, zB, yZ, yS]))
    refine wpAnyH_ready (rs := [50]) (by kernel_rfl) (by simp) ?_
    refine (AllReadyH.cons rfl (fun K18 hK18 => ?_) AllReadyH.nil)
    rw [if_pos (by kernel_rfl)]
    go_simp
    with_reducible refine (watch_any 4 1 0 0 v18).mono ?_
    rintro e v19 ⟨rfl, hb⟩
    replace S1 := hide (S1.out.belowX hb)
    replace S2 := hide (S2.out.belowX hb)
    replace S3 := hide (S3.out.belowX hb)
    replace HH := hide (HH.out.belowX hb)
    replace HQ := hide (HQ.out.trans (hb.mono HQ.out.size))
    clear hb
    refine hK18.out _ _ (HQ.out) (fun _ => ?_)
    clear hK18 K18
    (try simp only [Act.put, zE, zS, zZ, zB, yZ, yS])
    clear hS0
    have hS0 := HQ.out
    refine wpAnyH_ready (rs := [51]) (by kernel_rfl) (by simp) ?_
    refine (AllReadyH.cons rfl (fun K19 hK19 => ?_) AllReadyH.nil)
    rw [if_pos (by kernel_rfl)]
    go_simp
    with_reducible refine (vGood (H3.out.below HQ.out).out fit1 4 1 0 0 _ wkG1).mono ?_
    rintro e v20 ⟨rfl, hb⟩
    replace S1 := hide (S1.out.belowX hb)
    replace S2 := hide (S2.out.belowX hb)
    replace S3 := hide (S3.out.belowX hb)
    replace HH := hide (HH.out.belowX hb)
    replace HQ := hide (HQ.out.trans (hb.mono HQ.out.size))
    clear hb
    refine hK19.out _ _ (HQ.out) (fun _ => ?_)
    clear hK19 K19
    (try simp only [Act.put, zE, zS, zZ, zB, yZ, yS])
    clear hS0
    have hS0 := HQ.out
    (refine tkO 52 (v := ?_) rfl (by kernel_rfl) (fun _ _ _ h => h) (by kernel_rfl) ?_ (by assumption) ?_; rotate_left; (focus (intro w hSw; (try dsimp only at hSw); go_simp; first | done | with_reducible rfl)); (try simp only [Act.put, zE, zS, zZ, zB, yZ, yS]))
    (refine tkO 53 (v := ?_) rfl (by kernel_rfl) (fun _ _ _ h => h) (by kernel_rfl) ?_ (by assumption) ?_; rotate_left; (focus (intro w hSw; (try dsimp only at hSw); go_simp; first | done | with_reducible rfl)); (try simp only [Act.put, zE, zS, zZ, zB, yZ, yS]))
    (refine tkO 54 (v := ?_) rfl (by kernel_rfl) (fun _ _ _ h => h) (by kernel_rfl) ?_ (by assumption) ?_; rotate_left; (focus (intro w hSw; (try dsimp only at hSw); have kf0 := kept hSw p0; have kf1 := kept hSw p1; have kf2 := kept hSw p2; have kf3 := kept hSw p3; go_simp; first | done | with_reducible rfl)); (try simp only [Act.put, zE, zS, zZ, zB, yZ, yS]))
    (refine tkO 55 (v := ?_) rfl (by kernel_rfl) (fun _ _ _ h => h) (by kernel_rfl) ?_ (by assumption) ?_; rotate_left; (focus (intro w hSw; (try dsimp only at hSw); have kf0 := kept hSw a0; have kf1 := kept hSw a1; go_simp; first | done | with_reducible rfl)); (try simp only [Act.put, zE, zS, zZ, zB, yZ, yS]))
    refine wpAnyH_ready (rs := [56]) (by kernel_rfl) (by simp) ?_
    refine (AllReadyH.cons rfl (fun K20 hK20 => ?_) AllReadyH.nil)
    rw [if_pos (by kernel_rfl)]
    go_simp
    with_reducible refine (watch_any 5 1 0 0 v20).mono ?_
    rintro e v21 ⟨rfl, hb⟩
    replace S1 := hide (S1.out.belowX hb)
    replace S2 := hide (S2.out.belowX hb)
    replace S3 := hide (S3.out.belowX hb)
    replace HH := hide (HH.out.belowX hb)
    replace HQ := hide (HQ.out.trans (hb.mono HQ.out.size))
    clear hb
    refine hK20.out _ _ (HQ.out) (fun _ => ?_)
    clear hK20 K20
    (try simp only [Act.put, zE, zS, zZ, zB, yZ, yS])
    clear hS0
    have hS0 := HQ.out
    refine wpAnyH_ready (rs := [57]) (by kernel_rfl) (by simp) ?_
    refine (AllReadyH.cons rfl (fun K21 hK21 => ?_) AllReadyH.nil)
    rw [if_pos (by kernel_rfl)]
    go_simp
    with_reducible refine (vGood (M10.out.below HQ.out) fit3 5 1 0 0 _ wkG2).mono ?_
    rintro e v22 ⟨rfl, hb⟩
    replace S1 := hide (S1.out.belowX hb)
    replace S2 := hide (S2.out.belowX hb)
    replace S3 := hide (S3.out.belowX hb)
    replace HH := hide (HH.out.belowX hb)
    replace HQ := hide (HQ.out.trans (hb.mono HQ.out.size))
    clear hb
    refine hK21.out _ _ (HQ.out) (fun _ => ?_)
    clear hK21 K21
    (try simp only [Act.put, zE, zS, zZ, zB, yZ, yS])
    clear hS0
    have hS0 := HQ.out
    (refine tkO 58 (v := ?_) rfl (by kernel_rfl) (fun _ _ _ h => h) (by kernel_rfl) ?_ (by assumption) ?_; rotate_left; (focus (intro w hSw; (try dsimp only at hSw); go_simp; first | done | with_reducible rfl)); (try simp only [Act.put, zE, zS, zZ, zB, yZ, yS]))
    (refine tkO 59 (v := ?_) rfl (by kernel_rfl) (fun _ _ _ h => h) (by kernel_rfl) ?_ (by assumption) ?_; rotate_left; (focus (intro w hSw; (try dsimp only at hSw); go_simp; first | done | with_reducible rfl)); (try simp only [Act.put, zE, zS, zZ, zB, yZ, yS]))
    (refine tkO 60 (v := ?_) rfl (by kernel_rfl) (fun _ _ _ h => h) (by kernel_rfl) ?_ (by assumption) ?_; rotate_left; (focus (intro w hSw; (try dsimp only at hSw); go_simp; first | done | with_reducible rfl)); (try simp only [Act.put, zE, zS, zZ, zB, yZ, yS]))
    (refine tkO 61 (v := ?_) rfl (by kernel_rfl) (fun _ _ _ h => h) (by kernel_rfl) ?_ (by assumption) ?_; rotate_left; (focus (intro w hSw; (try dsimp only at hSw); have kf0 := kept hSw p0; have kf1 := kept hSw p1; have kf2 := kept hSw p2; have kf3 := kept hSw p3; go_simp; first | done | with_reducible rfl)); (try simp only [Act.put, zE, zS, zZ, zB, yZ, yS]))
    (refine tkO 62 (v := ?_) rfl (by kernel_rfl) (fun _ _ _ h => h) (by kernel_rfl) ?_ (by assumption) ?_; rotate_left; (focus (intro w hSw; (try dsimp only at hSw); have kf0 := kept hSw a0; have kf1 := kept hSw a1; go_simp; first | done | with_reducible rfl)); (try simp only [Act.put, zE, zS, zZ, zB, yZ, yS]))
    refine wpAnyH_ready (rs := [63]) (by kernel_rfl) (by simp) ?_
    refine (AllReadyH.cons rfl (fun K22 hK22 => ?_) AllReadyH.nil)
    rw [if_pos (by kernel_rfl)]
    go_simp
    with_reducible refine (watch_any 4 1 0 0 v22).mono ?_
    rintro e v23 ⟨rfl, hb⟩
    replace S1 := hide (S1.out.belowX hb)
    replace S2 := hide (S2.out.belowX hb)
    replace S3 := hide (S3.out.belowX hb)
    replace HH := hide (HH.out.belowX hb)
    replace HQ := hide (HQ.out.trans (hb.mono HQ.out.size))
    clear hb
    refine hK22.out _ _ (HQ.out) (fun _ => ?_)
    clear hK22 K22
    (try simp only [Act.put, zE, zS, zZ, zB, yZ, yS])
    clear hS0
    have hS0 := HQ.out
    refine wpAnyH_ready (rs := [64]) (by kernel_rfl) (by simp) ?_
    refine (AllReadyH.cons rfl (fun K23 hK23 => ?_) AllReadyH.nil)
    rw [if_pos (by kernel_rfl)]
    go_simp
    with_reducible refine (vGood (M10.out.below HQ.out) fit3 4 1 0 0 _ wkG3).mono ?_
    rintro e v24 ⟨rfl, hb⟩
    replace S1 := hide (S1.out.belowX hb)
    replace S2 := hide (S2.out.belowX hb)
    replace S3 := hide (S3.out.belowX hb)
    replace HH := hide (HH.out.belowX hb)
    replace HQ := hide (HQ.out.trans (hb.mono HQ.out.size))
    clear hb
    refine hK23.out _ _ (HQ.out) (fun _ => ?_)
    clear hK23 K23
    (try simp only [Act.put, zE, zS, zZ, zB, yZ, yS])
    clear hS0
    have hS0 := HQ.out
    (refine tkO 65 (v := ?_) rfl (by kernel_rfl) (fun _ _ _ h => h) (by kernel_rfl) ?_ (by assumption) ?_; rotate_left; (focus (intro w hSw; (try dsimp only at hSw); go_simp; first | done | with_reducible rfl)); (try simp only [Act.put, zE, zS, zZ, zB, yZ, yS]))
    (refine tkO 66 (v := ?_) rfl (by kernel_rfl) (fun _ _ _ h => h) (by kernel_rfl) ?_ (by assumption) ?_; rotate_left; (focus (intro w hSw; (try dsimp only at hSw); go_simp; first | done | with_reducible rfl)); (try simp only [Act.put, zE, zS, zZ, zB, yZ, yS]))
    (refine tkO 67 (v := ?_) rfl (by kernel_rfl) (fun _ _ _ h => h) (by kernel_rfl) ?_ (by assumption) ?_; rotate_left; (focus (intro w hSw; (try dsimp only at hSw); go_simp; first | done | with_reducible rfl)); (try simp only [Act.put, zE, zS, zZ, zB, yZ, yS]))
    (refine tkO 68 (v := ?_) rfl (by kernel_rfl) (fun _ _ _ h => h) (by kernel_rfl) ?_ (by assumption) ?_; rotate_left; (focus (intro w hSw; (try dsimp only at hSw); have kf0 := kept hSw z3; go_simp; first | done | with_reducible rfl)); (try simp only [Act.put, zE, zS, zZ, zB, yZ, yS]))
    (refine tkO 69 (v := ?_) rfl (by kernel_rfl) (fun _ _ _ h => h) (by kernel_rfl) ?_ (by assumption) ?_; rotate_left; (focus (intro w hSw; (try dsimp only at hSw); go_simp; first | done | with_reducible rfl)); (try simp only [Act.put, zE, zS, zZ, zB, yZ, yS]))
    (refine tkO 70 (v := ?_) rfl (by kernel_rfl) (fun _ _ _ h => h) (by kernel_rfl) ?_ (by assumption) ?_; rotate_left; (focus (intro w hSw; (try dsimp only at hSw); go_simp; first | done | with_reducible rfl)); (try simp only [Act.put, zE, zS, zZ, zB, yZ, yS]))
    (refine tkO 71 (v := ?_) rfl (by kernel_rfl) (fun _ _ _ h => h) (by kernel_rfl) ?_ (by assumption) ?_; rotate_left; (focus (intro w hSw; (try dsimp only at hSw); go_simp; first | done | with_reducible rfl)); (try simp only [Act.put, zE, zS, zZ, zB, yZ, yS]))
    (refine tkO 72 (v := ?_) rfl (by kernel_rfl) (fun _ _ _ h => h) (by kernel_rfl) ?_ (by assumption) ?_; rotate_left; (focus (intro w hSw; (try dsimp only at hSw); go_simp; first | done | with_reducible rfl)); (try simp only [Act.put, zE, zS, zZ, zB, yZ, yS]))
    clear hS0
    refine wpAnyH_done (by kernel_rfl) ?_ _
    have HF := hide (HE.out.below.trans (HQ.out.mono HE.out.below.size))
    go_wp2_with fail
    go_ret
    exact ⟨rfl, HF.out⟩
end Go.Proofs.Ytfpbabafeecncaa
