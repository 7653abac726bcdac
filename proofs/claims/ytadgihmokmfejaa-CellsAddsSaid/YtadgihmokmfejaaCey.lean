/-
  The law's: few words; the layer wakes.
-/
import Derived.Test.YtadgihmokmfejaaCex
import Derived.Test.YtadgihmokmfejaaCes
import Derived.Test.YtadgihmokmfejaaCer
import Derived.Test.YtadgihmokmfejaaCej
set_option linter.unusedSimpArgs false
set_option linter.unusedVariables false
namespace Go.Proofs.Ytadgihmokmfejaa
open Go Go.RowKit
attribute [local go_sem] via_cell via_frozen

theorem few_any (A : Option Addr) (c n : Nat) (X : List Int) (W : World) (h : Rd W W.heap.size 1 A n (Cs encW X)) (hx : X.length = n) (hc : n ≤ c) (hcm : c ≤ 9223372036854775807) (m : Nat) (hm : min n 40 = m) :
    Calls Try.prog 10 #[.slice A n c] W fun e W' => ∃ v, e = .returned v ∧ W'.ownsRow W.heap.size 31 1 v m (Cs encW (X.take m)) ∧ Below W.heap.size W W' := by
  have hmI : min (n : Int) 40 = (m : Int) := by omega
  have hm1 : m ≤ n := by omega
  have hm2 : m ≤ 40 := by omega
  have hmc : (m : Int) ≤ (c : Int) := by omega
  have hcI : (c : Int) ≤ 9223372036854775807 := by omega
  have hlI : (n : Int) ≤ 9223372036854775807 := by omega
  have hrt : Rd W W.heap.size 1 A m (Cs encW (X.take m)) := by
    have h := h.take hm1
    rw [← Cs_take encW_len] at h; exact h
  have HC := hide (CloneW W.heap.size A m c _ W hrt (Nat.le_refl _) (Cs_one_cell encW_one _) (by omega))
  clear hrt h hm hx
  go_enter Try.func10, Try.ntmps10
  go_wp2_with fail
  with_reducible refine HC.out.mono ?_
  rintro e w1 ⟨v, rfl, hown, hb⟩
  have HO := hide hown
  clear hown
  go_wp2_with fail
  go_ret
  exact ⟨v, rfl, HO.out, hb⟩

theorem eqS (w : World) (x y : Int × Bool) (r : Bool) (hr : decide (x = y) = r) :
    (binOp .eql 33 (.agg #[.int .u64 x.1, .bool x.2]) (.agg #[.int .u64 y.1, .bool y.2])).run Try.prog w = .ok (.bool r) w := by
  obtain ⟨a, b⟩ := x
  obtain ⟨c, d⟩ := y
  simp only [binOp]
  simp [Op.equal, Op.maxDepth, go_sem, run_equalIn_struct]
  subst hr
  by_cases h1 : a = c <;> by_cases h2 : b = d <;> simp [h1, h2]
theorem EqualWn (B1 B2 : Nat) (A1 A2 : Option Addr) (c1 c2 n m : Nat) (xs ys : List (Int)) (W : World) (hn : xs.length = n) (hm : ys.length = m) (h1 : Rd W B1 1 A1 n (Cs encW xs)) (h2 : Rd W B2 1 A2 m (Cs encW ys)) (hB1 : B1 ≤ W.heap.size) (hB2 : B2 ≤ W.heap.size)
    (hl1 : n ≤ 4096) (hl2 : m ≤ 4096) (r : Bool) (hr : decide (xs = ys) = r) :
    Calls Try.prog 19 #[.slice A1 n c1, .slice A2 m c2] W fun e W' => e = .returned (.bool r) ∧ Below W.heap.size W W' := by
  subst hn hm
  exact EqualW B1 B2 A1 A2 c1 c2 xs ys W h1 h2 hB1 hB2 hl1 hl2 r hr
theorem guardS : Try.prog.eqGuardType Try.prog.depth 33 = false := by kernel_rfl
theorem RowAt.rd {w : World} {g n : Nat} {t : TypeId} {X : List Int} (h : RowAt w g t (Cs encW X).toArray) (hx : X.length = n) : Rd w w.heap.size 1 (some ⟨g, 0, none⟩) n (Cs encW X) := by
  refine ⟨by rw [Cs_length encW_len, hx], fun _ => ⟨g, 0, rfl, h.lt, fun j u hu => ?_⟩⟩
  rw [Nat.zero_add, h.cell]
  simpa using hu

def LW : List Acc := [(0, 2, 0, 0, 9), (0, 1, 0, 0, 0), (0, 4, 0, 0, 1), (0, 3, 1, 5, 0)]
def SW : List (Int × Bool) := [(5, true), (9, true), (9, true), (6, false)]
def MW : List Mk := [(0, 0, 5, 9), (2, 0, 9, 10)]
theorem LW_run : runX [5, 6] LW = [10, 6] ∧ runS [5, 6] LW = SW ∧ runM 0 [5, 6] LW = MW ∧ runE 2 LW = 0 ∧ backX [10, 6] MW = some [5, 6] ∧ lastX MW 0 = (2, true) := by decide

set_option maxRecDepth 100000 in
set_option maxHeartbeats 4000000 in
theorem wakes_any (W : World) : Calls Try.prog 9 #[] W fun e W' => e = .returned (.bool true) ∧ Below W.heap.size W W' := by
  have HB := hide (Below.refl W.heap.size W)
  obtain ⟨l1, l2, l3, l4, l5, l6⟩ := LW_run
  go_enter Try.func9, Try.ntmps9
  go_wp2_with fail
  obtain ⟨g1, hg1⟩ : ∃ g, W.heap.size = g := ⟨_, rfl⟩
  have hWg1 : W.heap.size ≤ g1 := by rw [← hg1]; exact HB.out.size
  have hbx : Below W.heap.size W (W.alloc (.cells #[.int .u64 5, .int .u64 6] 31)) := (Below.refl _ _).alloc (Nat.le_refl _) _
  have hrx := RowAt.new W 31 #[.int .u64 5, .int .u64 6]
  rw [hg1] at hrx
  replace HB := hide (HB.out.trans (hbx.mono HB.out.size))
  have hs1 : (W.alloc (.cells #[.int .u64 5, .int .u64 6] 31)).heap.size = g1 + 1 := by rw [World.size_alloc, hg1]
  have RX := hide hrx
  clear hbx hrx
  generalize W.alloc (.cells #[.int .u64 5, .int .u64 6] 31) = w2 at *
  have hbx : Below w2.heap.size w2 (w2.alloc (.cells #[.int .i64 0, .int .i64 2, .int .i64 0, .int .u64 0, .int .u64 9, .int .i64 0, .int .i64 1, .int .i64 0, .int .u64 0, .int .u64 0, .int .i64 0, .int .i64 4, .int .i64 0, .int .u64 0, .int .u64 1, .int .i64 0, .int .i64 3, .int .i64 1, .int .u64 5, .int .u64 0] 37)) := (Below.refl _ _).alloc (Nat.le_refl _) _
  have hrx := RowAt.new w2 37 #[.int .i64 0, .int .i64 2, .int .i64 0, .int .u64 0, .int .u64 9, .int .i64 0, .int .i64 1, .int .i64 0, .int .u64 0, .int .u64 0, .int .i64 0, .int .i64 4, .int .i64 0, .int .u64 0, .int .u64 1, .int .i64 0, .int .i64 3, .int .i64 1, .int .u64 5, .int .u64 0]
  rw [hs1] at hrx
  replace RX := hide (RX.out.below hbx)
  replace HB := hide (HB.out.trans (hbx.mono HB.out.size))
  have hs3 : (w2.alloc (.cells #[.int .i64 0, .int .i64 2, .int .i64 0, .int .u64 0, .int .u64 9, .int .i64 0, .int .i64 1, .int .i64 0, .int .u64 0, .int .u64 0, .int .i64 0, .int .i64 4, .int .i64 0, .int .u64 0, .int .u64 1, .int .i64 0, .int .i64 3, .int .i64 1, .int .u64 5, .int .u64 0] 37)).heap.size = g1 + 1 + 1 := by rw [World.size_alloc, hs1]
  have RA := hide hrx
  clear hbx hrx
  generalize w2.alloc (.cells #[.int .i64 0, .int .i64 2, .int .i64 0, .int .u64 0, .int .u64 9, .int .i64 0, .int .i64 1, .int .i64 0, .int .u64 0, .int .u64 0, .int .i64 0, .int .i64 4, .int .i64 0, .int .u64 0, .int .u64 1, .int .i64 0, .int .i64 3, .int .i64 1, .int .u64 5, .int .u64 0] 37) = w4 at *
  (try rw [hg1])
  clear hg1 hs1 hs3
  have HX : Hid (Rd w4 w4.heap.size 1 (some ⟨g1, 0, none⟩) 2 (Cs encW [5, 6])) := hide ⟨rfl, fun _ => ⟨g1, 0, rfl, RX.out.lt, fun j u hu => by rw [Nat.zero_add, RX.out.cell]; simpa [Cs, encW] using hu⟩⟩
  clear RX
  have HA : Hid (Rd w4 w4.heap.size 5 (some ⟨g1 + 1, 0, none⟩) 4 (Cs encA LW)) := hide ⟨rfl, fun _ => ⟨g1 + 1, 0, rfl, RA.out.lt, fun j u hu => by rw [Nat.zero_add, RA.out.cell]; simpa [Cs, encA, LW] using hu⟩⟩
  clear RA
  with_reducible refine (prun_any (some ⟨g1, 0, none⟩) (some ⟨g1 + 1, 0, none⟩) 2 2 4 4 [5, 6] LW _ HX.out rfl (by omega) HA.out rfl (by omega) 0 l4).mono ?_
  rintro e w5 ⟨hb, hor⟩
  replace HX := hide ((HX.out.below hb).more hb.size)
  replace HA := hide ((HA.out.below hb).more hb.size)
  replace HB := hide (HB.out.trans (hb.mono HB.out.size))
  clear hb
  obtain ⟨g, va, vm, rfl, hg, hri⟩ := (hor.resolve_left (fun h => h.1 rfl)).2
  rw [l1, l2, l3] at hri
  replace hri : RunIn w5 g (g + 1) [10, 6] va vm 4 2 SW MW := hri
  obtain ⟨Aa, ca, rfl, hca, hcam⟩ := own_form2 hri.sn
  obtain ⟨Am, cm, rfl, hcm, hcmm⟩ := own_form2 hri.mks
  have HW := hide (hri.row.rd rfl)
  have HSn := hide (Rd.of_own hri.sn)
  have HMk := hide (Rd.of_own hri.mks)
  clear hor hri
  clear HX HA
  go_wp2_with fail
  with_reducible refine (pback_any (some ⟨g, 0, none⟩) Am 2 2 cm 2 [10, 6] MW _ HW.out rfl (by omega) (by omega) HMk.out rfl (by omega) (some [5, 6]) l5).mono ?_
  rintro e w6 ⟨hb, hor⟩
  replace HW := hide ((HW.out.below hb).more hb.size)
  replace HSn := hide ((HSn.out.below hb).more hb.size)
  replace HMk := hide ((HMk.out.below hb).more hb.size)
  replace HB := hide (HB.out.trans (hb.mono HB.out.size))
  clear hb
  obtain ⟨Yb, gb, hYb, rfl, hgb, hrb⟩ := hor.resolve_left (fun h => by cases h.1)
  injection hYb with hYb
  subst hYb
  have HBk := hide (hrb.rd rfl)
  clear hor hrb
  go_wp2_with fail
  with_reducible refine (plast_any Am cm 2 MW 0 _ HMk.out rfl (by omega) (2, true) l6).mono ?_
  rintro e w7 ⟨rfl, hb⟩
  replace HW := hide ((HW.out.below hb).more hb.size)
  replace HSn := hide ((HSn.out.below hb).more hb.size)
  replace HMk := hide ((HMk.out.below hb).more hb.size)
  replace HBk := hide ((HBk.out.below hb).more hb.size)
  replace HB := hide (HB.out.trans (hb.mono HB.out.size))
  clear hb
  clear HMk
  dsimp only
  go_wp2_with fail
  obtain ⟨g2, hg2⟩ : ∃ g, w7.heap.size = g := ⟨_, rfl⟩
  have hWg2 : W.heap.size ≤ g2 := by rw [← hg2]; exact HB.out.size
  have hbx : Below w7.heap.size w7 (w7.alloc (.cells #[.int .u64 5] 31)) := (Below.refl _ _).alloc (Nat.le_refl _) _
  have hrx := RowAt.new w7 31 #[.int .u64 5]
  rw [hg2] at hrx
  replace HW := hide ((HW.out.below hbx).more hbx.size)
  replace HSn := hide ((HSn.out.below hbx).more hbx.size)
  replace HBk := hide ((HBk.out.below hbx).more hbx.size)
  replace HB := hide (HB.out.trans (hbx.mono HB.out.size))
  have hs8 : (w7.alloc (.cells #[.int .u64 5] 31)).heap.size = g2 + 1 := by rw [World.size_alloc, hg2]
  have RX := hide hrx
  clear hbx hrx
  generalize w7.alloc (.cells #[.int .u64 5] 31) = w9 at *
  (try rw [hg2])
  clear hg2 hs8
  have HX : Hid (Rd w9 w9.heap.size 1 (some ⟨g2, 0, none⟩) 1 (Cs encW [5])) := hide ⟨rfl, fun _ => ⟨g2, 0, rfl, RX.out.lt, fun j u hu => by rw [Nat.zero_add, RX.out.cell]; simpa [Cs, encW] using hu⟩⟩
  clear RX
  obtain ⟨lo, hlo⟩ : ∃ n, w9.heap.size = n := ⟨_, rfl⟩
  have HLO := hide (Nat.le_of_eq hlo.symm)
  have HX2 := HX
  rw [hlo] at HW HSn HBk
  clear HX
  have hWlo : W.heap.size ≤ lo := by rw [← hlo]; exact HB.out.size
  clear hlo
  have HLO0 := HLO
  with_reducible refine (share_any (some ⟨g2, 0, none⟩) 1 1 [5] _ HX2.out rfl (by omega) (by omega)).mono ?_
  rintro e w10 ⟨gs, ga, rfl, hsh, hgs, hga, hb⟩
  replace HX2 := hide ((HX2.out.below hb).more hb.size)
  replace HW := hide (HW.out.below (hb.mono HLO.out))
  replace HSn := hide (HSn.out.below (hb.mono HLO.out))
  replace HBk := hide (HBk.out.below (hb.mono HLO.out))
  replace HLO := hide (Nat.le_trans HLO.out hb.size)
  replace HB := hide (HB.out.trans (hb.mono HB.out.size))
  have HSh := hide (hsh)
  have HGA := hide (show lo ≤ ga from Nat.le_trans HLO0.out hga)
  clear hb hsh
  clear HX2
  go_wp2_with fail
  refine (sdo_ok gs ga 1 [5] 0 4 0 0 2 _ HSh.out (by decide) [7] (by decide) 5 true (by decide)).mono ?_
  rintro e w11 ⟨rfl, hsh, hp⟩
  have hloga := HGA.out
  replace HW := hide (HW.out.below (hp.below.mono hloga))
  replace HSn := hide (HSn.out.below (hp.below.mono hloga))
  replace HBk := hide (HBk.out.below (hp.below.mono hloga))
  replace HLO := hide (Nat.le_trans HLO.out hp.size)
  replace HB := hide (HB.out.trans (hp.below.mono (Nat.le_trans hWlo hloga)))
  replace HSh := hide hsh
  clear hp hsh hloga
  go_wp2_with fail
  obtain ⟨g3, hg3⟩ : ∃ g, w11.heap.size = g := ⟨_, rfl⟩
  have hWg3 : W.heap.size ≤ g3 := by rw [← hg3]; exact HB.out.size
  have hbx : Below w11.heap.size w11 (w11.alloc (.cells #[.int .u64 5, .bool true] 33)) := (Below.refl _ _).alloc (Nat.le_refl _) _
  have hrx := RowAt.new w11 33 #[.int .u64 5, .bool true]
  rw [hg3] at hrx
  replace HW := hide (HW.out.below (hbx.mono HLO.out))
  replace HSn := hide (HSn.out.below (hbx.mono HLO.out))
  replace HBk := hide (HBk.out.below (hbx.mono HLO.out))
  replace HSh := hide (HSh.out.below hbx)
  replace HLO := hide (Nat.le_trans HLO.out hbx.size)
  replace HB := hide (HB.out.trans (hbx.mono HB.out.size))
  have hs12 : (w11.alloc (.cells #[.int .u64 5, .bool true] 33)).heap.size = g3 + 1 := by rw [World.size_alloc, hg3]
  have RG := hide hrx
  clear hbx hrx
  generalize w11.alloc (.cells #[.int .u64 5, .bool true] 33) = w13 at *
  have hbx : Below w13.heap.size w13 (w13.alloc (.cells #[.int .u64 10, .int .u64 6] 31)) := (Below.refl _ _).alloc (Nat.le_refl _) _
  have hrx := RowAt.new w13 31 #[.int .u64 10, .int .u64 6]
  rw [hs12] at hrx
  replace HW := hide (HW.out.below (hbx.mono HLO.out))
  replace HSn := hide (HSn.out.below (hbx.mono HLO.out))
  replace HBk := hide (HBk.out.below (hbx.mono HLO.out))
  replace RG := hide (RG.out.below hbx)
  replace HSh := hide (HSh.out.below hbx)
  replace HLO := hide (Nat.le_trans HLO.out hbx.size)
  replace HB := hide (HB.out.trans (hbx.mono HB.out.size))
  have hs14 : (w13.alloc (.cells #[.int .u64 10, .int .u64 6] 31)).heap.size = g3 + 1 + 1 := by rw [World.size_alloc, hs12]
  have RX := hide hrx
  clear hbx hrx
  generalize w13.alloc (.cells #[.int .u64 10, .int .u64 6] 31) = w15 at *
  (try rw [hg3])
  clear hg3 hs12 hs14
  have heq1 : ∀ w, (binOp .eql 33 (.agg #[.int .u64 9, .bool true]) (.agg #[.int .u64 9, .bool true])).run Try.prog w = .ok (.bool true) w := fun w => eqS w (9, true) (9, true) true (by decide)
  have heq2 : ∀ w, (binOp .eql 33 (.agg #[.int .u64 5, .bool true]) (.agg #[.int .u64 5, .bool true])).run Try.prog w = .ok (.bool true) w := fun w => eqS w (5, true) (5, true) true (by decide)
  have HX : Hid (Rd w15 w15.heap.size 1 (some ⟨g3 + 1, 0, none⟩) 2 (Cs encW [10, 6])) := hide ⟨rfl, fun _ => ⟨g3 + 1, 0, rfl, RX.out.lt, fun j u hu => by rw [Nat.zero_add, RX.out.cell]; simpa [Cs, encW] using hu⟩⟩
  clear RX
  with_reducible refine (EqualWn lo _ (some ⟨g, 0, none⟩) (some ⟨g3 + 1, 0, none⟩) 2 2 2 2 [10, 6] [10, 6] _ rfl rfl HW.out HX.out HLO.out (Nat.le_refl _) (by decide) (by decide) true (by decide)).mono ?_
  rintro e w16 ⟨rfl, hb⟩
  replace HX := hide ((HX.out.below hb).more hb.size)
  replace HW := hide (HW.out.below (hb.mono HLO.out))
  replace HSn := hide (HSn.out.below (hb.mono HLO.out))
  replace HBk := hide (HBk.out.below (hb.mono HLO.out))
  replace RG := hide (RG.out.below hb)
  replace HSh := hide (HSh.out.below hb)
  replace HLO := hide (Nat.le_trans HLO.out hb.size)
  replace HB := hide (HB.out.trans (hb.mono HB.out.size))
  clear hb
  clear HX HW
  go_wp2_with fail
  obtain ⟨g5, hg5⟩ : ∃ g, w16.heap.size = g := ⟨_, rfl⟩
  have hWg5 : W.heap.size ≤ g5 := by rw [← hg5]; exact HB.out.size
  have hbx : Below w16.heap.size w16 (w16.alloc (.cells #[.int .u64 5, .int .u64 6] 31)) := (Below.refl _ _).alloc (Nat.le_refl _) _
  have hrx := RowAt.new w16 31 #[.int .u64 5, .int .u64 6]
  rw [hg5] at hrx
  replace HSn := hide (HSn.out.below (hbx.mono HLO.out))
  replace HBk := hide (HBk.out.below (hbx.mono HLO.out))
  replace RG := hide (RG.out.below hbx)
  replace HSh := hide (HSh.out.below hbx)
  replace HLO := hide (Nat.le_trans HLO.out hbx.size)
  replace HB := hide (HB.out.trans (hbx.mono HB.out.size))
  have hs17 : (w16.alloc (.cells #[.int .u64 5, .int .u64 6] 31)).heap.size = g5 + 1 := by rw [World.size_alloc, hg5]
  have RX := hide hrx
  clear hbx hrx
  generalize w16.alloc (.cells #[.int .u64 5, .int .u64 6] 31) = w18 at *
  (try rw [hg5])
  clear hg5 hs17
  have HX : Hid (Rd w18 w18.heap.size 1 (some ⟨g5, 0, none⟩) 2 (Cs encW [5, 6])) := hide ⟨rfl, fun _ => ⟨g5, 0, rfl, RX.out.lt, fun j u hu => by rw [Nat.zero_add, RX.out.cell]; simpa [Cs, encW] using hu⟩⟩
  clear RX
  with_reducible refine (EqualWn lo _ (some ⟨gb, 0, none⟩) (some ⟨g5, 0, none⟩) 2 2 2 2 [5, 6] [5, 6] _ rfl rfl HBk.out HX.out HLO.out (Nat.le_refl _) (by decide) (by decide) true (by decide)).mono ?_
  rintro e w19 ⟨rfl, hb⟩
  replace HX := hide ((HX.out.below hb).more hb.size)
  replace HSn := hide (HSn.out.below (hb.mono HLO.out))
  replace HBk := hide (HBk.out.below (hb.mono HLO.out))
  replace RG := hide (RG.out.below hb)
  replace HSh := hide (HSh.out.below hb)
  replace HLO := hide (Nat.le_trans HLO.out hb.size)
  replace HB := hide (HB.out.trans (hb.mono HB.out.size))
  clear hb
  clear HX HBk
  obtain ⟨bs, os, hAa, hbs, hcs⟩ := HSn.out.2 (by omega)
  have s2 := hcs 2 _ rfl
  have s3 := hcs 3 _ rfl
  have s7 := hcs 7 _ rfl
  have hbl := HLO.out
  subst hAa
  clear hcs
  have qRG_0 := row20 RG.out
  have qRG_1 := row21 RG.out
  have lRG := RG.out.lt
  go_wp2_with fail
  clear qRG_0 qRG_1 lRG
  clear s2 s3 s7 hbl
  with_reducible refine (words_any gs ga 1 [7] _ HSh.out).mono ?_
  rintro e w20 ⟨g6, rfl, hrw, hg6, hb⟩
  replace HSn := hide (HSn.out.below (hb.mono HLO.out))
  replace RG := hide (RG.out.below hb)
  replace HSh := hide (HSh.out.below hb)
  replace HLO := hide (Nat.le_trans HLO.out hb.size)
  replace HB := hide (HB.out.trans (hb.mono HB.out.size))
  have HW := hide (hrw.rd rfl)
  clear hb hrw
  go_wp2_with fail
  obtain ⟨g7, hg7⟩ : ∃ g, w20.heap.size = g := ⟨_, rfl⟩
  have hWg7 : W.heap.size ≤ g7 := by rw [← hg7]; exact HB.out.size
  have hbx : Below w20.heap.size w20 (w20.alloc (.cells #[.int .u64 7] 31)) := (Below.refl _ _).alloc (Nat.le_refl _) _
  have hrx := RowAt.new w20 31 #[.int .u64 7]
  rw [hg7] at hrx
  replace HW := hide ((HW.out.below hbx).more hbx.size)
  replace HSn := hide (HSn.out.below (hbx.mono HLO.out))
  replace RG := hide (RG.out.below hbx)
  replace HSh := hide (HSh.out.below hbx)
  replace HLO := hide (Nat.le_trans HLO.out hbx.size)
  replace HB := hide (HB.out.trans (hbx.mono HB.out.size))
  have hs21 : (w20.alloc (.cells #[.int .u64 7] 31)).heap.size = g7 + 1 := by rw [World.size_alloc, hg7]
  have RX := hide hrx
  clear hbx hrx
  generalize w20.alloc (.cells #[.int .u64 7] 31) = w22 at *
  (try rw [hg7])
  clear hg7 hs21
  have HX : Hid (Rd w22 w22.heap.size 1 (some ⟨g7, 0, none⟩) 1 (Cs encW [7])) := hide ⟨rfl, fun _ => ⟨g7, 0, rfl, RX.out.lt, fun j u hu => by rw [Nat.zero_add, RX.out.cell]; simpa [Cs, encW] using hu⟩⟩
  clear RX
  with_reducible refine (EqualWn _ _ (some ⟨g6, 0, none⟩) (some ⟨g7, 0, none⟩) 1 1 1 1 [7] [7] _ rfl rfl HW.out HX.out (Nat.le_refl _) (Nat.le_refl _) (by decide) (by decide) true (by decide)).mono ?_
  rintro e w23 ⟨rfl, hb⟩
  replace HW := hide ((HW.out.below hb).more hb.size)
  replace HX := hide ((HX.out.below hb).more hb.size)
  replace HSn := hide (HSn.out.below (hb.mono HLO.out))
  replace RG := hide (RG.out.below hb)
  replace HSh := hide (HSh.out.below hb)
  replace HLO := hide (Nat.le_trans HLO.out hb.size)
  replace HB := hide (HB.out.trans (hb.mono HB.out.size))
  clear hb
  go_wp2_with fail
  go_ret
  exact ⟨rfl, HB.out⟩
end Go.Proofs.Ytadgihmokmfejaa
