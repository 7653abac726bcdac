/-
  CellsDo, walked: it answers true.
-/
import Derived.Test.YtadgihmokmfejaaCez
set_option linter.unusedSimpArgs false
set_option linter.unusedVariables false
namespace Go.Proofs.Ytadgihmokmfejaa
open Go Go.RowKit
attribute [local go_sem] via_cell via_frozen

theorem Rd.pastNe {w w' : World} {sz n g : Nat} {A : Option Addr} {xs : List Value} (h : Rd w w.heap.size sz A n xs) (hp : Past g w w') (hne : ∀ p, A = some p → p.block ≠ g) : Rd w' w'.heap.size sz A n xs := by
  refine ⟨h.1, fun hn => ?_⟩
  obtain ⟨b, off, e, hb, hc⟩ := h.2 hn
  exact ⟨b, off, e, Nat.lt_of_lt_of_le hb hp.size, fun j u hu => (hp.cell ⟨b, off + j, none⟩ (show b ≠ g from hne _ e) hb).trans (hc j u hu)⟩
theorem neqS2 (x : Int × Bool) : ∀ w, (binOp .neq 33 (.agg #[.int .u64 x.1, .bool x.2]) (.agg #[.int .u64 x.1, .bool x.2])).run Try.prog w = .ok (.bool false) w := fun w => neqS w x x true (by simp)
def DoAt (W : World) (m : Nat) (v : Value) (wr : World) : Prop := ∃ A c Y, v = .slice A m c ∧ m ≤ c ∧ c ≤ 9223372036854775807 ∧ Y.length = m ∧ Ws Y ∧ Rd wr wr.heap.size 1 A m (Cs encW Y) ∧ Below W.heap.size W wr
def IncAt (w9 : World) (g m : Nat) (wr : World) : Prop := ∃ Z : List Int, Z.length = m ∧ RowAt wr g 31 (Cs encW Z).toArray ∧ Past g w9 wr

set_option maxRecDepth 100000 in
set_option maxHeartbeats 8000000 in
theorem Do_walk (A0 : Option Addr) (c0 n0 : Nat) (A1 : Option Addr) (c1 n1 : Nat) (X : List Int) (l : List Acc) (W : World)
    (hr0 : Rd W W.heap.size 1 A0 n0 (Cs encW X)) (hr1 : Rd W W.heap.size 5 A1 n1 (Cs encA l)) (hx0 : X.length = n0) (hx1 : l.length = n1) (hu0 : ∀ x ∈ X, U64 x) (hu1 : ∀ a ∈ l, U64 a.2.2.2.2)
    (hn0 : n0 ≤ c0) (hn1 : n1 ≤ c1) (hm0 : c0 ≤ 9223372036854775807) (hm1 : c1 ≤ 9223372036854775807) :
    Calls Try.prog 6 #[.slice A0 n0 c0, .slice A1 n1 c1] W fun e W' => e = .returned (.bool true) ∧ Below W.heap.size W W' := by
  have HB := hide (Below.refl W.heap.size W)
  obtain ⟨m, hm⟩ : ∃ m, min n0 40 = m := ⟨_, rfl⟩
  obtain ⟨k1, hk1⟩ : ∃ m, min n1 30 = m := ⟨_, rfl⟩
  have hkI1 : min (n1 : Int) 30 = (k1 : Int) := by omega
  have hk11 : k1 ≤ n1 := by omega
  have hk1c : (k1 : Int) ≤ (c1 : Int) := by omega
  have hc1I : (c1 : Int) ≤ 9223372036854775807 := by omega
  have hn1I : (n1 : Int) ≤ 9223372036854775807 := by omega
  have hk1b : k1 ≤ 30 := by omega
  have hmb : m ≤ 40 := by omega
  have hX40 : (X.take m).length = m := by rw [List.length_take]; omega
  have HWX := hide (show Ws (X.take m) from fun x hx => hu0 x (List.mem_of_mem_take hx))
  obtain ⟨L, hL⟩ : ∃ x, l.take k1 = x := ⟨_, rfl⟩
  have hLl : L.length = k1 := by rw [← hL, List.length_take]; omega
  have HUL := hide (show ∀ a ∈ L, U64 a.2.2.2.2 from fun a ha => hu1 a (by rw [← hL] at ha; exact List.mem_of_mem_take ha))
  have HAT : Hid (Rd W W.heap.size 5 A1 k1 (Cs encA L)) := hide (by
    have h := hr1.take hk11
    rw [← Cs_take encA_len, hL] at h; exact h)
  have HX0 := hide hr0
  have HHX := hide hx0
  have HHM := hide hm
  obtain ⟨X4, hX4⟩ : ∃ x, X.take m = x := ⟨_, rfl⟩
  have HX4 := hide hX4
  rw [hX4] at hX40 HWX
  have HHX40 := hide hX40
  have HHL := hide hLl
  clear hr0 hr1 hx0 hx1 hk1 hX40 hL hLl hX4 hu0 hu1
  go_enter Try.func6, Try.ntmps6
  go_wp2_with fail
  with_reducible refine (wakes_any _).mono ?_
  rintro e w1 ⟨rfl, hb⟩
  replace HX0 := hide ((HX0.out.below hb).more hb.size)
  replace HAT := hide ((HAT.out.below hb).more hb.size)
  replace HB := hide (HB.out.trans (hb.mono HB.out.size))
  clear hb
  by_cases hbig : 8192 < n0
  · have hbI : (8192 : Int) < (n0 : Int) := by omega
    clear hm
    go_wp2_with fail
    with_reducible refine (pdo_err A0 c0 n0 0 1 0 0 0 _ 120 (why_out (.inr hbig) _) (by decide)).mono ?_
    rintro e w2 ⟨rfl, hb⟩
    replace HX0 := hide ((HX0.out.below hb).more hb.size)
    replace HAT := hide ((HAT.out.below hb).more hb.size)
    replace HB := hide (HB.out.trans (hb.mono HB.out.size))
    clear hb
    go_wp2_with fail
    go_ret
    exact ⟨rfl, HB.out.alloc HB.out.size _⟩
  · have hbI : (n0 : Int) ≤ 8192 := by omega
    clear hm
    go_wp2_with fail
    with_reducible refine (few_any A0 c0 n0 X _ HX0.out HHX.out hn0 hm0 m HHM.out).mono ?_
    rintro e w2 ⟨v, rfl, hown, hb⟩
    replace HX0 := hide ((HX0.out.below hb).more hb.size)
    replace HAT := hide ((HAT.out.below hb).more hb.size)
    replace HB := hide (HB.out.trans (hb.mono HB.out.size))
    clear hb
    rw [HX4.out] at hown
    obtain ⟨Aw, cAw, rfl, hcAw, hcmAw⟩ := own_form2 hown
    have HW := hide (Rd.of_own hown)
    clear hown
    go_wp2_with fail
    with_reducible refine (CloneA _ A1 k1 c1 _ _ HAT.out (Nat.le_refl _) (Cs_one_cell encA_one _) (by omega)).mono ?_
    rintro e w3 ⟨v, rfl, hown, hb⟩
    replace HX0 := hide ((HX0.out.below hb).more hb.size)
    replace HAT := hide ((HAT.out.below hb).more hb.size)
    replace HW := hide ((HW.out.below hb).more hb.size)
    replace HB := hide (HB.out.trans (hb.mono HB.out.size))
    clear hb
    obtain ⟨Al, cl, rfl, hcl, hcml⟩ := own_form2 hown
    have HAL := hide (Rd.of_own hown)
    clear hown
    clear HAT
    go_wp2_with fail
    with_reducible refine (few_any A0 c0 n0 X _ HX0.out HHX.out hn0 hm0 m HHM.out).mono ?_
    rintro e w4 ⟨v, rfl, hown, hb⟩
    replace HX0 := hide ((HX0.out.below hb).more hb.size)
    replace HW := hide ((HW.out.below hb).more hb.size)
    replace HAL := hide ((HAL.out.below hb).more hb.size)
    replace HB := hide (HB.out.trans (hb.mono HB.out.size))
    clear hb
    rw [HX4.out] at hown
    obtain ⟨Aa, cAa, rfl, hcAa, hcmAa⟩ := own_form2 hown
    have HA0 := hide (Rd.of_own hown)
    clear hown
    go_wp2_with fail
    go_loopw [9, 59] (fun v i wr => ∃ j : Nat, j ≤ k1 ∧ i = .int .i64 j ∧ DoAt w4 m v wr) (fun _ i _ => k1 - (intOf i).toNat)
    case atStart => exact ⟨0, Nat.zero_le _, rfl, Aa, cAa, X4, rfl, hcAa, hcmAa, HHX40.out, HWX.out, HA0.out, Below.refl _ _⟩
    case round =>
      obtain ⟨j, hj, rfl, A, cA, Y, rfl, hcA, hcmA, hYl, hYw, hrd, hbw⟩ := hrel
      have HAt := hide hrd
      have HYL := hide hYl
      have HYW := hide hYw
      have HBW := hide hbw
      clear hrd hYl hYw hbw HA0
      by_cases hlt : j < k1
      · replace HX0 := hide ((HX0.out.below HBW.out).more HBW.out.size)
        replace HW := hide ((HW.out.below HBW.out).more HBW.out.size)
        replace HAL := hide ((HAL.out.below HBW.out).more HBW.out.size)
        replace HB := hide (HB.out.trans (HBW.out.mono HB.out.size))
        obtain ⟨b, o, hAl, hb, wh, kd, at_, ol, nw, ha, d0, d1, d2, d3, d4⟩ := HAL.out.acc HHL.out hlt
        subst hAl
        have hjn : (j : Int) < (k1 : Int) := by omega
        have hbl := hb
        have HA := hide ha
        obtain ⟨r, hr⟩ : ∃ r, why m (wh, kd, at_, ol, nw) = r := ⟨_, rfl⟩
        have HR := hide hr
        clear ha hr hb
        go_wp2_with fail
        clear d0 d1 d2 d3 d4 hbl
        obtain ⟨b0, hb0⟩ : ∃ g, wr.heap.size = g := ⟨_, rfl⟩
        have hWb0 : W.heap.size ≤ b0 := by rw [← hb0]; exact HB.out.size
        have hbx : Below wr.heap.size wr (wr.alloc (.cells #[.int .i64 wh, .int .i64 kd, .int .i64 at_, .int .u64 ol, .int .u64 nw] 37)) := (Below.refl _ _).alloc (Nat.le_refl _) _
        have hrx := RowAt.new wr 37 #[.int .i64 wh, .int .i64 kd, .int .i64 at_, .int .u64 ol, .int .u64 nw]
        rw [hb0] at hrx
        replace HX0 := hide ((HX0.out.below hbx).more hbx.size)
        replace HW := hide ((HW.out.below hbx).more hbx.size)
        replace HAL := hide ((HAL.out.below hbx).more hbx.size)
        replace HAt := hide ((HAt.out.below hbx).more hbx.size)
        replace HB := hide (HB.out.trans (hbx.mono HB.out.size))
        replace HBW := hide (HBW.out.trans (hbx.mono HBW.out.size))
        have hs5 : (wr.alloc (.cells #[.int .i64 wh, .int .i64 kd, .int .i64 at_, .int .u64 ol, .int .u64 nw] 37)).heap.size = b0 + 1 := by rw [World.size_alloc, hb0]
        have RA := hide hrx
        clear hbx hrx
        generalize wr.alloc (.cells #[.int .i64 wh, .int .i64 kd, .int .i64 at_, .int .u64 ol, .int .u64 nw] 37) = w6 at *
        (try rw [hb0])
        clear hb0 hs5
        with_reducible refine (CloneW _ A m cA _ _ HAt.out (Nat.le_refl _) (Cs_one_cell encW_one _) (by omega)).mono ?_
        rintro e w7 ⟨v, rfl, hown, hb⟩
        replace HX0 := hide ((HX0.out.below hb).more hb.size)
        replace HW := hide ((HW.out.below hb).more hb.size)
        replace HAL := hide ((HAL.out.below hb).more hb.size)
        replace HAt := hide ((HAt.out.below hb).more hb.size)
        replace RA := hide (RA.out.below hb)
        replace HB := hide (HB.out.trans (hb.mono HB.out.size))
        replace HBW := hide (HBW.out.trans (hb.mono HBW.out.size))
        clear hb
        obtain ⟨As, cs, rfl, hcs, hcms⟩ := own_form2 hown
        have HWas := hide (Rd.of_own hown)
        clear hown
        have a0 : w7.cell? ⟨b0, 0, none⟩ = some (.int .i64 wh) := RA.out.cell 0
        have a1 : w7.cell? ⟨b0, 1, none⟩ = some (.int .i64 kd) := RA.out.cell 1
        have a2 : w7.cell? ⟨b0, 2, none⟩ = some (.int .i64 at_) := RA.out.cell 2
        have a3 : w7.cell? ⟨b0, 3, none⟩ = some (.int .u64 ol) := RA.out.cell 3
        have a4 : w7.cell? ⟨b0, 4, none⟩ = some (.int .u64 nw) := RA.out.cell 4
        have la := RA.out.lt
        go_wp2_with fail
        clear a0 a1 a2 a3 a4 la
        by_cases hr0 : r = 0
        · subst hr0
          obtain ⟨n1', n2', k1', k4', _, _, hk0, hkn⟩ := why_ok HR.out
          obtain ⟨k, rfl⟩ : ∃ k : Nat, at_ = k := ⟨at_.toNat, by omega⟩
          have hkn' : k < m := by omega
          have HNW := hide (show U64 nw from HUL.out _ (List.mem_of_getElem? HA.out))
          obtain ⟨Y2, hY2⟩ : ∃ y, doX Y (wh, kd, (k : Int), ol, nw) = y := ⟨_, rfl⟩
          obtain ⟨⟨q, d⟩, hs⟩ : ∃ s : Int × Bool, doS Y (wh, kd, (k : Int), ol, nw) = s := ⟨_, rfl⟩
          have HY2 := hide hY2
          have HS2 := hide hs
          have HYL2 := hide (show Y2.length = m by rw [← hY2, doX_length, HYL.out])
          have HYW2 := hide (show Ws Y2 by rw [← hY2]; exact HYW.out.doX HNW.out)
          clear hY2 hs hk0
          obtain ⟨lo, hlo⟩ : ∃ n, w7.heap.size = n := ⟨_, rfl⟩
          have HLO := hide (Nat.le_of_eq hlo.symm)
          have hWlo : W.heap.size ≤ lo := by rw [← hlo]; exact HB.out.size
          have hLlo : w4.heap.size ≤ lo := by rw [← hlo]; exact HBW.out.size
          rw [hlo] at HX0 HW HAL HAt HWas
          have hb0lo : b0 < lo := by rw [← hlo]; exact RA.out.lt
          clear hlo
          have HLO0 := HLO
          with_reducible refine (pdo_ok A cA m Y wh kd k ol nw _ (HAt.out.more HLO.out) HYL.out HR.out Y2 HY2.out (q, d) HS2.out).mono ?_
          rintro e w8 ⟨g, rfl, hrow, hg, hb⟩
          replace HX0 := hide (HX0.out.below (hb.mono HLO.out))
          replace HW := hide (HW.out.below (hb.mono HLO.out))
          replace HAL := hide (HAL.out.below (hb.mono HLO.out))
          replace HAt := hide (HAt.out.below (hb.mono HLO.out))
          replace HWas := hide (HWas.out.below (hb.mono HLO.out))
          replace RA := hide (RA.out.below hb)
          replace HLO := hide (Nat.le_trans HLO.out hb.size)
          replace HB := hide (HB.out.trans (hb.mono HB.out.size))
          replace HBW := hide (HBW.out.trans (hb.mono HBW.out.size))
          clear hb
          dsimp only
          have hlog : lo ≤ g := Nat.le_trans HLO0.out hg
          have HROW := hide hrow
          clear hrow hg HLO0
          have a0 : w8.cell? ⟨b0, 0, none⟩ = some (.int .i64 wh) := RA.out.cell 0
          have a1 : w8.cell? ⟨b0, 1, none⟩ = some (.int .i64 kd) := RA.out.cell 1
          have a2 : w8.cell? ⟨b0, 2, none⟩ = some (.int .i64 k) := RA.out.cell 2
          have a3 : w8.cell? ⟨b0, 3, none⟩ = some (.int .u64 ol) := RA.out.cell 3
          have a4 : w8.cell? ⟨b0, 4, none⟩ = some (.int .u64 nw) := RA.out.cell 4
          have la := RA.out.lt
          go_wp2_with fail
          clear a0 a1 a2 a3 a4 la
          obtain ⟨g1, hg1⟩ : ∃ g, w8.heap.size = g := ⟨_, rfl⟩
          have hWg1 : W.heap.size ≤ g1 := by rw [← hg1]; exact HB.out.size
          have hgg1 : g < g1 := by have h := HROW.out.lt; omega
          have hbx : Below w8.heap.size w8 (w8.alloc (.cells #[.int .u64 q, .bool d] 33)) := (Below.refl _ _).alloc (Nat.le_refl _) _
          have hrx := RowAt.new w8 33 #[.int .u64 q, .bool d]
          rw [hg1] at hrx
          replace HX0 := hide (HX0.out.below (hbx.mono HLO.out))
          replace HW := hide (HW.out.below (hbx.mono HLO.out))
          replace HAL := hide (HAL.out.below (hbx.mono HLO.out))
          replace HAt := hide (HAt.out.below (hbx.mono HLO.out))
          replace HWas := hide (HWas.out.below (hbx.mono HLO.out))
          replace RA := hide (RA.out.below hbx)
          replace HROW := hide (HROW.out.below hbx)
          replace HLO := hide (Nat.le_trans HLO.out hbx.size)
          replace HB := hide (HB.out.trans (hbx.mono HB.out.size))
          replace HBW := hide (HBW.out.trans (hbx.mono HBW.out.size))
          have hs9 : (w8.alloc (.cells #[.int .u64 q, .bool d] 33)).heap.size = g1 + 1 := by rw [World.size_alloc, hg1]
          have R1 := hide hrx
          clear hbx hrx
          generalize w8.alloc (.cells #[.int .u64 q, .bool d] 33) = w10 at *
          have hbx : Below w10.heap.size w10 (w10.alloc (.cells #[.int .u64 0, .bool false] 33)) := (Below.refl _ _).alloc (Nat.le_refl _) _
          have hrx := RowAt.new w10 33 #[.int .u64 0, .bool false]
          rw [hs9] at hrx
          replace HX0 := hide (HX0.out.below (hbx.mono HLO.out))
          replace HW := hide (HW.out.below (hbx.mono HLO.out))
          replace HAL := hide (HAL.out.below (hbx.mono HLO.out))
          replace HAt := hide (HAt.out.below (hbx.mono HLO.out))
          replace HWas := hide (HWas.out.below (hbx.mono HLO.out))
          replace RA := hide (RA.out.below hbx)
          replace R1 := hide (R1.out.below hbx)
          replace HROW := hide (HROW.out.below hbx)
          replace HLO := hide (Nat.le_trans HLO.out hbx.size)
          replace HB := hide (HB.out.trans (hbx.mono HB.out.size))
          replace HBW := hide (HBW.out.trans (hbx.mono HBW.out.size))
          have hs11 : (w10.alloc (.cells #[.int .u64 0, .bool false] 33)).heap.size = g1 + 1 + 1 := by rw [World.size_alloc, hs9]
          have R2 := hide hrx
          clear hbx hrx
          generalize w10.alloc (.cells #[.int .u64 0, .bool false] 33) = w12 at *
          (try rw [hg1])
          clear hg1 hs9 hs11
          with_reducible refine (why_any A cA m wh kd k ol nw _ 0 HR.out).mono ?_
          rintro e w13 ⟨rfl, hb⟩
          replace HX0 := hide (HX0.out.below (hb.mono HLO.out))
          replace HW := hide (HW.out.below (hb.mono HLO.out))
          replace HAL := hide (HAL.out.below (hb.mono HLO.out))
          replace HAt := hide (HAt.out.below (hb.mono HLO.out))
          replace HWas := hide (HWas.out.below (hb.mono HLO.out))
          replace RA := hide (RA.out.below hb)
          replace R1 := hide (R1.out.below hb)
          replace R2 := hide (R2.out.below hb)
          replace HROW := hide (HROW.out.below hb)
          replace HLO := hide (Nat.le_trans HLO.out hb.size)
          replace HB := hide (HB.out.trans (hb.mono HB.out.size))
          replace HBW := hide (HBW.out.trans (hb.mono HBW.out.size))
          clear hb
          have a0 : w13.cell? ⟨b0, 0, none⟩ = some (.int .i64 wh) := RA.out.cell 0
          have a1 : w13.cell? ⟨b0, 1, none⟩ = some (.int .i64 kd) := RA.out.cell 1
          have a2 : w13.cell? ⟨b0, 2, none⟩ = some (.int .i64 k) := RA.out.cell 2
          have a3 : w13.cell? ⟨b0, 3, none⟩ = some (.int .u64 ol) := RA.out.cell 3
          have a4 : w13.cell? ⟨b0, 4, none⟩ = some (.int .u64 nw) := RA.out.cell 4
          have la := RA.out.lt
          have HCL := hide (fun (w' : World) (hb : Below w13.heap.size w13 w') => CloneW w'.heap.size A m cA _ w' ((HAt.out.below (hb.mono HLO.out)).more (Nat.le_trans HLO.out hb.size)) (Nat.le_refl _) (Cs_one_cell encW_one _) (by omega))
          have hg1b : g1 + 1 < w13.heap.size := R2.out.lt
          have hgb : g < w13.heap.size := HROW.out.lt
          have hb0g1 : b0 < g1 + 1 := by omega
          have HS : Hid (∀ w w', (w.cell? ⟨b0, 0, none⟩ = some (.int .i64 wh) ∧ w.cell? ⟨b0, 1, none⟩ = some (.int .i64 kd) ∧ w.cell? ⟨b0, 2, none⟩ = some (.int .i64 k) ∧ w.cell? ⟨b0, 3, none⟩ = some (.int .u64 ol) ∧ w.cell? ⟨b0, 4, none⟩ = some (.int .u64 nw)) → Below w.heap.size w w' → (w'.cell? ⟨b0, 0, none⟩ = some (.int .i64 wh) ∧ w'.cell? ⟨b0, 1, none⟩ = some (.int .i64 kd) ∧ w'.cell? ⟨b0, 2, none⟩ = some (.int .i64 k) ∧ w'.cell? ⟨b0, 3, none⟩ = some (.int .u64 ol) ∧ w'.cell? ⟨b0, 4, none⟩ = some (.int .u64 nw))) := hide (fun w w' h hb => ⟨kept hb h.1, kept hb h.2.1, kept hb h.2.2.1, kept hb h.2.2.2.1, kept hb h.2.2.2.2⟩)
          have HT : Hid (∀ (w : World) (u v : Value), (w.cell? ⟨b0, 0, none⟩ = some (.int .i64 wh) ∧ w.cell? ⟨b0, 1, none⟩ = some (.int .i64 kd) ∧ w.cell? ⟨b0, 2, none⟩ = some (.int .i64 k) ∧ w.cell? ⟨b0, 3, none⟩ = some (.int .u64 ol) ∧ w.cell? ⟨b0, 4, none⟩ = some (.int .u64 nw)) → (((w.setCell ⟨g1 + 1, 0, none⟩ u).setCell ⟨g1 + 1, 1, none⟩ v).cell? ⟨b0, 0, none⟩ = some (.int .i64 wh) ∧ ((w.setCell ⟨g1 + 1, 0, none⟩ u).setCell ⟨g1 + 1, 1, none⟩ v).cell? ⟨b0, 1, none⟩ = some (.int .i64 kd) ∧ ((w.setCell ⟨g1 + 1, 0, none⟩ u).setCell ⟨g1 + 1, 1, none⟩ v).cell? ⟨b0, 2, none⟩ = some (.int .i64 k) ∧ ((w.setCell ⟨g1 + 1, 0, none⟩ u).setCell ⟨g1 + 1, 1, none⟩ v).cell? ⟨b0, 3, none⟩ = some (.int .u64 ol) ∧ ((w.setCell ⟨g1 + 1, 0, none⟩ u).setCell ⟨g1 + 1, 1, none⟩ v).cell? ⟨b0, 4, none⟩ = some (.int .u64 nw))) := hide (fun w u v h => ⟨cell_set2 h.1 (by omega), cell_set2 h.2.1 (by omega), cell_set2 h.2.2.1 (by omega), cell_set2 h.2.2.2.1 (by omega), cell_set2 h.2.2.2.2 (by omega)⟩)
          have hS0 : w13.drew.cell? ⟨b0, 0, none⟩ = some (.int .i64 wh) ∧ w13.drew.cell? ⟨b0, 1, none⟩ = some (.int .i64 kd) ∧ w13.drew.cell? ⟨b0, 2, none⟩ = some (.int .i64 k) ∧ w13.drew.cell? ⟨b0, 3, none⟩ = some (.int .u64 ol) ∧ w13.drew.cell? ⟨b0, 4, none⟩ = some (.int .u64 nw) := ⟨a0, a1, a2, a3, a4⟩
          clear a0 a1 a2 a3 a4 la
          go_wp2_with fail
          go_region_held3 (fun wX => wX.cell? ⟨b0, 0, none⟩ = some (.int .i64 wh) ∧ wX.cell? ⟨b0, 1, none⟩ = some (.int .i64 kd) ∧ wX.cell? ⟨b0, 2, none⟩ = some (.int .i64 k) ∧ wX.cell? ⟨b0, 3, none⟩ = some (.int .u64 ol) ∧ wX.cell? ⟨b0, 4, none⟩ = some (.int .u64 nw))
            (first | exact hS0 | exact HS.out _ _ ‹_› hb2 | exact HS.out _ _ ‹_› hb | exact HT.out _ _ _ (HS.out _ _ (HS.out _ _ hS0 hb) hb2) | go_keep)
            (first | (go_at_call 22; (with_reducible refine (HCL.out _ (Below.refl _ _).drew).mono ?_); rintro e wc ⟨v, rfl, hown, hb⟩; obtain ⟨Ac, cc, rfl, hcc, hccm⟩ := own_form2 hown; have hfr := own_fresh hown; have HWc := hide (Rd.of_own hown)) | (go_at_call 16; (with_reducible refine (rdo_any Ac cc m Y wh kd k ol nw _ HWc.out HYL.out hkn' (by omega) hcc hccm HYW.out HNW.out k1' k4' Y2 HY2.out (q, d) HS2.out).mono ?_); rintro e wd ⟨A2, c2, rfl, hc2, hcm2, hrd2, hb2, hA2⟩; have R2d := (R2.out.drew.below hb).below hb2; have rs0 := row20 R2d; have rs1 := row21 R2d; have rsl := R2d.lt; have rsf0 := R2d.frozen 0; have rsf1 := R2d.frozen 1))
          rename_i hHeld
          have hA2lo : ∀ p, A2 = some p → w13.heap.size ≤ p.block := fun p hp => (hA2 p hp).elim (fun h => hfr p h) (fun h => Nat.le_trans hb.size h)
          have HA2lo := hide hA2lo
          have hbd : Below w13.heap.size w13 wd := ((Below.refl _ _).drew.trans hb).trans (hb2.mono hb.size)
          have R29 := (R2d.set 0 (.int .u64 q)).set 1 (.bool d)
          simp only [List.setIfInBounds_toArray, List.set_cons_zero, List.set_cons_succ] at R29
          have R19 := ((R1.out.below hbd).setNe (show g1 ≠ g1 + 1 by omega) (o := 0) (v := .int .u64 q)).setNe (show g1 ≠ g1 + 1 by omega) (o := 1) (v := .bool d)
          have hrow9 := ((HROW.out.below hbd).setNe (show g ≠ g1 + 1 by omega) (o := 0) (v := .int .u64 q)).setNe (show g ≠ g1 + 1 by omega) (o := 1) (v := .bool d)
          have hrd9 := (hrd2.setOffS (g := g1 + 1) (fun p hp => by have := hA2lo p hp; omega) 0 (.int .u64 q)).setOffS (g := g1 + 1) (fun p hp => by have := hA2lo p hp; omega) 1 (.bool d)
          have hlog1 : lo ≤ g1 + 1 := by omega
          have hb9 : Below lo w13 ((wd.setCell ⟨g1 + 1, 0, none⟩ (.int .u64 q)).setCell ⟨g1 + 1, 1, none⟩ (.bool d)) := ((hbd.mono HLO.out).setCell (p := ⟨g1 + 1, 0, none⟩) hlog1 _).setCell (p := ⟨g1 + 1, 1, none⟩) hlog1 _
          have hsz9 : w13.heap.size ≤ ((wd.setCell ⟨g1 + 1, 0, none⟩ (.int .u64 q)).setCell ⟨g1 + 1, 1, none⟩ (.bool d)).heap.size := hb9.size
          replace R1 := hide R19
          replace R2 := hide R29
          replace HROW := hide hrow9
          have HRD := hide hrd9
          clear hHeld HS HT hS0 HCL R19 R29 hrow9 hrd9 hbd R2d rs0 rs1 rsl rsf0 rsf1 hrd2 hb hb2 hfr hA2 hA2lo hown HWc RA
          generalize (wd.setCell ⟨g1 + 1, 0, none⟩ (.int .u64 q)).setCell ⟨g1 + 1, 1, none⟩ (.bool d) = w99 at *
          replace HX0 := hide (HX0.out.below hb9)
          replace HW := hide (HW.out.below hb9)
          replace HAL := hide (HAL.out.below hb9)
          replace HAt := hide (HAt.out.below hb9)
          replace HWas := hide (HWas.out.below hb9)
          replace HBW := hide (HBW.out.trans (hb9.mono hLlo))
          replace HB := hide (HB.out.trans (hb9.mono hWlo))
          replace HLO := hide (Nat.le_trans HLO.out hsz9)
          clear hb9
          have hnq := neqS2 (q, d)
          dsimp only at hnq
          have qR1_0 := row20 R1.out
          have qR1_1 := row21 R1.out
          have lR1 := R1.out.lt
          have qR2_0 := row20 R2.out
          have qR2_1 := row21 R2.out
          have lR2 := R2.out.lt
          go_wp2_with fail
          clear qR1_0 qR1_1 lR1 qR2_0 qR2_1 lR2
          with_reducible refine (rsame_n _ _ (some ⟨g, 0, none⟩) A2 m c2 m m Y2 Y2 _ HYL2.out HYL2.out (HROW.out.rd HYL2.out) HRD.out (Nat.le_refl _) (Nat.le_refl _) (by omega) (by omega) true (by simp)).mono ?_
          rintro e w14 ⟨rfl, hb⟩
          replace HRD := hide ((HRD.out.below hb).more hb.size)
          replace HX0 := hide (HX0.out.below (hb.mono HLO.out))
          replace HW := hide (HW.out.below (hb.mono HLO.out))
          replace HAL := hide (HAL.out.below (hb.mono HLO.out))
          replace HAt := hide (HAt.out.below (hb.mono HLO.out))
          replace HWas := hide (HWas.out.below (hb.mono HLO.out))
          replace R1 := hide (R1.out.below hb)
          replace R2 := hide (R2.out.below hb)
          replace HROW := hide (HROW.out.below hb)
          replace HLO := hide (Nat.le_trans HLO.out hb.size)
          replace HB := hide (HB.out.trans (hb.mono HB.out.size))
          replace HBW := hide (HBW.out.trans (hb.mono HBW.out.size))
          clear hb
          clear R1 R2
          go_wp2_with fail
          go_loopw [100] (fun i wr => ∃ t : Nat, t ≤ m ∧ i = .int .i64 t ∧ IncAt w14 g m wr) (fun i _ => m - (intOf i).toNat)
          case atStart => exact ⟨0, Nat.zero_le _, rfl, Y2, HYL2.out, HROW.out, Past.refl _ _⟩
          case round =>
            obtain ⟨t, ht, rfl, Z, hZl, hZr, hZp⟩ := hrel
            have HZL := hide hZl
            have HZR := hide hZr
            have HZP := hide hZp
            by_cases htl : t < m
            · have htn : (t : Int) < (m : Int) := by omega
              have x0 := row_word hZr (show t < Z.length by rw [hZl]; exact htl)
              have xf := hZr.frozen t
              have xl := hZr.lt
              clear hZr hZp hZl
              generalize ceAt Z t = z at *
              go_wp2_with fail
              go_roundw
              case rel => exact ⟨t + 1, by omega, by go_num, Z.set t _, by rw [List.length_set]; exact HZL.out, row_set HZR.out t _, HZP.out.trans (Past.set t _)⟩
              case measure => simp [intOf]; omega
            · clear hZr hZl
              have hzb : Below lo w14 wr := hZp.below.mono hlog
              have HRD9 := hide (HRD.out.pastNe hZp (fun p hp => by have h := HA2lo.out p hp; omega))
              replace HX0 := hide (HX0.out.below hzb)
              replace HW := hide (HW.out.below hzb)
              replace HAL := hide (HAL.out.below hzb)
              replace HAt := hide (HAt.out.below hzb)
              replace HWas := hide (HWas.out.below hzb)
              replace HBW := hide (HBW.out.trans (hzb.mono hLlo))
              replace HB := hide (HB.out.trans (hzb.mono hWlo))
              replace HLO := hide (Nat.le_trans HLO.out hzb.size)
              clear hzb hZp HRD HROW
              go_wp2_with fail
              with_reducible refine (EqualWn lo lo A As cA cs m m Y Y _ HYL.out HYL.out HAt.out HWas.out HLO.out HLO.out (by omega) (by omega) true (by simp)).mono ?_
              rintro e w15 ⟨rfl, hb⟩
              replace HRD9 := hide ((HRD9.out.below hb).more hb.size)
              replace HX0 := hide (HX0.out.below (hb.mono HLO.out))
              replace HW := hide (HW.out.below (hb.mono HLO.out))
              replace HAL := hide (HAL.out.below (hb.mono HLO.out))
              replace HAt := hide (HAt.out.below (hb.mono HLO.out))
              replace HWas := hide (HWas.out.below (hb.mono HLO.out))
              replace HLO := hide (Nat.le_trans HLO.out hb.size)
              replace HB := hide (HB.out.trans (hb.mono HB.out.size))
              replace HBW := hide (HBW.out.trans (hb.mono HBW.out.size))
              clear hb
              go_wp2_with fail
              go_roundw
              case rel => exact ⟨j + 1, by omega, by go_num, A2, c2, Y2, rfl, hc2, hcm2, HYL2.out, HYW2.out, HRD9.out, HBW.out⟩
              case measure => simp [intOf]; omega
        · have hr1 : (r == 0) = false := by simpa using hr0
          have hr2 : (r != r) = false := by simp
          with_reducible refine (pdo_err A cA m wh kd at_ ol nw _ r HR.out hr0).mono ?_
          rintro e w8 ⟨rfl, hb⟩
          replace HX0 := hide ((HX0.out.below hb).more hb.size)
          replace HW := hide ((HW.out.below hb).more hb.size)
          replace HAL := hide ((HAL.out.below hb).more hb.size)
          replace HAt := hide ((HAt.out.below hb).more hb.size)
          replace HWas := hide ((HWas.out.below hb).more hb.size)
          replace RA := hide (RA.out.below hb)
          replace HB := hide (HB.out.trans (hb.mono HB.out.size))
          replace HBW := hide (HBW.out.trans (hb.mono HBW.out.size))
          clear hb
          have a0 : w8.cell? ⟨b0, 0, none⟩ = some (.int .i64 wh) := RA.out.cell 0
          have a1 : w8.cell? ⟨b0, 1, none⟩ = some (.int .i64 kd) := RA.out.cell 1
          have a2 : w8.cell? ⟨b0, 2, none⟩ = some (.int .i64 at_) := RA.out.cell 2
          have a3 : w8.cell? ⟨b0, 3, none⟩ = some (.int .u64 ol) := RA.out.cell 3
          have a4 : w8.cell? ⟨b0, 4, none⟩ = some (.int .u64 nw) := RA.out.cell 4
          have la := RA.out.lt
          go_wp2_with fail
          clear a0 a1 a2 a3 a4 la
          obtain ⟨g1, hg1⟩ : ∃ g, w8.heap.size = g := ⟨_, rfl⟩
          have hWg1 : W.heap.size ≤ g1 := by rw [← hg1]; exact HB.out.size
          have hbx : Below w8.heap.size w8 (w8.alloc (.cells #[.int .u64 0, .bool false] 33)) := (Below.refl _ _).alloc (Nat.le_refl _) _
          have hrx := RowAt.new w8 33 #[.int .u64 0, .bool false]
          rw [hg1] at hrx
          replace HX0 := hide ((HX0.out.below hbx).more hbx.size)
          replace HW := hide ((HW.out.below hbx).more hbx.size)
          replace HAL := hide ((HAL.out.below hbx).more hbx.size)
          replace HAt := hide ((HAt.out.below hbx).more hbx.size)
          replace HWas := hide ((HWas.out.below hbx).more hbx.size)
          replace RA := hide (RA.out.below hbx)
          replace HB := hide (HB.out.trans (hbx.mono HB.out.size))
          replace HBW := hide (HBW.out.trans (hbx.mono HBW.out.size))
          have hs9 : (w8.alloc (.cells #[.int .u64 0, .bool false] 33)).heap.size = g1 + 1 := by rw [World.size_alloc, hg1]
          have R1 := hide hrx
          clear hbx hrx
          generalize w8.alloc (.cells #[.int .u64 0, .bool false] 33) = w10 at *
          have hbx : Below w10.heap.size w10 (w10.alloc (.cells #[.int .u64 0, .bool false] 33)) := (Below.refl _ _).alloc (Nat.le_refl _) _
          have hrx := RowAt.new w10 33 #[.int .u64 0, .bool false]
          rw [hs9] at hrx
          replace HX0 := hide ((HX0.out.below hbx).more hbx.size)
          replace HW := hide ((HW.out.below hbx).more hbx.size)
          replace HAL := hide ((HAL.out.below hbx).more hbx.size)
          replace HAt := hide ((HAt.out.below hbx).more hbx.size)
          replace HWas := hide ((HWas.out.below hbx).more hbx.size)
          replace RA := hide (RA.out.below hbx)
          replace R1 := hide (R1.out.below hbx)
          replace HB := hide (HB.out.trans (hbx.mono HB.out.size))
          replace HBW := hide (HBW.out.trans (hbx.mono HBW.out.size))
          have hs11 : (w10.alloc (.cells #[.int .u64 0, .bool false] 33)).heap.size = g1 + 1 + 1 := by rw [World.size_alloc, hs9]
          have R2 := hide hrx
          clear hbx hrx
          generalize w10.alloc (.cells #[.int .u64 0, .bool false] 33) = w12 at *
          (try rw [hg1])
          clear hg1 hs9 hs11
          with_reducible refine (why_any A cA m wh kd at_ ol nw _ r HR.out).mono ?_
          rintro e w13 ⟨rfl, hb⟩
          replace HX0 := hide ((HX0.out.below hb).more hb.size)
          replace HW := hide ((HW.out.below hb).more hb.size)
          replace HAL := hide ((HAL.out.below hb).more hb.size)
          replace HAt := hide ((HAt.out.below hb).more hb.size)
          replace HWas := hide ((HWas.out.below hb).more hb.size)
          replace RA := hide (RA.out.below hb)
          replace R1 := hide (R1.out.below hb)
          replace R2 := hide (R2.out.below hb)
          replace HB := hide (HB.out.trans (hb.mono HB.out.size))
          replace HBW := hide (HBW.out.trans (hb.mono HBW.out.size))
          clear hb
          have hnq : ∀ w, (binOp .neq 33 (.agg #[.int .u64 0, .bool false]) (.agg #[.int .u64 0, .bool false])).run Try.prog w = .ok (.bool false) w := neqS2 (0, false)
          have qR1_0 := row20 R1.out
          have qR1_1 := row21 R1.out
          have lR1 := R1.out.lt
          have qR2_0 := row20 R2.out
          have qR2_1 := row21 R2.out
          have lR2 := R2.out.lt
          go_wp2_with fail
          clear qR1_0 qR1_1 lR1 qR2_0 qR2_1 lR2
          with_reducible refine (rsame_n 0 0 none none 0 0 0 0 [] [] _ rfl rfl Rd.none_ Rd.none_ (Nat.zero_le _) (Nat.zero_le _) (by omega) (by omega) true (by decide)).mono ?_
          rintro e w14 ⟨rfl, hb⟩
          replace HX0 := hide ((HX0.out.below hb).more hb.size)
          replace HW := hide ((HW.out.below hb).more hb.size)
          replace HAL := hide ((HAL.out.below hb).more hb.size)
          replace HAt := hide ((HAt.out.below hb).more hb.size)
          replace HWas := hide ((HWas.out.below hb).more hb.size)
          replace RA := hide (RA.out.below hb)
          replace R1 := hide (R1.out.below hb)
          replace R2 := hide (R2.out.below hb)
          replace HB := hide (HB.out.trans (hb.mono HB.out.size))
          replace HBW := hide (HBW.out.trans (hb.mono HBW.out.size))
          clear hb
          go_wp2_with fail
          go_loopw [100] (fun i wr => i = .int .i64 0 ∧ wr = w14) (fun _ _ => 0)
          case atStart => exact ⟨rfl, rfl⟩
          case round =>
            obtain ⟨rfl, rfl⟩ := hrel
            go_wp2_with fail
            with_reducible refine (EqualWn _ _ A As cA cs m m Y Y _ HYL.out HYL.out HAt.out HWas.out (Nat.le_refl _) (Nat.le_refl _) (by omega) (by omega) true (by simp)).mono ?_
            rintro e w15 ⟨rfl, hb⟩
            replace HX0 := hide ((HX0.out.below hb).more hb.size)
            replace HW := hide ((HW.out.below hb).more hb.size)
            replace HAL := hide ((HAL.out.below hb).more hb.size)
            replace HAt := hide ((HAt.out.below hb).more hb.size)
            replace HWas := hide ((HWas.out.below hb).more hb.size)
            replace RA := hide (RA.out.below hb)
            replace R1 := hide (R1.out.below hb)
            replace R2 := hide (R2.out.below hb)
            replace HB := hide (HB.out.trans (hb.mono HB.out.size))
            replace HBW := hide (HBW.out.trans (hb.mono HBW.out.size))
            clear hb
            go_wp2_with fail
            go_roundw
            case rel => exact ⟨j + 1, by omega, by go_num, A, cA, Y, rfl, hcA, hcmA, HYL.out, HYW.out, HAt.out, HBW.out⟩
            case measure => simp [intOf]; omega
      · replace HX0 := hide ((HX0.out.below HBW.out).more HBW.out.size)
        replace HAL := hide ((HAL.out.below HBW.out).more HBW.out.size)
        replace HW := hide ((HW.out.below HBW.out).more HBW.out.size)
        replace HB := hide (HB.out.trans (HBW.out.mono HB.out.size))
        obtain ⟨er, her⟩ : ∃ e, runE m L = e := ⟨_, rfl⟩
        obtain ⟨Yv, hYv⟩ : ∃ x, runV X4 L = x := ⟨_, rfl⟩
        obtain ⟨Sv, hSv⟩ : ∃ x, runSV X4 L = x := ⟨_, rfl⟩
        obtain ⟨Mv, hMv⟩ : ∃ x, runMV X4 L = x := ⟨_, rfl⟩
        obtain ⟨kY, hkY⟩ : ∃ x, Yv.length = x := ⟨_, rfl⟩
        obtain ⟨kS, hkS⟩ : ∃ x, Sv.length = x := ⟨_, rfl⟩
        obtain ⟨kM, hkM⟩ : ∃ x, Mv.length = x := ⟨_, rfl⟩
        have hbY : kY ≤ 40 := by
          rw [← hkY, ← hYv]; unfold runV; split
          · rw [runX_length, HHX40.out]; exact hmb
          · simp
        have hbS : kS ≤ 30 := by
          rw [← hkS, ← hSv]; unfold runSV; split
          · rw [runS_length, HHL.out]; exact hk1b
          · simp
        have hbM : kM ≤ 30 := by
          rw [← hkM, ← hMv]; unfold runMV; split
          · have h := runM_length 0 X4 L; rw [HHL.out] at h; omega
          · simp
        have HER := hide her
        have HYV := hide hYv
        have HSV := hide hSv
        have HMV := hide hMv
        have HKY := hide hkY
        have HKS := hide hkS
        have HKM := hide hkM
        have hee : (er == er) = true := by simp
        clear her hYv hSv hMv hkY hkS hkM
        go_wp2_with fail
        with_reducible refine (prun_u Aw Al cAw m cl k1 X4 L _ HW.out HHX40.out (by omega) HAL.out HHL.out (by omega) er Yv Sv Mv kY kS kM HER.out HYV.out HSV.out HMV.out HKY.out HKS.out HKM.out).mono ?_
        rintro e w5 ⟨B1, d1, B2, d2, B3, d3, rfl, hd1, hry, hrs, hrm, hb⟩
        replace HX0 := hide ((HX0.out.below hb).more hb.size)
        replace HAL := hide ((HAL.out.below hb).more hb.size)
        replace HW := hide ((HW.out.below hb).more hb.size)
        replace HB := hide (HB.out.trans (hb.mono HB.out.size))
        have HRY := hide (hry)
        have HRS := hide (hrs)
        have HRM := hide (hrm)
        clear hb hry hrs hrm
        go_wp2_with fail
        with_reducible refine (few_any A0 c0 n0 X _ HX0.out HHX.out hn0 hm0 m HHM.out).mono ?_
        rintro e w6 ⟨v, rfl, hown, hb⟩
        replace HX0 := hide ((HX0.out.below hb).more hb.size)
        replace HAL := hide ((HAL.out.below hb).more hb.size)
        replace HW := hide ((HW.out.below hb).more hb.size)
        replace HRY := hide ((HRY.out.below hb).more hb.size)
        replace HRS := hide ((HRS.out.below hb).more hb.size)
        replace HRM := hide ((HRM.out.below hb).more hb.size)
        replace HB := hide (HB.out.trans (hb.mono HB.out.size))
        clear hb
        rw [HX4.out] at hown
        obtain ⟨Av, cAv, rfl, hcAv, hcmAv⟩ := own_form2 hown
        have HW2 := hide (Rd.of_own hown)
        clear hown
        go_wp2_with fail
        with_reducible refine (rrun_u Av Al cAv m cl k1 X4 L _ HW2.out HHX40.out hcAv hcmAv (by omega) HWX.out HAL.out HUL.out HHL.out (by omega) er Yv Sv Mv kY kS kM HER.out HYV.out HSV.out HMV.out HKY.out HKS.out HKM.out).mono ?_
        rintro e w7 ⟨E1, f1, E2, f2, E3, f3, rfl, hd2, hry, hrs, hrm, hb⟩
        replace HX0 := hide ((HX0.out.below hb).more hb.size)
        replace HAL := hide ((HAL.out.below hb).more hb.size)
        replace HW := hide ((HW.out.below hb).more hb.size)
        replace HRY := hide ((HRY.out.below hb).more hb.size)
        replace HRS := hide ((HRS.out.below hb).more hb.size)
        replace HRM := hide ((HRM.out.below hb).more hb.size)
        replace HW2 := hide ((HW2.out.below hb).more hb.size)
        replace HB := hide (HB.out.trans (hb.mono HB.out.size))
        have HRY2 := hide (hry)
        have HRS2 := hide (hrs)
        have HRM2 := hide (hrm)
        clear hb hry hrs hrm
        clear HW2 HAL
        go_wp2_with fail
        with_reducible refine (rsame_n _ _ B1 E1 d1 f1 kY kY Yv Yv _ HKY.out HKY.out HRY.out HRY2.out (Nat.le_refl _) (Nat.le_refl _) (by omega) (by omega) true (by simp)).mono ?_
        rintro e w8 ⟨rfl, hb⟩
        replace HX0 := hide ((HX0.out.below hb).more hb.size)
        replace HW := hide ((HW.out.below hb).more hb.size)
        replace HRY := hide ((HRY.out.below hb).more hb.size)
        replace HRS := hide ((HRS.out.below hb).more hb.size)
        replace HRM := hide ((HRM.out.below hb).more hb.size)
        replace HRY2 := hide ((HRY2.out.below hb).more hb.size)
        replace HRS2 := hide ((HRS2.out.below hb).more hb.size)
        replace HRM2 := hide ((HRM2.out.below hb).more hb.size)
        replace HB := hide (HB.out.trans (hb.mono HB.out.size))
        clear hb
        clear HRY HRY2
        go_wp2_with fail
        with_reducible refine (EqualSn _ _ B2 E2 d2 f2 kS kS Sv Sv _ HKS.out HKS.out HRS.out HRS2.out (Nat.le_refl _) (Nat.le_refl _) (by omega) (by omega) true (by simp)).mono ?_
        rintro e w9 ⟨rfl, hb⟩
        replace HX0 := hide ((HX0.out.below hb).more hb.size)
        replace HW := hide ((HW.out.below hb).more hb.size)
        replace HRS := hide ((HRS.out.below hb).more hb.size)
        replace HRM := hide ((HRM.out.below hb).more hb.size)
        replace HRS2 := hide ((HRS2.out.below hb).more hb.size)
        replace HRM2 := hide ((HRM2.out.below hb).more hb.size)
        replace HB := hide (HB.out.trans (hb.mono HB.out.size))
        clear hb
        clear HRS HRS2
        go_wp2_with fail
        with_reducible refine (EqualMn _ _ B3 E3 d3 f3 kM kM Mv Mv _ HKM.out HKM.out HRM.out HRM2.out (Nat.le_refl _) (Nat.le_refl _) (by omega) (by omega) true (by simp)).mono ?_
        rintro e w10 ⟨rfl, hb⟩
        replace HX0 := hide ((HX0.out.below hb).more hb.size)
        replace HW := hide ((HW.out.below hb).more hb.size)
        replace HRM := hide ((HRM.out.below hb).more hb.size)
        replace HRM2 := hide ((HRM2.out.below hb).more hb.size)
        replace HB := hide (HB.out.trans (hb.mono HB.out.size))
        clear hb
        clear HRM HRM2
        go_wp2_with fail
        with_reducible refine (few_any A0 c0 n0 X _ HX0.out HHX.out hn0 hm0 m HHM.out).mono ?_
        rintro e w11 ⟨v, rfl, hown, hb⟩
        replace HX0 := hide ((HX0.out.below hb).more hb.size)
        replace HW := hide ((HW.out.below hb).more hb.size)
        replace HB := hide (HB.out.trans (hb.mono HB.out.size))
        clear hb
        rw [HX4.out] at hown
        obtain ⟨Au, cAu, rfl, hcAu, hcmAu⟩ := own_form2 hown
        have HW3 := hide (Rd.of_own hown)
        clear hown
        go_wp2_with fail
        with_reducible refine (EqualWn _ _ Aw Au cAw cAu m m X4 X4 _ HHX40.out HHX40.out HW.out HW3.out (Nat.le_refl _) (Nat.le_refl _) (by omega) (by omega) true (by simp)).mono ?_
        rintro e w12 ⟨rfl, hb⟩
        replace HX0 := hide ((HX0.out.below hb).more hb.size)
        replace HW := hide ((HW.out.below hb).more hb.size)
        replace HW3 := hide ((HW3.out.below hb).more hb.size)
        replace HB := hide (HB.out.trans (hb.mono HB.out.size))
        clear hb
        go_wp2_with fail
        go_ret
        exact ⟨rfl, HB.out⟩
end Go.Proofs.Ytadgihmokmfejaa
