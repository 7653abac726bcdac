/-
  CellsShare, walked: it answers true.
-/
import Derived.Test.YtadgihmokmfejaaCedo
set_option linter.unusedSimpArgs false
set_option linter.unusedVariables false
namespace Go.Proofs.Ytadgihmokmfejaa
open Go Go.RowKit
attribute [local go_sem] via_cell via_frozen

theorem ShP.past {w w' : World} {gs ga n k : Nat} {X : List Int} (h : ShP w gs ga n X) (hp : Past k w w') (h1 : gs ≠ k) (h2 : ga ≠ k) : ShP w' gs ga n X := ⟨h.len, h.pos, h.top, h.ne, h.box.past hp h1, h.row.past hp h2⟩
theorem Past.set2 (w : World) (p : Nat) (u v : Value) : Past p w ((w.setCell ⟨p, 0, none⟩ u).setCell ⟨p, 1, none⟩ v) := (Past.set 0 u).trans (Past.set 1 v)
def ShAt (w1 : World) (gs ga m : Nat) (v : Value) (wr : World) : Prop := ∃ A c Y, v = .slice A m c ∧ m ≤ c ∧ c ≤ 9223372036854775807 ∧ Y.length = m ∧ Ws Y ∧ Rd wr wr.heap.size 1 A m (Cs encW Y) ∧ (∀ p, A = some p → w1.heap.size ≤ p.block ∧ p.block ≠ ga) ∧ ShP wr gs ga m Y ∧ Below w1.heap.size w1 wr
def IncOwn (w9 : World) (gw base cw m : Nat) (wr : World) : Prop := ∃ Z : List Int, Z.length = m ∧ wr.ownsRow base 31 1 (.slice (some ⟨gw, 0, none⟩) m cw) m (Cs encW Z) ∧ Past gw w9 wr
theorem own_cell {w : World} {base gw m cw : Nat} {Z : List Int} (h : w.ownsRow base 31 1 (.slice (some ⟨gw, 0, none⟩) m cw) m (Cs encW Z)) (hz : Z.length = m) {t : Nat} (ht : t < m) :
    w.cell? ⟨gw, t, none⟩ = some (.int .u64 (ceAt Z t)) ∧ w.frozen? ⟨gw, t, none⟩ = false ∧ gw < w.heap.size := by
  obtain ⟨g', c', he, _, _, _, hgl, hcell, hfr⟩ := own_some h (by omega)
  injection he with he
  injection he with he
  injection he with he
  subst he
  refine ⟨?_, hfr t, hgl⟩
  rw [hcell t ht, encW_map]
  have : ceAt Z t = Z[t]'(by omega) := by unfold ceAt; rw [Int.toNat_natCast, List.getD_eq_getElem?_getD, List.getElem?_eq_getElem (by omega)]; rfl
  rw [this]
  simp [show t < Z.length by omega]

set_option maxRecDepth 100000 in
set_option maxHeartbeats 8000000 in
theorem Share_walk (A0 : Option Addr) (c0 n0 : Nat) (A1 : Option Addr) (c1 n1 : Nat) (X : List Int) (l : List Acc) (W : World)
    (hr0 : Rd W W.heap.size 1 A0 n0 (Cs encW X)) (hr1 : Rd W W.heap.size 5 A1 n1 (Cs encA l)) (hx0 : X.length = n0) (hx1 : l.length = n1) (hu0 : ∀ x ∈ X, U64 x) (hu1 : ∀ a ∈ l, U64 a.2.2.2.2)
    (hn0 : n0 ≤ c0) (hn1 : n1 ≤ c1) (hm0 : c0 ≤ 9223372036854775807) (hm1 : c1 ≤ 9223372036854775807) :
    Calls Try.prog 3 #[.slice A0 n0 c0, .slice A1 n1 c1] W fun e W' => e = .returned (.bool true) ∧ Below W.heap.size W W' := by
  have HB := hide (Below.refl W.heap.size W)
  obtain ⟨m, hm⟩ : ∃ m, min n0 40 = m := ⟨_, rfl⟩
  have hn1I : (n1 : Int) ≤ 9223372036854775807 := by omega
  have hmb : m ≤ 40 := by omega
  have hX40 : (X.take m).length = m := by rw [List.length_take]; omega
  have HWX := hide (show Ws (X.take m) from fun x hx => hu0 x (List.mem_of_mem_take hx))
  have HUL := hide hu1
  have HAF := hide hr1
  have HHA := hide hx1
  have HX0 := hide hr0
  have HHX := hide hx0
  have HHM := hide hm
  obtain ⟨X4, hX4⟩ : ∃ x, X.take m = x := ⟨_, rfl⟩
  have HX4 := hide hX4
  rw [hX4] at hX40 HWX
  have HHX40 := hide hX40
  clear hr0 hr1 hx0 hx1 hX40 hX4 hu0 hu1 hm
  go_enter Try.func3, Try.ntmps3
  go_wp2_with fail
  with_reducible refine (wakes_any _).mono ?_
  rintro e w1 ⟨rfl, hb⟩
  replace HX0 := hide ((HX0.out.below hb).more hb.size)
  replace HAF := hide ((HAF.out.below hb).more hb.size)
  replace HB := hide (HB.out.trans (hb.mono HB.out.size))
  clear hb
  go_wp2_with fail
  have HB0 := HB
  with_reducible refine (few_any A0 c0 n0 X _ HX0.out HHX.out hn0 hm0 m HHM.out).mono ?_
  rintro e w2 ⟨v, rfl, hown, hb⟩
  replace HX0 := hide ((HX0.out.below hb).more hb.size)
  replace HAF := hide ((HAF.out.below hb).more hb.size)
  replace HB := hide (HB.out.trans (hb.mono HB.out.size))
  have HBASE := hide (HB0.out.size)
  clear hb
  rw [HX4.out] at hown
  obtain ⟨Aw, cAw, rfl, hcAw, hcmAw⟩ := own_form2 hown
  have HW := hide (Rd.of_own hown)
  have HOW := hide hown
  clear hown
  by_cases hm1 : m < 1
  · obtain rfl : m = 0 := by omega
    go_wp2_with fail
    with_reducible refine (share_zero Aw cAw _).mono ?_
    rintro e w3 ⟨rfl, rfl⟩
    go_wp2_with fail
    with_reducible refine (right_any Aw cAw 0 _ false (by decide)).mono ?_
    rintro e w4 ⟨rfl, rfl⟩
    go_wp2_with fail
    with_reducible refine (sdo_nil 0 1 0 0 0 _).mono ?_
    rintro e w5 ⟨rfl, hb⟩
    replace HX0 := hide ((HX0.out.below hb).more hb.size)
    replace HAF := hide ((HAF.out.below hb).more hb.size)
    replace HW := hide ((HW.out.below hb).more hb.size)
    replace HB := hide (HB.out.trans (hb.mono HB.out.size))
    clear hb
    go_wp2_with fail
    obtain ⟨g1, hg1⟩ : ∃ g, w5.heap.size = g := ⟨_, rfl⟩
    have hWg1 : W.heap.size ≤ g1 := by rw [← hg1]; exact HB.out.size
    have hbx : Below w5.heap.size w5 (w5.alloc (.cells #[.int .u64 0, .bool false] 33)) := (Below.refl _ _).alloc (Nat.le_refl _) _
    have hrx := RowAt.new w5 33 #[.int .u64 0, .bool false]
    rw [hg1] at hrx
    replace HX0 := hide ((HX0.out.below hbx).more hbx.size)
    replace HAF := hide ((HAF.out.below hbx).more hbx.size)
    replace HW := hide ((HW.out.below hbx).more hbx.size)
    replace HB := hide (HB.out.trans (hbx.mono HB.out.size))
    have hs6 : (w5.alloc (.cells #[.int .u64 0, .bool false] 33)).heap.size = g1 + 1 := by rw [World.size_alloc, hg1]
    have R1 := hide hrx
    clear hbx hrx
    generalize w5.alloc (.cells #[.int .u64 0, .bool false] 33) = w7 at *
    (try rw [hg1])
    clear hg1 hs6
    with_reducible refine (words_nil _).mono ?_
    rintro e w8 ⟨rfl, rfl⟩
    go_wp2_with fail
    go_ret
    exact ⟨rfl, HB.out⟩
  · have HB1 := hide (Below.refl w2.heap.size w2)
    go_wp2_with fail
    with_reducible refine (share_any Aw cAw m X4 _ HW.out HHX40.out (by omega) (by omega)).mono ?_
    rintro e w3 ⟨gs, ga, rfl, hsh, hgs, hga, hb⟩
    replace HB1 := hide (HB1.out.trans (hb.mono HB1.out.size))
    have HSh := hide (hsh)
    have HGS := hide (hgs)
    have HGA := hide (hga)
    clear hb hsh hgs hga
    have hmI : (1 : Int) ≤ (m : Int) := by omega
    go_wp2_with fail
    with_reducible refine (right_any Aw cAw m _ true (by simp; omega)).mono ?_
    rintro e w4 ⟨rfl, rfl⟩
    go_wp2_with fail
    have HSZ := hide HB1.out.size
    have HGAL := hide HSh.out.row.lt
    with_reducible refine (few_any A0 c0 n0 X _ ((HX0.out.below HB1.out).more HB1.out.size) HHX.out hn0 hm0 m HHM.out).mono ?_
    rintro e w5 ⟨v, rfl, hown, hb⟩
    replace HSh := hide (HSh.out.below hb)
    replace HB1 := hide (HB1.out.trans (hb.mono HB1.out.size))
    clear hb
    rw [HX4.out] at hown
    obtain ⟨Aa, cAa, rfl, hcAa, hcmAa⟩ := own_form2 hown
    have HAt0 := hide (Rd.of_own hown)
    have hfr := own_fresh hown
    clear hown
    have HFR := hide (show ∀ p, Aa = some p → w2.heap.size ≤ p.block ∧ p.block ≠ ga from fun p hp => ⟨Nat.le_trans HSZ.out (hfr p hp), by have h1 := hfr p hp; have h2 := HGAL.out; omega⟩)
    clear hfr HSZ HGAL HX0 HW
    go_wp2_with fail
    go_loopw [10, 64] (fun v i wr => ∃ j : Nat, j ≤ n1 ∧ j ≤ 30 ∧ i = .int .i64 j ∧ ShAt w2 gs ga m v wr) (fun _ i _ => n1 - (intOf i).toNat)
    case atStart => exact ⟨0, Nat.zero_le _, Nat.zero_le _, rfl, Aa, cAa, X4, rfl, hcAa, hcmAa, HHX40.out, HWX.out, HAt0.out, HFR.out, HSh.out, HB1.out⟩
    case round =>
      obtain ⟨j, hj, hj30, rfl, A, cA, Y, rfl, hcA, hcmA, hYl, hYw, hrd, hne, hsh, hbw⟩ := hrel
      have HAt := hide hrd
      have HYL := hide hYl
      have HYW := hide hYw
      have HNE := hide hne
      replace HSh := hide hsh
      replace HB1 := hide hbw
      clear hrd hYl hYw hne hsh hbw HAt0 HFR
      by_cases hlt : j < n1
      · obtain ⟨b, o, hAl, hb, wh, kd, at_, ol, nw, ha, d0, d1, d2, d3, d4⟩ := ((HAF.out.below HB1.out).acc HHA.out hlt)
        subst hAl
        have hjn : (j : Int) < (n1 : Int) := by omega
        have hbl : b < wr.heap.size := Nat.lt_of_lt_of_le hb HB1.out.size
        have HA := hide ha
        obtain ⟨r, hr⟩ : ∃ r, why m (wh, kd, at_, ol, nw) = r := ⟨_, rfl⟩
        have HR := hide hr
        clear ha hr hb
        by_cases h30 : j = 30
        · subst h30
          go_wp2_with fail
          clear d0 d1 d2 d3 d4 hbl
          obtain ⟨b0, hb0⟩ : ∃ g, wr.heap.size = g := ⟨_, rfl⟩
          have hWb0 : w2.heap.size ≤ b0 := by rw [← hb0]; exact HB1.out.size
          have hbx : Below wr.heap.size wr (wr.alloc (.cells #[.int .i64 wh, .int .i64 kd, .int .i64 at_, .int .u64 ol, .int .u64 nw] 37)) := (Below.refl _ _).alloc (Nat.le_refl _) _
          have hrx := RowAt.new wr 37 #[.int .i64 wh, .int .i64 kd, .int .i64 at_, .int .u64 ol, .int .u64 nw]
          rw [hb0] at hrx
          replace HAt := hide ((HAt.out.below hbx).more hbx.size)
          replace HSh := hide (HSh.out.below hbx)
          replace HB1 := hide (HB1.out.trans (hbx.mono HB1.out.size))
          have hs7 : (wr.alloc (.cells #[.int .i64 wh, .int .i64 kd, .int .i64 at_, .int .u64 ol, .int .u64 nw] 37)).heap.size = b0 + 1 := by rw [World.size_alloc, hb0]
          have RA := hide hrx
          clear hbx hrx
          generalize wr.alloc (.cells #[.int .i64 wh, .int .i64 kd, .int .i64 at_, .int .u64 ol, .int .u64 nw] 37) = w8 at *
          (try rw [hb0])
          clear hb0 hs7
          clear RA
          go_wp2_with fail
          have HAtB := HAt
          have HShB := HSh
          have HB1B := HB1
          with_reducible refine (words_any gs ga m Y _ HSh.out).mono ?_
          rintro e w9 ⟨g6, rfl, hrow, hg6, hb⟩
          replace HAt := hide ((HAt.out.below hb).more hb.size)
          replace HSh := hide (HSh.out.below hb)
          replace HB1 := hide (HB1.out.trans (hb.mono HB1.out.size))
          clear hb
          have HROW := hide hrow
          have HG6 := hide hg6
          clear hrow hg6
          have HAb := hide (show ∀ p, A = some p → p.block < g6 from fun p hp => by
            obtain ⟨b2, o2, e2, hb2, _⟩ := HAtB.out.2 (by omega)
            rw [hp] at e2
            injection e2 with e2
            have h6 := HG6.out
            subst e2
            show b2 < g6
            omega)
          have HSb := hide (show gs < g6 ∧ ga < g6 from ⟨Nat.lt_of_lt_of_le HShB.out.box.lt HG6.out, Nat.lt_of_lt_of_le HShB.out.row.lt HG6.out⟩)
          have h1g6 : w2.heap.size ≤ g6 := Nat.le_trans HB1B.out.size HG6.out
          clear HAtB HShB HB1B HG6
          go_wp2_with fail
          go_loopw [108] (fun i wq => ∃ t : Nat, t ≤ m ∧ i = .int .i64 t ∧ IncAt w9 g6 m wq) (fun i _ => m - (intOf i).toNat)
          case atStart => exact ⟨0, Nat.zero_le _, rfl, Y, HYL.out, HROW.out, Past.refl _ _⟩
          case round =>
            obtain ⟨t, ht, rfl, Z, hZl, hZr, hZp⟩ := hrel
            have HZL := hide hZl
            have HZR := hide hZr
            have HZP := hide hZp
            by_cases htl : t < m
            · have htn : (t : Int) < (m : Int) := by omega
              have x0 := row_word hZr (show t < Z.length by rw [hZl]; exact htl)
              have xf := hZr.frozen t
              have xl := hZr.lt
              clear hZr hZp hZl
              generalize ceAt Z t = z at *
              go_wp2_with fail
              go_roundw
              case rel => exact ⟨t + 1, by omega, by go_num, Z.set t _, by rw [List.length_set]; exact HZL.out, row_set HZR.out t _, HZP.out.trans (Past.set t _)⟩
              case measure => simp [intOf]; omega
            · clear hZr hZl
              have HAt2 := hide (HAt.out.pastNe hZp (fun p hp => by have h := HAb.out p hp; omega))
              have HSh2 := hide (HSh.out.past hZp (by have h := HSb.out.1; omega) (by have h := HSb.out.2; omega))
              have HB2 := hide (HB1.out.trans (hZp.below.mono h1g6))
              clear hZp HZP HZR HZL HAt HSh HB1 HROW HAb HSb
              obtain ⟨gw, cw, he, _, _, hgwb, hgwl, _, _⟩ := own_some HOW.out (by omega)
              have he1 : Aw = some ⟨gw, 0, none⟩ := by cases he; rfl
              have he2 : cw = cAw := by cases he; rfl
              subst he1
              subst he2
              clear he
              have HO2 := hide (own_keepB HOW.out HB2.out)
              have hWgw : W.heap.size ≤ gw := Nat.le_trans HBASE.out hgwb
              have hgsw : gs ≠ gw := by have h := HGS.out; omega
              have hgaw : ga ≠ gw := by have h := HGA.out; omega
              have HBT := hide (HB.out.trans (HB2.out.mono HB.out.size))
              clear HB2
              go_wp2_with fail
              go_loopw [120] (fun i wz => ∃ t : Nat, t ≤ m ∧ i = .int .i64 t ∧ IncOwn wr gw w1.heap.size cw m wz) (fun i _ => m - (intOf i).toNat)
              case atStart => exact ⟨0, Nat.zero_le _, rfl, X4, HHX40.out, HO2.out, Past.refl _ _⟩
              case round =>
                obtain ⟨t, ht, rfl, Z, hZl, hZo, hZp⟩ := hrel
                have HZL := hide hZl
                have HZO := hide hZo
                have HZP := hide hZp
                by_cases htl : t < m
                · have htn : (t : Int) < (m : Int) := by omega
                  obtain ⟨x0, xf, xl⟩ := own_cell hZo hZl htl
                  clear hZo hZp hZl
                  generalize ceAt Z t = z at *
                  go_wp2_with fail
                  go_roundw
                  case rel => exact ⟨t + 1, by omega, by go_num, Z.set t (IntKind.u64.wrap (z + 1)), by rw [List.length_set]; exact HZL.out, by have h := (HZO.out.stored t (.int .u64 (IntKind.u64.wrap (z + 1)))).1; rw [encW_set] at h; exact h, HZP.out.trans (Past.set t _)⟩
                  case measure => simp [intOf]; omega
                · have HAt3 := hide (HAt2.out.pastNe hZp (fun p hp => by have h := (HNE.out p hp).1; omega))
                  have HSh3 := hide (HSh2.out.past hZp hgsw hgaw)
                  have HBF := hide (HBT.out.trans (hZp.below.mono hWgw))
                  clear hZo hZp hZl HAt2 HSh2 HBT HZL HZO HZP HO2
                  go_wp2_with fail
                  with_reducible refine (words_any gs ga m Y _ HSh3.out).mono ?_
                  rintro e w888 ⟨g8, rfl, hrow, hg8, hb⟩
                  have HRW := hide (hrow.rd HYL.out)
                  have HAt4 := hide ((HAt3.out.below hb).more hb.size)
                  have HBG := hide (HBF.out.trans (hb.mono HBF.out.size))
                  clear hrow hb
                  go_wp2_with fail
                  with_reducible refine (rsame_n _ _ (some ⟨g8, 0, none⟩) A m cA m m Y Y _ HYL.out HYL.out HRW.out HAt4.out (Nat.le_refl _) (Nat.le_refl _) (by omega) (by omega) true (by simp)).mono ?_
                  rintro e w889 ⟨rfl, hb⟩
                  have HBH := hide (HBG.out.trans (hb.mono HBG.out.size))
                  clear hb
                  go_wp2_with fail
                  go_ret
                  exact ⟨rfl, HBH.out⟩
        · have h30I : ((j : Int) == 30) = false := by rw [beq_eq_false_iff_ne]; omega
          go_wp2_with fail
          clear d0 d1 d2 d3 d4 hbl
          obtain ⟨b0, hb0⟩ : ∃ g, wr.heap.size = g := ⟨_, rfl⟩
          have hWb0 : w2.heap.size ≤ b0 := by rw [← hb0]; exact HB1.out.size
          have HAbb := hide (show ∀ p, A = some p → p.block < b0 from fun p hp => by
            obtain ⟨b2, o2, e2, hb2, _⟩ := HAt.out.2 (by omega)
            rw [hp] at e2
            injection e2 with e2
            subst e2
            show b2 < b0
            omega)
          have HSbb := hide (show gs < b0 ∧ ga < b0 from ⟨by have h := HSh.out.box.lt; omega, by have h := HSh.out.row.lt; omega⟩)
          have hbx : Below wr.heap.size wr (wr.alloc (.cells #[.int .i64 wh, .int .i64 kd, .int .i64 at_, .int .u64 ol, .int .u64 nw] 37)) := (Below.refl _ _).alloc (Nat.le_refl _) _
          have hrx := RowAt.new wr 37 #[.int .i64 wh, .int .i64 kd, .int .i64 at_, .int .u64 ol, .int .u64 nw]
          rw [hb0] at hrx
          replace HAt := hide ((HAt.out.below hbx).more hbx.size)
          replace HSh := hide (HSh.out.below hbx)
          replace HB1 := hide (HB1.out.trans (hbx.mono HB1.out.size))
          have hs7 : (wr.alloc (.cells #[.int .i64 wh, .int .i64 kd, .int .i64 at_, .int .u64 ol, .int .u64 nw] 37)).heap.size = b0 + 1 := by rw [World.size_alloc, hb0]
          have RA := hide hrx
          clear hbx hrx
          generalize wr.alloc (.cells #[.int .i64 wh, .int .i64 kd, .int .i64 at_, .int .u64 ol, .int .u64 nw] 37) = w8 at *
          (try rw [hb0])
          clear hb0 hs7
          by_cases hr0 : r = 0
          · subst hr0
            obtain ⟨n1', n2', k1', k4', _, _, hk0, hkn⟩ := why_ok HR.out
            obtain ⟨k, rfl⟩ : ∃ k : Nat, at_ = k := ⟨at_.toNat, by omega⟩
            have hkn' : k < m := by omega
            have HNW := hide (show U64 nw from HUL.out _ (List.mem_of_getElem? HA.out))
            obtain ⟨Y2, hY2⟩ : ∃ y, doX Y (wh, kd, (k : Int), ol, nw) = y := ⟨_, rfl⟩
            obtain ⟨⟨q, d⟩, hs⟩ : ∃ s : Int × Bool, doS Y (wh, kd, (k : Int), ol, nw) = s := ⟨_, rfl⟩
            have HY2 := hide hY2
            have HS2 := hide hs
            have HYL2 := hide (show Y2.length = m by rw [← hY2, doX_length, HYL.out])
            have HYW2 := hide (show Ws Y2 by rw [← hY2]; exact HYW.out.doX HNW.out)
            clear hY2 hs hk0
            with_reducible refine (sdo_ok gs ga m Y wh kd k ol nw _ HSh.out HR.out Y2 HY2.out q d HS2.out).mono ?_
            rintro e w9 ⟨rfl, hsh, hp⟩
            dsimp only
            have hb0ga : b0 ≠ ga := by have h := HSbb.out.2; omega
            replace HAt := hide (HAt.out.pastNe hp (fun p hp => (HNE.out p hp).2))
            replace HB1 := hide (HB1.out.trans (hp.below.mono HGA.out))
            replace RA := hide (RA.out.past hp hb0ga)
            replace HSh := hide hsh
            clear hsh hp
            have a0 : w9.cell? ⟨b0, 0, none⟩ = some (.int .i64 wh) := RA.out.cell 0
            have a1 : w9.cell? ⟨b0, 1, none⟩ = some (.int .i64 kd) := RA.out.cell 1
            have a2 : w9.cell? ⟨b0, 2, none⟩ = some (.int .i64 k) := RA.out.cell 2
            have a3 : w9.cell? ⟨b0, 3, none⟩ = some (.int .u64 ol) := RA.out.cell 3
            have a4 : w9.cell? ⟨b0, 4, none⟩ = some (.int .u64 nw) := RA.out.cell 4
            have la := RA.out.lt
            go_wp2_with fail
            clear a0 a1 a2 a3 a4 la
            obtain ⟨g1, hg1⟩ : ∃ g, w9.heap.size = g := ⟨_, rfl⟩
            have hWg1 : w2.heap.size ≤ g1 := by rw [← hg1]; exact HB1.out.size
            have hb0g1 : b0 < g1 := by have h := RA.out.lt; omega
            have hgsg1 : gs < g1 := by have h := HSh.out.box.lt; omega
            have hgag1 : ga < g1 := by have h := HSh.out.row.lt; omega
            have hbx : Below w9.heap.size w9 (w9.alloc (.cells #[.int .u64 q, .bool d] 33)) := (Below.refl _ _).alloc (Nat.le_refl _) _
            have hrx := RowAt.new w9 33 #[.int .u64 q, .bool d]
            rw [hg1] at hrx
            replace HAt := hide ((HAt.out.below hbx).more hbx.size)
            replace RA := hide (RA.out.below hbx)
            replace HSh := hide (HSh.out.below hbx)
            replace HB1 := hide (HB1.out.trans (hbx.mono HB1.out.size))
            have hs10 : (w9.alloc (.cells #[.int .u64 q, .bool d] 33)).heap.size = g1 + 1 := by rw [World.size_alloc, hg1]
            have R1 := hide hrx
            clear hbx hrx
            generalize w9.alloc (.cells #[.int .u64 q, .bool d] 33) = w11 at *
            have hbx : Below w11.heap.size w11 (w11.alloc (.cells #[.int .u64 0, .bool false] 33)) := (Below.refl _ _).alloc (Nat.le_refl _) _
            have hrx := RowAt.new w11 33 #[.int .u64 0, .bool false]
            rw [hs10] at hrx
            replace HAt := hide ((HAt.out.below hbx).more hbx.size)
            replace RA := hide (RA.out.below hbx)
            replace R1 := hide (R1.out.below hbx)
            replace HSh := hide (HSh.out.below hbx)
            replace HB1 := hide (HB1.out.trans (hbx.mono HB1.out.size))
            have hs12 : (w11.alloc (.cells #[.int .u64 0, .bool false] 33)).heap.size = g1 + 1 + 1 := by rw [World.size_alloc, hs10]
            have R2 := hide hrx
            clear hbx hrx
            generalize w11.alloc (.cells #[.int .u64 0, .bool false] 33) = w13 at *
            (try rw [hg1])
            clear hg1 hs10 hs12
            with_reducible refine (why_any A cA m wh kd k ol nw _ 0 HR.out).mono ?_
            rintro e w14 ⟨rfl, hb⟩
            replace HAt := hide ((HAt.out.below hb).more hb.size)
            replace RA := hide (RA.out.below hb)
            replace R1 := hide (R1.out.below hb)
            replace R2 := hide (R2.out.below hb)
            replace HSh := hide (HSh.out.below hb)
            replace HB1 := hide (HB1.out.trans (hb.mono HB1.out.size))
            clear hb
            have a0 : w14.cell? ⟨b0, 0, none⟩ = some (.int .i64 wh) := RA.out.cell 0
            have a1 : w14.cell? ⟨b0, 1, none⟩ = some (.int .i64 kd) := RA.out.cell 1
            have a2 : w14.cell? ⟨b0, 2, none⟩ = some (.int .i64 k) := RA.out.cell 2
            have a3 : w14.cell? ⟨b0, 3, none⟩ = some (.int .u64 ol) := RA.out.cell 3
            have a4 : w14.cell? ⟨b0, 4, none⟩ = some (.int .u64 nw) := RA.out.cell 4
            have la := RA.out.lt
            go_wp2_with fail
            clear a0 a1 a2 a3 a4 la
            have hszg := R2.out.lt
            have hszga := HSh.out.row.lt
            have hsz1 := HB1.out.size
            with_reducible refine (rdo_any A cA m Y wh kd k ol nw _ HAt.out HYL.out hkn' (by omega) hcA hcmA HYW.out HNW.out k1' k4' Y2 HY2.out (q, d) HS2.out).mono ?_
            rintro e w15 ⟨A2, c2, rfl, hc2, hcm2, hrd, hb, hA2⟩
            replace HAt := hide ((HAt.out.below hb).more hb.size)
            replace RA := hide (RA.out.below hb)
            replace R1 := hide (R1.out.below hb)
            replace R2 := hide (R2.out.below hb)
            replace HSh := hide (HSh.out.below hb)
            replace HB1 := hide (HB1.out.trans (hb.mono HB1.out.size))
            have HRD := hide (hrd)
            clear hb hrd
            dsimp only
            have HA2 := hide (show ∀ p, A2 = some p → (w2.heap.size ≤ p.block ∧ p.block ≠ ga) ∧ p.block ≠ g1 + 1 from fun p hp => (hA2 p hp).elim (fun h => ⟨HNE.out p h, by have h2 := HAbb.out p h; omega⟩) (fun h => ⟨⟨by omega, by omega⟩, by omega⟩))
            clear hA2 hszg hszga hsz1
            clear HAt RA
            have hnq := neqS2 (q, d)
            dsimp only at hnq
            have qR1_0 := row20 R1.out
            have qR1_1 := row21 R1.out
            have lR1 := R1.out.lt
            have qR2_0 := row20 R2.out
            have qR2_1 := row21 R2.out
            have lR2 := R2.out.lt
            have fR2_0 := R2.out.frozen 0
            have fR2_1 := R2.out.frozen 1
            go_wp2_with fail
            clear qR1_0 qR1_1 lR1 qR2_0 qR2_1 lR2 fR2_0 fR2_1
            replace HSh := hide (HSh.out.past (Past.set2 w15 (g1 + 1) (.int .u64 q) (.bool d)) (by omega) (by omega))
            have R2' := hide ((R2.out.set 0 (.int .u64 q)).set 1 (.bool d))
            replace HRD := hide (((HRD.out.setOffS (g := g1 + 1) (fun p hp => (HA2.out p hp).2) 0 (.int .u64 q)).setOffS (g := g1 + 1) (fun p hp => (HA2.out p hp).2) 1 (.bool d)))
            replace R1 := hide (((R1.out.setNe (o := 0) (v := (.int .u64 q)) (g2 := g1 + 1) (by omega)).setNe (o := 1) (v := (.bool d)) (g2 := g1 + 1) (by omega)))
            replace HB1 := hide (((HB1.out.setCell (p := ⟨g1 + 1, 0, none⟩) (by show _ ≤ g1 + 1; omega) (.int .u64 q)).setCell (p := ⟨g1 + 1, 1, none⟩) (by show _ ≤ g1 + 1; omega) (.bool d)))
            generalize ((w15.setCell ⟨g1 + 1, 0, none⟩ (.int .u64 q)).setCell ⟨g1 + 1, 1, none⟩ (.bool d)) = w16 at *
            replace R2 : Hid (RowAt w16 (g1 + 1) 33 #[.int .u64 q, .bool d]) := hide (by simpa using R2'.out)
            clear R2'
            with_reducible refine (words_any gs ga m Y2 _ HSh.out).mono ?_
            rintro e w17 ⟨g6, rfl, hrw, hg6, hb⟩
            replace HRD := hide ((HRD.out.below hb).more hb.size)
            replace R1 := hide (R1.out.below hb)
            replace R2 := hide (R2.out.below hb)
            replace HSh := hide (HSh.out.below hb)
            replace HB1 := hide (HB1.out.trans (hb.mono HB1.out.size))
            have HRW := hide (hrw.rd HYL2.out)
            clear hb hrw hg6
            go_wp2_with fail
            with_reducible refine (rsame_n _ _ (some ⟨g6, 0, none⟩) A2 m c2 m m Y2 Y2 _ HYL2.out HYL2.out HRW.out HRD.out (Nat.le_refl _) (Nat.le_refl _) (by omega) (by omega) true (by simp)).mono ?_
            rintro e w18 ⟨rfl, hb⟩
            replace HRD := hide ((HRD.out.below hb).more hb.size)
            replace HRW := hide ((HRW.out.below hb).more hb.size)
            replace R1 := hide (R1.out.below hb)
            replace R2 := hide (R2.out.below hb)
            replace HSh := hide (HSh.out.below hb)
            replace HB1 := hide (HB1.out.trans (hb.mono HB1.out.size))
            clear hb
            go_wp2_with fail
            go_roundw
            case rel => exact ⟨j + 1, by omega, by omega, by go_num, A2, c2, Y2, rfl, hc2, hcm2, HYL2.out, HYW2.out, HRD.out, fun p hp => (HA2.out p hp).1, HSh.out, HB1.out⟩
            case measure => simp [intOf]; omega
          · have hr1 : (r == 0) = false := by simpa using hr0
            have hr2 : (r != r) = false := by simp
            with_reducible refine (sdo_err gs ga m Y wh kd at_ ol nw _ HSh.out r HR.out hr0).mono ?_
            rintro e w9 ⟨rfl, hb⟩
            replace HAt := hide ((HAt.out.below hb).more hb.size)
            replace RA := hide (RA.out.below hb)
            replace HSh := hide (HSh.out.below hb)
            replace HB1 := hide (HB1.out.trans (hb.mono HB1.out.size))
            clear hb
            have a0 : w9.cell? ⟨b0, 0, none⟩ = some (.int .i64 wh) := RA.out.cell 0
            have a1 : w9.cell? ⟨b0, 1, none⟩ = some (.int .i64 kd) := RA.out.cell 1
            have a2 : w9.cell? ⟨b0, 2, none⟩ = some (.int .i64 at_) := RA.out.cell 2
            have a3 : w9.cell? ⟨b0, 3, none⟩ = some (.int .u64 ol) := RA.out.cell 3
            have a4 : w9.cell? ⟨b0, 4, none⟩ = some (.int .u64 nw) := RA.out.cell 4
            have la := RA.out.lt
            go_wp2_with fail
            clear a0 a1 a2 a3 a4 la
            obtain ⟨g1, hg1⟩ : ∃ g, w9.heap.size = g := ⟨_, rfl⟩
            have hWg1 : w2.heap.size ≤ g1 := by rw [← hg1]; exact HB1.out.size
            have hbx : Below w9.heap.size w9 (w9.alloc (.cells #[.int .u64 0, .bool false] 33)) := (Below.refl _ _).alloc (Nat.le_refl _) _
            have hrx := RowAt.new w9 33 #[.int .u64 0, .bool false]
            rw [hg1] at hrx
            replace HAt := hide ((HAt.out.below hbx).more hbx.size)
            replace RA := hide (RA.out.below hbx)
            replace HSh := hide (HSh.out.below hbx)
            replace HB1 := hide (HB1.out.trans (hbx.mono HB1.out.size))
            have hs10 : (w9.alloc (.cells #[.int .u64 0, .bool false] 33)).heap.size = g1 + 1 := by rw [World.size_alloc, hg1]
            have R1 := hide hrx
            clear hbx hrx
            generalize w9.alloc (.cells #[.int .u64 0, .bool false] 33) = w11 at *
            have hbx : Below w11.heap.size w11 (w11.alloc (.cells #[.int .u64 0, .bool false] 33)) := (Below.refl _ _).alloc (Nat.le_refl _) _
            have hrx := RowAt.new w11 33 #[.int .u64 0, .bool false]
            rw [hs10] at hrx
            replace HAt := hide ((HAt.out.below hbx).more hbx.size)
            replace RA := hide (RA.out.below hbx)
            replace R1 := hide (R1.out.below hbx)
            replace HSh := hide (HSh.out.below hbx)
            replace HB1 := hide (HB1.out.trans (hbx.mono HB1.out.size))
            have hs12 : (w11.alloc (.cells #[.int .u64 0, .bool false] 33)).heap.size = g1 + 1 + 1 := by rw [World.size_alloc, hs10]
            have R2 := hide hrx
            clear hbx hrx
            generalize w11.alloc (.cells #[.int .u64 0, .bool false] 33) = w13 at *
            (try rw [hg1])
            clear hg1 hs10 hs12
            with_reducible refine (why_any A cA m wh kd at_ ol nw _ r HR.out).mono ?_
            rintro e w14 ⟨rfl, hb⟩
            replace HAt := hide ((HAt.out.below hb).more hb.size)
            replace RA := hide (RA.out.below hb)
            replace R1 := hide (R1.out.below hb)
            replace R2 := hide (R2.out.below hb)
            replace HSh := hide (HSh.out.below hb)
            replace HB1 := hide (HB1.out.trans (hb.mono HB1.out.size))
            clear hb
            have hnq : ∀ w, (binOp .neq 33 (.agg #[.int .u64 0, .bool false]) (.agg #[.int .u64 0, .bool false])).run Try.prog w = .ok (.bool false) w := neqS2 (0, false)
            have qR1_0 := row20 R1.out
            have qR1_1 := row21 R1.out
            have lR1 := R1.out.lt
            have qR2_0 := row20 R2.out
            have qR2_1 := row21 R2.out
            have lR2 := R2.out.lt
            go_wp2_with fail
            clear qR1_0 qR1_1 lR1 qR2_0 qR2_1 lR2
            with_reducible refine (words_any gs ga m Y _ HSh.out).mono ?_
            rintro e w15 ⟨g6, rfl, hrw, hg6, hb⟩
            replace HAt := hide ((HAt.out.below hb).more hb.size)
            replace RA := hide (RA.out.below hb)
            replace R1 := hide (R1.out.below hb)
            replace R2 := hide (R2.out.below hb)
            replace HSh := hide (HSh.out.below hb)
            replace HB1 := hide (HB1.out.trans (hb.mono HB1.out.size))
            have HRW := hide (hrw.rd HYL.out)
            clear hb hrw hg6
            go_wp2_with fail
            with_reducible refine (rsame_n _ _ (some ⟨g6, 0, none⟩) A m cA m m Y Y _ HYL.out HYL.out HRW.out HAt.out (Nat.le_refl _) (Nat.le_refl _) (by omega) (by omega) true (by simp)).mono ?_
            rintro e w16 ⟨rfl, hb⟩
            replace HAt := hide ((HAt.out.below hb).more hb.size)
            replace HRW := hide ((HRW.out.below hb).more hb.size)
            replace RA := hide (RA.out.below hb)
            replace R1 := hide (R1.out.below hb)
            replace R2 := hide (R2.out.below hb)
            replace HSh := hide (HSh.out.below hb)
            replace HB1 := hide (HB1.out.trans (hb.mono HB1.out.size))
            clear hb
            go_wp2_with fail
            go_roundw
            case rel => exact ⟨j + 1, by omega, by omega, by go_num, A, cA, Y, rfl, hcA, hcmA, HYL.out, HYW.out, HAt.out, HNE.out, HSh.out, HB1.out⟩
            case measure => simp [intOf]; omega
      · go_wp2_with fail
        have HAtB := HAt
        have HShB := HSh
        have HB1B := HB1
        with_reducible refine (words_any gs ga m Y _ HSh.out).mono ?_
        rintro e w7 ⟨g6, rfl, hrow, hg6, hb⟩
        replace HAt := hide ((HAt.out.below hb).more hb.size)
        replace HSh := hide (HSh.out.below hb)
        replace HB1 := hide (HB1.out.trans (hb.mono HB1.out.size))
        clear hb
        have HROW := hide hrow
        have HG6 := hide hg6
        clear hrow hg6
        have HAb := hide (show ∀ p, A = some p → p.block < g6 from fun p hp => by
          obtain ⟨b2, o2, e2, hb2, _⟩ := HAtB.out.2 (by omega)
          rw [hp] at e2
          injection e2 with e2
          have h6 := HG6.out
          subst e2
          show b2 < g6
          omega)
        have HSb := hide (show gs < g6 ∧ ga < g6 from ⟨Nat.lt_of_lt_of_le HShB.out.box.lt HG6.out, Nat.lt_of_lt_of_le HShB.out.row.lt HG6.out⟩)
        have h1g6 : w2.heap.size ≤ g6 := Nat.le_trans HB1B.out.size HG6.out
        clear HAtB HShB HB1B HG6
        go_wp2_with fail
        go_loopw [108] (fun i wq => ∃ t : Nat, t ≤ m ∧ i = .int .i64 t ∧ IncAt w7 g6 m wq) (fun i _ => m - (intOf i).toNat)
        case atStart => exact ⟨0, Nat.zero_le _, rfl, Y, HYL.out, HROW.out, Past.refl _ _⟩
        case round =>
          obtain ⟨t, ht, rfl, Z, hZl, hZr, hZp⟩ := hrel
          have HZL := hide hZl
          have HZR := hide hZr
          have HZP := hide hZp
          by_cases htl : t < m
          · have htn : (t : Int) < (m : Int) := by omega
            have x0 := row_word hZr (show t < Z.length by rw [hZl]; exact htl)
            have xf := hZr.frozen t
            have xl := hZr.lt
            clear hZr hZp hZl
            generalize ceAt Z t = z at *
            go_wp2_with fail
            go_roundw
            case rel => exact ⟨t + 1, by omega, by go_num, Z.set t _, by rw [List.length_set]; exact HZL.out, row_set HZR.out t _, HZP.out.trans (Past.set t _)⟩
            case measure => simp [intOf]; omega
          · clear hZr hZl
            have HAt2 := hide (HAt.out.pastNe hZp (fun p hp => by have h := HAb.out p hp; omega))
            have HSh2 := hide (HSh.out.past hZp (by have h := HSb.out.1; omega) (by have h := HSb.out.2; omega))
            have HB2 := hide (HB1.out.trans (hZp.below.mono h1g6))
            clear hZp HZP HZR HZL HAt HSh HB1 HROW HAb HSb
            obtain ⟨gw, cw, he, _, _, hgwb, hgwl, _, _⟩ := own_some HOW.out (by omega)
            have he1 : Aw = some ⟨gw, 0, none⟩ := by cases he; rfl
            have he2 : cw = cAw := by cases he; rfl
            subst he1
            subst he2
            clear he
            have HO2 := hide (own_keepB HOW.out HB2.out)
            have hWgw : W.heap.size ≤ gw := Nat.le_trans HBASE.out hgwb
            have hgsw : gs ≠ gw := by have h := HGS.out; omega
            have hgaw : ga ≠ gw := by have h := HGA.out; omega
            have HBT := hide (HB.out.trans (HB2.out.mono HB.out.size))
            clear HB2
            go_wp2_with fail
            go_loopw [120] (fun i wz => ∃ t : Nat, t ≤ m ∧ i = .int .i64 t ∧ IncOwn wr gw w1.heap.size cw m wz) (fun i _ => m - (intOf i).toNat)
            case atStart => exact ⟨0, Nat.zero_le _, rfl, X4, HHX40.out, HO2.out, Past.refl _ _⟩
            case round =>
              obtain ⟨t, ht, rfl, Z, hZl, hZo, hZp⟩ := hrel
              have HZL := hide hZl
              have HZO := hide hZo
              have HZP := hide hZp
              by_cases htl : t < m
              · have htn : (t : Int) < (m : Int) := by omega
                obtain ⟨x0, xf, xl⟩ := own_cell hZo hZl htl
                clear hZo hZp hZl
                generalize ceAt Z t = z at *
                go_wp2_with fail
                go_roundw
                case rel => exact ⟨t + 1, by omega, by go_num, Z.set t (IntKind.u64.wrap (z + 1)), by rw [List.length_set]; exact HZL.out, by have h := (HZO.out.stored t (.int .u64 (IntKind.u64.wrap (z + 1)))).1; rw [encW_set] at h; exact h, HZP.out.trans (Past.set t _)⟩
                case measure => simp [intOf]; omega
              · have HAt3 := hide (HAt2.out.pastNe hZp (fun p hp => by have h := (HNE.out p hp).1; omega))
                have HSh3 := hide (HSh2.out.past hZp hgsw hgaw)
                have HBF := hide (HBT.out.trans (hZp.below.mono hWgw))
                clear hZo hZp hZl HAt2 HSh2 HBT HZL HZO HZP HO2
                go_wp2_with fail
                with_reducible refine (words_any gs ga m Y _ HSh3.out).mono ?_
                rintro e w888 ⟨g8, rfl, hrow, hg8, hb⟩
                have HRW := hide (hrow.rd HYL.out)
                have HAt4 := hide ((HAt3.out.below hb).more hb.size)
                have HBG := hide (HBF.out.trans (hb.mono HBF.out.size))
                clear hrow hb
                go_wp2_with fail
                with_reducible refine (rsame_n _ _ (some ⟨g8, 0, none⟩) A m cA m m Y Y _ HYL.out HYL.out HRW.out HAt4.out (Nat.le_refl _) (Nat.le_refl _) (by omega) (by omega) true (by simp)).mono ?_
                rintro e w889 ⟨rfl, hb⟩
                have HBH := hide (HBG.out.trans (hb.mono HBG.out.size))
                clear hb
                go_wp2_with fail
                go_ret
                exact ⟨rfl, HBH.out⟩
end Go.Proofs.Ytadgihmokmfejaa
