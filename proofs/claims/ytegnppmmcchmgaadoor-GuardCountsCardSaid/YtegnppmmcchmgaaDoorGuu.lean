/-
  GuardCounts: the walk through the law.
-/
import Derived.Test.YtegnppmmcchmgaaDoorGum
import Derived.Test.YtegnppmmcchmgaaDoorGud
set_option linter.unusedSimpArgs false
set_option linter.unusedVariables false
namespace Go.Proofs.YtegnppmmcchmgaaDoor
open Go Go.RowKit
attribute [local go_sem] via_cell via_frozen

theorem Rd.w64 {w : World} {B n : Nat} {A : Option Addr} {X : List Int} (h : Rd w B 1 A n (Cs encW X)) (hx : X.length = n) {k : Nat} (hk : k < X.length) :
    ∃ b off, A = some ⟨b, off, none⟩ ∧ b < B ∧ w.cell? ⟨b, off + k, none⟩ = some (.int .u64 X[k]) := by
  subst hx
  obtain ⟨b, off, h1, h2, h3⟩ := h.elem encW_len hk
  exact ⟨b, off, h1, h2, by simpa using h3 0 _ (by omega) rfl⟩
theorem Rd.i64 {w : World} {B n : Nat} {A : Option Addr} {X : List Int} (h : Rd w B 1 A n (Cs encI X)) (hx : X.length = n) {k : Nat} (hk : k < X.length) :
    ∃ b off, A = some ⟨b, off, none⟩ ∧ b < B ∧ w.cell? ⟨b, off + k, none⟩ = some (.int .i64 X[k]) := by
  subst hx
  obtain ⟨b, off, h1, h2, h3⟩ := h.elem encI_len hk
  exact ⟨b, off, h1, h2, by simpa using h3 0 _ (by omega) rfl⟩
set_option maxRecDepth 100000 in
set_option maxHeartbeats 4000000 in
theorem Counts_walk (A0 : Option Addr) (c0 n0 : Nat) (X0 : List Int) (A1 : Option Addr) (c1 n1 : Nat) (X1 : List Sec) (A2 : Option Addr) (c2 n2 : Nat) (X2 : List Int) (W : World) (ht : TwoAt W W.heap.size)
    (hr0 : Rd W W.heap.size 1 A0 n0 (Cs encW X0)) (hx0 : X0.length = n0) (hu0 : ∀ e ∈ X0, U64 e) (hr1 : Rd W W.heap.size 2 A1 n1 (Cs encS X1)) (hx1 : X1.length = n1) (hn1 : n1 ≤ c1) (hm1 : c1 ≤ 9223372036854775807)
    (hr2 : Rd W W.heap.size 1 A2 n2 (Cs encI X2)) (hx2 : X2.length = n2) (hn0 : n0 ≤ c0) (hm0 : c0 ≤ 9223372036854775807) (hn2 : n2 ≤ c2) (hm2 : c2 ≤ 9223372036854775807) :
    Calls Tryd.prog 4 #[.slice A0 n0 c0, .slice A1 n1 c1, .slice A2 n2 c2] W fun e W' => e = .returned (.bool true) ∧ Below W.heap.size W W' := by
  have HW := hide (wakes_any W.heap.size W ht (Nat.le_refl _))
  have HR0 := hide hr0
  have HR2 := hide hr2
  have HX0 := hide hx0
  have HX2 := hide hx2
  have HU0 := hide hu0
  obtain ⟨l, hl⟩ : ∃ l, X1.take 16 = l := ⟨_, rfl⟩
  have hl16 : l.length ≤ 16 := by rw [← hl, List.length_take]; omega
  have HFW := hide (fun (w : World) (hb : Below W.heap.size W w) => few_any W.heap.size A1 c1 n1 X1 w (hr1.below hb) hx1 (by omega) (by omega) hb.size)
  rw [hl] at HFW
  have hn0I : (n0 : Int) ≤ 9223372036854775807 := by omega
  have hn2I : (n2 : Int) ≤ 9223372036854775807 := by omega
  clear ht hr0 hr1 hr2 hx0 hx1 hx2 hu0 hl hn1 hm1 hn0 hm0 hn2 hm2
  go_enter Tryd.func4, Tryd.ntmps4
  go_wp2_with fail
  with_reducible refine HW.out.mono ?_
  rintro e w1 ⟨rfl, hb1⟩
  have HB1 := hide hb1
  have hs1 := hb1.size
  clear hb1
  go_wp2_with fail
  go_loopw [30] (fun i wr => ∃ k : Nat, k ≤ n0 ∧ k ≤ 8 ∧ i = .int .i64 k ∧ wr = w1) (fun i _ => n0 - (intOf i).toNat)
  case atStart => exact ⟨0, Nat.zero_le _, by omega, rfl, rfl⟩
  case round =>
    obtain ⟨k, hk, hk8, rfl, rfl⟩ := hrel
    by_cases hlt : k < n0 ∧ k < 8
    · obtain ⟨hlt, hlt8⟩ := hlt
      have hlx : k < X0.length := by rw [HX0.out]; exact hlt
      obtain ⟨b, o, rfl, hb, d0⟩ := (HR0.out.below HB1.out).w64 HX0.out hlx
      obtain ⟨b2, o2, he2, _, d1⟩ := (HR0.out.below HB1.out).w64 HX0.out (k := 0) (by omega)
      injection he2 with he2
      injection he2 with e1 e2
      subst e1
      subst e2
      have hbl : b < wr.heap.size := by omega
      have hki : (k : Int) < (n0 : Int) := by omega
      have h0i : (0 : Int) < (n0 : Int) := by omega
      have hk8b : ((k : Int) == 8) = false := by rw [beq_eq_false_iff_ne]; omega
      have HUK := hide (HU0.out _ (List.getElem_mem hlx))
      have hnn := HUK.out.1
      have hnu := HUK.out.2
      have HO := hide (open_any X0[k] HUK.out wr)
      have HC := hide (close_any X0[k] HUK.out wr)
      have HG := hide (good_any X0[k] X0[0] HUK.out wr)
      generalize X0[k] = n at *
      generalize X0[0] = z at *
      simp only [Nat.add_zero] at d1
      clear hb
      by_cases h63 : n < 9223372036854775808
      · by_cases hod : n % 2 = 0
        · have m1 : moreV n false = (n + 1, 0) := by unfold moreV oddB; rw [if_pos ⟨h63, by simp; omega⟩]
          have m2 : moreV n true = (0, 161) := by unfold moreV oddB; rw [if_neg (by simp; omega)]
          have m3 : goodB n z = decide (n = z) := by unfold goodB oddB; simp [hod]
          rw [m1] at HO
          rw [m2] at HC
          rw [m3] at HG
          have hp : n + 1 < 18446744073709551616 := by omega
          clear m1 m2 m3
          by_cases hz : n = z
          · subst hz
            have hd : decide (n = n) = true := by simp
            rw [hd] at HG
            clear hd
            go_wp2_with fail
            with_reducible refine HO.out.mono ?_
            rintro e w2 ⟨rfl, rfl⟩
            dsimp only [pairU]
            go_wp2_with fail
            with_reducible refine HC.out.mono ?_
            rintro e w2 ⟨rfl, rfl⟩
            dsimp only [pairU]
            go_wp2_with fail
            with_reducible refine HG.out.mono ?_
            rintro e w2 ⟨rfl, rfl⟩
            go_wp2_with fail
            go_roundw
            case rel => exact ⟨k + 1, by omega, by omega, by go_num, by trivial⟩
            case measure => simp [intOf]; omega
          · have hd : decide (n = z) = false := by simp [hz]
            rw [hd] at HG
            have hzb : (n == z) = false := by simp [hz]
            clear hd hz
            go_wp2_with fail
            with_reducible refine HO.out.mono ?_
            rintro e w2 ⟨rfl, rfl⟩
            dsimp only [pairU]
            go_wp2_with fail
            with_reducible refine HC.out.mono ?_
            rintro e w2 ⟨rfl, rfl⟩
            dsimp only [pairU]
            go_wp2_with fail
            with_reducible refine HG.out.mono ?_
            rintro e w2 ⟨rfl, rfl⟩
            go_wp2_with fail
            go_roundw
            case rel => exact ⟨k + 1, by omega, by omega, by go_num, by trivial⟩
            case measure => simp [intOf]; omega
        · have hod1 : n % 2 = 1 := by omega
          have m1 : moreV n false = (0, 161) := by unfold moreV oddB; rw [if_neg (by simp; omega)]
          have m2 : moreV n true = (n + 1, 0) := by unfold moreV oddB; rw [if_pos ⟨h63, by simp; omega⟩]
          have m3 : goodB n z = false := by unfold goodB oddB; simp [hod1]
          rw [m1] at HO
          rw [m2] at HC
          rw [m3] at HG
          have hp : n + 1 < 18446744073709551616 := by omega
          clear m1 m2 m3 hod
          go_wp2_with fail
          with_reducible refine HO.out.mono ?_
          rintro e w2 ⟨rfl, rfl⟩
          dsimp only [pairU]
          go_wp2_with fail
          with_reducible refine HC.out.mono ?_
          rintro e w2 ⟨rfl, rfl⟩
          dsimp only [pairU]
          go_wp2_with fail
          with_reducible refine HG.out.mono ?_
          rintro e w2 ⟨rfl, rfl⟩
          go_wp2_with fail
          go_roundw
          case rel => exact ⟨k + 1, by omega, by omega, by go_num, by trivial⟩
          case measure => simp [intOf]; omega
      · have m1 : moreV n false = (0, 161) := by unfold moreV; rw [if_neg (fun h => h63 h.1)]
        have m2 : moreV n true = (0, 161) := by unfold moreV; rw [if_neg (fun h => h63 h.1)]
        rw [m1] at HO
        rw [m2] at HC
        clear m1 m2
        by_cases hod : n % 2 = 0
        · have m3 : goodB n z = decide (n = z) := by unfold goodB oddB; simp [hod]
          rw [m3] at HG
          clear m3
          by_cases hz : n = z
          · subst hz
            have hd : decide (n = n) = true := by simp
            rw [hd] at HG
            clear hd
            go_wp2_with fail
            with_reducible refine HO.out.mono ?_
            rintro e w2 ⟨rfl, rfl⟩
            dsimp only [pairU]
            go_wp2_with fail
            with_reducible refine HC.out.mono ?_
            rintro e w2 ⟨rfl, rfl⟩
            dsimp only [pairU]
            go_wp2_with fail
            with_reducible refine HG.out.mono ?_
            rintro e w2 ⟨rfl, rfl⟩
            go_wp2_with fail
            go_roundw
            case rel => exact ⟨k + 1, by omega, by omega, by go_num, by trivial⟩
            case measure => simp [intOf]; omega
          · have hd : decide (n = z) = false := by simp [hz]
            rw [hd] at HG
            have hzb : (n == z) = false := by simp [hz]
            clear hd hz
            go_wp2_with fail
            with_reducible refine HO.out.mono ?_
            rintro e w2 ⟨rfl, rfl⟩
            dsimp only [pairU]
            go_wp2_with fail
            with_reducible refine HC.out.mono ?_
            rintro e w2 ⟨rfl, rfl⟩
            dsimp only [pairU]
            go_wp2_with fail
            with_reducible refine HG.out.mono ?_
            rintro e w2 ⟨rfl, rfl⟩
            go_wp2_with fail
            go_roundw
            case rel => exact ⟨k + 1, by omega, by omega, by go_num, by trivial⟩
            case measure => simp [intOf]; omega
        · have hod1 : n % 2 = 1 := by omega
          have m3 : goodB n z = false := by unfold goodB oddB; simp [hod1]
          rw [m3] at HG
          clear m3 hod
          go_wp2_with fail
          with_reducible refine HO.out.mono ?_
          rintro e w2 ⟨rfl, rfl⟩
          dsimp only [pairU]
          go_wp2_with fail
          with_reducible refine HC.out.mono ?_
          rintro e w2 ⟨rfl, rfl⟩
          dsimp only [pairU]
          go_wp2_with fail
          with_reducible refine HG.out.mono ?_
          rintro e w2 ⟨rfl, rfl⟩
          go_wp2_with fail
          go_roundw
          case rel => exact ⟨k + 1, by omega, by omega, by go_num, by trivial⟩
          case measure => simp [intOf]; omega
    · by_cases hke : k < n0
      · obtain rfl : k = 8 := by omega
        have hlx : 8 < X0.length := by rw [HX0.out]; exact hke
        obtain ⟨b, o, rfl, hb, d0⟩ := (HR0.out.below HB1.out).w64 HX0.out hlx
        have hbl : b < wr.heap.size := by omega
        have hki : (8 : Int) < (n0 : Int) := by omega
        generalize X0[8] = n at *
        clear hb
        go_wp2_with fail
        with_reducible refine (HFW.out wr HB1.out).mono ?_
        rintro e w2 ⟨v, rfl, hown, hb2⟩
        have HB2 := hide (HB1.out.trans (hb2.mono hs1))
        obtain ⟨Al, cl, rfl, _⟩ := own_form hown
        have HL2 := hide (Rd.of_own hown)
        obtain ⟨m, hm⟩ : ∃ m, l.length = m := ⟨_, rfl⟩
        have HM := hide hm
        rw [hm] at HL2 ⊢
        have hm16 : m ≤ 16 := by omega
        clear hb2 hown hm
        obtain ⟨r, hr⟩ : ∃ r, chk 0 l = r := ⟨_, rfl⟩
        have HRR := hide hr
        go_wp2_with fail
        with_reducible refine (right_any w2.heap.size Al cl m l w2 HL2.out HM.out (Nat.le_refl _) (by omega) r hr).mono ?_
        rintro e w3 ⟨rfl, hb3⟩
        have HBL3 := hide hb3
        have HB3 := hide (HB2.out.trans (hb3.mono HB2.out.size))
        clear hb3
        go_wp2_with fail
        with_reducible refine (check_any w2.heap.size Al cl m l w3 (HL2.out.below HBL3.out) HM.out HBL3.out.size (by omega) r hr).mono ?_
        rintro e w4 ⟨rfl, hb4⟩
        have HBL4 := hide (HBL3.out.trans (hb4.mono HBL3.out.size))
        have hw24 := HBL4.out.size
        have HCN := hide (fun (w : World) (hb : Below w2.heap.size w2 w) (s : Int) (q : Int × Int) (hq : countV l s = q) => countN_any w2.heap.size Al cl m l s w (HL2.out.below hb) HM.out hb.size (by omega) q hq)
        have HRC := hide (fun (w : World) (hb : Below w2.heap.size w2 w) (s : Int) (q : Int) (hq : (cnt l s : Int) = q) => rcount_any w2.heap.size Al cl m l s w (HL2.out.below hb) HM.out hb.size (by omega) q hq)
        clear hb4 hr
        cases r
        · skip
          have hc1 : chk 0 l = false := HRR.out
          have HCH := hide hc1
          clear hc1
          dsimp only [errS]
          go_wp2_with fail
          go_loopw [122] (fun i wr => ∃ j : Nat, j ≤ n2 ∧ j ≤ 10 ∧ i = .int .i64 j ∧ Below w2.heap.size w2 wr) (fun i _ => n2 - (intOf i).toNat)
          case atStart => exact ⟨0, Nat.zero_le _, by omega, rfl, HBL4.out⟩
          case round =>
            rename_i wr
            obtain ⟨j, hj, hj10, rfl, hbw⟩ := hrel
            have HBW := hide hbw
            have HBWW := hide (HB2.out.trans (hbw.mono HB2.out.size))
            have hsw := hbw.size
            clear hbw
            by_cases hjt : j < n2
            · have hjx : j < X2.length := by rw [HX2.out]; exact hjt
              obtain ⟨b, o, rfl, hb, d0⟩ := (HR2.out.below HBWW.out).i64 HX2.out hjx
              have hbl : b < wr.heap.size := by have := HBWW.out.size; omega
              have hji : (j : Int) < (n2 : Int) := by omega
              generalize X2[j] = s at *
              clear hb
              by_cases hjt10 : j < 10
              · have hjb : ((j : Int) == 10) = false := by rw [beq_eq_false_iff_ne]; omega
                have HQ := hide (show countV l s = (0, 160) from by unfold countV; rw [HCH.out]; rfl)

                go_wp2_with fail
                with_reducible refine (HCN.out wr HBW.out s _ HQ.out).mono ?_
                rintro e w5 ⟨rfl, hb5⟩
                have HBX := hide (HBW.out.trans (hb5.mono HBW.out.size))
                clear hb5
                dsimp only [pairU]

                go_wp2_with fail
                go_roundw
                case rel => exact ⟨j + 1, by omega, by omega, by go_num, HBX.out⟩
                case measure => simp [intOf]; omega
              · have hjb : ((j : Int) == 10) = true := by rw [beq_iff_eq]; omega
                go_wp2_with fail
                with_reducible refine (HFW.out wr HBWW.out).mono ?_
                rintro e w5 ⟨v5, rfl, hown5, hb5⟩
                have HB5 := hide (HBWW.out.trans (hb5.mono HBWW.out.size))
                obtain ⟨A5, c5, rfl, _⟩ := own_form hown5
                rw [HM.out] at hown5 ⊢
                have HL5 := hide (Rd.of_own hown5)
                have HL25 := hide (HL2.out.below (HBW.out.trans (hb5.mono hsw)))
                have hs25 : w2.heap.size ≤ w5.heap.size := Nat.le_trans hsw hb5.size
                clear hb5 hown5
                go_wp2_with fail
                have HEQ := hide (EqualS w2.heap.size w5.heap.size Al A5 cl c5 l l w5 (by rw [HM.out]; exact HL25.out) (by rw [HM.out]; exact HL5.out) hs25 (Nat.le_refl _) (by rw [HM.out]; omega) (by rw [HM.out]; omega) true (by simp))
                rw [HM.out] at HEQ
                with_reducible refine HEQ.out.mono ?_
                rintro e w6 ⟨rfl, hb6⟩
                have HB6 := hide (HB5.out.trans (hb6.mono HB5.out.size))
                clear hb6
                go_wp2_with fail
                go_ret
                exact ⟨rfl, HB6.out⟩
            · obtain rfl : j = n2 := by omega
              go_wp2_with fail
              with_reducible refine (HFW.out wr HBWW.out).mono ?_
              rintro e w5 ⟨v5, rfl, hown5, hb5⟩
              have HB5 := hide (HBWW.out.trans (hb5.mono HBWW.out.size))
              obtain ⟨A5, c5, rfl, _⟩ := own_form hown5
              rw [HM.out] at hown5 ⊢
              have HL5 := hide (Rd.of_own hown5)
              have HL25 := hide (HL2.out.below (HBW.out.trans (hb5.mono hsw)))
              have hs25 : w2.heap.size ≤ w5.heap.size := Nat.le_trans hsw hb5.size
              clear hb5 hown5
              go_wp2_with fail
              have HEQ := hide (EqualS w2.heap.size w5.heap.size Al A5 cl c5 l l w5 (by rw [HM.out]; exact HL25.out) (by rw [HM.out]; exact HL5.out) hs25 (Nat.le_refl _) (by rw [HM.out]; omega) (by rw [HM.out]; omega) true (by simp))
              rw [HM.out] at HEQ
              with_reducible refine HEQ.out.mono ?_
              rintro e w6 ⟨rfl, hb6⟩
              have HB6 := hide (HB5.out.trans (hb6.mono HB5.out.size))
              clear hb6
              go_wp2_with fail
              go_ret
              exact ⟨rfl, HB6.out⟩
        · skip
          have hc1 : chk 0 l = true := HRR.out
          have HCH := hide hc1
          clear hc1
          dsimp only [errS]
          go_wp2_with fail
          go_loopw [122] (fun i wr => ∃ j : Nat, j ≤ n2 ∧ j ≤ 10 ∧ i = .int .i64 j ∧ Below w2.heap.size w2 wr) (fun i _ => n2 - (intOf i).toNat)
          case atStart => exact ⟨0, Nat.zero_le _, by omega, rfl, HBL4.out⟩
          case round =>
            rename_i wr
            obtain ⟨j, hj, hj10, rfl, hbw⟩ := hrel
            have HBW := hide hbw
            have HBWW := hide (HB2.out.trans (hbw.mono HB2.out.size))
            have hsw := hbw.size
            clear hbw
            by_cases hjt : j < n2
            · have hjx : j < X2.length := by rw [HX2.out]; exact hjt
              obtain ⟨b, o, rfl, hb, d0⟩ := (HR2.out.below HBWW.out).i64 HX2.out hjx
              have hbl : b < wr.heap.size := by have := HBWW.out.size; omega
              have hji : (j : Int) < (n2 : Int) := by omega
              generalize X2[j] = s at *
              clear hb
              by_cases hjt10 : j < 10
              · have hjb : ((j : Int) == 10) = false := by rw [beq_eq_false_iff_ne]; omega
                obtain ⟨y, hy⟩ : ∃ y, stepB s = y := ⟨_, rfl⟩
                have HY := hide hy
                have HST := hide (fun w => rstep_any s w)
                rw [hy] at HST
                clear hy
                cases y
                · have HQ := hide (show countV l s = (0, 2) from by unfold countV; rw [HCH.out, HY.out]; rfl)
                  go_wp2_with fail
                  with_reducible refine (HCN.out wr HBW.out s _ HQ.out).mono ?_
                  rintro e w5 ⟨rfl, hb5⟩
                  have HBX := hide (HBW.out.trans (hb5.mono HBW.out.size))
                  clear hb5
                  dsimp only [pairU]

                  go_wp2_with fail
                  with_reducible refine (HST.out w5).mono ?_
                  rintro e w6 ⟨rfl, rfl⟩

                  go_wp2_with fail
                  go_roundw
                  case rel => exact ⟨j + 1, by omega, by omega, by go_num, HBX.out⟩
                  case measure => simp [intOf]; omega
                · obtain ⟨q, hq⟩ : ∃ q : Int, (cnt l s : Int) = q := ⟨_, rfl⟩
                  have HQ := hide (show countV l s = (q, 0) from by unfold countV; rw [HCH.out, HY.out, hq]; rfl)
                  have HQ2 := hide hq
                  clear hq
                  go_wp2_with fail
                  with_reducible refine (HCN.out wr HBW.out s _ HQ.out).mono ?_
                  rintro e w5 ⟨rfl, hb5⟩
                  have HBX := hide (HBW.out.trans (hb5.mono HBW.out.size))
                  clear hb5
                  dsimp only [pairU]

                  go_wp2_with fail
                  with_reducible refine (HST.out w5).mono ?_
                  rintro e w6 ⟨rfl, rfl⟩
                  go_wp2_with fail
                  with_reducible refine (HRC.out w5 HBX.out s q HQ2.out).mono ?_
                  rintro e w6 ⟨rfl, hb6⟩
                  replace HBX := hide (HBX.out.trans (hb6.mono HBX.out.size))
                  clear hb6

                  go_wp2_with fail
                  go_roundw
                  case rel => exact ⟨j + 1, by omega, by omega, by go_num, HBX.out⟩
                  case measure => simp [intOf]; omega
              · have hjb : ((j : Int) == 10) = true := by rw [beq_iff_eq]; omega
                go_wp2_with fail
                with_reducible refine (HFW.out wr HBWW.out).mono ?_
                rintro e w5 ⟨v5, rfl, hown5, hb5⟩
                have HB5 := hide (HBWW.out.trans (hb5.mono HBWW.out.size))
                obtain ⟨A5, c5, rfl, _⟩ := own_form hown5
                rw [HM.out] at hown5 ⊢
                have HL5 := hide (Rd.of_own hown5)
                have HL25 := hide (HL2.out.below (HBW.out.trans (hb5.mono hsw)))
                have hs25 : w2.heap.size ≤ w5.heap.size := Nat.le_trans hsw hb5.size
                clear hb5 hown5
                go_wp2_with fail
                have HEQ := hide (EqualS w2.heap.size w5.heap.size Al A5 cl c5 l l w5 (by rw [HM.out]; exact HL25.out) (by rw [HM.out]; exact HL5.out) hs25 (Nat.le_refl _) (by rw [HM.out]; omega) (by rw [HM.out]; omega) true (by simp))
                rw [HM.out] at HEQ
                with_reducible refine HEQ.out.mono ?_
                rintro e w6 ⟨rfl, hb6⟩
                have HB6 := hide (HB5.out.trans (hb6.mono HB5.out.size))
                clear hb6
                go_wp2_with fail
                go_ret
                exact ⟨rfl, HB6.out⟩
            · obtain rfl : j = n2 := by omega
              go_wp2_with fail
              with_reducible refine (HFW.out wr HBWW.out).mono ?_
              rintro e w5 ⟨v5, rfl, hown5, hb5⟩
              have HB5 := hide (HBWW.out.trans (hb5.mono HBWW.out.size))
              obtain ⟨A5, c5, rfl, _⟩ := own_form hown5
              rw [HM.out] at hown5 ⊢
              have HL5 := hide (Rd.of_own hown5)
              have HL25 := hide (HL2.out.below (HBW.out.trans (hb5.mono hsw)))
              have hs25 : w2.heap.size ≤ w5.heap.size := Nat.le_trans hsw hb5.size
              clear hb5 hown5
              go_wp2_with fail
              have HEQ := hide (EqualS w2.heap.size w5.heap.size Al A5 cl c5 l l w5 (by rw [HM.out]; exact HL25.out) (by rw [HM.out]; exact HL5.out) hs25 (Nat.le_refl _) (by rw [HM.out]; omega) (by rw [HM.out]; omega) true (by simp))
              rw [HM.out] at HEQ
              with_reducible refine HEQ.out.mono ?_
              rintro e w6 ⟨rfl, hb6⟩
              have HB6 := hide (HB5.out.trans (hb6.mono HB5.out.size))
              clear hb6
              go_wp2_with fail
              go_ret
              exact ⟨rfl, HB6.out⟩
      · obtain rfl : k = n0 := by omega
        go_wp2_with fail
        with_reducible refine (HFW.out wr HB1.out).mono ?_
        rintro e w2 ⟨v, rfl, hown, hb2⟩
        have HB2 := hide (HB1.out.trans (hb2.mono hs1))
        obtain ⟨Al, cl, rfl, _⟩ := own_form hown
        have HL2 := hide (Rd.of_own hown)
        obtain ⟨m, hm⟩ : ∃ m, l.length = m := ⟨_, rfl⟩
        have HM := hide hm
        rw [hm] at HL2 ⊢
        have hm16 : m ≤ 16 := by omega
        clear hb2 hown hm
        obtain ⟨r, hr⟩ : ∃ r, chk 0 l = r := ⟨_, rfl⟩
        have HRR := hide hr
        go_wp2_with fail
        with_reducible refine (right_any w2.heap.size Al cl m l w2 HL2.out HM.out (Nat.le_refl _) (by omega) r hr).mono ?_
        rintro e w3 ⟨rfl, hb3⟩
        have HBL3 := hide hb3
        have HB3 := hide (HB2.out.trans (hb3.mono HB2.out.size))
        clear hb3
        go_wp2_with fail
        with_reducible refine (check_any w2.heap.size Al cl m l w3 (HL2.out.below HBL3.out) HM.out HBL3.out.size (by omega) r hr).mono ?_
        rintro e w4 ⟨rfl, hb4⟩
        have HBL4 := hide (HBL3.out.trans (hb4.mono HBL3.out.size))
        have hw24 := HBL4.out.size
        have HCN := hide (fun (w : World) (hb : Below w2.heap.size w2 w) (s : Int) (q : Int × Int) (hq : countV l s = q) => countN_any w2.heap.size Al cl m l s w (HL2.out.below hb) HM.out hb.size (by omega) q hq)
        have HRC := hide (fun (w : World) (hb : Below w2.heap.size w2 w) (s : Int) (q : Int) (hq : (cnt l s : Int) = q) => rcount_any w2.heap.size Al cl m l s w (HL2.out.below hb) HM.out hb.size (by omega) q hq)
        clear hb4 hr
        cases r
        · skip
          have hc1 : chk 0 l = false := HRR.out
          have HCH := hide hc1
          clear hc1
          dsimp only [errS]
          go_wp2_with fail
          go_loopw [122] (fun i wr => ∃ j : Nat, j ≤ n2 ∧ j ≤ 10 ∧ i = .int .i64 j ∧ Below w2.heap.size w2 wr) (fun i _ => n2 - (intOf i).toNat)
          case atStart => exact ⟨0, Nat.zero_le _, by omega, rfl, HBL4.out⟩
          case round =>
            rename_i wr
            obtain ⟨j, hj, hj10, rfl, hbw⟩ := hrel
            have HBW := hide hbw
            have HBWW := hide (HB2.out.trans (hbw.mono HB2.out.size))
            have hsw := hbw.size
            clear hbw
            by_cases hjt : j < n2
            · have hjx : j < X2.length := by rw [HX2.out]; exact hjt
              obtain ⟨b, o, rfl, hb, d0⟩ := (HR2.out.below HBWW.out).i64 HX2.out hjx
              have hbl : b < wr.heap.size := by have := HBWW.out.size; omega
              have hji : (j : Int) < (n2 : Int) := by omega
              generalize X2[j] = s at *
              clear hb
              by_cases hjt10 : j < 10
              · have hjb : ((j : Int) == 10) = false := by rw [beq_eq_false_iff_ne]; omega
                have HQ := hide (show countV l s = (0, 160) from by unfold countV; rw [HCH.out]; rfl)

                go_wp2_with fail
                with_reducible refine (HCN.out wr HBW.out s _ HQ.out).mono ?_
                rintro e w5 ⟨rfl, hb5⟩
                have HBX := hide (HBW.out.trans (hb5.mono HBW.out.size))
                clear hb5
                dsimp only [pairU]

                go_wp2_with fail
                go_roundw
                case rel => exact ⟨j + 1, by omega, by omega, by go_num, HBX.out⟩
                case measure => simp [intOf]; omega
              · have hjb : ((j : Int) == 10) = true := by rw [beq_iff_eq]; omega
                go_wp2_with fail
                with_reducible refine (HFW.out wr HBWW.out).mono ?_
                rintro e w5 ⟨v5, rfl, hown5, hb5⟩
                have HB5 := hide (HBWW.out.trans (hb5.mono HBWW.out.size))
                obtain ⟨A5, c5, rfl, _⟩ := own_form hown5
                rw [HM.out] at hown5 ⊢
                have HL5 := hide (Rd.of_own hown5)
                have HL25 := hide (HL2.out.below (HBW.out.trans (hb5.mono hsw)))
                have hs25 : w2.heap.size ≤ w5.heap.size := Nat.le_trans hsw hb5.size
                clear hb5 hown5
                go_wp2_with fail
                have HEQ := hide (EqualS w2.heap.size w5.heap.size Al A5 cl c5 l l w5 (by rw [HM.out]; exact HL25.out) (by rw [HM.out]; exact HL5.out) hs25 (Nat.le_refl _) (by rw [HM.out]; omega) (by rw [HM.out]; omega) true (by simp))
                rw [HM.out] at HEQ
                with_reducible refine HEQ.out.mono ?_
                rintro e w6 ⟨rfl, hb6⟩
                have HB6 := hide (HB5.out.trans (hb6.mono HB5.out.size))
                clear hb6
                go_wp2_with fail
                go_ret
                exact ⟨rfl, HB6.out⟩
            · obtain rfl : j = n2 := by omega
              go_wp2_with fail
              with_reducible refine (HFW.out wr HBWW.out).mono ?_
              rintro e w5 ⟨v5, rfl, hown5, hb5⟩
              have HB5 := hide (HBWW.out.trans (hb5.mono HBWW.out.size))
              obtain ⟨A5, c5, rfl, _⟩ := own_form hown5
              rw [HM.out] at hown5 ⊢
              have HL5 := hide (Rd.of_own hown5)
              have HL25 := hide (HL2.out.below (HBW.out.trans (hb5.mono hsw)))
              have hs25 : w2.heap.size ≤ w5.heap.size := Nat.le_trans hsw hb5.size
              clear hb5 hown5
              go_wp2_with fail
              have HEQ := hide (EqualS w2.heap.size w5.heap.size Al A5 cl c5 l l w5 (by rw [HM.out]; exact HL25.out) (by rw [HM.out]; exact HL5.out) hs25 (Nat.le_refl _) (by rw [HM.out]; omega) (by rw [HM.out]; omega) true (by simp))
              rw [HM.out] at HEQ
              with_reducible refine HEQ.out.mono ?_
              rintro e w6 ⟨rfl, hb6⟩
              have HB6 := hide (HB5.out.trans (hb6.mono HB5.out.size))
              clear hb6
              go_wp2_with fail
              go_ret
              exact ⟨rfl, HB6.out⟩
        · skip
          have hc1 : chk 0 l = true := HRR.out
          have HCH := hide hc1
          clear hc1
          dsimp only [errS]
          go_wp2_with fail
          go_loopw [122] (fun i wr => ∃ j : Nat, j ≤ n2 ∧ j ≤ 10 ∧ i = .int .i64 j ∧ Below w2.heap.size w2 wr) (fun i _ => n2 - (intOf i).toNat)
          case atStart => exact ⟨0, Nat.zero_le _, by omega, rfl, HBL4.out⟩
          case round =>
            rename_i wr
            obtain ⟨j, hj, hj10, rfl, hbw⟩ := hrel
            have HBW := hide hbw
            have HBWW := hide (HB2.out.trans (hbw.mono HB2.out.size))
            have hsw := hbw.size
            clear hbw
            by_cases hjt : j < n2
            · have hjx : j < X2.length := by rw [HX2.out]; exact hjt
              obtain ⟨b, o, rfl, hb, d0⟩ := (HR2.out.below HBWW.out).i64 HX2.out hjx
              have hbl : b < wr.heap.size := by have := HBWW.out.size; omega
              have hji : (j : Int) < (n2 : Int) := by omega
              generalize X2[j] = s at *
              clear hb
              by_cases hjt10 : j < 10
              · have hjb : ((j : Int) == 10) = false := by rw [beq_eq_false_iff_ne]; omega
                obtain ⟨y, hy⟩ : ∃ y, stepB s = y := ⟨_, rfl⟩
                have HY := hide hy
                have HST := hide (fun w => rstep_any s w)
                rw [hy] at HST
                clear hy
                cases y
                · have HQ := hide (show countV l s = (0, 2) from by unfold countV; rw [HCH.out, HY.out]; rfl)
                  go_wp2_with fail
                  with_reducible refine (HCN.out wr HBW.out s _ HQ.out).mono ?_
                  rintro e w5 ⟨rfl, hb5⟩
                  have HBX := hide (HBW.out.trans (hb5.mono HBW.out.size))
                  clear hb5
                  dsimp only [pairU]

                  go_wp2_with fail
                  with_reducible refine (HST.out w5).mono ?_
                  rintro e w6 ⟨rfl, rfl⟩

                  go_wp2_with fail
                  go_roundw
                  case rel => exact ⟨j + 1, by omega, by omega, by go_num, HBX.out⟩
                  case measure => simp [intOf]; omega
                · obtain ⟨q, hq⟩ : ∃ q : Int, (cnt l s : Int) = q := ⟨_, rfl⟩
                  have HQ := hide (show countV l s = (q, 0) from by unfold countV; rw [HCH.out, HY.out, hq]; rfl)
                  have HQ2 := hide hq
                  clear hq
                  go_wp2_with fail
                  with_reducible refine (HCN.out wr HBW.out s _ HQ.out).mono ?_
                  rintro e w5 ⟨rfl, hb5⟩
                  have HBX := hide (HBW.out.trans (hb5.mono HBW.out.size))
                  clear hb5
                  dsimp only [pairU]

                  go_wp2_with fail
                  with_reducible refine (HST.out w5).mono ?_
                  rintro e w6 ⟨rfl, rfl⟩
                  go_wp2_with fail
                  with_reducible refine (HRC.out w5 HBX.out s q HQ2.out).mono ?_
                  rintro e w6 ⟨rfl, hb6⟩
                  replace HBX := hide (HBX.out.trans (hb6.mono HBX.out.size))
                  clear hb6

                  go_wp2_with fail
                  go_roundw
                  case rel => exact ⟨j + 1, by omega, by omega, by go_num, HBX.out⟩
                  case measure => simp [intOf]; omega
              · have hjb : ((j : Int) == 10) = true := by rw [beq_iff_eq]; omega
                go_wp2_with fail
                with_reducible refine (HFW.out wr HBWW.out).mono ?_
                rintro e w5 ⟨v5, rfl, hown5, hb5⟩
                have HB5 := hide (HBWW.out.trans (hb5.mono HBWW.out.size))
                obtain ⟨A5, c5, rfl, _⟩ := own_form hown5
                rw [HM.out] at hown5 ⊢
                have HL5 := hide (Rd.of_own hown5)
                have HL25 := hide (HL2.out.below (HBW.out.trans (hb5.mono hsw)))
                have hs25 : w2.heap.size ≤ w5.heap.size := Nat.le_trans hsw hb5.size
                clear hb5 hown5
                go_wp2_with fail
                have HEQ := hide (EqualS w2.heap.size w5.heap.size Al A5 cl c5 l l w5 (by rw [HM.out]; exact HL25.out) (by rw [HM.out]; exact HL5.out) hs25 (Nat.le_refl _) (by rw [HM.out]; omega) (by rw [HM.out]; omega) true (by simp))
                rw [HM.out] at HEQ
                with_reducible refine HEQ.out.mono ?_
                rintro e w6 ⟨rfl, hb6⟩
                have HB6 := hide (HB5.out.trans (hb6.mono HB5.out.size))
                clear hb6
                go_wp2_with fail
                go_ret
                exact ⟨rfl, HB6.out⟩
            · obtain rfl : j = n2 := by omega
              go_wp2_with fail
              with_reducible refine (HFW.out wr HBWW.out).mono ?_
              rintro e w5 ⟨v5, rfl, hown5, hb5⟩
              have HB5 := hide (HBWW.out.trans (hb5.mono HBWW.out.size))
              obtain ⟨A5, c5, rfl, _⟩ := own_form hown5
              rw [HM.out] at hown5 ⊢
              have HL5 := hide (Rd.of_own hown5)
              have HL25 := hide (HL2.out.below (HBW.out.trans (hb5.mono hsw)))
              have hs25 : w2.heap.size ≤ w5.heap.size := Nat.le_trans hsw hb5.size
              clear hb5 hown5
              go_wp2_with fail
              have HEQ := hide (EqualS w2.heap.size w5.heap.size Al A5 cl c5 l l w5 (by rw [HM.out]; exact HL25.out) (by rw [HM.out]; exact HL5.out) hs25 (Nat.le_refl _) (by rw [HM.out]; omega) (by rw [HM.out]; omega) true (by simp))
              rw [HM.out] at HEQ
              with_reducible refine HEQ.out.mono ?_
              rintro e w6 ⟨rfl, hb6⟩
              have HB6 := hide (HB5.out.trans (hb6.mono HB5.out.size))
              clear hb6
              go_wp2_with fail
              go_ret
              exact ⟨rfl, HB6.out⟩
end Go.Proofs.YtegnppmmcchmgaaDoor
