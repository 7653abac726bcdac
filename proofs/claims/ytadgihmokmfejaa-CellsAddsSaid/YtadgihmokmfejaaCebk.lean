/-
  CellsBack, walked: it answers true.
-/
import Derived.Test.YtadgihmokmfejaaCebp
set_option linter.unusedSimpArgs false
set_option linter.unusedVariables false
namespace Go.Proofs.Ytadgihmokmfejaa
open Go Go.RowKit
attribute [local go_sem] via_cell via_frozen

theorem pheld_n (A : Option Addr) (c n : Nat) (ms : List Mk) (at_ : Int) (W : World) (h : Rd W W.heap.size 4 A n (Cs encM ms)) (hx : ms.length = n) (hl : n ≤ 1000) (Y : List Int) (hY : heldX ms at_ = Y) (q : Nat) (hq : Y.length = q) :
    Calls Try.prog 32 #[.slice A n c, .int .i64 at_] W fun e W' => ∃ A' c', e = .returned (.slice A' q c') ∧ q ≤ c' ∧ c' ≤ 9223372036854775807 ∧ Rd W' W'.heap.size 1 A' q (Cs encW Y) ∧ Below W.heap.size W W' := by
  subst hq
  exact pheld_any A c n ms at_ W h hx hl Y hY
theorem last_at {L : List Int} {z : Int} {q : Nat} (h : L.getLast? = some z) (hq : L.length = q + 1) : ceAt L q = z := by
  unfold ceAt
  rw [List.getLast?_eq_getElem?] at h
  rw [List.getD_eq_getElem?_getD, Int.toNat_natCast, show q = L.length - 1 by omega, h]; rfl
theorem Rd.seen {w : World} {B n : Nat} {A : Option Addr} {X : List (Int × Bool)} (h : Rd w B 2 A n (Cs encS X)) {k : Nat} {q : Int} {d : Bool} (hk : X[k]? = some (q, d)) (hx : X.length = n) :
    ∃ b off, A = some ⟨b, off, none⟩ ∧ b < B ∧ k < n ∧ w.cell? ⟨b, off + k * 2 + 1, none⟩ = some (.bool d) := by
  subst hx
  obtain ⟨hl, he⟩ := List.getElem?_eq_some_iff.1 hk
  obtain ⟨b, off, h1, h2, h3⟩ := h.elem encS_len hl
  refine ⟨b, off, h1, h2, hl, ?_⟩
  have := h3 1 _ (by omega) rfl
  rw [he] at this
  exact this

set_option maxRecDepth 100000 in
set_option maxHeartbeats 8000000 in
theorem Back_walk (A0 : Option Addr) (c0 n0 : Nat) (A1 : Option Addr) (c1 n1 : Nat) (X : List Int) (l : List Acc) (W : World)
    (hr0 : Rd W W.heap.size 1 A0 n0 (Cs encW X)) (hr1 : Rd W W.heap.size 5 A1 n1 (Cs encA l)) (hx0 : X.length = n0) (hx1 : l.length = n1) (hu0 : ∀ x ∈ X, U64 x) (hu1 : ∀ a ∈ l, U64 a.2.2.2.2)
    (hn0 : n0 ≤ c0) (hn1 : n1 ≤ c1) (hm0 : c0 ≤ 9223372036854775807) (hm1 : c1 ≤ 9223372036854775807) :
    Calls Try.prog 8 #[.slice A0 n0 c0, .slice A1 n1 c1] W fun e W' => e = .returned (.bool true) ∧ Below W.heap.size W W' := by
  have HB := hide (Below.refl W.heap.size W)
  obtain ⟨m, hm⟩ : ∃ m, min n0 40 = m := ⟨_, rfl⟩
  obtain ⟨k1, hk1⟩ : ∃ m, min n1 40 = m := ⟨_, rfl⟩
  have hkI1 : min (n1 : Int) 40 = (k1 : Int) := by omega
  have hk11 : k1 ≤ n1 := by omega
  have hk1c : (k1 : Int) ≤ (c1 : Int) := by omega
  have hc1I : (c1 : Int) ≤ 9223372036854775807 := by omega
  have hn1I : (n1 : Int) ≤ 9223372036854775807 := by omega
  have hk1b : k1 ≤ 40 := by omega
  have hmb : m ≤ 40 := by omega
  have hX40 : (X.take m).length = m := by rw [List.length_take]; omega
  obtain ⟨L, hL⟩ : ∃ x, l.take k1 = x := ⟨_, rfl⟩
  have hLl : L.length = k1 := by rw [← hL, List.length_take]; omega
  have HAT : Hid (Rd W W.heap.size 5 A1 k1 (Cs encA L)) := hide (by
    have h := hr1.take hk11
    rw [← Cs_take encA_len, hL] at h; exact h)
  have HX0 := hide hr0
  have HAF := hide hr1
  have HHX := hide hx0
  have HHA := hide hx1
  have HHM := hide hm
  have HHX40 := hide hX40
  have HHL := hide hLl
  have HTK := hide (fun (b : Nat) (a : Acc) (h : L[b]? = some a) => (show b < n1 ∧ l[b]? = some a from by
    have h2 := (List.getElem?_eq_some_iff.1 h).1
    rw [← hL, List.getElem?_take] at h
    split at h
    · exact ⟨by omega, h⟩
    · cases h))
  obtain ⟨X4, hX4⟩ : ∃ x, X.take m = x := ⟨_, rfl⟩
  have HX4 := hide hX4
  rw [hX4] at HHX40
  obtain ⟨er, he⟩ : ∃ e, runE m L = e := ⟨_, rfl⟩
  have HE := hide he
  clear hr0 hr1 hx0 hx1 hm hk1 hX40 hL hLl he hX4 hu0 hu1
  go_enter Try.func8, Try.ntmps8
  go_wp2_with fail
  with_reducible refine (wakes_any _).mono ?_
  rintro e w1 ⟨rfl, hb⟩
  replace HX0 := hide ((HX0.out.below hb).more hb.size)
  replace HAT := hide ((HAT.out.below hb).more hb.size)
  replace HAF := hide ((HAF.out.below hb).more hb.size)
  replace HB := hide (HB.out.trans (hb.mono HB.out.size))
  clear hb
  go_wp2_with fail
  with_reducible refine (few_any A0 c0 n0 X _ HX0.out HHX.out hn0 hm0 m HHM.out).mono ?_
  rintro e w2 ⟨v, rfl, hown, hb⟩
  replace HX0 := hide ((HX0.out.below hb).more hb.size)
  replace HAT := hide ((HAT.out.below hb).more hb.size)
  replace HAF := hide ((HAF.out.below hb).more hb.size)
  replace HB := hide (HB.out.trans (hb.mono HB.out.size))
  clear hb
  rw [HX4.out] at hown
  obtain ⟨Aw, cAw, rfl, hcAw, hcmAw⟩ := own_form2 hown
  have HW := hide (Rd.of_own hown)
  clear hown
  clear HX0
  go_wp2_with fail
  with_reducible refine (prun_any Aw A1 cAw m c1 k1 X4 L _ HW.out HHX40.out (by omega) HAT.out HHL.out (by omega) er HE.out).mono ?_
  rintro e w3 ⟨hb, hor⟩
  replace HAT := hide ((HAT.out.below hb).more hb.size)
  replace HAF := hide ((HAF.out.below hb).more hb.size)
  replace HW := hide ((HW.out.below hb).more hb.size)
  replace HB := hide (HB.out.trans (hb.mono HB.out.size))
  clear hb
  clear HAT
  by_cases h0 : er = 0
  · subst h0
    obtain ⟨g, va, vm, rfl, hg, hri⟩ := (hor.resolve_left (fun h => h.1 rfl)).2
    have hz := runE_zero HE.out
    have hrg := runE_range HE.out
    have hfit : ∀ a ∈ L, Fits X4.length a := fun a ha => by rw [HHX40.out]; exact fits_of (hz a ha)
    have HFIT := hide hfit
    rw [HHL.out] at hri
    obtain ⟨km, hkm⟩ : ∃ k, (runM 0 X4 L).length = k := ⟨_, rfl⟩
    have hkmb : km ≤ 40 := by have h := runM_length 0 X4 L; rw [HHL.out, hkm] at h; omega
    have HKM := hide hkm
    rw [hkm] at hri
    have hNl : (runX X4 L).length = m := by rw [runX_length, HHX40.out]
    have hSl : (runS X4 L).length = k1 := by rw [runS_length, HHL.out]
    have HNL := hide hNl
    have HSL := hide hSl
    obtain ⟨As, cs, rfl, hcs, hcsm⟩ := own_form2 hri.sn
    obtain ⟨Am, cm, rfl, hcm, hcmm⟩ := own_form2 hri.mks
    have HN := hide (hri.row.rd hNl)
    have HSn := hide (Rd.of_own hri.sn)
    have HMk := hide (Rd.of_own hri.mks)
    obtain ⟨An, hAn⟩ : ∃ A, (some ⟨g, 0, none⟩ : Option Addr) = A := ⟨_, rfl⟩
    rw [hAn] at HN
    rw [hAn]
    have hs1 : ((k1 : Int) != (k1 : Int)) = false := by simp
    clear hor hri hz hfit hkm hNl hSl hAn
    go_wp2_with fail
    with_reducible refine (pback_any An Am m m cm km (runX X4 L) (runM 0 X4 L) _ HN.out HNL.out (by omega) (by omega) HMk.out HKM.out (by omega) (some X4) (back_run 0 X4 L HFIT.out)).mono ?_
    rintro e w4 ⟨hb, hor⟩
    replace HAF := hide ((HAF.out.below hb).more hb.size)
    replace HW := hide ((HW.out.below hb).more hb.size)
    replace HN := hide ((HN.out.below hb).more hb.size)
    replace HSn := hide ((HSn.out.below hb).more hb.size)
    replace HMk := hide ((HMk.out.below hb).more hb.size)
    replace HB := hide (HB.out.trans (hb.mono HB.out.size))
    clear hb
    obtain ⟨Yb, gb, hYb, rfl, hgb, hrb⟩ := hor.resolve_left (fun h => by cases h.1)
    injection hYb with hYb
    subst hYb
    have HBk := hide (hrb.rd HHX40.out)
    clear hor hrb
    go_wp2_with fail
    with_reducible refine (EqualWn _ _ (some ⟨gb, 0, none⟩) Aw m cAw m m X4 X4 _ HHX40.out HHX40.out HBk.out HW.out (Nat.le_refl _) (Nat.le_refl _) (by omega) (by omega) true (by simp)).mono ?_
    rintro e w5 ⟨rfl, hb⟩
    replace HAF := hide ((HAF.out.below hb).more hb.size)
    replace HW := hide ((HW.out.below hb).more hb.size)
    replace HN := hide ((HN.out.below hb).more hb.size)
    replace HSn := hide ((HSn.out.below hb).more hb.size)
    replace HMk := hide ((HMk.out.below hb).more hb.size)
    replace HBk := hide ((HBk.out.below hb).more hb.size)
    replace HB := hide (HB.out.trans (hb.mono HB.out.size))
    clear hb
    clear HBk
    go_wp2_with fail
    go_loopw [67] (fun i wr => ∃ j : Nat, j ≤ m ∧ i = .int .i64 j ∧ Below w5.heap.size w5 wr) (fun i _ => m - (intOf i).toNat)
    case atStart => exact ⟨0, Nat.zero_le _, rfl, Below.refl _ _⟩
    case round =>
      obtain ⟨j, hj, rfl, hbw⟩ := hrel
      have HBW := hide hbw
      clear hbw
      by_cases hlt : j < m
      · have hjn : (j : Int) < (m : Int) := by omega
        have HT := hide (tells X4 j (by rw [HHX40.out]; exact hlt) L HFIT.out)
        obtain ⟨⟨r1, r2⟩, hr⟩ : ∃ r, lastX (runM 0 X4 L) j = r := ⟨_, rfl⟩
        have HRL := hide hr
        clear hr
        replace HAF := hide ((HAF.out.below HBW.out).more HBW.out.size)
        replace HW := hide ((HW.out.below HBW.out).more HBW.out.size)
        replace HN := hide ((HN.out.below HBW.out).more HBW.out.size)
        replace HSn := hide ((HSn.out.below HBW.out).more HBW.out.size)
        replace HMk := hide ((HMk.out.below HBW.out).more HBW.out.size)
        replace HB := hide (HB.out.trans (HBW.out.mono HB.out.size))
        cases r2
        · obtain ⟨hh, hnw⟩ := HT.out.no (by rw [HRL.out])
          have HHH := hide hh
          have HNW := hide hnw
          clear hh hnw
          go_wp2_with fail
          with_reducible refine (pheld_n Am cm km (runM 0 X4 L) j _ HMk.out HKM.out (by omega) [] HHH.out 0 rfl).mono ?_
          rintro e w6 ⟨A5, c5, rfl, hc5, hcm5, hrd, hb⟩
          replace HAF := hide ((HAF.out.below hb).more hb.size)
          replace HW := hide ((HW.out.below hb).more hb.size)
          replace HN := hide ((HN.out.below hb).more hb.size)
          replace HSn := hide ((HSn.out.below hb).more hb.size)
          replace HMk := hide ((HMk.out.below hb).more hb.size)
          replace HB := hide (HB.out.trans (hb.mono HB.out.size))
          replace HBW := hide (HBW.out.trans (hb.mono HBW.out.size))
          clear hb hrd
          go_wp2_with fail
          with_reducible refine (plast_any Am cm km (runM 0 X4 L) j _ HMk.out HKM.out (by omega) (r1, false) HRL.out).mono ?_
          rintro e w7 ⟨rfl, hb⟩
          replace HAF := hide ((HAF.out.below hb).more hb.size)
          replace HW := hide ((HW.out.below hb).more hb.size)
          replace HN := hide ((HN.out.below hb).more hb.size)
          replace HSn := hide ((HSn.out.below hb).more hb.size)
          replace HMk := hide ((HMk.out.below hb).more hb.size)
          replace HB := hide (HB.out.trans (hb.mono HB.out.size))
          replace HBW := hide (HBW.out.trans (hb.mono HBW.out.size))
          clear hb
          dsimp only
          obtain ⟨b1, o1, hA1, hb1, y1⟩ := HN.out.word HNL.out hlt
          obtain ⟨b2, o2, hA2, hb2, y2⟩ := HW.out.word HHX40.out hlt
          subst hA1
          subst hA2
          rw [HNW.out] at y1
          have hyy : (ceAt X4 j != ceAt X4 j) = false := by simp
          generalize ceAt X4 j = y at *
          go_wp2_with fail
          go_quiet (fail)
          go_wp2_with fail
          go_quiet (fail)
          go_wp2_with fail
          go_roundw
          case rel => exact ⟨j + 1, by omega, by go_num, below_drewN HBW.out _⟩
          case measure => simp [intOf]; omega
        · obtain ⟨b, h0, t, a, q, hb1, hh, hh0, hlast, ha, hak, hsq⟩ := HT.out.yes (by rw [HRL.out])
          rw [HRL.out] at hb1
          dsimp only at hb1
          subst hb1
          have HHH := hide hh
          obtain ⟨ql, hql⟩ : ∃ q, t.length = q := ⟨_, rfl⟩
          have hqL : (h0 :: t).length = ql + 1 := by rw [List.length_cons, hql]
          have HQL := hide hqL
          have hla := last_at hlast hqL
          have hqb : ql + 1 ≤ 2 * km := by have h := heldX_length (runM 0 X4 L) j; rw [hh, hqL, HKM.out] at h; exact h
          obtain ⟨hbn, hal⟩ := HTK.out b a ha
          have HLA := hide hla
          have HH0 := hide hh0
          have HAL := hide hal
          have HAK := hide hak
          have HSQ := hide hsq
          clear hh hql hqL hla hh0 hlast ha hal hak hsq
          go_wp2_with fail
          with_reducible refine (pheld_n Am cm km (runM 0 X4 L) j _ HMk.out HKM.out (by omega) (h0 :: t) HHH.out (ql + 1) HQL.out).mono ?_
          rintro e w6 ⟨A5, c5, rfl, hc5, hcm5, hrd, hb⟩
          replace HAF := hide ((HAF.out.below hb).more hb.size)
          replace HW := hide ((HW.out.below hb).more hb.size)
          replace HN := hide ((HN.out.below hb).more hb.size)
          replace HSn := hide ((HSn.out.below hb).more hb.size)
          replace HMk := hide ((HMk.out.below hb).more hb.size)
          replace HB := hide (HB.out.trans (hb.mono HB.out.size))
          replace HBW := hide (HBW.out.trans (hb.mono HBW.out.size))
          have HH5 := hide (hrd)
          clear hb hrd
          go_wp2_with fail
          with_reducible refine (plast_any Am cm km (runM 0 X4 L) j _ HMk.out HKM.out (by omega) ((b : Int), true) HRL.out).mono ?_
          rintro e w7 ⟨rfl, hb⟩
          replace HAF := hide ((HAF.out.below hb).more hb.size)
          replace HW := hide ((HW.out.below hb).more hb.size)
          replace HN := hide ((HN.out.below hb).more hb.size)
          replace HSn := hide ((HSn.out.below hb).more hb.size)
          replace HMk := hide ((HMk.out.below hb).more hb.size)
          replace HH5 := hide ((HH5.out.below hb).more hb.size)
          replace HB := hide (HB.out.trans (hb.mono HB.out.size))
          replace HBW := hide (HBW.out.trans (hb.mono HBW.out.size))
          clear hb
          dsimp only
          obtain ⟨b1, o1, hA1, hb1, y1⟩ := HN.out.word HNL.out hlt
          obtain ⟨b2, o2, hA2, hb2, y2⟩ := HW.out.word HHX40.out hlt
          obtain ⟨b3, o3, hA3, hb3, y3⟩ := HH5.out.word HQL.out (show 0 < ql + 1 by omega)
          obtain ⟨b3', o3', hA3', hb3', y4⟩ := HH5.out.word HQL.out (show ql < ql + 1 by omega)
          obtain ⟨b5, o5, hA5, hb5, w1, w2, w3', w4, w5', hma, _, _, y5, _, _⟩ := HAF.out.acc HHA.out hbn
          obtain ⟨b6, o6, hA6, hb6, hbk, y6⟩ := HSn.out.seen HSQ.out HSL.out
          rw [HAL.out] at hma
          injection hma with hma
          have hw3 : w3' = (j : Int) := by rw [← HAK.out, hma]
          rw [hw3] at y5
          rw [hA3] at hA3'
          injection hA3' with hA3'
          injection hA3' with e1 e2
          subst e1 e2
          subst hA1
          subst hA2
          subst hA3
          subst hA5
          subst hA6
          rw [HLA.out] at y4
          have h00 : ceAt (h0 :: t) ((0 : Nat) : Int) = ceAt X4 j := by rw [← HH0.out]; rfl
          rw [h00] at y3
          simp only [Nat.add_zero] at y3
          generalize ceAt X4 j = y at *
          generalize ceAt (runX X4 L) j = z at *
          have hyy : (y != y) = false := by simp
          have hzz : (z != z) = false := by simp
          have hjj : ((j : Int) != (j : Int)) = false := by simp
          have hbnI : (b : Int) < (n1 : Int) := by omega
          have hbkI : (b : Int) < (k1 : Int) := by omega
          have hgt : decide (0 < ql + 1) = true := by simp
          clear hma hw3 h00
          go_wp2_with fail
          go_quiet (fail)
          go_wp2_with fail
          go_quiet (fail)
          go_wp2_with fail
          go_roundw
          case rel => exact ⟨j + 1, by omega, by go_num, below_drewN HBW.out _⟩
          case measure => simp [intOf]; omega
      · go_wp2_with fail
        go_ret
        exact ⟨rfl, HB.out.trans (HBW.out.mono HB.out.size)⟩
  · have hn0' : (er != 0) = true := by simpa using h0
    obtain ⟨_, rfl⟩ := hor.resolve_right (fun h => h0 h.1)
    clear hor
    go_wp2_with fail
    go_ret
    exact ⟨rfl, HB.out⟩
end Go.Proofs.Ytadgihmokmfejaa
