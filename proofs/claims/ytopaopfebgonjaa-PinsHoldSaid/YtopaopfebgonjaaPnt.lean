/-
  PinsHold, walked.
-/
import Derived.Test.YtopaopfebgonjaaPno
import Derived.Test.YtopaopfebgonjaaPnpl
import Derived.IntWalk
import Derived.Deep.CutRange
import Derived.Deep.CutBlock
set_option linter.unusedSimpArgs false
set_option linter.unusedVariables false
namespace Go.Proofs.Ytopaopfebgonjaa
open Go Go.RowKit
attribute [local go_sem] via_cell via_frozen

/-- Ahead of a round. -/
def HoldAt (W wr : World) (g7 m : Nat) (t : Int) (j0 : Nat) : Prop :=
  ∃ (X : Int) (Y : List Int) (A : Option Addr) (c : Nat), HoldSt t j0 X Y ∧ Y.length = m ∧ RowAt wr g7 25 #[.int .u64 X, .slice A m c] ∧ Rd wr wr.heap.size 1 A m (Cs encW Y) ∧ (∀ p, A = some p → p.block ≠ g7) ∧ Below W.heap.size W wr

set_option maxRecDepth 100000 in
set_option maxHeartbeats 8000000 in
theorem Hold_walk (A0 : Option Addr) (c0 n0 : Nat) (e : Int) (g : Int) (A1 : Option Addr) (c1 n1 : Nat) (xs : List Int) (ys : List (Int × Int × Int)) (W : World) (h0 : Rd W W.heap.size 1 A0 n0 (Cs encW xs)) (h1 : Rd W W.heap.size 3 A1 n1 (Cs encO ys)) (hx0 : xs.length = n0) (hx1 : ys.length = n1)
    (hu : ∀ s ∈ xs, U64 s) (hu1 : ∀ o ∈ ys, 0 ≤ o.2.2) (hn0 : n0 ≤ c0) (hn1 : n1 ≤ c1) (hm0 : c0 ≤ 9223372036854775807) (hm1 : c1 ≤ 9223372036854775807) (he : U64 e) :
    Calls Try.prog 4 #[.agg #[.int .u64 e, .slice A0 n0 c0], .int .i64 g, .slice A1 n1 c1] W fun x W' => x = .returned (.bool true) ∧ Below W.heap.size W W' := by
  have H1 := hide h1
  have HX1 := hide hx1
  have HUO := hide hu1
  clear h1 hx1 hu1
  obtain ⟨m, hm⟩ : ∃ m, min n0 10 = m := ⟨_, rfl⟩
  obtain ⟨S, hS⟩ : ∃ S, xs.take m = S := ⟨_, rfl⟩
  have hm10 : m ≤ 10 := by omega
  have HSL := hide (show S.length = m by rw [← hS, List.length_take]; omega)
  have HU := hide (show ∀ s ∈ S, U64 s from fun s hs => hu s (by rw [← hS] at hs; exact List.mem_of_mem_take hs))
  have HOWN : Hid (∀ w, Below W.heap.size W w → Calls Try.prog 9 #[.agg #[.int .u64 e, .slice A0 n0 c0]] w (LownRes w e m S)) := hide (fun w hb => by
    have h := lown_any A0 c0 n0 e xs w ((h0.below hb).more hb.size) hx0 hn0 hm0 m hm
    rw [hS] at h
    exact h)
  have HW := hide (fun w => wakes_any w)
  have HB := hide (Below.refl W.heap.size W)
  have he0 : 0 ≤ e := he.1
  have HE64 := hide he
  clear hm hS hu h0 he hx0
  go_enter Try.func4, Try.ntmps4
  go_wp2_with fail
  obtain ⟨g3, hg3⟩ : ∃ g, W.heap.size = g := ⟨_, rfl⟩
  have hWg3 : W.heap.size ≤ g3 := by rw [← hg3]; exact HB.out.size
  have hbx : Below W.heap.size W (W.alloc (.cells #[.int .u64 e, .slice A0 n0 c0] 25)) := (Below.refl _ _).alloc (Nat.le_refl _) _
  have hrx := RowAt.new W 25 #[.int .u64 e, .slice A0 n0 c0]
  rw [hg3] at hrx
  replace HB := hide (HB.out.trans (hbx.mono HB.out.size))
  have hs1 : (W.alloc (.cells #[.int .u64 e, .slice A0 n0 c0] 25)).heap.size = g3 + 1 := by rw [World.size_alloc, hg3]
  have R3 := hide hrx
  clear hbx hrx
  generalize W.alloc (.cells #[.int .u64 e, .slice A0 n0 c0] 25) = w2 at *
  (try rw [hg3])
  clear hg3 hs1
  with_reducible refine (HW.out _).mono ?_
  rintro e w3 ⟨rfl, hb⟩
  replace R3 := hide (R3.out.below hb)
  replace HB := hide (HB.out.trans (hb.mono HB.out.size))
  clear hb HW
  have qR3_0 := row20 R3.out
  have qR3_1 := row21 R3.out
  have lR3 := R3.out.lt
  go_wp2_with fail
  clear qR3_0 qR3_1 lR3
  with_reducible refine (HOWN.out _ HB.out).mono ?_
  rintro e w4 ⟨A7, c7, rfl, hc7, hcm7, hrd, hfr, hb⟩
  replace R3 := hide (R3.out.below hb)
  replace HB := hide (HB.out.trans (hb.mono HB.out.size))
  have HA := hide (hrd)
  clear hb hrd hfr
  go_wp2_with fail
  obtain ⟨E1, hE1⟩ : ∃ E, doE e S 1 g 0 = E := ⟨_, rfl⟩
  obtain ⟨X1, hX1⟩ : ∃ E, doX e S 1 g 0 = E := ⟨_, rfl⟩
  obtain ⟨Y1, hY1⟩ : ∃ E, doS e S 1 g 0 = E := ⟨_, rfl⟩
  obtain ⟨m1, hm1⟩ : ∃ E, Y1.length = E := ⟨_, rfl⟩
  have HDO := hide (fun w (hr : Rd w w.heap.size 1 A7 m (Cs encW S)) => Do_any A7 c7 m e S 1 g 0 w hr HSL.out he0 HU.out (by omega) (by omega) E1 X1 Y1 m1 hE1 hX1 hY1 hm1)
  have HE1 := hide hE1
  have HX1' := hide hX1
  have HY1 := hide hY1
  have HM1 := hide hm1
  clear hE1 hX1 hY1 hm1
  with_reducible refine (HDO.out _ HA.out).mono ?_
  rintro e w5 ⟨A8, c8, rfl, hc8, hcm8, hout, hb⟩
  replace HA := hide ((HA.out.below hb).more hb.size)
  replace R3 := hide (R3.out.below hb)
  replace HB := hide (HB.out.trans (hb.mono HB.out.size))
  have HA8 := hide (hout.rd)
  have HLE := hide (hb.size)
  clear hb HDO
  have HOUT := hide hout
  clear hout
  by_cases hE0 : E1 = 0
  · skip
    subst hE0
    have hpo : pOk e S = true := by
      have h := HE1.out
      unfold doE at h
      by_cases ho : pOk e S = true
      · exact ho
      · rw [if_neg ho] at h; cases h
    obtain ⟨j0, rfl, hj, hq, hbe, hx1, hy1, hpo1, hu1, hob, hoe, hoe0, hd2, hdx2, hds2, hd3, hlen⟩ := pinned_facts hpo HU.out (by omega) he0 HE1.out
    rw [HX1'.out] at hx1
    rw [HY1.out] at hy1
    obtain rfl : e = X1 := hx1.symm
    have hmm : m1 = m := by rw [← HM1.out, hy1, List.length_set]; exact HSL.out
    obtain rfl : m = m1 := hmm.symm
    have HST : Hid (HoldSt e j0 e Y1) := hide ⟨by rw [hy1]; exact hpo1, fun s hs => by rw [hy1] at hs; exact (hu1 s hs).1, Int.le_refl _, by omega, by rw [hy1, List.getElem?_set]; simp [hj]⟩
    have he62 : e ≤ 4611686018427387904 := (pOk_out hpo).2.2.1
    have u0 : (0 : Int) ≤ e + 1 := by omega
    have u1 : e + 1 < 18446744073709551616 := by omega
    have hj0m : j0 < m := by rw [← HSL.out]; exact hj
    clear hpo hq hbe hx1 hy1 hpo1 hu1 hob hoe hoe0 hd2 hdx2 hds2 hd3 hlen hj hmm HE1 HX1' HY1 HOWN HE64
    go_wp2_with fail
    obtain ⟨g7, hg7⟩ : ∃ g, w5.heap.size = g := ⟨_, rfl⟩
    have hWg7 : W.heap.size ≤ g7 := by rw [← hg7]; exact HB.out.size
    have HF8 := hide (fun (p : Addr) (hp : A8 = some p) => (show p.block ≠ g7 by
      obtain ⟨gs, h1, h2, h3⟩ := HOUT.out.own (by omega)
      rw [hp] at h1
      injection h1 with h1
      subst h1
      show gs ≠ g7
      have h3 := HA8.out.2 (by omega)
      obtain ⟨b, off, e1, hb, _⟩ := h3
      rw [hp] at e1
      injection e1 with e1
      injection e1 with e1
      omega))
    have hbx : Below w5.heap.size w5 (w5.alloc (.cells #[.int .u64 e, .slice A8 m c8] 25)) := (Below.refl _ _).alloc (Nat.le_refl _) _
    have hrx := RowAt.new w5 25 #[.int .u64 e, .slice A8 m c8]
    rw [hg7] at hrx
    replace HA := hide ((HA.out.below hbx).more hbx.size)
    replace HA8 := hide ((HA8.out.below hbx).more hbx.size)
    replace R3 := hide (R3.out.below hbx)
    replace HB := hide (HB.out.trans (hbx.mono HB.out.size))
    have hs6 : (w5.alloc (.cells #[.int .u64 e, .slice A8 m c8] 25)).heap.size = g7 + 1 := by rw [World.size_alloc, hg7]
    have R7 := hide hrx
    clear hbx hrx
    generalize w5.alloc (.cells #[.int .u64 e, .slice A8 m c8] 25) = w7 at *
    (try rw [hg7])
    clear hg7 hs6
    clear HOUT
    go_loopw [36] (fun i wr => ∃ (j : Nat), j ≤ n1 ∧ j ≤ 40 ∧ i = .int .i64 j ∧ HoldAt W wr g7 m e j0) (fun i _ => n1 - (intOf i).toNat)
    case atStart => exact ⟨0, by omega, by omega, rfl, e, Y1, A8, c8, HST.out, HM1.out, R7.out, HA8.out, HF8.out, HB.out⟩
    case round =>
      clear R7 HA8 HF8 HB HST HA R3 HM1 HLE
      obtain ⟨j, hj, hj40, rfl, X, Y, A, cc, hst, hyl, hr7, hrd, hfr, hbw⟩ := hrel
      have R7 := hide hr7
      have HRD := hide hrd
      have HFR := hide hfr
      have HB := hide hbw
      have HST := hide hst
      have HYL := hide hyl
      have hX0 := hst.lo
      have hX1 := hst.hi
      clear hr7 hrd hfr hbw hst hyl
      have HOLD := hide (fun w (h : Rd w w.heap.size 1 A m (Cs encW Y)) => Oldest_any A cc m X Y w h HYL.out (by omega) (pOk_u64 HST.out.ok HST.out.pos) (by omega) (oldE Y) true (by rw [if_pos HST.out.ok]) (by rw [if_pos HST.out.ok]; exact (HST.out.old he0).1))
      obtain ⟨ol, hol⟩ : ∃ o, oldE Y = o := ⟨_, rfl⟩
      have hol2 : ol ≤ e := by rw [← hol]; exact (HST.out.old he0).2
      rw [hol] at HOLD
      clear hol
      by_cases hlt : j < n1
      · skip
        obtain ⟨b1, o1, rfl, hbl, hd10, hd11, hd12, HBj⟩ : ∃ b1 o1, A1 = some ⟨b1, o1, none⟩ ∧ b1 < W.heap.size ∧ (∃ (k g b : Int), ys[j]? = some (k, g, b) ∧ wr.cell? ⟨b1, o1 + j * 3, none⟩ = some (.int .i64 k) ∧ wr.cell? ⟨b1, o1 + j * 3 + 1, none⟩ = some (.int .i64 g) ∧ wr.cell? ⟨b1, o1 + j * 3 + 2, none⟩ = some (.int .u64 b) ∧ 0 ≤ b) ∧ True ∧ True ∧ True := by
          have h := H1.out.below HB.out
          rw [← HX1.out] at h
          have hl : j < ys.length := by rw [HX1.out]; exact hlt
          obtain ⟨b1, o1, h1, h2, h3⟩ := h.elem encO_len hl
          exact ⟨b1, o1, h1, h2, ⟨ys[j].1, ys[j].2.1, ys[j].2.2, List.getElem?_eq_getElem hl, by simpa using h3 0 _ (by omega) rfl, h3 1 _ (by omega) rfl, h3 2 _ (by omega) rfl, HUO.out _ (List.getElem_mem hl)⟩, trivial, trivial, trivial⟩
        clear hd11 hd12 HBj
        obtain ⟨ka, ga, ba, _, hd10, hd11, hd12, HBj⟩ := hd10
        have hbl1 : b1 < wr.heap.size := by have := HB.out.size; omega
        by_cases h40 : j = 40
        · skip
          have h40I : ((j : Int) == 40) = true := by simp; omega
          clear h40
          have qR7_0 := row20 R7.out
          have qR7_1 := row21 R7.out
          have lR7 := R7.out.lt
          go_wp2_with fail
          clear qR7_0 qR7_1 lR7
          obtain ⟨gO, hgO⟩ : ∃ g, wr.heap.size = g := ⟨_, rfl⟩
          have hWgO : W.heap.size ≤ gO := by rw [← hgO]; exact HB.out.size
          have hbx : Below wr.heap.size wr (wr.alloc (.cells #[.int .i64 ka, .int .i64 ga, .int .u64 ba] 32)) := (Below.refl _ _).alloc (Nat.le_refl _) _
          have hrx := RowAt.new wr 32 #[.int .i64 ka, .int .i64 ga, .int .u64 ba]
          rw [hgO] at hrx
          replace HRD := hide ((HRD.out.below hbx).more hbx.size)
          replace R7 := hide (R7.out.below hbx)
          replace HB := hide (HB.out.trans (hbx.mono HB.out.size))
          have hs301 : (wr.alloc (.cells #[.int .i64 ka, .int .i64 ga, .int .u64 ba] 32)).heap.size = gO + 1 := by rw [World.size_alloc, hgO]
          have RO := hide hrx
          clear hbx hrx
          generalize wr.alloc (.cells #[.int .i64 ka, .int .i64 ga, .int .u64 ba] 32) = w302 at *
          (try rw [hgO])
          clear hgO hs301
          with_reducible refine (HOLD.out _ HRD.out).mono ?_
          rintro e w303 ⟨rfl, hb⟩
          replace HRD := hide ((HRD.out.below hb).more hb.size)
          replace R7 := hide (R7.out.below hb)
          replace RO := hide (RO.out.below hb)
          replace HB := hide (HB.out.trans (hb.mono HB.out.size))
          clear hb
          go_wp2_with fail
          go_ret
          exact ⟨rfl, HB.out⟩
        · skip
          have h40I : ((j : Int) == 40) = false := by simp; omega
          by_cases hskip : ka ≠ 3 ∧ ga = (j0 : Int)
          · skip
            have k1 : (ka != 3) = true := by simpa using hskip.1
            have k2 : (ga == (j0 : Int)) = true := by simpa using hskip.2
            clear hskip
            have qR7_0 := row20 R7.out
            have qR7_1 := row21 R7.out
            have lR7 := R7.out.lt
            go_wp2_with fail
            clear qR7_0 qR7_1 lR7
            have hbn : Below wr.heap.size wr (wr.alloc (.cells #[.int .i64 ka, .int .i64 ga, .int .u64 ba] 32)) := (Below.refl _ _).alloc (Nat.le_refl _) _
            go_roundw
            case rel => exact ⟨j + 1, by omega, by omega, by go_num, X, Y, A, cc, HST.out, HYL.out, R7.out.below hbn, (HRD.out.below hbn).more hbn.size, HFR.out, HB.out.trans (hbn.mono HB.out.size)⟩
            case measure => simp [intOf]; omega
          · skip
            have hgo : ka = 3 ∨ ga ≠ (j0 : Int) := by
              by_cases h3 : ka = 3
              · exact .inl h3
              · exact .inr (fun h => hskip ⟨h3, h⟩)
            clear hskip
            obtain ⟨E2, hE2⟩ : ∃ E, doE X Y ka ga ba = E := ⟨_, rfl⟩
            obtain ⟨X2, hX2⟩ : ∃ E, doX X Y ka ga ba = E := ⟨_, rfl⟩
            obtain ⟨Y2, hY2⟩ : ∃ E, doS X Y ka ga ba = E := ⟨_, rfl⟩
            obtain ⟨m2, hm2⟩ : ∃ E, Y2.length = E := ⟨_, rfl⟩
            have hdd : doE X Y ka ga ba = dE X Y ka ga ba := by unfold doE; rw [if_pos HST.out.ok]
            have HDO2 := hide (fun w (hr : Rd w w.heap.size 1 A m (Cs encW Y)) => Do_any A cc m X Y ka ga ba w hr HYL.out (by omega) (pOk_u64 HST.out.ok HST.out.pos) HBj (by omega) E2 X2 Y2 m2 hE2 hX2 hY2 hm2)
            have HNX := hide (show E2 = 0 → HoldSt e j0 X2 Y2 ∧ m2 = m from fun h => by
              have h1 : dE X Y ka ga ba = 0 := by rw [← hdd, hE2, h]
              have h2 : X2 = dX X ka := by rw [← hX2]; unfold doX; rw [if_pos (by rw [hE2, h])]
              have h3 : Y2 = dS X Y ka ga ba := by rw [← hY2]; unfold doS; rw [if_pos (by rw [hE2, h])]
              rw [h2, h3]
              exact ⟨HST.out.step he0 ka ga ba HBj hgo h1, by rw [← hm2, h3, dS_length]; exact HYL.out⟩)
            have HM2 := hide hm2
            clear hdd hE2 hX2 hY2 hm2
            have qR7_0 := row20 R7.out
            have qR7_1 := row21 R7.out
            have lR7 := R7.out.lt
            go_upto_region 11 with fail
            clear qR7_0 qR7_1 lR7
            obtain ⟨gO, hgO⟩ : ∃ g, wr.heap.size = g := ⟨_, rfl⟩
            have hWgO : W.heap.size ≤ gO := by rw [← hgO]; exact HB.out.size
            have hbx : Below wr.heap.size wr (wr.alloc (.cells #[.int .i64 ka, .int .i64 ga, .int .u64 ba] 32)) := (Below.refl _ _).alloc (Nat.le_refl _) _
            have hrx := RowAt.new wr 32 #[.int .i64 ka, .int .i64 ga, .int .u64 ba]
            rw [hgO] at hrx
            replace HRD := hide ((HRD.out.below hbx).more hbx.size)
            replace R7 := hide (R7.out.below hbx)
            replace HB := hide (HB.out.trans (hbx.mono HB.out.size))
            have hs301 : (wr.alloc (.cells #[.int .i64 ka, .int .i64 ga, .int .u64 ba] 32)).heap.size = gO + 1 := by rw [World.size_alloc, hgO]
            have RO := hide hrx
            clear hbx hrx
            generalize wr.alloc (.cells #[.int .i64 ka, .int .i64 ga, .int .u64 ba] 32) = w302 at *
            (try rw [hgO])
            clear hgO hs301
            clear hd10 hd11 hd12 hbl1 hbl
            by_cases hk3 : ka = 3
            · skip
              have k1 : (ka != 3) = false := by simpa using hk3
              clear hk3
              have qR7_0 := row20 R7.out
              have qR7_1 := row21 R7.out
              have lR7 := R7.out.lt
              have qRO_0 := row30 RO.out
              have qRO_1 := row31 RO.out
              have qRO_2 := row32 RO.out
              have lRO := RO.out.lt
              go_wp2_with fail
              clear qR7_0 qR7_1 lR7 qRO_0 qRO_1 qRO_2 lRO
              have HGB := hide R7.out.lt
              with_reducible refine (HDO2.out _ HRD.out).mono ?_
              rintro e w303 ⟨A9, c9, rfl, hc9, hcm9, hout, hb⟩
              replace HRD := hide ((HRD.out.below hb).more hb.size)
              replace R7 := hide (R7.out.below hb)
              replace RO := hide (RO.out.below hb)
              replace HB := hide (HB.out.trans (hb.mono HB.out.size))
              have HD9 := hide (hout.rd)
              have HLE := hide (hb.size)
              clear hb
              have HOUT := hide hout
              clear hout
              have HLT := hide R7.out.lt
              by_cases hE0 : E2 = 0
              · skip
                obtain ⟨hst, hmm⟩ := HNX.out hE0
                obtain rfl : m = m2 := hmm.symm
                subst hE0
                have HST2 := hide hst
                have hlo := hst.lo
                have hhi := hst.hi
                have HOFF := hide (fun (p : Addr) (hp : A9 = some p) => (show p.block ≠ g7 by
                  obtain ⟨gs, h1, h2, h3⟩ := HOUT.out.own (by omega)
                  rw [hp] at h1
                  injection h1 with h1
                  subst h1
                  show gs ≠ g7
                  have := HGB.out
                  omega))
                have d1 : decide (e + 1 < X2) = false := by simp; omega
                have d2 : decide (X2 < e) = false := by simp; omega
                have HCK := hide (fun w (h : Rd w w.heap.size 1 A9 m (Cs encW Y2)) => check_any A9 c9 m X2 Y2 w h HM2.out (by omega) (by omega) 0 (by rw [if_pos HST2.out.ok]))
                have HSF := hide (fun w (h : Rd w w.heap.size 1 A9 m (Cs encW Y2)) => safe_any A9 c9 m X2 e Y2 w h HM2.out (by unfold U64; omega) (by omega) false (by rw [HST2.out.ok]; simp; omega))
                clear hst hmm HNX HOUT
                have qR7_0 := row20 R7.out
                have qR7_1 := row21 R7.out
                have lR7 := R7.out.lt
                have fR7_0 := R7.out.frozen 0
                have fR7_1 := R7.out.frozen 1
                go_upto_region 14 with fail
                clear qR7_0 qR7_1 lR7 fR7_0 fR7_1
                obtain ⟨g12, hg12⟩ : ∃ g, w303.heap.size = g := ⟨_, rfl⟩
                have hWg12 : W.heap.size ≤ g12 := by rw [← hg12]; exact HB.out.size
                have hg712 : g7 < g12 := by rw [← hg12]; exact R7.out.lt
                have hbx : Below w303.heap.size w303 (w303.alloc (.cells #[.int .u64 X2, .slice A9 m c9] 25)) := (Below.refl _ _).alloc (Nat.le_refl _) _
                have hrx := RowAt.new w303 25 #[.int .u64 X2, .slice A9 m c9]
                rw [hg12] at hrx
                replace HRD := hide ((HRD.out.below hbx).more hbx.size)
                replace HD9 := hide ((HD9.out.below hbx).more hbx.size)
                replace R7 := hide (R7.out.below hbx)
                replace RO := hide (RO.out.below hbx)
                replace HB := hide (HB.out.trans (hbx.mono HB.out.size))
                have hs304 : (w303.alloc (.cells #[.int .u64 X2, .slice A9 m c9] 25)).heap.size = g12 + 1 := by rw [World.size_alloc, hg12]
                have R12 := hide hrx
                clear hbx hrx
                generalize w303.alloc (.cells #[.int .u64 X2, .slice A9 m c9] 25) = w305 at *
                (try rw [hg12])
                clear hg12 hs304
                clear RO HRD
                have qR7_0 := row20 R7.out
                have qR7_1 := row21 R7.out
                have lR7 := R7.out.lt
                have fR7_0 := R7.out.frozen 0
                have fR7_1 := R7.out.frozen 1
                have qR12_0 := row20 R12.out
                have qR12_1 := row21 R12.out
                have lR12 := R12.out.lt
                go_upto_region 15 with fail
                clear qR7_0 qR7_1 lR7 fR7_0 fR7_1 qR12_0 qR12_1 lR12
                have R7' := hide ((R7.out.set 0 (.int .u64 X2)).set 1 (.slice A9 m c9))
                replace HD9 := hide (((HD9.out.setOffS (g := g7) (HOFF.out) 0 (.int .u64 X2)).setOffS (g := g7) (HOFF.out) 1 (.slice A9 m c9)))
                replace R12 := hide (((R12.out.setNe (o := 0) (v := (.int .u64 X2)) (g2 := g7) (by omega)).setNe (o := 1) (v := (.slice A9 m c9)) (g2 := g7) (by omega)))
                replace HB := hide (((HB.out.setCell (p := ⟨g7, 0, none⟩) (by show _ ≤ g7; omega) (.int .u64 X2)).setCell (p := ⟨g7, 1, none⟩) (by show _ ≤ g7; omega) (.slice A9 m c9)))
                generalize ((w305.setCell ⟨g7, 0, none⟩ (.int .u64 X2)).setCell ⟨g7, 1, none⟩ (.slice A9 m c9)) = w306 at *
                replace R7 : Hid (RowAt w306 (g7) 25 #[.int .u64 X2, .slice A9 m c9]) := hide (by simpa using R7'.out)
                clear R7'
                have qR7_0 := row20 R7.out
                have qR7_1 := row21 R7.out
                have lR7 := R7.out.lt
                go_wp2_with fail
                clear qR7_0 qR7_1 lR7
                with_reducible refine (HCK.out _ HD9.out).mono ?_
                rintro e w307 ⟨rfl, hb⟩
                replace HD9 := hide ((HD9.out.below hb).more hb.size)
                replace R7 := hide (R7.out.below hb)
                replace R12 := hide (R12.out.below hb)
                replace HB := hide (HB.out.trans (hb.mono HB.out.size))
                clear hb
                have qR7_0 := row20 R7.out
                have qR7_1 := row21 R7.out
                have lR7 := R7.out.lt
                go_wp2_with fail
                clear qR7_0 qR7_1 lR7
                with_reducible refine (HSF.out _ HD9.out).mono ?_
                rintro e w308 ⟨rfl, hb⟩
                replace HD9 := hide ((HD9.out.below hb).more hb.size)
                replace R7 := hide (R7.out.below hb)
                replace R12 := hide (R12.out.below hb)
                replace HB := hide (HB.out.trans (hb.mono HB.out.size))
                clear hb
                go_wp2_with fail
                go_roundw
                case rel => exact ⟨j + 1, by omega, by omega, by go_num, X2, Y2, A9, c9, HST2.out, HM2.out, R7.out, HD9.out, HOFF.out, HB.out⟩
                case measure => simp [intOf]; omega
              · skip
                have hE0' : (E2 != 0) = true := by simpa using hE0
                clear hE0
                have qR7_0 := row20 R7.out
                have qR7_1 := row21 R7.out
                have lR7 := R7.out.lt
                go_wp2_with fail
                clear qR7_0 qR7_1 lR7
                have hbn : Below w303.heap.size w303 (w303.alloc (.cells #[.int .u64 X2, .slice A9 m2 c9] 25)) := (Below.refl _ _).alloc (Nat.le_refl _) _
                go_roundw
                case rel => exact ⟨j + 1, by omega, by omega, by go_num, X, Y, A, cc, HST.out, HYL.out, R7.out.below hbn, (HRD.out.below hbn).more hbn.size, HFR.out, HB.out.trans (hbn.mono HB.out.size)⟩
                case measure => simp [intOf]; omega
            · skip
              have k1 : (ka != 3) = true := by simpa using hk3
              have k2 : (ga == (j0 : Int)) = false := by simpa using hgo.resolve_left hk3
              clear hk3
              have qR7_0 := row20 R7.out
              have qR7_1 := row21 R7.out
              have lR7 := R7.out.lt
              have qRO_0 := row30 RO.out
              have qRO_1 := row31 RO.out
              have qRO_2 := row32 RO.out
              have lRO := RO.out.lt
              go_wp2_with fail
              clear qR7_0 qR7_1 lR7 qRO_0 qRO_1 qRO_2 lRO
              have HGB := hide R7.out.lt
              with_reducible refine (HDO2.out _ HRD.out).mono ?_
              rintro e w303 ⟨A9, c9, rfl, hc9, hcm9, hout, hb⟩
              replace HRD := hide ((HRD.out.below hb).more hb.size)
              replace R7 := hide (R7.out.below hb)
              replace RO := hide (RO.out.below hb)
              replace HB := hide (HB.out.trans (hb.mono HB.out.size))
              have HD9 := hide (hout.rd)
              have HLE := hide (hb.size)
              clear hb
              have HOUT := hide hout
              clear hout
              have HLT := hide R7.out.lt
              by_cases hE0 : E2 = 0
              · skip
                obtain ⟨hst, hmm⟩ := HNX.out hE0
                obtain rfl : m = m2 := hmm.symm
                subst hE0
                have HST2 := hide hst
                have hlo := hst.lo
                have hhi := hst.hi
                have HOFF := hide (fun (p : Addr) (hp : A9 = some p) => (show p.block ≠ g7 by
                  obtain ⟨gs, h1, h2, h3⟩ := HOUT.out.own (by omega)
                  rw [hp] at h1
                  injection h1 with h1
                  subst h1
                  show gs ≠ g7
                  have := HGB.out
                  omega))
                have d1 : decide (e + 1 < X2) = false := by simp; omega
                have d2 : decide (X2 < e) = false := by simp; omega
                have HCK := hide (fun w (h : Rd w w.heap.size 1 A9 m (Cs encW Y2)) => check_any A9 c9 m X2 Y2 w h HM2.out (by omega) (by omega) 0 (by rw [if_pos HST2.out.ok]))
                have HSF := hide (fun w (h : Rd w w.heap.size 1 A9 m (Cs encW Y2)) => safe_any A9 c9 m X2 e Y2 w h HM2.out (by unfold U64; omega) (by omega) false (by rw [HST2.out.ok]; simp; omega))
                clear hst hmm HNX HOUT
                have qR7_0 := row20 R7.out
                have qR7_1 := row21 R7.out
                have lR7 := R7.out.lt
                have fR7_0 := R7.out.frozen 0
                have fR7_1 := R7.out.frozen 1
                go_upto_region 14 with fail
                clear qR7_0 qR7_1 lR7 fR7_0 fR7_1
                obtain ⟨g12, hg12⟩ : ∃ g, w303.heap.size = g := ⟨_, rfl⟩
                have hWg12 : W.heap.size ≤ g12 := by rw [← hg12]; exact HB.out.size
                have hg712 : g7 < g12 := by rw [← hg12]; exact R7.out.lt
                have hbx : Below w303.heap.size w303 (w303.alloc (.cells #[.int .u64 X2, .slice A9 m c9] 25)) := (Below.refl _ _).alloc (Nat.le_refl _) _
                have hrx := RowAt.new w303 25 #[.int .u64 X2, .slice A9 m c9]
                rw [hg12] at hrx
                replace HRD := hide ((HRD.out.below hbx).more hbx.size)
                replace HD9 := hide ((HD9.out.below hbx).more hbx.size)
                replace R7 := hide (R7.out.below hbx)
                replace RO := hide (RO.out.below hbx)
                replace HB := hide (HB.out.trans (hbx.mono HB.out.size))
                have hs304 : (w303.alloc (.cells #[.int .u64 X2, .slice A9 m c9] 25)).heap.size = g12 + 1 := by rw [World.size_alloc, hg12]
                have R12 := hide hrx
                clear hbx hrx
                generalize w303.alloc (.cells #[.int .u64 X2, .slice A9 m c9] 25) = w305 at *
                (try rw [hg12])
                clear hg12 hs304
                clear RO HRD
                have qR7_0 := row20 R7.out
                have qR7_1 := row21 R7.out
                have lR7 := R7.out.lt
                have fR7_0 := R7.out.frozen 0
                have fR7_1 := R7.out.frozen 1
                have qR12_0 := row20 R12.out
                have qR12_1 := row21 R12.out
                have lR12 := R12.out.lt
                go_upto_region 15 with fail
                clear qR7_0 qR7_1 lR7 fR7_0 fR7_1 qR12_0 qR12_1 lR12
                have R7' := hide ((R7.out.set 0 (.int .u64 X2)).set 1 (.slice A9 m c9))
                replace HD9 := hide (((HD9.out.setOffS (g := g7) (HOFF.out) 0 (.int .u64 X2)).setOffS (g := g7) (HOFF.out) 1 (.slice A9 m c9)))
                replace R12 := hide (((R12.out.setNe (o := 0) (v := (.int .u64 X2)) (g2 := g7) (by omega)).setNe (o := 1) (v := (.slice A9 m c9)) (g2 := g7) (by omega)))
                replace HB := hide (((HB.out.setCell (p := ⟨g7, 0, none⟩) (by show _ ≤ g7; omega) (.int .u64 X2)).setCell (p := ⟨g7, 1, none⟩) (by show _ ≤ g7; omega) (.slice A9 m c9)))
                generalize ((w305.setCell ⟨g7, 0, none⟩ (.int .u64 X2)).setCell ⟨g7, 1, none⟩ (.slice A9 m c9)) = w306 at *
                replace R7 : Hid (RowAt w306 (g7) 25 #[.int .u64 X2, .slice A9 m c9]) := hide (by simpa using R7'.out)
                clear R7'
                have qR7_0 := row20 R7.out
                have qR7_1 := row21 R7.out
                have lR7 := R7.out.lt
                go_wp2_with fail
                clear qR7_0 qR7_1 lR7
                with_reducible refine (HCK.out _ HD9.out).mono ?_
                rintro e w307 ⟨rfl, hb⟩
                replace HD9 := hide ((HD9.out.below hb).more hb.size)
                replace R7 := hide (R7.out.below hb)
                replace R12 := hide (R12.out.below hb)
                replace HB := hide (HB.out.trans (hb.mono HB.out.size))
                clear hb
                have qR7_0 := row20 R7.out
                have qR7_1 := row21 R7.out
                have lR7 := R7.out.lt
                go_wp2_with fail
                clear qR7_0 qR7_1 lR7
                with_reducible refine (HSF.out _ HD9.out).mono ?_
                rintro e w308 ⟨rfl, hb⟩
                replace HD9 := hide ((HD9.out.below hb).more hb.size)
                replace R7 := hide (R7.out.below hb)
                replace R12 := hide (R12.out.below hb)
                replace HB := hide (HB.out.trans (hb.mono HB.out.size))
                clear hb
                go_wp2_with fail
                go_roundw
                case rel => exact ⟨j + 1, by omega, by omega, by go_num, X2, Y2, A9, c9, HST2.out, HM2.out, R7.out, HD9.out, HOFF.out, HB.out⟩
                case measure => simp [intOf]; omega
              · skip
                have hE0' : (E2 != 0) = true := by simpa using hE0
                clear hE0
                have qR7_0 := row20 R7.out
                have qR7_1 := row21 R7.out
                have lR7 := R7.out.lt
                go_wp2_with fail
                clear qR7_0 qR7_1 lR7
                have hbn : Below w303.heap.size w303 (w303.alloc (.cells #[.int .u64 X2, .slice A9 m2 c9] 25)) := (Below.refl _ _).alloc (Nat.le_refl _) _
                go_roundw
                case rel => exact ⟨j + 1, by omega, by omega, by go_num, X, Y, A, cc, HST.out, HYL.out, R7.out.below hbn, (HRD.out.below hbn).more hbn.size, HFR.out, HB.out.trans (hbn.mono HB.out.size)⟩
                case measure => simp [intOf]; omega
      · skip
        have qR7_0 := row20 R7.out
        have qR7_1 := row21 R7.out
        have lR7 := R7.out.lt
        go_wp2_with fail
        clear qR7_0 qR7_1 lR7
        with_reducible refine (HOLD.out _ HRD.out).mono ?_
        rintro e w301 ⟨rfl, hb⟩
        replace HRD := hide ((HRD.out.below hb).more hb.size)
        replace R7 := hide (R7.out.below hb)
        replace HB := hide (HB.out.trans (hb.mono HB.out.size))
        clear hb
        go_wp2_with fail
        go_ret
        exact ⟨rfl, HB.out⟩
  · skip
    have hmz : m1 = 0 := by
      rw [← HM1.out, ← HY1.out]
      unfold doS
      rw [HE1.out, if_neg hE0]; rfl
    subst hmz
    have hE0' : (E1 != 0) = true := by simpa using hE0
    clear hE0
    go_wp2_with fail
    obtain ⟨g7, hg7⟩ : ∃ g, w5.heap.size = g := ⟨_, rfl⟩
    have hWg7 : W.heap.size ≤ g7 := by rw [← hg7]; exact HB.out.size
    have hbx : Below w5.heap.size w5 (w5.alloc (.cells #[.int .u64 X1, .slice A8 0 c8] 25)) := (Below.refl _ _).alloc (Nat.le_refl _) _
    have hrx := RowAt.new w5 25 #[.int .u64 X1, .slice A8 0 c8]
    rw [hg7] at hrx
    replace HA := hide ((HA.out.below hbx).more hbx.size)
    replace HA8 := hide ((HA8.out.below hbx).more hbx.size)
    replace R3 := hide (R3.out.below hbx)
    replace HB := hide (HB.out.trans (hbx.mono HB.out.size))
    have hs6 : (w5.alloc (.cells #[.int .u64 X1, .slice A8 0 c8] 25)).heap.size = g7 + 1 := by rw [World.size_alloc, hg7]
    have R7 := hide hrx
    clear hbx hrx
    generalize w5.alloc (.cells #[.int .u64 X1, .slice A8 0 c8] 25) = w7 at *
    (try rw [hg7])
    clear hg7 hs6
    go_ret
    exact ⟨rfl, HB.out⟩
end Go.Proofs.Ytopaopfebgonjaa
