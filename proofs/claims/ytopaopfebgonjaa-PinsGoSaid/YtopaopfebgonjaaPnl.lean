/-
  Pins, the reference: ops one behind the other.
-/
import Derived.Test.YtopaopfebgonjaaPnk
set_option linter.unusedSimpArgs false
set_option linter.unusedVariables false
namespace Go.Proofs.Ytopaopfebgonjaa
open Go Go.RowKit
attribute [local go_sem] via_cell via_frozen

/-- What the reference's Run comes to. -/
def RrunRes (W : World) (E X : Int) (Y : List Int) (O : Int) (m : Nat) (x : Ending) (W' : World) : Prop :=
  ∃ A' c', x = .returned (.tuple #[.agg #[.int .u64 X, .slice A' m c'], .int .i64 O, .int .i64 E]) ∧ m ≤ c' ∧ c' ≤ 9223372036854775807 ∧ Rd W' W'.heap.size 1 A' m (Cs encW Y) ∧ (∀ p, A' = some p → W.heap.size ≤ p.block) ∧ Below W.heap.size W W'
/-- Ahead of a round. -/
def RRunAt (W wr : World) (n : Nat) (e : Int) (S : List Int) (l : List (Int × Int × Int)) (j : Nat) (v : Value) : Prop :=
  ∃ (x : Int) (ys : List Int) (o : Int) (A : Option Addr) (c : Nat), v = .int .i64 o ∧ runP e S 0 (l.take j) = some (x, ys, o) ∧ RowAt wr W.heap.size 25 #[.int .u64 x, .slice A n c] ∧ Rd wr wr.heap.size 1 A n (Cs encW ys) ∧ ys.length = n ∧ (∀ p, A = some p → W.heap.size + 1 < p.block) ∧ n ≤ c ∧ c ≤ 9223372036854775807 ∧ RowAt wr (W.heap.size + 1) 25 #[.int .u64 0, .slice none 0 0] ∧ Below W.heap.size W wr

set_option maxHeartbeats 4000000 in
theorem rRun_any (A : Option Addr) (c n : Nat) (e : Int) (S : List Int) (A2 : Option Addr) (c2 n2 : Nat) (l : List (Int × Int × Int)) (W : World) (h : Rd W W.heap.size 1 A n (Cs encW S)) (hx : S.length = n) (h2 : Rd W W.heap.size 3 A2 n2 (Cs encO l)) (hx2 : l.length = n2) (hn2 : n2 ≤ 4096) (hb : ∀ o ∈ l, 0 ≤ o.2.2) (h0 : 0 ≤ e) (hS : ∀ s ∈ S, U64 s) (ho : pOk e S = true)
    (E X : Int) (Y : List Int) (O : Int) (m : Nat) (hE : rnE e S l = E) (hR : rnR e S l = (X, Y, O)) (hm : Y.length = m) :
    Calls Try.prog 17 #[.agg #[.int .u64 e, .slice A n c], .slice A2 n2 c2] W (RrunRes W E X Y O m) := by
  have hl : n ≤ 8 := by have := (pOk_out ho).2.1; omega
  have b3 : Below W.heap.size W ((W.alloc (.cells #[.int .u64 e, .slice A n c] 25)).alloc (.cells #[.int .u64 0, .slice none 0 0] 25)) := ((Below.refl _ _).alloc (Nat.le_refl _) _).alloc (by simp) _
  have r1 : RowAt ((W.alloc (.cells #[.int .u64 e, .slice A n c] 25)).alloc (.cells #[.int .u64 0, .slice none 0 0] 25)) W.heap.size 25 #[.int .u64 e, .slice A n c] := (RowAt.new W 25 #[.int .u64 e, .slice A n c]).below ((Below.refl _ _).alloc (Nat.le_refl _) _)
  have r3 : RowAt ((W.alloc (.cells #[.int .u64 e, .slice A n c] 25)).alloc (.cells #[.int .u64 0, .slice none 0 0] 25)) (W.heap.size + 1) 25 #[.int .u64 0, .slice none 0 0] := by
    have h := RowAt.new (W.alloc (.cells #[.int .u64 e, .slice A n c] 25)) 25 #[.int .u64 0, .slice none 0 0]
    rw [World.size_alloc] at h; exact h
  have HW := hide (with_any A c n e (-1) 0 S _ ((h.below b3).more b3.size) hx (by omega))
  rw [show wthS S (-1) 0 = S from rfl] at HW
  subst hx2
  have HB := hide b3
  have R1 := hide r1
  have R3 := hide r3
  have HX := hide hx
  have HS := hide hS
  have HP := hide ho
  have H2 := hide h2
  have HBB := hide hb
  have HE := hide hE
  have HRR := hide hR
  have HM := hide hm
  have HOK := hide (fun k r (hr : runP e S 0 (l.take k) = some r) => runP_ok e S 0 (l.take k) r h0 (fun s hs => (hS s hs).1) (fun o ho => hb o (List.mem_of_mem_take ho)) ho hr)
  clear b3 r1 r3 h hx hS ho h2 hb hE hR hm
  go_enter Try.func17, Try.ntmps17
  go_wp2_with fail
  generalize ((W.alloc (.cells #[.int .u64 e, .slice A n c] 25)).alloc (.cells #[.int .u64 0, .slice none 0 0] 25)) = w1 at *
  refine HW.out.mono ?_
  rintro x w2 ⟨A7, c7, rfl, hc7, hcm7, hrd, hfr, hb⟩
  have hs1 : W.heap.size + 1 < w1.heap.size := R3.out.lt
  replace R1 := hide (R1.out.below hb)
  replace R3 := hide (R3.out.below hb)
  replace HB := hide (HB.out.trans (hb.mono HB.out.size))
  have HRD := hide hrd
  have HFR := hide (fun (p : Addr) hp => (show W.heap.size + 1 < p.block by have := hfr p hp; omega))
  have z0 := row20 R1.out
  have z1 := row21 R1.out
  have f0 := R1.out.frozen 0
  have f1 := R1.out.frozen 1
  have l1 := R1.out.lt
  clear hb hrd hfr HW
  go_wp2_with fail
  have R1' := hide ((R1.out.set 0 (.int .u64 e)).set 1 (.slice A7 n c7))
  replace R3 := hide ((R3.out.setNe (o := 0) (v := .int .u64 e) (g2 := W.heap.size) (by omega)).setNe (o := 1) (v := .slice A7 n c7) (g2 := W.heap.size) (by omega))
  replace HRD := hide ((HRD.out.setOffS (fun p hp => by have := HFR.out p hp; omega) 0 (.int .u64 e) (g := W.heap.size)).setOffS (fun p hp => by have := HFR.out p hp; omega) 1 (.slice A7 n c7) (g := W.heap.size))
  replace HB := hide ((HB.out.setCell (p := ⟨W.heap.size, 0, none⟩) (Nat.le_refl _) (.int .u64 e)).setCell (p := ⟨W.heap.size, 1, none⟩) (Nat.le_refl _) (.slice A7 n c7))
  clear z0 z1 f0 f1 l1 R1
  generalize ((w2.setCell ⟨W.heap.size, 0, none⟩ (.int .u64 e)).setCell ⟨W.heap.size, 1, none⟩ (.slice A7 n c7)) = w3 at *
  have R1 : Hid (RowAt w3 W.heap.size 25 #[.int .u64 e, .slice A7 n c7]) := hide (by simpa using R1'.out)
  clear R1'
  go_loopw [7, 16] (fun v i wr => ∃ (j : Nat), j ≤ l.length ∧ i = .int .i64 j ∧ RRunAt W wr n e S l j v) (fun _ i _ => l.length - (intOf i).toNat)
  case atStart => exact ⟨0, Nat.zero_le _, rfl, e, S, 0, A7, c7, rfl, rfl, R1.out, HRD.out, HX.out, HFR.out, hc7, hcm7, R3.out, HB.out⟩
  case round =>
    obtain ⟨j, hj, rfl, x, ys, o, A8, c8, rfl, hrun, hr1, hrd, hyl, hfr, hc8, hcm8, hr3, hbw⟩ := hrel
    clear R1 HRD HFR HB R3
    have R1 := hide hr1
    have R3 := hide hr3
    have HRD := hide hrd
    have HYL := hide hyl
    have HFR := hide hfr
    have HB := hide hbw
    have HRUN := hide hrun
    have hno := runP_n _ _ _ _ _ hrun
    dsimp only at hno
    have ho4 : o ≤ 4096 := by have : (l.take j).length ≤ 4096 := by { rw [List.length_take]; omega }; omega
    have ho0 : 0 ≤ o := hno.1
    clear hr1 hr3 hrd hfr hbw hrun hno hyl
    by_cases hlt : j < l.length
    · obtain ⟨b1, o1, rfl, hb1, hc1⟩ := (H2.out.below HB.out).elem encO_len hlt
      have hd10 := hc1 0 _ (by omega) rfl
      have hd11 := hc1 1 _ (by omega) rfl
      have hd12 := hc1 2 _ (by omega) rfl
      simp only [Nat.add_zero] at hd10
      have hbl1 : b1 < wr.heap.size := by have := HB.out.size; omega
      have HBj := hide (HBB.out _ (List.getElem_mem hlt))
      have HSN := hide (runP_snoc j hlt HRUN.out)
      clear hc1
      generalize l[j] = q at *
      obtain ⟨k, g, b⟩ := q
      dsimp only at hd10 hd11 hd12 HBj HSN
      obtain ⟨o1ok, o2, o3⟩ := HOK.out j _ HRUN.out
      dsimp only at o1ok o2 o3
      have hbn : Below wr.heap.size wr (wr.alloc (.cells #[.int .i64 k, .int .i64 g, .int .u64 b] 32)) := (Below.refl _ _).alloc (Nat.le_refl _) _
      obtain ⟨q, hq⟩ : ∃ q, dE x ys k g b = q := ⟨_, rfl⟩
      have hdo : doE x ys k g b = q := by unfold doE; rw [if_pos o1ok, hq]
      obtain ⟨X', hX'⟩ : ∃ X', doX x ys k g b = X' := ⟨_, rfl⟩
      obtain ⟨Y', hY'⟩ : ∃ Y', doS x ys k g b = Y' := ⟨_, rfl⟩
      obtain ⟨m', hm'⟩ : ∃ m', Y'.length = m' := ⟨_, rfl⟩
      have HDO := hide (rDo_any A8 c8 n x ys k g b _ ((HRD.out.below hbn).more hbn.size) HYL.out o2 (pOk_u64 o1ok o3) HBj.out o1ok q X' Y' m' hdo hX' hY' hm')
      have HDS := hide (show q = 0 → X' = dX x k ∧ Y' = dS x ys k g b ∧ m' = n from fun h => by
        have h1 : doE x ys k g b = 0 := by rw [hdo, h]
        have e1 : X' = dX x k := by rw [← hX']; unfold doX; rw [if_pos h1]
        have e2 : Y' = dS x ys k g b := by rw [← hY']; unfold doS; rw [if_pos h1]
        exact ⟨e1, e2, by rw [← hm', e2, dS_length]; exact HYL.out⟩)
      rw [hq] at HSN
      replace R1 := hide (R1.out.below hbn)
      replace R3 := hide (R3.out.below hbn)
      replace HRD := hide ((HRD.out.below hbn).more hbn.size)
      have hs0 := HB.out.size
      replace HB := hide (HB.out.trans (hbn.mono HB.out.size))
      have hlw : W.heap.size + 1 < (wr.alloc (.cells #[.int .i64 k, .int .i64 g, .int .u64 b] 32)).heap.size := R3.out.lt
      have z0 := row20 R1.out
      have z1 := row21 R1.out
      have l1 := R1.out.lt
      have RO := hide (RowAt.new wr 32 #[.int .i64 k, .int .i64 g, .int .u64 b])
      clear o1ok o2 o3 hdo hX' hY' hm' hbn hq
      go_upto_region 6 with fail
      generalize (wr.alloc (.cells #[.int .i64 k, .int .i64 g, .int .u64 b] 32)) = w5 at *
      have y0 := row30 RO.out
      have y1 := row31 RO.out
      have y2 := row32 RO.out
      have lo := RO.out.lt
      go_wp2_with fail
      refine HDO.out.mono ?_
      rintro x2 w6 ⟨A9, c9, rfl, hc9, hcm9, hrd, hfr, hb⟩
      replace R1 := hide (R1.out.below hb)
      replace R3 := hide (R3.out.below hb)
      replace HRD := hide ((HRD.out.below hb).more hb.size)
      replace HB := hide (HB.out.trans (hb.mono HB.out.size))
      have HRD9 := hide hrd
      have HFR9 := hide (fun (p : Addr) hp => (show W.heap.size + 1 < p.block by have := hfr p hp; omega))
      have hl6 : W.heap.size + 1 < w6.heap.size := R3.out.lt
      clear hb hrd hfr HDO z0 z1 l1 y0 y1 y2 lo RO hd10 hd11 hd12
      have hbn : Below w6.heap.size w6 (w6.alloc (.cells #[.int .u64 X', .slice A9 m' c9] 25)) := (Below.refl _ _).alloc (Nat.le_refl _) _
      have RN := hide (RowAt.new w6 25 #[.int .u64 X', .slice A9 m' c9])
      replace R1 := hide (R1.out.below hbn)
      replace R3 := hide (R3.out.below hbn)
      replace HRD := hide ((HRD.out.below hbn).more hbn.size)
      replace HRD9 := hide ((HRD9.out.below hbn).more hbn.size)
      replace HB := hide (HB.out.trans (hbn.mono HB.out.size))
      have hl7 : W.heap.size + 1 < (w6.alloc (.cells #[.int .u64 X', .slice A9 m' c9] 25)).heap.size := R3.out.lt
      clear hbn
      go_upto_region 7 with fail
      obtain ⟨g10, hg10⟩ : ∃ g, w6.heap.size = g := ⟨_, rfl⟩
      rw [hg10] at RN hl6 ⊢
      generalize (w6.alloc (.cells #[.int .u64 X', .slice A9 m' c9] 25)) = w7 at *
      clear hg10
      by_cases q0 : q = 0
      · obtain ⟨rfl, rfl, hmn⟩ := HDS.out q0
        obtain rfl : n = m' := hmn.symm
        subst q0
        simp only [if_true] at HSN
        have z0 := row20 R1.out
        have z1 := row21 R1.out
        have f0 := R1.out.frozen 0
        have f1 := R1.out.frozen 1
        have l1 := R1.out.lt
        have y0 := row20 RN.out
        have y1 := row21 RN.out
        have lo := RN.out.lt
        have hyl9 := hide ((dS_length x ys k g b).trans HYL.out)
        clear HDS
        go_wp2_with fail
        go_roundw
        case rel =>
          refine ⟨j + 1, by omega, by go_num, dX x k, dS x ys k g b, o, A9, c9, rfl, HSN.out, ?_, ?_, hyl9.out, HFR9.out, hc9, hcm9, (R3.out.setNe (by omega)).setNe (by omega), (HB.out.setCell (p := ⟨W.heap.size, 0, none⟩) (Nat.le_refl _) _).setCell (p := ⟨W.heap.size, 1, none⟩) (Nat.le_refl _) _⟩
          · have h := (R1.out.set 0 (.int .u64 (dX x k))).set 1 (.slice A9 n c9)
            simpa using h
          · exact (HRD9.out.setOffS (fun p hp => by have := HFR9.out p hp; omega) 0 _ (g := W.heap.size)).setOffS (fun p hp => by have := HFR9.out p hp; omega) 1 _ (g := W.heap.size)
        case measure => simp [intOf]; omega
      · rw [if_neg q0] at HSN
        by_cases q2 : q = 2
        · subst q2
          simp only [if_true] at HSN
          have hN := runP_none (j + 1) HSN.out
          have hE2 := HE.out
          have hR2 := HRR.out
          simp only [rnE, rnR, HP.out, if_true, hN] at hE2 hR2
          injection hR2 with hR2 hR3
          injection hR3 with hR3 hR4
          subst hE2 hR2 hR3 hR4
          have hm := HM.out
          simp at hm
          subst hm
          have z0 := row20 R3.out
          have z1 := row21 R3.out
          have f0 := R3.out.frozen 0
          have f1 := R3.out.frozen 1
          have l3 := R3.out.lt
          clear hN q0 HE HRR HM HSN
          go_wp2_with fail
          have hr4 := (R3.out.set 0 (.int .u64 0)).set 1 (.slice none 0 0)
          have hb4 : Below W.heap.size W ((w7.setCell ⟨W.heap.size + 1, 0, none⟩ (.int .u64 0)).setCell ⟨W.heap.size + 1, 1, none⟩ (.slice none 0 0)) := (HB.out.setCell (p := ⟨W.heap.size + 1, 0, none⟩) (by simp) _).setCell (p := ⟨W.heap.size + 1, 1, none⟩) (by simp) _
          generalize ((w7.setCell ⟨W.heap.size + 1, 0, none⟩ (.int .u64 0)).setCell ⟨W.heap.size + 1, 1, none⟩ (.slice none 0 0)) = wF at *
          have hr5 : RowAt wF (W.heap.size + 1) 25 #[.int .u64 0, .slice none 0 0] := by simpa using hr4
          refine bodyPost_ret (v := .tuple #[.agg #[.int .u64 0, .slice none 0 0], .int .i64 0, .int .i64 2]) (by simp [results, Try.results17, go_sem, row20 hr5, row21 hr5, hr5.lt]) rfl ⟨none, 0, rfl, Nat.le_refl _, by omega, Rd.none_, fun p hp => (by cases hp), hb4⟩
        · rw [if_neg q2] at HSN
          have q0' : (q == 0) = false := by simpa using q0
          have q2' : (q == 2) = false := by simpa using q2
          clear q0 q2
          go_wp2_with fail
          go_roundw
          case rel => exact ⟨j + 1, by omega, by go_num, x, ys, o + 1, A8, c8, rfl, HSN.out, R1.out, HRD.out, HYL.out, HFR.out, hc8, hcm8, R3.out, HB.out⟩
          case measure => simp [intOf]; omega
    · have hN := HRUN.out
      rw [List.take_of_length_le (by omega)] at hN
      have hE2 := HE.out
      have hR2 := HRR.out
      simp only [rnE, rnR, HP.out, if_true, hN] at hE2 hR2
      injection hR2 with hR2 hR3
      injection hR3 with hR3 hR4
      subst hE2 hR2 hR3 hR4
      have HMN := hide (show n = m by rw [← HM.out, ← HYL.out])
      have a0 := row20 R1.out
      have a1 := row21 R1.out
      have la := R1.out.lt
      have z0 := row20 R3.out
      have z1 := row21 R3.out
      have f0 := R3.out.frozen 0
      have f1 := R3.out.frozen 1
      have l3 := R3.out.lt
      clear hN HE HRR HRUN
      go_wp2_with fail
      have hr4 := (R3.out.set 0 (.int .u64 x)).set 1 (.slice A8 n c8)
      have hb4 : Below W.heap.size W ((wr.setCell ⟨W.heap.size + 1, 0, none⟩ (.int .u64 x)).setCell ⟨W.heap.size + 1, 1, none⟩ (.slice A8 n c8)) := (HB.out.setCell (p := ⟨W.heap.size + 1, 0, none⟩) (by simp) _).setCell (p := ⟨W.heap.size + 1, 1, none⟩) (by simp) _
      have hrd8 := (HRD.out.setOffS (fun p hp => by have := HFR.out p hp; omega) 0 (.int .u64 x) (g := W.heap.size + 1)).setOffS (fun p hp => by have := HFR.out p hp; omega) 1 (.slice A8 n c8) (g := W.heap.size + 1)
      generalize ((wr.setCell ⟨W.heap.size + 1, 0, none⟩ (.int .u64 x)).setCell ⟨W.heap.size + 1, 1, none⟩ (.slice A8 n c8)) = wF at *
      have hr5 : RowAt wF (W.heap.size + 1) 25 #[.int .u64 x, .slice A8 n c8] := by simpa using hr4
      refine bodyPost_ret (v := .tuple #[.agg #[.int .u64 x, .slice A8 n c8], .int .i64 o, .int .i64 0]) (by simp [results, Try.results17, go_sem, row20 hr5, row21 hr5, hr5.lt]) rfl ⟨A8, c8, by rw [HMN.out], by have := HMN.out; omega, hcm8, by rw [← HMN.out]; exact hrd8, fun p hp => by have := HFR.out p hp; omega, hb4⟩
end Go.Proofs.Ytopaopfebgonjaa
