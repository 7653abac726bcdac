/-
  The reference's: are mutexes the same.
-/
import Derived.Test.YtlelpnahillioaaMuz
set_option linter.unusedSimpArgs false
set_option linter.unusedVariables false
namespace Go.Proofs.Ytlelpnahillioaa
open Go Go.RowKit
attribute [local go_sem] via_cell via_frozen

set_option maxHeartbeats 4000000 in
theorem rsame_any (B1 B2 : Nat) (A1 A2 : Option Addr) (c1 c2 m1 m2 : Nat) (ts us : List Mm) (W : World) (h1 : RM W B1 A1 m1 ts) (h2 : RM W B2 A2 m2 us) (hB1 : B1 ≤ W.heap.size) (hB2 : B2 ≤ W.heap.size) (s1 : SmallM ts) (s2 : SmallM us) (r : Bool) (hr : decide (mus ts = mus us) = r) :
    Calls Try.prog 16 #[.slice A1 m1 c1, .slice A2 m2 c2] W fun e W' => e = .returned (.bool r) ∧ Below W.heap.size W W' := by
  have HR := hide hr
  have H1 := hide h1
  have H2 := hide h2
  have L1 := hide h1.len
  have L2 := hide h2.len
  have S1 := hide s1
  have S2 := hide s2
  have hm1 : m1 ≤ 4096 := by have := s1.1; have := h1.len; omega
  have hm2 : m2 ≤ 4096 := by have := s2.1; have := h2.len; omega
  clear h1 h2 hr s1 s2
  by_cases hlen : m1 = m2
  · subst hlen
    have ht : ((m1 : Int) != (m1 : Int)) = false := by simp
    go_enter Try.func16, Try.ntmps16
    go_wp2_with fail
    go_loopw [16] (fun i wr => ∃ k : Nat, k ≤ m1 ∧ i = .int .i64 k ∧ (mus ts).take k = (mus us).take k ∧ Below W.heap.size W wr) (fun i _ => m1 - (intOf i).toNat)
    case atStart => exact ⟨0, Nat.zero_le _, rfl, rfl, Below.refl _ _⟩
    case round =>
      obtain ⟨k, hk, rfl, hpre, hbw⟩ := hrel
      have HP := hide hpre
      have HBW := hide hbw
      clear hpre hbw
      by_cases hlt : k < m1
      · have hx1 : k < ts.length := by rw [L1.out]; exact hlt
        have hx2 : k < us.length := by rw [L2.out]; exact hlt
        obtain ⟨b1, o1, rfl, hb1, d10, d11, hq1⟩ := (H1.out.below (HBW.out.mono hB1)).at_ hlt
        have hbl1 : b1 < wr.heap.size := Nat.lt_of_lt_of_le hb1 (Nat.le_trans hB1 HBW.out.size)
        have hkm : (k : Int) < (m1 : Int) := by omega
        have HT := hide (take_mus hx1 hx2)
        have hl1 := S1.out.2 _ (getM_mem hx1)
        have hl2 := S2.out.2 _ (getM_mem hx2)
        have H2AT := hide (fun w (hb : Below W.heap.size W w) => (H2.out.below (hb.mono hB2)).at_ hlt)
        generalize ts.getD k mmZ = x at *
        generalize us.getD k mmZ = y at *
        obtain ⟨xw, xA, xc, xq⟩ := x
        obtain ⟨yw, yA, yc, yq⟩ := y
        dsimp only at *
        obtain ⟨xn, hxn⟩ : ∃ n, xq.length = n := ⟨_, rfl⟩
        obtain ⟨yn, hyn⟩ : ∃ n, yq.length = n := ⟨_, rfl⟩
        rw [hxn] at d11 hq1 hl1
        rw [hyn] at H2AT hl2
        have HXN := hide hxn
        have HYN := hide hyn
        have HEQ := hide (show ∀ b, (decide (xw = yw) && decide (xq = yq)) = b → b = true → (mus ts).take (k + 1) = (mus us).take (k + 1) from fun b hb e => HT.out.2 ⟨HP.out, hb.trans e⟩)
        have HNE := hide (show (decide (xw = yw) && decide (xq = yq)) = false → false = r from fun hb => by
          rw [← HR.out, eq_comm, decide_eq_false_iff_not]
          intro h
          have h' := (HT.out.1 (by rw [h])).2
          have h'' : (decide (xw = yw) && decide (xq = yq)) = true := h'
          rw [hb] at h''; cases h'')
        have HBN := hide (show Below wr.heap.size wr (wr.alloc (.cells #[.int .i64 xw, .slice xA xn xc] 47)) from (Below.refl _ _).alloc (Nat.le_refl _) _)
        have HRN := hide (RowAt.new wr 47 #[.int .i64 xw, .slice xA xn xc])
        have HQ1 := hide ((hq1.more (Nat.le_trans hB1 HBW.out.size)).below HBN.out)
        have HB2 := hide (HBW.out.trans (HBN.out.mono HBW.out.size))
        have HSZ := hide (HBN.out.size)
        obtain ⟨gm, hgm⟩ : ∃ gm, wr.heap.size = gm := ⟨_, rfl⟩
        rw [hgm] at HQ1 HSZ HRN
        clear hxn hyn hb1 hq1
        go_upto_region 6 with (fail)
        (try rw [hgm])
        clear d10 d11 HBN hgm
        generalize (wr.alloc (.cells #[.int .i64 xw, .slice xA xn xc] 47)) = w2 at *
        obtain ⟨b2, o2, rfl, hb2, d20, d21, _⟩ := H2AT.out _ HB2.out
        have hbl2 : b2 < w2.heap.size := Nat.lt_of_lt_of_le hb2 (Nat.le_trans hB2 HB2.out.size)
        have f0 := row20 HRN.out
        have f1 := row21 HRN.out
        have fl := HRN.out.lt
        clear hb2
        by_cases hw : xw = yw
        case neg =>
          have hd : (xw != yw) = true := by simpa using hw
          have HFF := hide (HNE.out (by rw [decide_eq_false hw]; rfl))
          clear hw
          go_wp2_with fail
          go_quiet (fail)
          go_wp2_with fail
          go_ret
          exact ⟨by rw [← HFF.out]; rfl, below_drewN HB2.out _⟩
        subst hw
        have hd : (xw != xw) = false := by simp
        by_cases hnn : xn = yn
        case neg =>
          have hd2 : ((xn : Int) != (yn : Int)) = true := by rw [bne_iff_ne]; omega
          have HFF := hide (HNE.out (by rw [decide_eq_false (show ¬ xq = yq from fun e => hnn (by rw [← HXN.out, ← HYN.out, e])), Bool.and_false]))
          clear hnn
          go_wp2_with fail
          go_quiet (fail)
          go_wp2_with fail
          go_ret
          exact ⟨by rw [← HFF.out]; rfl, below_drewN HB2.out _⟩
        subst hnn
        have hd2 : ((xn : Int) != (xn : Int)) = false := by simp
        have HEQ2 := hide (fun (e : xq = yq) => HEQ.out _ rfl (by simp [e]))
        have HNE2 := hide (fun (e : ¬ xq = yq) => HNE.out (by rw [decide_eq_false e, Bool.and_false]))
        clear HEQ HNE
        go_wp2_with fail
        go_quiet (fail)
        go_wp2_with fail
        go_loopw [44] (fun i wr2 => ∃ (j : Nat), j ≤ xn ∧ i = .int .i64 j ∧ xq.take j = yq.take j ∧ Below W.heap.size W wr2 ∧ gm ≤ wr2.heap.size ∧ Below w2.heap.size w2 wr2) (fun i _ => xn - (intOf i).toNat)
        case atStart => exact ⟨0, Nat.zero_le _, rfl, rfl, below_drewN HB2.out _, HSZ.out, below_drewN (Below.refl _ _) _⟩
        case round =>
          obtain ⟨j, hj, rfl, hx, hbw2, hsz, hbj⟩ := hrel
          have HX := hide hx
          have HBW2 := hide hbw2
          have HBJ := hide hbj
          clear hx hbw2 hbj d20 d21 f0 f1 fl
          by_cases hlt2 : j < xn
          · have hlj : j < xq.length := by rw [HXN.out]; exact hlt2
            have hlj2 : j < yq.length := by rw [HYN.out]; exact hlt2
            obtain ⟨b3, o3, rfl, hb3, d3⟩ := (HQ1.out.below (HBJ.out.mono HSZ.out)).numD HXN.out hlt2
            have hbl3 : b3 < wr.heap.size := Nat.lt_of_lt_of_le hb3 hsz
            obtain ⟨b4, o4, hae, hb4, d40, d41, hq4⟩ := H2AT.out _ HBW2.out
            injection hae with hae
            injection hae with hae1 hae2 _
            subst hae1; subst hae2
            obtain ⟨b5, o5, rfl, hb5, d5⟩ := hq4.numD HYN.out hlt2
            have hbl4 : b2 < wr.heap.size := Nat.lt_of_lt_of_le hb4 (Nat.le_trans hB2 HBW2.out.size)
            have hbl5 : b5 < wr.heap.size := Nat.lt_of_lt_of_le hb5 (Nat.le_trans hB2 HBW2.out.size)
            have hjm : (j : Int) < (xn : Int) := by omega
            have HTX := hide (show xq.take (j + 1) = xq.take j ++ [xq.getD j 0] from by rw [List.take_succ_eq_append_getElem hlj, List.getD_eq_getElem?_getD, List.getElem?_eq_getElem hlj]; rfl)
            have HTY := hide (show yq.take (j + 1) = yq.take j ++ [yq.getD j 0] from by rw [List.take_succ_eq_append_getElem hlj2, List.getD_eq_getElem?_getD, List.getElem?_eq_getElem hlj2]; rfl)
            have HXY := hide (show xq = yq → xq.getD j 0 = yq.getD j 0 from fun e => by rw [e])
            generalize xq.getD j 0 = u at *
            generalize yq.getD j 0 = v at *
            clear hb3 hb4 hb5 hq4
            by_cases huv : u = v
            · have hd3 : (u != v) = false := by simpa using huv
              have HNX := hide (show xq.take (j + 1) = yq.take (j + 1) from by rw [HTX.out, HTY.out, HX.out, huv])
              clear huv
              go_wp2_with fail
              go_roundw
              case rel => exact ⟨j + 1, by omega, by go_num, HNX.out, HBW2.out, hsz, HBJ.out⟩
              case measure => simp [intOf]; omega
            · have hd3 : (u != v) = true := by simpa using huv
              have HFF := hide (HNE2.out (fun e => huv (HXY.out e)))
              clear huv
              go_wp2_with fail
              go_ret
              exact ⟨by rw [← HFF.out]; rfl, HBW2.out⟩
          · have HNX := hide (HEQ2.out (by
              have h := HX.out
              rwa [List.take_of_length_le (by rw [HXN.out]; omega), List.take_of_length_le (by rw [HYN.out]; omega)] at h))
            go_wp2_with fail
            go_roundw
            case rel => exact ⟨k + 1, by omega, by go_num, HNX.out, HBW2.out⟩
            case measure => simp [intOf]; omega
      · have HF := hide (show true = r from by
          rw [← HR.out, eq_comm, decide_eq_true_iff]
          have h := HP.out
          rw [List.take_of_length_le (by rw [mus_len, L1.out]; omega), List.take_of_length_le (by rw [mus_len, L2.out]; omega)] at h
          exact h)
        go_wp2_with fail
        go_ret
        exact ⟨by rw [← HF.out]; rfl, HBW.out⟩
  · have ht : ((m1 : Int) != (m2 : Int)) = true := by rw [bne_iff_ne]; omega
    have HF := hide (show false = r from by
      rw [← HR.out, eq_comm, decide_eq_false_iff_not]
      intro h
      apply hlen
      rw [← L1.out, ← L2.out, ← mus_len ts, ← mus_len us, h])
    go_enter Try.func16, Try.ntmps16
    go_wp2_with fail
    go_ret
    exact ⟨by rw [← HF.out]; rfl, Below.refl _ _⟩
end Go.Proofs.Ytlelpnahillioaa
