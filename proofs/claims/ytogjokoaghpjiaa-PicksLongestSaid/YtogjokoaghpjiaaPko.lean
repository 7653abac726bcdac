/-
  The least w, who waits longest, laps: the reference's.
-/
import Derived.Test.YtogjokoaghpjiaaPkn
set_option linter.unusedSimpArgs false
set_option linter.unusedVariables false
namespace Go.Proofs.Ytogjokoaghpjiaa
open Go Go.RowKit
attribute [local go_sem] via_cell via_frozen

theorem leastX_fold (n : Nat) (l : List Tn) : ∃ M, leastX n l = 1 + M ∧ (∀ g ∈ upTo n, mostX l g ≤ M) ∧ (M = 0 ∨ ∃ g ∈ upTo n, mostX l g = M) := by
  obtain ⟨_, h2⟩ := foldl_max_ge ((upTo n).map (mostX l)) 0
  have h3 := foldl_max_mem ((upTo n).map (mostX l)) 0
  refine ⟨_, rfl, fun g hg => h2 _ (List.mem_map.2 ⟨g, hg, rfl⟩), ?_⟩
  rcases h3 with h3 | h3
  · exact .inl h3
  · obtain ⟨g, hg, e⟩ := List.mem_map.1 h3
    exact .inr ⟨g, hg, e⟩
/-- Nobody is hungry just by the least w, or more. -/
theorem hungryX_least (n : Nat) (l : List Tn) (w : Nat) (hw : 1 ≤ w) : (0 < (hungryX n l w).length) ↔ w < leastX n l := by
  obtain ⟨M, hM, hall, hex⟩ := leastX_fold n l
  unfold hungryX
  rw [if_neg (by omega), hM, List.length_pos_iff, ne_eq, List.filter_eq_nil_iff]
  simp only [decide_eq_true_eq]
  constructor
  · intro h
    by_cases hlt : w < 1 + M
    · exact hlt
    · exfalso
      apply h
      intro g hg hle
      have := hall g hg
      omega
  · intro h hno
    rcases hex with h0 | ⟨g, hg, e⟩
    · omega
    · exact hno g hg (by omega)
theorem leastX_ge (n : Nat) (l : List Tn) : 1 ≤ leastX n l := by unfold leastX; omega
theorem mostX_le (l : List Tn) (g : Int) : mostX l g ≤ l.length := by
  rcases Nat.eq_zero_or_pos (mostX l g) with h0 | h0
  · omega
  · obtain ⟨i, hi, h2⟩ := (mostX_ge l g _ h0).1 (Nat.le_refl _)
    have h3 := waitX_le (l.take i) g
    rw [List.length_take] at h3
    omega
theorem leastX_le (n : Nat) (l : List Tn) : leastX n l ≤ l.length + 1 := by
  obtain ⟨M, hM, _, hex⟩ := leastX_fold n l
  rcases hex with h | ⟨g, _, e⟩
  · omega
  · have := mostX_le l g
    omega
set_option maxHeartbeats 1000000 in
theorem rleast_any (B : Nat) (A : Option Addr) (c m n : Nat) (ts : List Tm) (W : World) (h : RT W B A m ts) (hc : m ≤ c) (hB : B ≤ W.heap.size) (hs : SmallT ts) (hn : n ≤ 8) (r : Int) (hr : ((leastX n (tns ts) : Nat) : Int) = r) :
    Calls Try.prog 27 #[.int .i64 n, .slice A m c] W fun e W' => e = .returned (.int .i64 r) ∧ Below W.heap.size W W' := by
  have H := hide h
  have HS := hide hs
  have HR := hide hr
  have HGE := hide (leastX_ge n (tns ts))
  have HLE := hide (leastX_le n (tns ts))
  have hlen : (tns ts).length ≤ 4096 := by rw [tns_len]; exact hs.1
  have HH := hide (fun w hw => hungryX_least n (tns ts) w hw)
  obtain ⟨M, hM⟩ : ∃ M, leastX n (tns ts) = M := ⟨_, rfl⟩
  rw [hM] at HR HGE HLE HH
  have hM2 : M ≤ 4097 := by have := HLE.out; omega
  have hM1 := HGE.out
  clear h hs hr hM
  go_enter Try.func27, Try.ntmps27
  go_wp2_with fail
  go_loopw [5] (fun sw wr => ∃ (w : Nat), sw = .int .i64 w ∧ 1 ≤ w ∧ w ≤ M ∧ Below W.heap.size W wr) (fun sw _ => M - (intOf sw).toNat)
  case atStart => exact ⟨1, rfl, Nat.le_refl _, hM1, Below.refl _ _⟩
  case round =>
    obtain ⟨w, rfl, hw1, hw2, hbw⟩ := hrel
    have HBW := hide hbw
    have HC := hide (rhungry_any B A c m n ts (w : Int) wr (H.out.below (hbw.mono hB)) hc (Nat.le_trans hB hbw.size) HS.out hn)
    have HW := hide (HH.out w hw1)
    clear hbw
    generalize (hungryX n (tns ts) w) = L at *
    go_wp2_with fail
    with_reducible refine HC.out.mono ?_
    rintro e w2 ⟨v, rfl, hown, hb2⟩
    obtain ⟨A0, c0, rfl, hc0, hcm0⟩ := own_form2 hown
    have HBE := hide (HBW.out.trans (hb2.mono HBW.out.size))
    clear hown hb2
    by_cases hlt : w < M
    · have hp : (0 : Int) < (L.length : Int) := by have := HW.out.2 hlt; omega
      go_wp2_with fail
      go_roundw
      case rel => exact ⟨w + 1, by go_num, by omega, by omega, HBE.out⟩
      case measure => simp [intOf]; omega
    · have hp : ¬ (0 : Int) < (L.length : Int) := by
        intro h
        have := HW.out.1 (by omega)
        omega
      have HF := hide (show (w : Int) = r from by rw [← HR.out]; omega)
      go_wp2_with fail
      go_ret
      exact ⟨ret_int HF.out, HBE.out⟩
set_option maxHeartbeats 1000000 in
theorem rnext_any (B : Nat) (A A2 : Option Addr) (c m c2 m2 : Nat) (ts : List Tm) (can : List Int) (W : World) (h : RT W B A m ts) (h2 : Rd W B 1 A2 m2 (Cs encI can)) (hx2 : can.length = m2) (hm0 : 0 < m2) (hm2 : m2 ≤ 4096) (hB : B ≤ W.heap.size) (hs : SmallT ts) (r : Int) (hr : nextX (tns ts) can = r) :
    Calls Try.prog 30 #[.slice A m c, .slice A2 m2 c2] W fun e W' => e = .returned (.int .i64 r) ∧ Below W.heap.size W W' := by
  have HX := hide hx2
  have H := hide h
  have H2 := hide h2
  have HS := hide hs
  obtain ⟨bl, o, rfl, hb, d0⟩ := H2.out.numD HX.out hm0
  have hbl : bl < W.heap.size := Nat.lt_of_lt_of_le hb hB
  have h0I : (0 : Int) < (m2 : Int) := by omega
  have HRE := hide (show bestX (waitX (tns ts)) (can.getD 0 0) can = r from by
    rw [← hr]
    cases can with
    | nil => simp at hx2; omega
    | cons a l => exact (nextX_best _ _ _).symm)
  have hwl : ∀ g, waitX (tns ts) g ≤ 4096 := fun g => Nat.le_trans (waitX_le _ _) (by rw [tns_len]; exact hs.1)
  have HWL := hide hwl
  obtain ⟨v0, hv0⟩ : ∃ v0, can.getD 0 0 = v0 := ⟨_, rfl⟩
  rw [hv0] at d0 HRE
  simp only [Nat.add_zero] at d0
  clear h h2 hx2 hs hr hb hv0 hwl
  go_enter Try.func30, Try.ntmps30
  go_wp2_with fail
  go_loopw [5, 13] (fun v i wr => ∃ (k : Nat), k ≤ m2 ∧ i = .int .i64 k ∧ v = .int .i64 (bestX (waitX (tns ts)) v0 (can.take k)) ∧ Below W.heap.size W wr) (fun _ i _ => m2 - (intOf i).toNat)
  case atStart => exact ⟨0, Nat.zero_le _, rfl, rfl, Below.refl _ _⟩
  case round =>
    obtain ⟨k, hk, rfl, rfl, hbw⟩ := hrel
    have HBW := hide hbw
    clear hbw
    by_cases hlt : k < m2
    · obtain ⟨b2, o2, he, hb2, d1⟩ := (H2.out.below (HBW.out.mono hB)).numD HX.out hlt
      injection he with he
      injection he with e1 e2
      subst e1 e2
      have hblr : bl < wr.heap.size := Nat.lt_of_lt_of_le hbl HBW.out.size
      have hkm : (k : Int) < (m2 : Int) := by omega
      have HT := hide (show can.take (k + 1) = can.take k ++ [can.getD k 0] from by
        rw [List.take_succ_eq_append_getElem (show k < can.length by rw [HX.out]; exact hlt), List.getD_eq_getElem?_getD, List.getElem?_eq_getElem]; rfl)
      generalize can.getD k 0 = y at *
      have HN := hide (show bestX (waitX (tns ts)) v0 (can.take (k + 1)) = if waitX (tns ts) (bestX (waitX (tns ts)) v0 (can.take k)) < waitX (tns ts) y then y else bestX (waitX (tns ts)) v0 (can.take k) from by rw [HT.out, bestX_snoc])
      generalize bestX (waitX (tns ts)) v0 (can.take k) = z at *
      have HC1 := hide (wait_any B A c m y ts wr (H.out.below (HBW.out.mono hB)) (Nat.le_trans hB HBW.out.size) HS.out _ rfl)
      have HC2 := hide (fun (w1 : World) (hb : Below W.heap.size W w1) => wait_any B A c m z ts w1 (H.out.below (hb.mono hB)) (Nat.le_trans hB hb.size) HS.out _ rfl)
      clear hb2
      by_cases hc : waitX (tns ts) z < waitX (tns ts) y
      · have hd : decide (((waitX (tns ts) z : Nat) : Int) < ((waitX (tns ts) y : Nat) : Int)) = true := by simpa using hc
        have HNN := hide (show bestX (waitX (tns ts)) v0 (can.take (k + 1)) = y from by rw [HN.out, if_pos hc])
        clear hc HN
        generalize ((waitX (tns ts) z : Nat) : Int) = fz at *
        generalize ((waitX (tns ts) y : Nat) : Int) = fy at *
        go_wp2_with fail
        with_reducible refine HC1.out.mono ?_
        rintro e w1 ⟨rfl, hb1⟩
        have HB1 := hide (HBW.out.trans (hb1.mono HBW.out.size))
        clear hb1
        go_wp2_with fail
        with_reducible refine (HC2.out w1 HB1.out).mono ?_
        rintro e w2 ⟨rfl, hb2⟩
        have HB2 := hide (HB1.out.trans (hb2.mono HB1.out.size))
        clear hb2
        go_wp2_with fail
        go_roundw
        case rel => exact ⟨k + 1, by omega, by go_num, by rw [HNN.out], HB2.out⟩
        case measure => simp [intOf]; omega
      · have hd : decide (((waitX (tns ts) z : Nat) : Int) < ((waitX (tns ts) y : Nat) : Int)) = false := by simpa using hc
        have HNN := hide (show bestX (waitX (tns ts)) v0 (can.take (k + 1)) = z from by rw [HN.out, if_neg hc])
        clear hc HN
        generalize ((waitX (tns ts) z : Nat) : Int) = fz at *
        generalize ((waitX (tns ts) y : Nat) : Int) = fy at *
        go_wp2_with fail
        with_reducible refine HC1.out.mono ?_
        rintro e w1 ⟨rfl, hb1⟩
        have HB1 := hide (HBW.out.trans (hb1.mono HBW.out.size))
        clear hb1
        go_wp2_with fail
        with_reducible refine (HC2.out w1 HB1.out).mono ?_
        rintro e w2 ⟨rfl, hb2⟩
        have HB2 := hide (HB1.out.trans (hb2.mono HB1.out.size))
        clear hb2
        go_wp2_with fail
        go_roundw
        case rel => exact ⟨k + 1, by omega, by go_num, by rw [HNN.out], HB2.out⟩
        case measure => simp [intOf]; omega
    · have HF := hide (show bestX (waitX (tns ts)) v0 (can.take k) = r from by rw [← HRE.out, List.take_of_length_le (by rw [HX.out]; omega)])
      go_wp2_with fail
      go_ret
      exact ⟨ret_int HF.out, HBW.out⟩
/-- Is the one g no reason against a lap? -/
def lapG (l : List Tn) (g : Int) : Bool := !(l.all (fun t => t.1.contains g)) || l.any (fun t => t.2 == g)
theorem lapB_all (n : Nat) (l : List Tn) : lapB n l = (upTo n).all (lapG l) := rfl
set_option maxHeartbeats 4000000 in
theorem lap_any (B : Nat) (A : Option Addr) (c m n : Nat) (ts : List Tm) (W : World) (h : RT W B A m ts) (hB : B ≤ W.heap.size) (hs : SmallT ts) (hn : n ≤ 8) (r : Bool) (hr : lapB n (tns ts) = r) :
    Calls Try.prog 42 #[.int .i64 n, .slice A m c] W fun e W' => e = .returned (.bool r) ∧ Below W.heap.size W W' := by
  have H := hide h
  have HS := hide hs
  have HL := hide h.len
  have hm : m ≤ 4096 := by have := hs.1; have := h.len; omega
  have HR := hide (show (upTo n).all (lapG (tns ts)) = r from by rw [← hr]; rfl)
  clear h hs hr
  go_enter Try.func42, Try.ntmps42
  go_wp2_with fail
  go_loopw [11] (fun i wr => ∃ (j : Nat), j ≤ n ∧ i = .int .i64 j ∧ (upTo j).all (lapG (tns ts)) = true ∧ Below W.heap.size W wr) (fun i _ => n - (intOf i).toNat)
  case atStart => exact ⟨0, Nat.zero_le _, rfl, rfl, Below.refl _ _⟩
  case round =>
    obtain ⟨j, hj, rfl, hall, hbw⟩ := hrel
    have HALL := hide hall
    have HBW := hide hbw
    clear hall hbw
    by_cases hlt : j < n
    · have hjk : (j : Int) < (n : Int) := by omega
      have HU := hide (upTo_succ j)
      go_wp2_with fail
      go_loopw [6, 7, 16] (fun sa sc i wr2 => ∃ (k : Nat) (al ch : Bool), k ≤ m ∧ i = .int .i64 k ∧ sa = .bool al ∧ sc = .bool ch ∧ ((tns (ts.take k)).all (fun t => t.1.contains (j : Int))) = al ∧ ((tns (ts.take k)).any (fun t => t.2 == (j : Int))) = ch ∧ Below W.heap.size W wr2) (fun _ _ i _ => m - (intOf i).toNat)
      case atStart => exact ⟨0, true, false, Nat.zero_le _, rfl, rfl, rfl, rfl, rfl, HBW.out⟩
      case round =>
        obtain ⟨k, al, ch, hk, rfl, rfl, rfl, hal, hch, hbw⟩ := hrel
        have HBW2 := hide hbw
        have HAL := hide hal
        have HCH := hide hch
        clear hbw hal hch HBW
        by_cases hkm : k < m
        · have hlx : k < ts.length := by rw [HL.out]; exact hkm
          obtain ⟨b, o, rfl, hb, d0, d1, hcan⟩ := (H.out.below (HBW2.out.mono hB)).at_ hlx
          have hbl : b < wr.heap.size := Nat.lt_of_lt_of_le hb (Nat.le_trans hB HBW2.out.size)
          have hkI : (k : Int) < (m : Int) := by omega
          have HT := hide (show tns (ts.take (k + 1)) = tns (ts.take k) ++ [ts[k].tn] from by rw [List.take_succ_eq_append_getElem hlx, tns, List.map_append]; rfl)
          have hcl := HS.out.2 _ (List.getElem_mem hlx)
          generalize ts[k] = t at *
          obtain ⟨tA, tc, tcan, tch⟩ := t
          dsimp only [Tm.tn] at *
          have HBN := hide (show Below wr.heap.size wr (wr.alloc (.cells #[.slice tA tcan.length tc, .int .i64 tch] 37)) from (Below.refl _ _).alloc (Nat.le_refl _) _)
          have HBE := hide (HBW2.out.trans (HBN.out.mono HBW2.out.size))
          obtain ⟨q, hq⟩ : ∃ q, tcan.contains (j : Int) = q := ⟨_, rfl⟩
          have HQ := hide hq
          have HC := hide (has_any B tA tc tcan.length tcan j _ (hcan.below (HBN.out.mono (Nat.le_trans hB HBW2.out.size))) rfl hcl (Nat.le_trans hB HBE.out.size) q hq)
          clear hb hcan hq
          cases al <;> cases ch
          · -- always false, chosen false
            by_cases hce : tch = (j : Int)
            · have hd2 : (tch == (j : Int)) = true := by simpa using hce
              clear hce
              have HNA := hide (show ((tns (ts.take (k + 1))).all (fun t => t.1.contains (j : Int))) = false from by rw [HT.out, List.all_append, HAL.out]; rfl)
              have HNC := hide (show ((tns (ts.take (k + 1))).any (fun t => t.2 == (j : Int))) = true from by rw [HT.out, List.any_append, HCH.out]; simp [hd2])
              go_wp2_with fail
              go_roundw
              case rel => exact ⟨k + 1, false, true, by omega, by go_num, rfl, rfl, HNA.out, HNC.out, HBE.out⟩
              case measure => simp [intOf]; omega
            · have hd2 : (tch == (j : Int)) = false := by simpa using hce
              clear hce
              have HNA := hide (show ((tns (ts.take (k + 1))).all (fun t => t.1.contains (j : Int))) = false from by rw [HT.out, List.all_append, HAL.out]; rfl)
              have HNC := hide (show ((tns (ts.take (k + 1))).any (fun t => t.2 == (j : Int))) = false from by rw [HT.out, List.any_append, HCH.out]; simp [hd2])
              go_wp2_with fail
              go_roundw
              case rel => exact ⟨k + 1, false, false, by omega, by go_num, rfl, rfl, HNA.out, HNC.out, HBE.out⟩
              case measure => simp [intOf]; omega
          · -- always false, chosen true
            have HNA := hide (show ((tns (ts.take (k + 1))).all (fun t => t.1.contains (j : Int))) = false from by rw [HT.out, List.all_append, HAL.out]; rfl)
            have HNC := hide (show ((tns (ts.take (k + 1))).any (fun t => t.2 == (j : Int))) = true from by rw [HT.out, List.any_append, HCH.out]; rfl)
            go_wp2_with fail
            go_roundw
            case rel => exact ⟨k + 1, false, true, by omega, by go_num, rfl, rfl, HNA.out, HNC.out, HBE.out⟩
            case measure => simp [intOf]; omega
          · -- always true, chosen false
            by_cases hce : tch = (j : Int)
            · have hd2 : (tch == (j : Int)) = true := by simpa using hce
              clear hce
              have HNA := hide (show ((tns (ts.take (k + 1))).all (fun t => t.1.contains (j : Int))) = q from by rw [HT.out, List.all_append, HAL.out]; simp [← HQ.out])
              have HNC := hide (show ((tns (ts.take (k + 1))).any (fun t => t.2 == (j : Int))) = true from by rw [HT.out, List.any_append, HCH.out]; simp [hd2])
              go_wp2_with fail
              with_reducible refine HC.out.mono ?_
              rintro e w2 ⟨rfl, rfl⟩
              go_wp2_with fail
              go_roundw
              case rel => exact ⟨k + 1, q, true, by omega, by go_num, rfl, rfl, HNA.out, HNC.out, HBE.out⟩
              case measure => simp [intOf]; omega
            · have hd2 : (tch == (j : Int)) = false := by simpa using hce
              clear hce
              have HNA := hide (show ((tns (ts.take (k + 1))).all (fun t => t.1.contains (j : Int))) = q from by rw [HT.out, List.all_append, HAL.out]; simp [← HQ.out])
              have HNC := hide (show ((tns (ts.take (k + 1))).any (fun t => t.2 == (j : Int))) = false from by rw [HT.out, List.any_append, HCH.out]; simp [hd2])
              go_wp2_with fail
              with_reducible refine HC.out.mono ?_
              rintro e w2 ⟨rfl, rfl⟩
              go_wp2_with fail
              go_roundw
              case rel => exact ⟨k + 1, q, false, by omega, by go_num, rfl, rfl, HNA.out, HNC.out, HBE.out⟩
              case measure => simp [intOf]; omega
          · -- always true, chosen true
            have HNA := hide (show ((tns (ts.take (k + 1))).all (fun t => t.1.contains (j : Int))) = q from by rw [HT.out, List.all_append, HAL.out]; simp [← HQ.out])
            have HNC := hide (show ((tns (ts.take (k + 1))).any (fun t => t.2 == (j : Int))) = true from by rw [HT.out, List.any_append, HCH.out]; rfl)
            go_wp2_with fail
            with_reducible refine HC.out.mono ?_
            rintro e w2 ⟨rfl, rfl⟩
            go_wp2_with fail
            go_roundw
            case rel => exact ⟨k + 1, q, true, by omega, by go_num, rfl, rfl, HNA.out, HNC.out, HBE.out⟩
            case measure => simp [intOf]; omega
        · obtain rfl : k = m := by omega
          have HFULL := hide (show ts.take k = ts from List.take_of_length_le (by rw [HL.out]; exact Nat.le_refl _))
          rw [HFULL.out] at HAL HCH
          cases al
          · have HG := hide (show (upTo (j + 1)).all (lapG (tns ts)) = true from by rw [HU.out, List.all_append, HALL.out, List.all_cons, List.all_nil, Bool.and_true, Bool.true_and]; unfold lapG; rw [HAL.out]; rfl)
            go_wp2_with fail
            go_roundw
            case rel => exact ⟨j + 1, by omega, by go_num, HG.out, HBW2.out⟩
            case measure => simp [intOf]; omega
          · cases ch
            · have HF := hide (show false = r from by
                rw [← HR.out, eq_comm, Bool.eq_false_iff]
                intro h
                rw [List.all_eq_true] at h
                have h1 := h (j : Int) (by unfold upTo; rw [List.mem_map]; exact ⟨j, by simpa using hlt, rfl⟩)
                unfold lapG at h1
                rw [HAL.out, HCH.out] at h1
                cases h1)
              go_wp2_with fail
              go_ret
              exact ⟨ret_bool HF.out, HBW2.out⟩
            · have HG := hide (show (upTo (j + 1)).all (lapG (tns ts)) = true from by rw [HU.out, List.all_append, HALL.out, List.all_cons, List.all_nil, Bool.and_true, Bool.true_and]; unfold lapG; rw [HCH.out, Bool.or_true])
              go_wp2_with fail
              go_roundw
              case rel => exact ⟨j + 1, by omega, by go_num, HG.out, HBW2.out⟩
              case measure => simp [intOf]; omega
    · obtain rfl : j = n := by omega
      have HF := hide (HALL.out.symm.trans HR.out)
      go_wp2_with fail
      go_ret
      exact ⟨ret_bool HF.out, HBW.out⟩
end Go.Proofs.Ytogjokoaghpjiaa
