/-
  The reference's: how often one waits, which it waits for, which it has, and rings.
-/
import Derived.Test.YtlelpnahillioaaMus
set_option linter.unusedSimpArgs false
set_option linter.unusedVariables false
namespace Go.Proofs.Ytlelpnahillioaa
open Go Go.RowKit
attribute [local go_sem] via_cell via_frozen

theorem flat_take_succ {ts : List Mm} {k : Nat} (h : k < ts.length) : flatQ (mus (ts.take (k + 1))) = flatQ (mus (ts.take k)) ++ (ts.getD k mmZ).q := by
  rw [takeM_succ h]; simp [mus, flatQ, Mm.mu]
theorem count_take_succ {xs : List Int} {k : Nat} (g : Int) (h : k < xs.length) : (xs.take (k + 1)).count g = (xs.take k).count g + (if xs.getD k 0 = g then 1 else 0) := by
  rw [List.take_succ_eq_append_getElem h, List.count_append, List.getD_eq_getElem?_getD, List.getElem?_eq_getElem h]
  simp [List.count_singleton]
set_option maxHeartbeats 2000000 in
theorem many_any (B : Nat) (A : Option Addr) (c m : Nat) (ts : List Mm) (g : Int) (W : World) (h : RM W B A m ts) (hs : SmallM ts) (hB : B ≤ W.heap.size) (r : Nat) (hr : (flatQ (mus ts)).count g = r) :
    Calls Try.prog 33 #[.slice A m c, .int .i64 g] W fun e W' => e = .returned (.int .i64 r) ∧ Below W.heap.size W W' := by
  have H := hide h
  have HS := hide hs
  have HL := hide h.len
  have HR := hide hr
  have hm : m ≤ 4096 := by have := hs.1; have := h.len; omega
  clear h hs hr
  go_enter Try.func33, Try.ntmps33
  go_wp2_with fail
  go_loopw [5, 12] (fun nv i wr => ∃ (k n : Nat), k ≤ m ∧ nv = .int .i64 n ∧ i = .int .i64 k ∧ (flatQ (mus (ts.take k))).count g = n ∧ n ≤ k * 4096 ∧ Below W.heap.size W wr) (fun _ i _ => m - (intOf i).toNat)
  case atStart => exact ⟨0, 0, Nat.zero_le _, rfl, rfl, rfl, Nat.le_refl _, Below.refl _ _⟩
  case round =>
    obtain ⟨k, n, hk, rfl, rfl, hn, hnk, hbw⟩ := hrel
    have HN := hide hn
    have HBW := hide hbw
    clear hn hbw
    by_cases hlt : k < m
    · have hlx : k < ts.length := by rw [HL.out]; exact hlt
      obtain ⟨b, o, rfl, hb, d0, d1, hq⟩ := (H.out.below (HBW.out.mono hB)).at_ hlt
      have hbl : b < wr.heap.size := Nat.lt_of_lt_of_le hb (Nat.le_trans hB HBW.out.size)
      have hkm : (k : Int) < (m : Int) := by omega
      have hql := HS.out.2 _ (getM_mem hlx)
      have HT := hide (show (flatQ (mus (ts.take (k + 1)))).count g = n + (ts.getD k mmZ).q.count g from by rw [flat_take_succ hlx, List.count_append, HN.out])
      generalize ts.getD k mmZ = t at *
      obtain ⟨who, tA, tc, tq⟩ := t
      dsimp only at *
      obtain ⟨tn, htn⟩ : ∃ n, tq.length = n := ⟨_, rfl⟩
      rw [htn] at d1 hq hql
      have HTN := hide htn
      have HBN := hide (show Below wr.heap.size wr (wr.alloc (.cells #[.int .i64 who, .slice tA tn tc] 47)) from (Below.refl _ _).alloc (Nat.le_refl _) _)
      have HQ := hide ((hq.more (Nat.le_trans hB HBW.out.size)).below HBN.out)
      have HB2 := hide (HBW.out.trans (HBN.out.mono HBW.out.size))
      have HSZ := hide (HBN.out.size)
      obtain ⟨B2, hB2⟩ : ∃ x, wr.heap.size = x := ⟨_, rfl⟩
      rw [hB2] at HQ HSZ
      clear hb htn hq
      go_wp2_with fail
      clear d0 d1 HBN hB2
      generalize (wr.alloc (.cells #[.int .i64 who, .slice tA tn tc] 47)) = w2 at *
      go_loopw [5, 19] (fun nv i wr2 => ∃ (j x : Nat), j ≤ tn ∧ nv = .int .i64 x ∧ i = .int .i64 j ∧ n + (tq.take j).count g = x ∧ x ≤ n + j ∧ Below w2.heap.size w2 wr2) (fun _ i _ => tn - (intOf i).toNat)
      case atStart => exact ⟨0, n, Nat.zero_le _, rfl, rfl, rfl, Nat.le_refl _, Below.refl _ _⟩
      case round =>
        obtain ⟨j, x, hj, rfl, rfl, hx, hxj, hbj⟩ := hrel
        have HX := hide hx
        have HBJ := hide hbj
        clear hx hbj
        by_cases hlt2 : j < tn
        · have hlj : j < tq.length := by rw [HTN.out]; exact hlt2
          obtain ⟨b3, o3, rfl, hb3, d3⟩ := (HQ.out.below (HBJ.out.mono HSZ.out)).numD HTN.out hlt2
          have hbl3 : b3 < wr.heap.size := Nat.lt_of_lt_of_le hb3 (Nat.le_trans HSZ.out HBJ.out.size)
          have hjm : (j : Int) < (tn : Int) := by omega
          have HT2 := hide (show n + (tq.take (j + 1)).count g = x + (if tq.getD j 0 = g then 1 else 0) from by rw [count_take_succ g hlj, ← HX.out]; omega)
          generalize tq.getD j 0 = y at *
          have hxb : (x : Int) ≤ 20000000 := by omega
          clear hb3
          by_cases hy : y = g
          · have hd : (y == g) = true := by simpa using hy
            have HT3 := hide (show n + (tq.take (j + 1)).count g = x + 1 from by rw [HT2.out, if_pos hy])
            clear hy
            go_wp2_with fail
            go_roundw
            case rel => exact ⟨j + 1, x + 1, by omega, by go_num, by go_num, HT3.out, by omega, HBJ.out⟩
            case measure => simp [intOf]; omega
          · have hd : (y == g) = false := by simpa using hy
            have HT3 := hide (show n + (tq.take (j + 1)).count g = x from by rw [HT2.out, if_neg hy]; rfl)
            clear hy
            go_wp2_with fail
            go_roundw
            case rel => exact ⟨j + 1, x, by omega, rfl, by go_num, HT3.out, by omega, HBJ.out⟩
            case measure => simp [intOf]; omega
        · have HF := hide (show (flatQ (mus (ts.take (k + 1)))).count g = x from by
            rw [HT.out, ← HX.out, List.take_of_length_le (by rw [HTN.out]; omega)])
          have HBE := hide (HB2.out.trans (HBJ.out.mono HB2.out.size))
          go_wp2_with fail
          go_roundw
          case rel => exact ⟨k + 1, x, by omega, rfl, by go_num, HF.out, by omega, HBE.out⟩
          case measure => simp [intOf]; omega
    · have HF := hide (show n = r from by
        rw [← HN.out, ← HR.out, List.take_of_length_le (by rw [HL.out]; omega)])
      go_wp2_with fail
      go_ret
      exact ⟨by rw [HF.out]; rfl, HBW.out⟩
theorem waitsX_at {l : Ml} {g : Int} {k : Nat} (hk : k < l.length) (hno : ∀ i, i < k → g ∉ (mAt l i).2) (hin : g ∈ (mAt l k).2) : waitsX l g = (k : Int) := by
  rcases waitsX_cases l g with ⟨_, h⟩ | ⟨j, h1, h2, h3, h4⟩
  · exact absurd (mem_flatQ.2 ⟨_, mAt_mem hk, hin⟩) h
  · rcases Nat.lt_trichotomy j k with h | h | h
    · exact absurd h3 (hno j h)
    · rw [h2, h]
    · exact absurd hin (h4 k h)
theorem waitsX_out {l : Ml} {g : Int} (hno : ∀ i, i < l.length → g ∉ (mAt l i).2) : waitsX l g = -1 := by
  rcases waitsX_cases l g with ⟨h, _⟩ | ⟨j, h1, _, h3, _⟩
  · exact h
  · exact absurd h3 (hno j h1)
set_option maxHeartbeats 2000000 in
theorem rwaits_any (B : Nat) (A : Option Addr) (c m : Nat) (ts : List Mm) (g : Int) (W : World) (h : RM W B A m ts) (hs : SmallM ts) (hB : B ≤ W.heap.size) (r : Int) (hr : waitsX (mus ts) g = r) :
    Calls Try.prog 28 #[.slice A m c, .int .i64 g] W fun e W' => e = .returned (.int .i64 r) ∧ Below W.heap.size W W' := by
  have H := hide h
  have HS := hide hs
  have HL := hide h.len
  have HR := hide hr
  have hm : m ≤ 4096 := by have := hs.1; have := h.len; omega
  clear h hs hr
  go_enter Try.func28, Try.ntmps28
  go_wp2_with fail
  go_loopw [11] (fun i wr => ∃ (k : Nat), k ≤ m ∧ i = .int .i64 k ∧ (∀ i, i < k → g ∉ (mAt (mus ts) i).2) ∧ Below W.heap.size W wr) (fun i _ => m - (intOf i).toNat)
  case atStart => exact ⟨0, Nat.zero_le _, rfl, fun i hi => absurd hi (Nat.not_lt_zero _), Below.refl _ _⟩
  case round =>
    obtain ⟨k, hk, rfl, hn, hbw⟩ := hrel
    have HN := hide hn
    have HBW := hide hbw
    clear hn hbw
    by_cases hlt : k < m
    · have hlx : k < ts.length := by rw [HL.out]; exact hlt
      obtain ⟨b, o, rfl, hb, d0, d1, hq⟩ := (H.out.below (HBW.out.mono hB)).at_ hlt
      have hbl : b < wr.heap.size := Nat.lt_of_lt_of_le hb (Nat.le_trans hB HBW.out.size)
      have hkm : (k : Int) < (m : Int) := by omega
      have hql := HS.out.2 _ (getM_mem hlx)
      have HIN := hide (show g ∈ (ts.getD k mmZ).q → (k : Int) = r from fun hin => by
        rw [← HR.out]
        exact (waitsX_at (by rw [mus_len]; exact hlx) HN.out (by rw [mus_at]; exact hin)).symm)
      have HNX := hide (show g ∉ (ts.getD k mmZ).q → ∀ i, i < k + 1 → g ∉ (mAt (mus ts) i).2 from fun hno i hi => by
        by_cases e : i = k
        · subst e; rw [mus_at]; exact hno
        · exact HN.out i (by omega))
      generalize ts.getD k mmZ = t at *
      obtain ⟨who, tA, tc, tq⟩ := t
      dsimp only at *
      obtain ⟨tn, htn⟩ : ∃ n, tq.length = n := ⟨_, rfl⟩
      rw [htn] at d1 hq hql
      have HTN := hide htn
      have HBN := hide (show Below wr.heap.size wr (wr.alloc (.cells #[.int .i64 who, .slice tA tn tc] 47)) from (Below.refl _ _).alloc (Nat.le_refl _) _)
      have HQ := hide ((hq.more (Nat.le_trans hB HBW.out.size)).below HBN.out)
      have HB2 := hide (HBW.out.trans (HBN.out.mono HBW.out.size))
      have HSZ := hide (HBN.out.size)
      obtain ⟨B2, hB2⟩ : ∃ x, wr.heap.size = x := ⟨_, rfl⟩
      rw [hB2] at HQ HSZ
      clear hb htn hq
      go_wp2_with fail
      clear d0 d1 HBN hB2
      generalize (wr.alloc (.cells #[.int .i64 who, .slice tA tn tc] 47)) = w2 at *
      go_loopw [19] (fun i wr2 => ∃ (j : Nat), j ≤ tn ∧ i = .int .i64 j ∧ g ∉ tq.take j ∧ Below w2.heap.size w2 wr2) (fun i _ => tn - (intOf i).toNat)
      case atStart => exact ⟨0, Nat.zero_le _, rfl, by simp, Below.refl _ _⟩
      case round =>
        obtain ⟨j, hj, rfl, hx, hbj⟩ := hrel
        have HX := hide hx
        have HBJ := hide hbj
        clear hx hbj
        have HBE := hide (HB2.out.trans (HBJ.out.mono HB2.out.size))
        by_cases hlt2 : j < tn
        · have hlj : j < tq.length := by rw [HTN.out]; exact hlt2
          obtain ⟨b3, o3, rfl, hb3, d3⟩ := (HQ.out.below (HBJ.out.mono HSZ.out)).numD HTN.out hlt2
          have hbl3 : b3 < wr.heap.size := Nat.lt_of_lt_of_le hb3 (Nat.le_trans HSZ.out HBJ.out.size)
          have hjm : (j : Int) < (tn : Int) := by omega
          have HT2 := hide (show tq.take (j + 1) = tq.take j ++ [tq.getD j 0] from by rw [List.take_succ_eq_append_getElem hlj, List.getD_eq_getElem?_getD, List.getElem?_eq_getElem hlj]; rfl)
          have HM2 := hide (getD_mem hlj)
          generalize tq.getD j 0 = y at *
          clear hb3
          by_cases hy : y = g
          · have hd : (y == g) = true := by simpa using hy
            have HF := hide (HIN.out (by rw [← hy]; exact HM2.out))
            clear hy
            go_wp2_with fail
            go_ret
            exact ⟨by rw [HF.out]; rfl, HBE.out⟩
          · have hd : (y == g) = false := by simpa using hy
            have HT3 := hide (show g ∉ tq.take (j + 1) from by
              rw [HT2.out, List.mem_append, List.mem_singleton]
              rintro (h | h)
              · exact HX.out h
              · exact hy h.symm)
            clear hy
            go_wp2_with fail
            go_roundw
            case rel => exact ⟨j + 1, by omega, by go_num, HT3.out, HBJ.out⟩
            case measure => simp [intOf]; omega
        · have HF := hide (HNX.out (by
            have h := HX.out
            rwa [List.take_of_length_le (by rw [HTN.out]; omega)] at h))
          go_wp2_with fail
          go_roundw
          case rel => exact ⟨k + 1, by omega, by go_num, HF.out, HBE.out⟩
          case measure => simp [intOf]; omega
    · have HF := hide (show (-1 : Int) = r from by
        rw [← HR.out]
        exact (waitsX_out (fun i hi => HN.out i (by rw [mus_len, HL.out] at hi; omega))).symm)
      go_wp2_with fail
      go_ret
      exact ⟨by rw [HF.out]; rfl, HBW.out⟩
set_option maxHeartbeats 2000000 in
theorem rhas_any (B : Nat) (A : Option Addr) (c m : Nat) (ts : List Mm) (g : Int) (W : World) (h : RM W B A m ts) (hs : SmallM ts) (hB : B ≤ W.heap.size) (xs : List Int) (hx : hasX (mus ts) g = xs) :
    Calls Try.prog 29 #[.slice A m c, .int .i64 g] W fun e W' => OwnI W.heap.size xs e W' ∧ Below W.heap.size W W' := by
  obtain ⟨b, hb⟩ : ∃ b, goerB g = b := ⟨_, rfl⟩
  unfold hasX at hx
  rw [hb] at hx
  have HIS := hide (fun w => goer_any g w b hb)
  have H := hide h
  have HL := hide h.len
  have hm : m ≤ 4096 := by have := hs.1; have := h.len; omega
  have HG := hide (show b = true → 0 ≤ g ∧ g < 8 from fun e => goerB_iff.1 (hb.trans e))
  clear h hs hb
  cases b
  · obtain rfl : [] = xs := hx
    have HN := hide (fun w => ownI_nil W.heap.size w)
    go_enter Try.func29, Try.ntmps29
    go_wp2_with fail
    go_loopw [5, 10] (fun sv i wr => ∃ (k : Nat), k ≤ m ∧ sv = .slice none 0 0 ∧ i = .int .i64 k ∧ Below W.heap.size W wr) (fun _ i _ => m - (intOf i).toNat)
    case atStart => exact ⟨0, Nat.zero_le _, rfl, rfl, Below.refl _ _⟩
    case round =>
      obtain ⟨k, hk, rfl, rfl, hbw⟩ := hrel
      have HBW := hide hbw
      clear hbw
      by_cases hlt : k < m
      · obtain ⟨b, o, rfl, hb, d0, d1, _⟩ := (H.out.below (HBW.out.mono hB)).at_ hlt
        have hbl : b < wr.heap.size := Nat.lt_of_lt_of_le hb (Nat.le_trans hB HBW.out.size)
        have hkm : (k : Int) < (m : Int) := by omega
        generalize ts.getD k mmZ = t at *
        obtain ⟨who, tA, tc, tq⟩ := t
        dsimp only at *
        have HBE := hide (HBW.out.trans ((show Below wr.heap.size wr (wr.alloc (.cells #[.int .i64 who, .slice tA tq.length tc] 47)) from (Below.refl _ _).alloc (Nat.le_refl _) _).mono HBW.out.size))
        clear hb
        go_wp2_with fail
        with_reducible refine (HIS.out _).mono ?_
        rintro e w2 ⟨rfl, rfl⟩
        go_wp2_with fail
        go_roundw
        case rel => exact ⟨k + 1, by omega, rfl, by go_num, HBE.out⟩
        case measure => simp [intOf]; omega
      · go_wp2_with fail
        go_ret
        exact ⟨HN.out _, HBW.out⟩
  have HX := hide (show hasGo g 0 (mus ts) = xs from hx)
  have hg := HG.out rfl
  have hg0 := hg.1
  have hg8 := hg.2
  have hwg : wrap64 (g + 1) = g + 1 := IntWalk.wrap64_in _ (by omega)
  clear hx hg
  go_enter Try.func29, Try.ntmps29
  go_wp2_with fail
  go_loopw [5, 10] (fun sv i wr => ∃ (k : Nat) (us : List Int) (v : Value), k ≤ m ∧ v = sv ∧ i = .int .i64 k ∧ hasGo g 0 (mus (ts.take k)) = us ∧ us.length ≤ k ∧ wr.ownsRow W.heap.size 3 1 v us.length (Cs encI us) ∧ Below W.heap.size W wr) (fun _ i _ => m - (intOf i).toNat)
  case atStart => exact ⟨0, [], _, Nat.zero_le _, rfl, rfl, rfl, Nat.le_refl _, World.ownsRow_nil _ _ _ _, Below.refl _ _⟩
  case round =>
    obtain ⟨k, us, v, hk, rfl, rfl, hus, hul, hown, hbw⟩ := hrel
    have HU := hide hus
    have HUL := hide hul
    have HO := hide hown
    have HBW := hide hbw
    clear hus hul hown hbw
    by_cases hlt : k < m
    · have hlx : k < ts.length := by rw [HL.out]; exact hlt
      obtain ⟨b, o, rfl, hb, d0, d1, _⟩ := (H.out.below (HBW.out.mono hB)).at_ hlt
      have hbl : b < wr.heap.size := Nat.lt_of_lt_of_le hb (Nat.le_trans hB HBW.out.size)
      have hkm : (k : Int) < (m : Int) := by omega
      have HT := hide (show hasGo g 0 (mus (ts.take (k + 1))) = if (ts.getD k mmZ).who = g + 1 then us ++ [(k : Int)] else us from by
        have e : mus (ts.take (k + 1)) = mus (ts.take k) ++ [(ts.getD k mmZ).mu] := by rw [takeM_succ hlx]; simp [mus]
        rw [e, hasGo_snoc, HU.out, mus_len, List.length_take, Nat.min_eq_left (by omega)]; rfl)
      generalize ts.getD k mmZ = t at *
      obtain ⟨who, tA, tc, tq⟩ := t
      dsimp only at *
      have HBN := hide (show Below wr.heap.size wr (wr.alloc (.cells #[.int .i64 who, .slice tA tq.length tc] 47)) from (Below.refl _ _).alloc (Nat.le_refl _) _)
      clear hb
      by_cases hw : who = g + 1
      · subst hw
        have hd : (g + 1 == g + 1) = true := by simp
        have HT2 := hide (HT.out.trans (if_pos rfl))
        have HO1 := hide ((HO.out.alloc (.cells #[.int .i64 (g + 1), .slice tA tq.length tc] 47)).alloc (.cells #[.int .i64 (k : Int)] 3))
        have HBM := hide (show Below wr.heap.size wr ((wr.alloc (.cells #[.int .i64 (g + 1), .slice tA tq.length tc] 47)).alloc (.cells #[.int .i64 (k : Int)] 3)) from ((Below.refl _ _).alloc (Nat.le_refl _) _).alloc (by simp) _)
        have hsrc := Rd.new (wr.alloc (.cells #[.int .i64 (g + 1), .slice tA tq.length tc] 47)) #[.int .i64 (k : Int)] 3 1 1 rfl
        rw [World.size_alloc] at hsrc
        have HSRC := hide hsrc
        clear hsrc
        go_wp2_with fail
        with_reducible refine (HIS.out _).mono ?_
        rintro e w2 ⟨rfl, rfl⟩
        go_wp2_with (at_builtin; go_loud (refine wpList_app elI rfl _ _ rfl rfl HO1.out rfl HSRC.out (by simp [Value.oneCell']) (by have := HUL.out; omega) (by have := HBW.out.size; have := HBM.out.size; omega) ?_; intro v2 wB hownB hbB hgB hvB))
        have HNEW := hide (show wB.ownsRow W.heap.size 3 1 v2 (us ++ [(k : Int)]).length (Cs encI (us ++ [(k : Int)])) from by rw [List.length_append, Cs_append, Cs_one]; exact hownB)
        have HBE := hide (HBW.out.trans ((HBM.out.mono HBW.out.size).trans hbB))
        clear hownB hbB hgB hvB
        go_wp2_with fail
        go_roundw
        case rel => exact ⟨k + 1, _, v2, by omega, rfl, by go_num, HT2.out, by have := HUL.out; rw [List.length_append]; show us.length + 1 ≤ k + 1; omega, HNEW.out, HBE.out⟩
        case measure => simp [intOf]; omega
      · have hd : (who == g + 1) = false := by simpa using hw
        have HT2 := hide (HT.out.trans (if_neg hw))
        have HO1 := hide (HO.out.alloc (.cells #[.int .i64 who, .slice tA tq.length tc] 47))
        have HBE := hide (HBW.out.trans (HBN.out.mono HBW.out.size))
        clear hw
        go_wp2_with fail
        with_reducible refine (HIS.out _).mono ?_
        rintro e w2 ⟨rfl, rfl⟩
        go_wp2_with fail
        go_roundw
        case rel => exact ⟨k + 1, us, v, by omega, rfl, by go_num, HT2.out, by have := HUL.out; omega, HO1.out, HBE.out⟩
        case measure => simp [intOf]; omega
    · have HF := hide (show us = xs from by
        rw [← HU.out, ← HX.out, List.take_of_length_le (by rw [HL.out]; omega)])
      obtain ⟨A', c', rfl, hc1⟩ := own_form HO.out
      have HFR := hide (show OwnI W.heap.size xs (.returned (.slice A' us.length c')) wr from by rw [← HF.out]; exact ⟨A', c', rfl, HO.out⟩)
      go_wp2_with fail
      go_ret
      exact ⟨HFR.out, HBW.out⟩
def lenV (v : Value) : Nat := match v with | .slice _ n _ => n | _ => 0
set_option maxHeartbeats 4000000 in
theorem rring_any (B : Nat) (A : Option Addr) (c m : Nat) (ts : List Mm) (W : World) (h : RM W B A m ts) (hs : SmallM ts) (hB : B ≤ W.heap.size) (hright : RightM (mus ts)) (xs : List Int) (hx : ringX (mus ts) = xs) :
    Calls Try.prog 27 #[.slice A m c] W fun e W' => OwnI W.heap.size xs e W' ∧ Below W.heap.size W W' := by
  have H := hide h
  have HS := hide hs
  have HL := hide (show (mus ts).length = m by rw [mus_len, h.len])
  have hm : m ≤ 4096 := by have := hs.1; have := h.len; omega
  have HX := hide (show ringFrom (mus ts) 8 0 = xs from hx)
  have HRT := hide hright
  clear h hs hx hright
  go_enter Try.func27, Try.ntmps27
  go_wp2_with fail
  go_loopw [6] (fun i wr => ∃ (k : Nat), k ≤ 8 ∧ i = .int .i64 k ∧ ringFrom (mus ts) (8 - k) k = xs ∧ Below W.heap.size W wr) (fun i _ => 8 - (intOf i).toNat)
  case atStart => exact ⟨0, Nat.zero_le _, rfl, HX.out, Below.refl _ _⟩
  case round =>
    obtain ⟨k, hk, rfl, hgo, hbw⟩ := hrel
    have HGO := hide hgo
    have HBW := hide hbw
    clear hgo hbw
    by_cases hlt : k < 8
    · have hkm : (k : Int) < 8 := by omega
      have HST := hide ((ringFrom_step (mus ts) hlt).symm.trans HGO.out)
      have hlit := World.ownsRow_lit (base := W.heap.size) (e := 3) (size := 1) wr #[.int .i64 (k : Int)] 1 HBW.out.size (by simp [maxLen]) rfl
      have HBN := hide (HBW.out.alloc HBW.out.size (.cells #[.int .i64 (k : Int)] 3))
      obtain ⟨w7, h7⟩ : ∃ w, w = wr := ⟨_, rfl⟩
      subst h7
      have HLIT := hide hlit
      clear hlit
      go_wp2_with fail
      generalize hgw : (w7.alloc (.cells #[.int .i64 (k : Int)] 3)) = w2 at *
      clear hgw
      go_loopw [4] (fun sv wr => ∃ (j : Nat) (us : List Int) (v : Value) (x : Int), j ≤ 8 ∧ v = sv ∧ us.length = j ∧ ringGo (mus ts) k (8 - j) x us = ringAt (mus ts) k ∧ wr.ownsRow W.heap.size 3 1 v (j + 1) (Cs encI (us ++ [x])) ∧ Below W.heap.size W wr) (fun sv _ => 9 - lenV sv)
      case atStart => exact ⟨0, [], _, k, Nat.zero_le _, rfl, rfl, rfl, HLIT.out, HBN.out⟩
      case round =>
        obtain ⟨j, us, v, x, hj, rfl, hul, hgo, hown, hbw⟩ := hrel
        have HGJ := hide hgo
        have HUL := hide hul
        have HO := hide hown
        have HBW2 := hide hbw
        clear hgo hul hown hbw
        obtain ⟨vA, vc, rfl, hvc, hvm⟩ := own_form2 HO.out
        by_cases hlt2 : j < 8
        · have hkm2 : (j : Int) < 8 := by omega
          have hj1 : ((j + 1 : Nat) : Int) = (j : Int) + 1 := rfl
          have HSJ := hide ((ringGo_step (mus ts) k hlt2 x us).symm.trans HGJ.out)
          have HRD := hide (Rd.of_own HO.out)
          obtain ⟨b9, o9, rfl, hb9, d9⟩ := HRD.out.numD (X := us ++ [x]) (by rw [List.length_append, HUL.out]; rfl) (Nat.lt_succ_self j)
          have hgx : (us ++ [x]).getD j 0 = x := by rw [List.getD_eq_getElem?_getD, List.getElem?_append_right (by rw [HUL.out]; exact Nat.le_refl _), HUL.out]; simp
          rw [hgx] at d9
          obtain ⟨y, hy⟩ : ∃ y, waitsX (mus ts) x = y := ⟨_, rfl⟩
          have HW := hide (fun w (hb : Below W.heap.size W w) => rwaits_any B A c m ts x w (H.out.below (hb.mono hB)) HS.out (Nat.le_trans hB hb.size) y hy)
          have HOW := hide (fun (h0 : 0 ≤ y) => HRT.out.owner (g := x) (by rw [hy]; exact h0))
          rw [hy] at HSJ HOW
          have HWC := hide (HW.out _ HBW2.out)
          clear hy hgx
          go_wp2_with fail
          with_reducible refine HWC.out.mono ?_
          rintro e w5 ⟨rfl, hb5⟩
          have HO5 := hide (own_keepB HO.out hb5)
          have HB5 := hide (HBW2.out.trans (hb5.mono HBW2.out.size))
          clear hb5 d9 hb9
          by_cases hy0 : y < 0
          · have hd : decide (y < 0) = true := by simpa using hy0
            have HNO := hide (show ringAt (mus ts) k = none from by rw [← HSJ.out, if_pos hy0])
            have HNX := hide (show ringFrom (mus ts) (8 - (k + 1)) (k + 1) = xs from by have h := HST.out; rw [HNO.out] at h; exact h)
            clear hy0
            go_wp2_with fail
            go_roundw
            case rel => exact ⟨k + 1, by omega, by go_num, HNX.out, HB5.out⟩
            case measure => simp [intOf]; omega
          · have hd : decide (y < 0) = false := by simpa using hy0
            obtain ⟨jj, hjl, rfl, hby1, hby8⟩ := HOW.out (by omega)
            have HSJ2 := hide (show (if (mAt (mus ts) jj).1 - 1 = (k : Int) then some (us ++ [x]) else ringGo (mus ts) k (8 - (j + 1)) ((mAt (mus ts) jj).1 - 1) (us ++ [x])) = ringAt (mus ts) k from by
              have h := HSJ.out
              rw [if_neg hy0, Int.toNat_natCast] at h
              exact h)
            have HSA := hide (fun (e : (mAt (mus ts) jj).1 - 1 = (k : Int)) => (if_pos e).symm.trans HSJ2.out)
            have HSB := hide (fun (e : ¬ (mAt (mus ts) jj).1 - 1 = (k : Int)) => (if_neg e).symm.trans HSJ2.out)
            clear HSJ2
            have hjm : jj < m := by rw [← HL.out]; exact hjl
            have hjI : (jj : Int) < (m : Int) := by omega
            obtain ⟨b, o, rfl, hb, d0, d1, _⟩ := (H.out.below (HB5.out.mono hB)).at_ hjm
            have hbl : b < w5.heap.size := Nat.lt_of_lt_of_le hb (Nat.le_trans hB HB5.out.size)
            have e0 := mus_at ts jj
            rw [e0] at HSA HSB hby1 hby8
            generalize ts.getD jj mmZ = t at *
            obtain ⟨who, tA, tc, tq⟩ := t
            dsimp only [Mm.mu] at *
            have hw1 : wrap64 (who - 1) = who - 1 := IntWalk.wrap64_in _ (by omega)
            clear hy0 hb e0 HOW HSJ
            by_cases hf : who - 1 = (k : Int)
            · have hd2 : (who - 1 == (k : Int)) = true := by simpa using hf
              have HF := hide (show us ++ [x] = xs from by
                have h := HST.out
                rw [← HSA.out hf] at h
                exact h)
              have HFR := hide (show OwnI W.heap.size xs (.returned (.slice (some ⟨b9, o9, none⟩) (j + 1) vc)) w5 from by
                have e : (us ++ [x]).length = j + 1 := by rw [List.length_append, HUL.out]; rfl
                rw [← HF.out]; exact ⟨_, vc, by rw [e], by rw [e]; exact HO5.out⟩)
              clear hf
              go_wp2_with fail
              go_ret
              exact ⟨HFR.out, HB5.out⟩
            · have hd2 : (who - 1 == (k : Int)) = false := by simpa using hf
              have HNX := hide (show ringGo (mus ts) k (8 - (j + 1)) (who - 1) (us ++ [x]) = ringAt (mus ts) k from HSB.out hf)
              have HUL2 := hide (show (us ++ [x]).length = j + 1 from by rw [List.length_append, HUL.out]; rfl)
              have HO1 := hide (HO5.out.alloc (.cells #[.int .i64 (who - 1)] 3))
              have HBM := hide (show Below w5.heap.size w5 (w5.alloc (.cells #[.int .i64 (who - 1)] 3)) from (Below.refl _ _).alloc (Nat.le_refl _) _)
              have HSRC := hide (Rd.new w5 #[.int .i64 (who - 1)] 3 1 1 rfl)
              clear hf
              go_wp2_with (at_builtin; go_loud (refine wpList_app elI rfl _ _ rfl rfl HO1.out rfl HSRC.out (by simp [Value.oneCell']) (by omega) (by have := HB5.out.size; have := HBM.out.size; omega) ?_; intro v2 wB hownB hbB hgB hvB))
              have HNEW := hide (show wB.ownsRow W.heap.size 3 1 v2 (j + 1 + 1) (Cs encI (us ++ [x] ++ [who - 1])) from by rw [Cs_append, Cs_one]; exact hownB)
              have HBE := hide (HB5.out.trans ((HBM.out.mono HB5.out.size).trans hbB))
              obtain ⟨A8, c8, rfl, _, _⟩ := own_form2 HNEW.out
              clear hownB hbB hgB hvB
              go_wp2_with fail
              go_roundw
              case rel => exact ⟨j + 1, us ++ [x], _, who - 1, by omega, rfl, HUL2.out, HNX.out, HNEW.out, HBE.out⟩
              case measure => simp [lenV]; omega
        · have HNO := hide (show ringAt (mus ts) k = none from by
            obtain rfl : j = 8 := by omega
            exact HGJ.out.symm)
          have HNX := hide (show ringFrom (mus ts) (8 - (k + 1)) (k + 1) = xs from by have h := HST.out; rw [HNO.out] at h; exact h)
          have hj8 : ¬ ((j : Int) < 8) := by omega
          go_wp2_with fail
          go_roundw
          case rel => exact ⟨k + 1, by omega, by go_num, HNX.out, HBW2.out⟩
          case measure => simp [intOf]; omega
    · have HF := hide (show ([] : List Int) = xs from by
        obtain rfl : k = 8 := by omega
        exact HGO.out)
      have HN := hide (fun w => ownI_nil W.heap.size w)
      have HNX := hide (show OwnI W.heap.size xs (.returned (.slice none 0 0)) wr from by rw [← HF.out]; exact HN.out wr)
      go_wp2_with fail
      go_ret
      exact ⟨HNX.out, HBW.out⟩
end Go.Proofs.Ytlelpnahillioaa
