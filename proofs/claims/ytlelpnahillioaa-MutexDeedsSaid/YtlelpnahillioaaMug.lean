/-
  Which mutexes a goroutine has; who is in a ring.
-/
import Derived.Test.YtlelpnahillioaaMuf
set_option linter.unusedSimpArgs false
set_option linter.unusedVariables false
namespace Go.Proofs.Ytlelpnahillioaa
open Go Go.RowKit
attribute [local go_sem] via_cell via_frozen

def OwnI (base : Nat) (xs : List Int) (e : Ending) (w : World) : Prop := ∃ A c, e = .returned (.slice A xs.length c) ∧ w.ownsRow base 3 1 (.slice A xs.length c) xs.length (Cs encI xs)
theorem ownI_nil (base : Nat) (w : World) : OwnI base [] (.returned (.slice none 0 0)) w := ⟨none, 0, rfl, World.ownsRow_nil _ _ _ _⟩
set_option maxHeartbeats 2000000 in
theorem has_any (B : Nat) (A : Option Addr) (c m : Nat) (ts : List Mm) (g : Int) (W : World) (h : RM W B A m ts) (hs : SmallM ts) (hB : B ≤ W.heap.size) (xs : List Int) (hx : (if rightM (mus ts) then hasX (mus ts) g else []) = xs) :
    Calls Try.prog 24 #[.slice A m c, .int .i64 g] W fun e W' => OwnI W.heap.size xs e W' ∧ Below W.heap.size W W' := by
  obtain ⟨r, hr⟩ : ∃ r, rightM (mus ts) = r := ⟨_, rfl⟩
  obtain ⟨b, hb⟩ : ∃ b, goerB g = b := ⟨_, rfl⟩
  unfold hasX at hx
  rw [hr, hb] at hx
  have HC := hide (check_any B A c m ts W h hs hB (errM r) (by rw [hr]))
  have HIS := hide (fun w => is_any g w b hb)
  have H := hide h
  have HL := hide h.len
  have hm : m ≤ 4096 := by have := hs.1; have := h.len; omega
  have HG := hide (show b = true → 0 ≤ g ∧ g < 8 from fun e => goerB_iff.1 (hb.trans e))
  clear h hs hr hb
  cases r
  · obtain rfl : [] = xs := hx
    have HN := hide (fun w => ownI_nil W.heap.size w)
    go_enter Try.func24, Try.ntmps24
    go_wp2_with fail
    with_reducible refine HC.out.mono ?_
    rintro e w1 ⟨rfl, hb⟩
    have HB := hide hb
    clear hb
    simp only [errM, Bool.false_eq_true, if_false]
    go_wp2_with fail
    go_ret
    exact ⟨HN.out _, HB.out⟩
  cases b
  · obtain rfl : [] = xs := hx
    have HN := hide (fun w => ownI_nil W.heap.size w)
    go_enter Try.func24, Try.ntmps24
    go_wp2_with fail
    with_reducible refine HC.out.mono ?_
    rintro e w1 ⟨rfl, hb⟩
    have HB := hide hb
    clear hb
    simp only [errM, if_true]
    go_wp2_with fail
    with_reducible refine (HIS.out _).mono ?_
    rintro e w2 ⟨rfl, rfl⟩
    go_wp2_with fail
    go_ret
    exact ⟨HN.out _, HB.out⟩
  have HX := hide (show hasGo g 0 (mus ts) = xs from hx)
  have hg := HG.out rfl
  have hg0 := hg.1
  have hg8 := hg.2
  have hwg : wrap64 (g + 1) = g + 1 := IntWalk.wrap64_in _ (by omega)
  clear hx hg
  go_enter Try.func24, Try.ntmps24
  go_wp2_with fail
  with_reducible refine HC.out.mono ?_
  rintro e w1 ⟨rfl, hb⟩
  have HB := hide hb
  clear hb
  simp only [errM, if_true]
  go_wp2_with fail
  with_reducible refine (HIS.out _).mono ?_
  rintro e w2 ⟨rfl, rfl⟩
  go_wp2_with fail
  go_loopw [5, 18] (fun sv i wr => ∃ (k : Nat) (us : List Int) (v : Value), k ≤ m ∧ v = sv ∧ i = .int .i64 k ∧ hasGo g 0 (mus (ts.take k)) = us ∧ us.length ≤ k ∧ wr.ownsRow W.heap.size 3 1 v us.length (Cs encI us) ∧ Below W.heap.size W wr) (fun _ i _ => m - (intOf i).toNat)
  case atStart => exact ⟨0, [], _, Nat.zero_le _, rfl, rfl, rfl, Nat.le_refl _, World.ownsRow_nil _ _ _ _, HB.out⟩
  case round =>
    obtain ⟨k, us, v, hk, rfl, rfl, hus, hul, hown, hbw⟩ := hrel
    have HU := hide hus
    have HUL := hide hul
    have HO := hide hown
    have HBW := hide hbw
    clear hus hul hown hbw
    by_cases hlt : k < m
    · have hlx : k < ts.length := by rw [HL.out]; exact hlt
      obtain ⟨b, o, rfl, hb, d0, d1, _⟩ := (H.out.below (HBW.out.mono hB)).at_ hlt
      have hbl : b < wr.heap.size := Nat.lt_of_lt_of_le hb (Nat.le_trans hB HBW.out.size)
      have hkm : (k : Int) < (m : Int) := by omega
      have HT := hide (show hasGo g 0 (mus (ts.take (k + 1))) = if (ts.getD k mmZ).who = g + 1 then us ++ [(k : Int)] else us from by
        have e : mus (ts.take (k + 1)) = mus (ts.take k) ++ [(ts.getD k mmZ).mu] := by rw [takeM_succ hlx]; simp [mus]
        rw [e, hasGo_snoc, HU.out, mus_len, List.length_take, Nat.min_eq_left (by omega)]; rfl)
      generalize ts.getD k mmZ = t at *
      obtain ⟨who, tA, tc, tq⟩ := t
      dsimp only at *
      have HBN := hide (show Below wr.heap.size wr (wr.alloc (.cells #[.int .i64 who, .slice tA tq.length tc] 47)) from (Below.refl _ _).alloc (Nat.le_refl _) _)
      clear hb
      by_cases hw : who = g + 1
      · subst hw
        have hd : (g + 1 == g + 1) = true := by simp
        have HT2 := hide (HT.out.trans (if_pos rfl))
        have HO1 := hide ((HO.out.alloc (.cells #[.int .i64 (g + 1), .slice tA tq.length tc] 47)).alloc (.cells #[.int .i64 (k : Int)] 3))
        have HBM := hide (show Below wr.heap.size wr ((wr.alloc (.cells #[.int .i64 (g + 1), .slice tA tq.length tc] 47)).alloc (.cells #[.int .i64 (k : Int)] 3)) from ((Below.refl _ _).alloc (Nat.le_refl _) _).alloc (by simp) _)
        have hsrc := Rd.new (wr.alloc (.cells #[.int .i64 (g + 1), .slice tA tq.length tc] 47)) #[.int .i64 (k : Int)] 3 1 1 rfl
        rw [World.size_alloc] at hsrc
        have HSRC := hide hsrc
        clear hsrc
        go_wp2_with (at_builtin; go_loud (refine wpList_app elI rfl _ _ rfl rfl HO1.out rfl HSRC.out (by simp [Value.oneCell']) (by have := HUL.out; omega) (by have := HBW.out.size; have := HBM.out.size; omega) ?_; intro v2 wB hownB hbB hgB hvB))
        have HNEW := hide (show wB.ownsRow W.heap.size 3 1 v2 (us ++ [(k : Int)]).length (Cs encI (us ++ [(k : Int)])) from by rw [List.length_append, Cs_append, Cs_one]; exact hownB)
        have HBE := hide (HBW.out.trans ((HBM.out.mono HBW.out.size).trans hbB))
        clear hownB hbB hgB hvB
        go_wp2_with fail
        go_roundw
        case rel => exact ⟨k + 1, _, v2, by omega, rfl, by go_num, HT2.out, by have := HUL.out; rw [List.length_append]; show us.length + 1 ≤ k + 1; omega, HNEW.out, HBE.out⟩
        case measure => simp [intOf]; omega
      · have hd : (who == g + 1) = false := by simpa using hw
        have HT2 := hide (HT.out.trans (if_neg hw))
        have HO1 := hide (HO.out.alloc (.cells #[.int .i64 who, .slice tA tq.length tc] 47))
        have HBE := hide (HBW.out.trans (HBN.out.mono HBW.out.size))
        clear hw
        go_wp2_with fail
        go_roundw
        case rel => exact ⟨k + 1, us, v, by omega, rfl, by go_num, HT2.out, by have := HUL.out; omega, HO1.out, HBE.out⟩
        case measure => simp [intOf]; omega
    · have HF := hide (show us = xs from by
        rw [← HU.out, ← HX.out, List.take_of_length_le (by rw [HL.out]; omega)])
      obtain ⟨A', c', rfl, hc1⟩ := own_form HO.out
      have HFR := hide (show OwnI W.heap.size xs (.returned (.slice A' us.length c')) wr from by rw [← HF.out]; exact ⟨A', c', rfl, HO.out⟩)
      go_wp2_with fail
      go_ret
      exact ⟨HFR.out, HBW.out⟩
theorem ringFrom_step (l : Ml) {i : Nat} (hi : i < 8) : ringFrom l (8 - i) i = match ringAt l i with | some out => out | none => ringFrom l (8 - (i + 1)) (i + 1) := by
  have : 8 - i = (8 - (i + 1)) + 1 := by omega
  rw [this]; rfl
theorem ringGo_step (l : Ml) (first : Int) {j : Nat} (hj : j < 8) (at_ : Int) (out : List Int) : ringGo l first (8 - j) at_ out = if waitsX l at_ < 0 then none else if (mAt l (waitsX l at_).toNat).1 - 1 = first then some (out ++ [at_]) else ringGo l first (8 - (j + 1)) ((mAt l (waitsX l at_).toNat).1 - 1) (out ++ [at_]) := by
  have : 8 - j = (8 - (j + 1)) + 1 := by omega
  rw [this]; rfl
/-- Who has what one waits for. -/
theorem RightM.owner {l : Ml} (h : RightM l) {g : Int} (hw : 0 ≤ waitsX l g) : ∃ j : Nat, j < l.length ∧ waitsX l g = (j : Int) ∧ 1 ≤ (mAt l j).1 ∧ (mAt l j).1 ≤ 8 := by
  rcases waitsX_cases l g with ⟨h1, _⟩ | ⟨j, h1, h2, h3, _⟩
  · omega
  · have hm := h.all _ (mAt_mem h1)
    refine ⟨j, h1, h2, ?_, hm.hi⟩
    have := hm.lo
    by_cases hz : (mAt l j).1 = 0
    · rw [hm.none hz] at h3; simp at h3
    · omega
theorem ringGo_len (l : Ml) (first : Int) : ∀ (n : Nat) (at_ : Int) (out xs : List Int), ringGo l first n at_ out = some xs → xs.length ≤ out.length + n := by
  intro n
  induction n with
  | zero => intro at_ out xs h; simp [ringGo] at h
  | succ n ih =>
    intro at_ out xs h
    unfold ringGo at h
    split at h
    · cases h
    split at h
    · injection h with h; subst h; simp
    · have := ih _ _ _ h
      rw [List.length_append] at this
      simp at this
      omega
set_option maxHeartbeats 4000000 in
theorem ring_any (B : Nat) (A : Option Addr) (c m : Nat) (ts : List Mm) (W : World) (h : RM W B A m ts) (hs : SmallM ts) (hB : B ≤ W.heap.size) (xs : List Int) (hx : (if rightM (mus ts) then ringX (mus ts) else []) = xs) :
    Calls Try.prog 23 #[.slice A m c] W fun e W' => OwnI W.heap.size xs e W' ∧ Below W.heap.size W W' := by
  obtain ⟨r, hr⟩ : ∃ r, rightM (mus ts) = r := ⟨_, rfl⟩
  rw [hr] at hx
  have HC := hide (check_any B A c m ts W h hs hB (errM r) (by rw [hr]))
  have H := hide h
  have HS := hide hs
  have HL := hide (show (mus ts).length = m by rw [mus_len, h.len])
  have hm : m ≤ 4096 := by have := hs.1; have := h.len; omega
  have HR := hide hr
  clear h hs hr
  cases r
  · obtain rfl : [] = xs := hx
    have HN := hide (fun w => ownI_nil W.heap.size w)
    go_enter Try.func23, Try.ntmps23
    go_wp2_with fail
    with_reducible refine HC.out.mono ?_
    rintro e w1 ⟨rfl, hb⟩
    have HB := hide hb
    clear hb
    simp only [errM, Bool.false_eq_true, if_false]
    go_wp2_with fail
    go_ret
    exact ⟨HN.out _, HB.out⟩
  have HX := hide (show ringFrom (mus ts) 8 0 = xs from hx)
  have HRT := hide (rightM_iff.1 HR.out)
  clear hx HR
  go_enter Try.func23, Try.ntmps23
  go_wp2_with fail
  with_reducible refine HC.out.mono ?_
  rintro e w1 ⟨rfl, hb⟩
  have HB := hide hb
  clear hb
  simp only [errM, if_true]
  go_wp2_with fail
  obtain ⟨gr, hgr⟩ : ∃ gr, w1.heap.size = gr := ⟨_, rfl⟩
  have HRW : Hid (RowAt (w1.alloc (.cells #[.slice A m c] 64)) gr 64 #[.slice A m c]) := hide (by rw [← hgr]; exact RowAt.new w1 64 _)
  have HB1 := hide (HB.out.alloc HB.out.size (.cells #[.slice A m c] 64))
  have HGRW : Hid (W.heap.size ≤ gr) := hide (by rw [← hgr]; exact HB.out.size)
  rw [hgr]
  clear hgr
  generalize (w1.alloc (.cells #[.slice A m c] 64)) = w2 at *
  go_loopw [13] (fun i wr => ∃ (k : Nat), k ≤ 8 ∧ i = .int .i64 k ∧ ringFrom (mus ts) (8 - k) k = xs ∧ RowAt wr gr 64 #[.slice A m c] ∧ Below W.heap.size W wr) (fun i _ => 8 - (intOf i).toNat)
  case atStart => exact ⟨0, Nat.zero_le _, rfl, HX.out, HRW.out, HB1.out⟩
  case round =>
    obtain ⟨k, hk, rfl, hgo, hrw, hbw⟩ := hrel
    have HGO := hide hgo
    have HRWr := hide hrw
    have HBW := hide hbw
    clear hgo hrw hbw
    by_cases hlt : k < 8
    · have hkm : (k : Int) < 8 := by omega
      have HST := hide ((ringFrom_step (mus ts) hlt).symm.trans HGO.out)
      go_wp2_with fail
      go_step3
      go_wp2_with fail
      go_step3
      go_wp2_with fail
      go_loopw [5, 6, 17] (fun at_ sv i wr => ∃ (j : Nat) (us : List Int) (v : Value) (x : Int), j ≤ 8 ∧ at_ = .int .i64 x ∧ v = sv ∧ i = .int .i64 j ∧ us.length = j ∧ ringGo (mus ts) k (8 - j) x us = ringAt (mus ts) k ∧ wr.ownsRow (gr + 1) 3 1 v us.length (Cs encI us) ∧ RowAt wr gr 64 #[.slice A m c] ∧ Below W.heap.size W wr) (fun _ _ i _ => 8 - (intOf i).toNat)
      case atStart => exact ⟨0, [], _, k, Nat.zero_le _, rfl, rfl, rfl, rfl, rfl, World.ownsRow_nil _ _ _ _, HRWr.out, HBW.out⟩
      case round =>
        obtain ⟨j, us, v, x, hj, rfl, rfl, rfl, hul, hgo, hown, hrw, hbw⟩ := hrel
        have HGJ := hide hgo
        have HUL := hide hul
        have HO := hide hown
        have HRW2 := hide hrw
        have HBW2 := hide hbw
        clear hgo hul hown hrw hbw
        by_cases hlt2 : j < 8
        · have hkm2 : (j : Int) < 8 := by omega
          have HSJ := hide ((ringGo_step (mus ts) k hlt2 x us).symm.trans HGJ.out)
          have HO1 := hide (HO.out.alloc (.cells #[.int .i64 x] 3))
          have HBM := hide (show Below wr.heap.size wr (wr.alloc (.cells #[.int .i64 x] 3)) from (Below.refl _ _).alloc (Nat.le_refl _) _)
          have HSRC := hide (Rd.new wr #[.int .i64 x] 3 1 1 rfl)
          obtain ⟨y, hy⟩ : ∃ y, waitsX (mus ts) x = y := ⟨_, rfl⟩
          have HW := hide (fun w (hb : Below W.heap.size W w) => waits_any B A c m ts x w (H.out.below (hb.mono hB)) HS.out (Nat.le_trans hB hb.size) y hy)
          have HOW := hide (fun (h0 : 0 ≤ y) => HRT.out.owner (g := x) (by rw [hy]; exact h0))
          rw [hy] at HSJ HOW
          clear hy
          go_upto_region 11 with (fail)
          go_wp2_with (at_builtin; go_loud (refine wpList_app elI rfl _ _ rfl rfl HO1.out rfl HSRC.out (by simp [Value.oneCell']) (by have := HUL.out; omega) (by have := HRW2.out.lt; have := HBM.out.size; omega) ?_; intro v2 wB hownB hbB hgB hvB; have hrB : RowAt wB gr 64 #[.slice A m c] := (HRW2.out.below HBM.out).belowB (Nat.lt_succ_self _) hbB; have q0 := row1 hrB; have ql := hrB.lt; have HRB := hide hrB; clear hrB))
          have HNEW := hide (show wB.ownsRow (gr + 1) 3 1 v2 (us ++ [x]).length (Cs encI (us ++ [x])) from by rw [List.length_append, Cs_append, Cs_one]; exact hownB)
          have HBE := hide (HBW2.out.trans ((HBM.out.mono HBW2.out.size).trans (hbB.mono (by have := HGRW.out; omega))))
          clear hownB hbB hgB hvB
          have HWC := hide (HW.out _ HBE.out)
          go_wp2_with fail
          with_reducible refine HWC.out.mono ?_
          rintro e w5 ⟨rfl, hb5⟩
          have HO5 := hide (own_keepB HNEW.out hb5)
          have HRW5 := hide (HRB.out.below hb5)
          have HB5 := hide (HBE.out.trans (hb5.mono HBE.out.size))
          clear hb5 q0 ql
          by_cases hy0 : y < 0
          · have hd : decide (y < 0) = true := by simpa using hy0
            have HNO := hide (show ringAt (mus ts) k = none from by rw [← HSJ.out, if_pos hy0])
            have HNX := hide (show ringFrom (mus ts) (8 - (k + 1)) (k + 1) = xs from by have h := HST.out; rw [HNO.out] at h; exact h)
            clear hy0
            go_wp2_with fail
            rw [Exit.noGoto_normal]
            go_wp2_with fail
            go_roundw
            case rel => exact ⟨k + 1, by omega, by go_num, HNX.out, HRW5.out, HB5.out⟩
            case measure => simp [intOf]; omega
          · have hd : decide (y < 0) = false := by simpa using hy0
            obtain ⟨jj, hjl, rfl, hby1, hby8⟩ := HOW.out (by omega)
            have HSJ2 := hide (show (if (mAt (mus ts) jj).1 - 1 = (k : Int) then some (us ++ [x]) else ringGo (mus ts) k (8 - (j + 1)) ((mAt (mus ts) jj).1 - 1) (us ++ [x])) = ringAt (mus ts) k from by
              have h := HSJ.out
              rw [if_neg hy0, Int.toNat_natCast] at h
              exact h)
            have HSA := hide (fun (e : (mAt (mus ts) jj).1 - 1 = (k : Int)) => (if_pos e).symm.trans HSJ2.out)
            have HSB := hide (fun (e : ¬ (mAt (mus ts) jj).1 - 1 = (k : Int)) => (if_neg e).symm.trans HSJ2.out)
            clear HSJ2
            have hjm : jj < m := by rw [← HL.out]; exact hjl
            have hjI : (jj : Int) < (m : Int) := by omega
            obtain ⟨b, o, rfl, hb, d0, d1, _⟩ := (H.out.below (HB5.out.mono hB)).at_ hjm
            have hbl : b < w5.heap.size := Nat.lt_of_lt_of_le hb (Nat.le_trans hB HB5.out.size)
            have e0 := mus_at ts jj
            rw [e0] at HSA HSB hby1 hby8
            generalize ts.getD jj mmZ = t at *
            obtain ⟨who, tA, tc, tq⟩ := t
            dsimp only [Mm.mu] at *
            have hw1 : wrap64 (who - 1) = who - 1 := IntWalk.wrap64_in _ (by omega)
            clear hy0 hb e0 HOW HSJ
            by_cases hf : who - 1 = (k : Int)
            · have hd2 : (who - 1 == (k : Int)) = true := by simpa using hf
              have HF := hide (show us ++ [x] = xs from by
                have h := HST.out
                rw [← HSA.out hf] at h
                exact h)
              obtain ⟨A', c', rfl, hc1⟩ := own_form HO5.out
              have HFR := hide (show OwnI W.heap.size xs (.returned (.slice A' (us ++ [x]).length c')) w5 from by rw [← HF.out]; exact ⟨A', c', rfl, ownsRow_base HO5.out (Nat.le_trans HGRW.out (Nat.le_succ _))⟩)
              clear hf
              go_wp2_with fail
              rw [Exit.noGoto_ret]
              go_wp2_with fail
              go_ret
              exact ⟨HFR.out, HB5.out⟩
            · have hd2 : (who - 1 == (k : Int)) = false := by simpa using hf
              have HNX := hide (show ringGo (mus ts) k (8 - (j + 1)) (who - 1) (us ++ [x]) = ringAt (mus ts) k from HSB.out hf)
              have HUL2 := hide (show (us ++ [x]).length = j + 1 from by rw [List.length_append, HUL.out]; rfl)
              clear hf
              go_wp2_with fail
              go_roundw
              case rel => exact ⟨j + 1, us ++ [x], v2, who - 1, by omega, rfl, rfl, by go_num, HUL2.out, HNX.out, HO5.out, HRW5.out, HB5.out⟩
              case measure => simp [intOf]; omega
        · have HNO := hide (show ringAt (mus ts) k = none from by
            obtain rfl : j = 8 := by omega
            exact HGJ.out.symm)
          have HNX := hide (show ringFrom (mus ts) (8 - (k + 1)) (k + 1) = xs from by have h := HST.out; rw [HNO.out] at h; exact h)
          go_wp2_with fail
          rw [Exit.noGoto_normal]
          go_wp2_with fail
          go_roundw
          case rel => exact ⟨k + 1, by omega, by go_num, HNX.out, HRW2.out, HBW2.out⟩
          case measure => simp [intOf]; omega
    · have HF := hide (show ([] : List Int) = xs from by
        obtain rfl : k = 8 := by omega
        exact HGO.out)
      have HN := hide (fun w => ownI_nil W.heap.size w)
      have HNX := hide (show OwnI W.heap.size xs (.returned (.slice none 0 0)) wr from by rw [← HF.out]; exact HN.out wr)
      go_wp2_with fail
      go_ret
      exact ⟨HNX.out, HBW.out⟩
end Go.Proofs.Ytlelpnahillioaa
