/-
  The reference's: may mutexes be; are they the same.
-/
import Derived.Test.YtlelpnahillioaaMuy
import Derived.BigQuiet
set_option linter.unusedSimpArgs false
set_option linter.unusedVariables false
namespace Go.Proofs.Ytlelpnahillioaa
open Go Go.RowKit
attribute [local go_sem] via_cell via_frozen

def okG (l : Ml) (who g : Int) : Bool := goerB g && !decide (g + 1 = who) && decide ((flatQ l).count g = 1)
def okW (m : Mu) : Bool := decide (0 ≤ m.1) && decide (m.1 ≤ 8) && !(decide (m.1 = 0) && decide (0 < m.2.length))
def okM (l : Ml) (m : Mu) : Bool := okW m && m.2.all (okG l m.1)
theorem right_ok (l : Ml) : rightM l = (l.all (okM l) && decide (1 ≤ l.length) && decide (l.length ≤ 160)) := by
  rw [Bool.eq_iff_iff, rightM_iff]
  simp only [Bool.and_eq_true, decide_eq_true_eq, List.all_eq_true, okM, okW, okG, Bool.not_eq_true', Bool.and_eq_false_iff, decide_eq_false_iff_not]
  constructor
  · rintro ⟨h1, h2, h3, h4⟩
    refine ⟨⟨fun m hm => ⟨⟨⟨(h3 m hm).lo, (h3 m hm).hi⟩, ?_⟩, fun g hg => ⟨⟨goerB_iff.2 ((h3 m hm).goers g hg), fun e => (h3 m hm).other (by rw [← e]; simpa using hg)⟩, ?_⟩⟩, h1⟩, h2⟩
    · by_cases h : m.1 = 0
      · right; rw [(h3 m hm).none h]; simp
      · exact .inl h
    · have ha : (flatQ l).count g ≤ 1 := List.nodup_iff_count.1 h4 g
      have hb : 0 < (flatQ l).count g := List.count_pos_iff.2 (mem_flatQ.2 ⟨m, hm, hg⟩)
      omega
  · rintro ⟨⟨h3, h1⟩, h2⟩
    refine ⟨h1, h2, fun m hm => ?_, List.nodup_iff_count.2 (fun g => ?_)⟩
    · obtain ⟨⟨⟨a1, a2⟩, a3⟩, a4⟩ := h3 m hm
      refine ⟨a1, a2, fun h => ?_, fun g hg => goerB_iff.1 (a4 g hg).1.1, fun hg => (a4 _ hg).1.2 (by omega)⟩
      rcases a3 with h' | h'
      · exact absurd h h'
      · exact List.eq_nil_of_length_eq_zero (by omega)
    · by_cases hg : g ∈ flatQ l
      · obtain ⟨m, hm, h⟩ := mem_flatQ.1 hg
        exact Nat.le_of_eq ((h3 m hm).2 g h).2
      · rw [List.count_eq_zero_of_not_mem hg]; omega
theorem all_take_succ {p : Int → Bool} {xs : List Int} {k : Nat} (h : k < xs.length) : (xs.take (k + 1)).all p = ((xs.take k).all p && p (xs.getD k 0)) := by
  rw [List.take_succ_eq_append_getElem h, List.all_append, List.getD_eq_getElem?_getD, List.getElem?_eq_getElem h]; simp
theorem all_of_getD {p : Int → Bool} {xs : List Int} {k : Nat} (h : k < xs.length) (hp : p (xs.getD k 0) = false) : xs.all p = false := by
  rw [List.all_eq_false]; exact ⟨_, getD_mem h, by rw [hp]; simp⟩
theorem allMu_take_succ {p : Mu → Bool} {ts : List Mm} {k : Nat} (h : k < ts.length) : (mus (ts.take (k + 1))).all p = ((mus (ts.take k)).all p && p (ts.getD k mmZ).mu) := by
  rw [takeM_succ h]; simp [mus]
theorem allMu_of_getD {p : Mu → Bool} {ts : List Mm} {k : Nat} (h : k < ts.length) (hp : p (ts.getD k mmZ).mu = false) : (mus ts).all p = false := by
  rw [List.all_eq_false]; exact ⟨_, List.mem_map_of_mem (getM_mem h), by rw [hp]; simp⟩
set_option maxHeartbeats 4000000 in
theorem rright_any (B : Nat) (A : Option Addr) (c m : Nat) (ts : List Mm) (W : World) (h : RM W B A m ts) (hs : SmallM ts) (hB : B ≤ W.heap.size) (r : Bool) (hr : rightM (mus ts) = r) :
    Calls Try.prog 10 #[.slice A m c] W fun e W' => e = .returned (.bool r) ∧ Below W.heap.size W W' := by
  have H := hide h
  have HS := hide hs
  have HL := hide h.len
  rw [right_ok, mus_len, h.len] at hr
  have HR := hide hr
  have HNO := hide (show (mus ts).all (okM (mus ts)) = false → false = r from fun e => by rw [← HR.out, e]; rfl)
  have hm : m ≤ 4096 := by have := hs.1; have := h.len; omega
  clear h hs hr
  go_enter Try.func10, Try.ntmps10
  go_wp2_with fail
  go_loopw [9] (fun i wr => ∃ (k : Nat), k ≤ m ∧ i = .int .i64 k ∧ (mus (ts.take k)).all (okM (mus ts)) = true ∧ Below W.heap.size W wr) (fun i _ => m - (intOf i).toNat)
  case atStart => exact ⟨0, Nat.zero_le _, rfl, rfl, Below.refl _ _⟩
  case round =>
    obtain ⟨k, hk, rfl, hn, hbw⟩ := hrel
    have HN := hide hn
    have HBW := hide hbw
    clear hn hbw
    by_cases hlt : k < m
    · have hlx : k < ts.length := by rw [HL.out]; exact hlt
      obtain ⟨b, o, rfl, hb, d0, d1, hq⟩ := (H.out.below (HBW.out.mono hB)).at_ hlt
      have hbl : b < wr.heap.size := Nat.lt_of_lt_of_le hb (Nat.le_trans hB HBW.out.size)
      have hkm : (k : Int) < (m : Int) := by omega
      have hql := HS.out.2 _ (getM_mem hlx)
      have HT := hide (show (mus (ts.take (k + 1))).all (okM (mus ts)) = okM (mus ts) (ts.getD k mmZ).mu from by rw [allMu_take_succ hlx, HN.out, Bool.true_and])
      have HF := hide (fun (e : okM (mus ts) (ts.getD k mmZ).mu = false) => HNO.out (allMu_of_getD hlx e))
      generalize ts.getD k mmZ = t at *
      obtain ⟨who, tA, tc, tq⟩ := t
      dsimp only [Mm.mu] at *
      obtain ⟨tn, htn⟩ : ∃ n, tq.length = n := ⟨_, rfl⟩
      rw [htn] at d1 hq hql
      have HTN := hide htn
      have HBN := hide (show Below wr.heap.size wr (wr.alloc (.cells #[.int .i64 who, .slice tA tn tc] 47)) from (Below.refl _ _).alloc (Nat.le_refl _) _)
      have HQ := hide ((hq.more (Nat.le_trans hB HBW.out.size)).below HBN.out)
      have HB2 := hide (HBW.out.trans (HBN.out.mono HBW.out.size))
      have HSZ := hide (HBN.out.size)
      have HRN := hide (RowAt.new wr 47 #[.int .i64 who, .slice tA tn tc])
      obtain ⟨w7, h7⟩ : ∃ w, w = wr := ⟨_, rfl⟩
      subst h7
      clear htn hq hb
      have HWF := hide (fun (e : okW (who, tq) = false) => HF.out (by unfold okM; rw [e]; rfl))
      by_cases c1 : who < 0
      · have e1 : decide (who < 0) = true := by simpa using c1
        have HFF := hide (HWF.out (by unfold okW; dsimp only; rw [decide_eq_false (show ¬ 0 ≤ who by omega)]; rfl))
        clear c1
        go_wp2_with fail
        go_ret
        exact ⟨by rw [← HFF.out]; rfl, HB2.out⟩
      have e1 : decide (who < 0) = false := by simpa using c1
      by_cases c2 : 8 < who
      · have e2 : decide (8 < who) = true := by simpa using c2
        have HFF := hide (HWF.out (by unfold okW; dsimp only; rw [decide_eq_false (show ¬ who ≤ 8 by omega), Bool.and_false]; rfl))
        clear c1 c2
        go_wp2_with fail
        go_ret
        exact ⟨by rw [← HFF.out]; rfl, HB2.out⟩
      have e2 : decide (8 < who) = false := by simpa using c2
      obtain ⟨z, hz⟩ : ∃ z : Bool, (who == 0) = z := ⟨_, rfl⟩
      obtain ⟨y, hy⟩ : ∃ y : Bool, decide ((0 : Int) < (tn : Int)) = y := ⟨_, rfl⟩
      have HW3 := hide (show okW (who, tq) = !(z && y) from by
        unfold okW
        dsimp only
        rw [decide_eq_true (show 0 ≤ who by omega), decide_eq_true (show who ≤ 8 by omega), HTN.out, ← hz, ← hy]
        have : decide (0 < tn) = decide ((0 : Int) < (tn : Int)) := by rw [Bool.eq_iff_iff]; simp
        rw [this]; simp; rfl)
      have hyN : decide (0 < tn) = y := by
        rw [← hy, Bool.eq_iff_iff]; simp
      have hbd0 : 0 ≤ who := by omega
      have hbd8 : who ≤ 8 := by omega
      clear c1 c2
      have HNEXT : (z && y) = false → okM (mus ts) (who, tq) = tq.all (okG (mus ts) who) := fun e => by unfold okM; rw [HW3.out, e]; rfl
      have HBAD := hide (fun (e : (z && y) = true) => HWF.out (HW3.out.trans (by rw [e]; rfl)))
      cases z
      case true =>
        cases y
        case true =>
          have HFF := hide (HBAD.out rfl)
          go_wp2_with fail
          go_ret
          exact ⟨by rw [← HFF.out]; rfl, HB2.out⟩
        have HOM := hide (HNEXT rfl)
        have HALL := hide (HT.out.trans (HOM.out.trans (by rw [List.eq_nil_of_length_eq_zero (HTN.out.trans (show tn = 0 from by simpa using hyN))])))
        clear HNEXT
        go_wp2_with fail
        go_loopw [35] (fun i wr2 => i = .int .i64 0 ∧ Below W.heap.size W wr2) (fun _ _ => 0)
        case atStart => exact ⟨rfl, HB2.out⟩
        case round =>
          obtain ⟨rfl, hbj⟩ := hrel
          have HBJ := hide hbj
          clear hbj
          go_wp2_with fail
          go_roundw
          case rel => exact ⟨k + 1, by omega, by go_num, HALL.out, HBJ.out⟩
          case measure => simp [intOf]; omega
      have HOM := hide (HNEXT rfl)
      clear HNEXT HBAD HW3 HWF
      obtain ⟨gm, hgm⟩ : ∃ gm, w7.heap.size = gm := ⟨_, rfl⟩
      rw [hgm] at HQ HSZ HRN
      go_wp2_with fail
      (try rw [hgm])
      clear d0 d1 HBN hgm hy hyN hz e1 e2
      generalize (w7.alloc (.cells #[.int .i64 who, .slice tA tn tc] 47)) = w2 at *
      go_loopw [35] (fun i wr2 => ∃ (j : Nat), j ≤ tn ∧ i = .int .i64 j ∧ (tq.take j).all (okG (mus ts) who) = true ∧ Below w2.heap.size w2 wr2) (fun i _ => tn - (intOf i).toNat)
      case atStart => exact ⟨0, Nat.zero_le _, rfl, rfl, Below.refl _ _⟩
      case round =>
        obtain ⟨j, hj, rfl, hx, hbj⟩ := hrel
        have HX := hide hx
        have HBJ := hide hbj
        have HRJ := hide (HRN.out.below hbj)
        have HBE := hide (HB2.out.trans (hbj.mono HB2.out.size))
        clear hx hbj
        by_cases hlt2 : j < tn
        · have hlj : j < tq.length := by rw [HTN.out]; exact hlt2
          obtain ⟨b3, o3, rfl, hb3, d3⟩ := (HQ.out.below (HBJ.out.mono HSZ.out)).numD HTN.out hlt2
          have hbl3 : b3 < wr.heap.size := Nat.lt_of_lt_of_le hb3 (Nat.le_trans HSZ.out HBJ.out.size)
          have hjm : (j : Int) < (tn : Int) := by omega
          have HT2 := hide (show (tq.take (j + 1)).all (okG (mus ts) who) = okG (mus ts) who (tq.getD j 0) from by rw [all_take_succ hlj, HX.out, Bool.true_and])
          have HF2 := hide (fun (e : okG (mus ts) who (tq.getD j 0) = false) => HF.out (by rw [HOM.out]; exact all_of_getD hlj e))
          generalize tq.getD j 0 = y at *
          obtain ⟨bg, hbg⟩ : ∃ b, goerB y = b := ⟨_, rfl⟩
          have HGR := hide (fun w => goer_any y w bg hbg)
          have HGI := hide (show bg = true → 0 ≤ y ∧ y < 8 from fun e => goerB_iff.1 (hbg.trans e))
          have f0 := row20 HRJ.out
          have f1 := row21 HRJ.out
          have fl := HRJ.out.lt
          clear hb3
          cases bg
          · have HFF := hide (HF2.out (by unfold okG; rw [hbg]; rfl))
            clear hbg
            go_wp2_with fail
            with_reducible refine (HGR.out _).mono ?_
            rintro e w3 ⟨rfl, rfl⟩
            go_wp2_with fail
            go_ret
            exact ⟨by rw [← HFF.out]; rfl, HBE.out⟩
          obtain ⟨hy0, hy8⟩ := HGI.out rfl
          have hwy : wrap64 (y + 1) = y + 1 := IntWalk.wrap64_in _ (by omega)
          by_cases c3 : y + 1 = who
          · have hd : (y + 1 == who) = true := by simpa using c3
            have HFF := hide (HF2.out (by unfold okG; rw [decide_eq_true c3]; simp))
            clear hbg c3
            go_wp2_with fail
            with_reducible refine (HGR.out _).mono ?_
            rintro e w3 ⟨rfl, rfl⟩
            go_wp2_with fail
            go_ret
            exact ⟨by rw [← HFF.out]; rfl, HBE.out⟩
          have hd : (y + 1 == who) = false := by simpa using c3
          obtain ⟨cn, hcn⟩ : ∃ n, (flatQ (mus ts)).count y = n := ⟨_, rfl⟩
          have HMN := hide (many_any B (some ⟨b, o, none⟩) c m ts y wr (H.out.below (HBE.out.mono hB)) HS.out (Nat.le_trans hB HBE.out.size) cn hcn)
          have HOK := hide (show okG (mus ts) who y = decide (cn = 1) from by unfold okG; rw [hbg, decide_eq_false c3, hcn]; rfl)
          clear hbg c3 hcn
          by_cases c4 : cn = 1
          · have hd2 : ((cn : Int) != 1) = false := by rw [c4]; rfl
            have HNX := hide (show (tq.take (j + 1)).all (okG (mus ts) who) = true from by rw [HT2.out, HOK.out]; simpa using c4)
            clear c4
            go_wp2_with fail
            with_reducible refine (HGR.out _).mono ?_
            rintro e w3 ⟨rfl, rfl⟩
            go_wp2_with fail
            with_reducible refine HMN.out.mono ?_
            rintro e w4 ⟨rfl, hb4⟩
            have HB4 := hide (HBJ.out.trans (hb4.mono HBJ.out.size))
            clear hb4
            go_wp2_with fail
            go_roundw
            case rel => exact ⟨j + 1, by omega, by go_num, HNX.out, HB4.out⟩
            case measure => simp [intOf]; omega
          · have hd2 : ((cn : Int) != 1) = true := by rw [bne_iff_ne]; omega
            have HFF := hide (HF2.out (by rw [HOK.out]; simpa using c4))
            clear c4
            go_wp2_with fail
            with_reducible refine (HGR.out _).mono ?_
            rintro e w3 ⟨rfl, rfl⟩
            go_wp2_with fail
            with_reducible refine HMN.out.mono ?_
            rintro e w4 ⟨rfl, hb4⟩
            have HB4 := hide (HBE.out.trans (hb4.mono HBE.out.size))
            clear hb4
            go_wp2_with fail
            go_ret
            exact ⟨by rw [← HFF.out]; rfl, HB4.out⟩
        · have HALL := hide (show (mus (ts.take (k + 1))).all (okM (mus ts)) = true from by
            rw [HT.out, HOM.out]
            have h := HX.out
            rwa [List.take_of_length_le (by rw [HTN.out]; omega)] at h)
          go_wp2_with fail
          go_roundw
          case rel => exact ⟨k + 1, by omega, by go_num, HALL.out, HBE.out⟩
          case measure => simp [intOf]; omega
    · have HALL := hide (show (mus ts).all (okM (mus ts)) = true from by
        have h := HN.out
        rwa [List.take_of_length_le (by rw [HL.out]; omega)] at h)
      obtain ⟨a1, ha1⟩ : ∃ a : Bool, decide ((1 : Int) ≤ (m : Int)) = a := ⟨_, rfl⟩
      obtain ⟨a2, ha2⟩ : ∃ a : Bool, decide ((m : Int) ≤ 160) = a := ⟨_, rfl⟩
      have HF := hide (show (a1 && a2) = r from by
        rw [← HR.out, HALL.out, ← ha1, ← ha2]
        have e1 : decide ((1 : Int) ≤ (m : Int)) = decide (1 ≤ m) := by rw [Bool.eq_iff_iff]; simp; omega
        have e2 : decide ((m : Int) ≤ 160) = decide (m ≤ 160) := by rw [Bool.eq_iff_iff]; simp; omega
        rw [e1, e2, Bool.true_and])
      cases a1 <;> cases a2
      all_goals
        go_wp2_with fail
        go_ret
        exact ⟨by rw [← HF.out]; rfl, HBW.out⟩
end Go.Proofs.Ytlelpnahillioaa
