/-
  If who steps is always who waits longest, nobody is hungry by as many turns as there are goroutines.
-/
import Derived.Test.YtogjokoaghpjiaaPkyp
import Derived.Deep.CutRange
import Derived.Deep.CutBlock
set_option linter.unusedSimpArgs false
set_option linter.unusedVariables false
namespace Go.Proofs.Ytogjokoaghpjiaa
open Go Go.RowKit
attribute [local go_sem] via_cell via_frozen

def RowsAt (w : World) (ts : List Rw) : Prop := ∀ t ∈ ts, Rd w w.heap.size 1 t.A t.xs.length (Cs encI t.xs) ∧ ((t.xs.length : Nat) : Int) ≤ 9223372036854775807
theorem RowsAt.below {w w' : World} {ts : List Rw} (h : RowsAt w ts) (hb : Below w.heap.size w w') : RowsAt w' ts := fun t ht => ⟨((h t ht).1.below hb).more hb.size, (h t ht).2⟩
theorem rows_of {w : World} {ts : List Rw} (h : ∀ t ∈ ts, RwOk w t) : RowsAt w ts := fun t ht => ⟨(h t ht).1, by have := (h t ht).2.1; have := (h t ht).2.2.1; omega⟩
/-- Who can, out of a row. -/
def inRow (xs : List Int) (g : Int) : Bool := xs.contains g || decide (xs.length = 0)
set_option maxRecDepth 100000 in
set_option maxHeartbeats 8000000 in
theorem Longest_walk (g0 : Int) (A1 : Option Addr) (c1 n1 : Nat) (xs1 : List Rw) (W : World) (h1 : Rd W W.heap.size 1 A1 n1 (Cs encR xs1)) (hx1 : xs1.length = n1) (hn1 : n1 ≤ c1) (hm1 : c1 ≤ 9223372036854775807) (hu1 : ∀ t ∈ xs1, RwOk W t) (hg0 : I64 g0) :
    Calls Try.prog 4 #[.int .i64 g0, .slice A1 n1 c1] W fun e W' => e = .returned (.bool true) ∧ Below W.heap.size W W' := by
  have HX := hide h1
  have HLX := hide hx1
  have HRA := hide (rows_of hu1)
  have hlI : (n1 : Int) ≤ 9223372036854775807 := by omega
  clear h1 hx1 hn1 hm1 hu1 hg0
  go_enter Try.func4, Try.ntmps4
  go_wp2_with fail
  with_reducible refine (wakes_any W).mono ?_
  rintro e w0 ⟨rfl, hb0⟩
  have HB0 := hide hb0
  replace HX := hide ((HX.out.below hb0).more hb0.size)
  replace HRA := hide (HRA.out.below hb0)
  clear hb0
  obtain ⟨a, ha, hix⟩ := u_mod g0 8 (by omega) (by omega)
  have hc9 : ((8 : Nat) : Int) = 8 := rfl
  rw [hc9] at hix
  clear hc9
  go_upto_region 5 with (fail)
  obtain ⟨n, hn⟩ : ∃ n : Nat, (1 : Int) + (a : Int) = (n : Int) := ⟨a + 1, by omega⟩
  have hn1 : 1 ≤ n := by omega
  have hn8 : n ≤ 8 := by omega
  rw [hn, hix]
  clear hix hn
  have hn8I : (n : Int) ≤ 8 := by omega
  go_wp2_with fail
  go_loopw [5, 21] (fun sv si wr => ∃ (k : Nat) (us : List Tm) (v : Value) (L : List Tn), v = sv ∧ k ≤ n1 ∧ k ≤ 30 ∧ si = .int .i64 k ∧ L.length ≤ k ∧ MadeAt w0.heap.size wr v us L ∧ LongL n L ∧ Below w0.heap.size w0 wr) (fun _ si _ => n1 - (intOf si).toNat)
  case atStart => exact ⟨0, [], _, [], rfl, Nat.zero_le _, Nat.zero_le _, rfl, Nat.le_refl _, ⟨⟨World.ownsRow_nil _ _ _ _, by simp, by simp⟩, rfl, by simp, by simp⟩, LongL.nil n, Below.refl _ _⟩
  case round =>
    obtain ⟨k, us, v, L, rfl, hk, hk30, rfl, hlk, hmade, hlong, hbw⟩ := hrel
    have HM := hide hmade
    have HG := hide hlong
    have HBW := hide hbw
    have HB := hide (HB0.out.trans (hbw.mono HB0.out.size))
    obtain ⟨Al, cl, rfl, hlc, hlcm⟩ := own_form2 hmade.1.own
    have hlen : us.length = L.length := by rw [← tns_len, hmade.2.1]
    have HLEN := hide hlen
    have HL30 := hide (show us.length ≤ 30 from by omega)
    clear hmade hlong hbw hlen
    by_cases hend : k < n1 ∧ k ≠ 30
    · obtain ⟨hlt, h30⟩ := hend
      have hd30 : ((k : Int) == 30) = false := by rw [beq_eq_false_iff_ne]; omega
      have hkm : (k : Int) < (n1 : Int) := by omega
      have hlx : k < xs1.length := by rw [HLX.out]; exact hlt
      obtain ⟨b, o, rfl, hb, d0⟩ := (HX.out.below HBW.out).rowD HLX.out hlx
      have hbl : b < wr.heap.size := Nat.lt_of_lt_of_le hb HBW.out.size
      obtain ⟨hrow, hrl⟩ := (HRA.out.below HBW.out) _ (List.getElem_mem hlx)
      have HROW := hide hrow
      generalize xs1[k] = rw0 at *
      obtain ⟨rA, rc, rxs⟩ := rw0
      dsimp only at *
      have HRL := hide hrl
      obtain ⟨P, hP⟩ : ∃ P : Int → Bool, inRow rxs = P := ⟨_, rfl⟩
      have HPP := hide hP
      clear hP hb hrow
      obtain ⟨wa, hwa⟩ : ∃ w, w = wr := ⟨_, rfl⟩
      subst hwa
      go_wp2_with fail
      go_loopw [8, 29] (fun sv si wr2 => ∃ (j : Nat) (vc : Value), vc = sv ∧ j ≤ n ∧ si = .int .i64 j ∧ wr2.ownsRow wa.heap.size 3 1 vc ((upTo j).filter P).length (Cs encI ((upTo j).filter P)) ∧ Below wa.heap.size wa wr2) (fun _ si _ => n - (intOf si).toNat)
      case atStart => exact ⟨0, _, rfl, Nat.zero_le _, rfl, World.ownsRow_nil _ _ _ _, Below.refl _ _⟩
      case round =>
        obtain ⟨j, vc, rfl, hj, rfl, hown, hbw⟩ := hrel
        have HO := hide hown
        have HBI := hide hbw
        clear hown hbw
        by_cases hjn : j < n
        · have hjI : (j : Int) < (n : Int) := by omega
          have HU := hide (upTo_succ j)
          obtain ⟨q, hq⟩ : ∃ q, rxs.contains (j : Int) = q := ⟨_, rfl⟩
          have HQ := hide hq
          have HC := hide (contains_big wr.heap.size rA rc rxs.length rxs j wr ((HROW.out.below HBI.out).more HBI.out.size) rfl HRL.out (Nat.le_refl _) q hq)
          clear hq
          cases q
          · by_cases hz : rxs.length = 0
            · have hzI : (((rxs.length : Nat) : Int) == 0) = true := by rw [beq_iff_eq]; omega
              have HPJ := hide (show P j = true from by rw [← HPP.out]; unfold inRow; rw [HQ.out]; simp; exact List.eq_nil_of_length_eq_zero hz)
              have HZI := hide hzI
              generalize rxs.length = rl at *
              clear hz
              go_wp2_with fail
              with_reducible refine HC.out.mono ?_
              rintro e w2 ⟨rfl, rfl⟩
              have HF := hide (show (upTo (j + 1)).filter P = (upTo j).filter P ++ [(j : Int)] from by rw [HU.out, List.filter_append, List.filter_cons, HPJ.out]; rfl)
              have HL := hide (show ((upTo j).filter P).length ≤ j from by have h := List.length_filter_le P (upTo j); rwa [upTo_length] at h)
              have HOA := hide (own_keepB HO.out ((Below.refl wr.heap.size wr).alloc (Nat.le_refl _) (.cells #[.int .i64 j] 3)))
              go_wp2_with (at_builtin; refine wpList_app elI rfl _ _ rfl rfl HOA.out rfl (Rd.new wr #[.int .i64 j] 3 1 1 rfl) (by simp [Value.oneCell']) (by have := HL.out; omega) (by have := HBI.out.size; simp; omega) ?_; intro v2 wB hownB hbB _ _)
              have HN := hide (show wB.ownsRow wa.heap.size 3 1 v2 ((upTo (j + 1)).filter P).length (Cs encI ((upTo (j + 1)).filter P)) from by
                rw [HF.out, Cs_append, Cs_one, List.length_append]; exact hownB)
              have HBE := hide (show Below wa.heap.size wa wB from (HBI.out.trans ((Below.refl _ _).alloc HBI.out.size _)).trans hbB)
              clear hownB hbB
              go_roundw
              case rel => exact ⟨j + 1, v2, rfl, by omega, by go_num, HN.out, HBE.out⟩
              case measure => simp [intOf]; omega
            · have hzI : (((rxs.length : Nat) : Int) == 0) = false := by rw [beq_eq_false_iff_ne]; omega
              have HPJ := hide (show P j = false from by rw [← HPP.out]; unfold inRow; rw [HQ.out]; simp; exact fun e => hz (by rw [e]; rfl))
              have HF := hide (show (upTo (j + 1)).filter P = (upTo j).filter P from by rw [HU.out, List.filter_append, List.filter_cons, HPJ.out]; simp)
              have HN := hide (show wr.ownsRow wa.heap.size 3 1 vc ((upTo (j + 1)).filter P).length (Cs encI ((upTo (j + 1)).filter P)) from by rw [HF.out]; exact HO.out)
              generalize rxs.length = rl at *
              clear hz
              go_wp2_with fail
              with_reducible refine HC.out.mono ?_
              rintro e w2 ⟨rfl, rfl⟩
              go_wp2_with fail
              go_roundw
              case rel => exact ⟨j + 1, vc, rfl, by omega, by go_num, HN.out, HBI.out⟩
              case measure => simp [intOf]; omega
          · have HPJ := hide (show P j = true from by rw [← HPP.out]; unfold inRow; rw [HQ.out]; rfl)
            go_wp2_with fail
            with_reducible refine HC.out.mono ?_
            rintro e w2 ⟨rfl, rfl⟩
            have HF := hide (show (upTo (j + 1)).filter P = (upTo j).filter P ++ [(j : Int)] from by rw [HU.out, List.filter_append, List.filter_cons, HPJ.out]; rfl)
            have HL := hide (show ((upTo j).filter P).length ≤ j from by have h := List.length_filter_le P (upTo j); rwa [upTo_length] at h)
            have HOA := hide (own_keepB HO.out ((Below.refl wr.heap.size wr).alloc (Nat.le_refl _) (.cells #[.int .i64 j] 3)))
            go_wp2_with (at_builtin; refine wpList_app elI rfl _ _ rfl rfl HOA.out rfl (Rd.new wr #[.int .i64 j] 3 1 1 rfl) (by simp [Value.oneCell']) (by have := HL.out; omega) (by have := HBI.out.size; simp; omega) ?_; intro v2 wB hownB hbB _ _)
            have HN := hide (show wB.ownsRow wa.heap.size 3 1 v2 ((upTo (j + 1)).filter P).length (Cs encI ((upTo (j + 1)).filter P)) from by
              rw [HF.out, Cs_append, Cs_one, List.length_append]; exact hownB)
            have HBE := hide (show Below wa.heap.size wa wB from (HBI.out.trans ((Below.refl _ _).alloc HBI.out.size _)).trans hbB)
            clear hownB hbB
            go_roundw
            case rel => exact ⟨j + 1, v2, rfl, by omega, by go_num, HN.out, HBE.out⟩
            case measure => simp [intOf]; omega
        · obtain rfl : j = n := by omega
          have HB2 := hide (HB.out.trans (HBI.out.mono HB.out.size))
          have HBW2 := hide (HBW.out.trans (HBI.out.mono HBW.out.size))
          have HM2 := hide (HM.out.below HBI.out)
          have HFN := hide (fun hne => filter_can (n := j) (P := P) hne)
          have HFL := hide (show ((upTo j).filter P).length ≤ j from by have h := List.length_filter_le P (upTo j); rwa [upTo_length] at h)
          have HGA := hide (fun hne => HG.out.app hn1 (P := P) hne)
          have HNX := hide (fun hne => nextX_ok L ((upTo j).filter P) hne)
          obtain ⟨F, hF⟩ : ∃ F, (upTo j).filter P = F := ⟨_, rfl⟩
          rw [hF] at HO HFN HFL HGA HNX
          clear hF
          obtain ⟨Af, cf, rfl, hfc, _⟩ := own_form2 HO.out
          by_cases hne : F = []
          · have HGN := HG
            have hz : ((F.length : Int) == 0) = true := by rw [hne]; rfl
            clear hne
            go_wp2_with fail
            go_roundw
            case rel => exact ⟨k + 1, us, _, L, rfl, by omega, by omega, by go_num, by omega, HM2.out, HGN.out, HBW2.out⟩
            case measure => simp [intOf]; omega
          · have hz : ((F.length : Int) == 0) = false := by
              rw [beq_eq_false_iff_ne]
              have := List.length_pos_iff.2 hne
              omega
            have HCAN := hide (HFN.out hne)
            have HGG := hide (HGA.out hne)
            have HMX := hide (HNX.out hne).1
            have HRF := hide (Rd.of_own HO.out)
            have HRB := hide (HG.out.rightB hn1 hn8)
            have HTN := hide HM.out.2.1
            have HSM := hide (show SmallT us from HM2.out.small (by omega))
            have HNE := hide (show nextP (j : Int) (tns us) F = (nextX L F, 0) from by unfold nextP; rw [HTN.out, HRB.out, HCAN.out]; rfl)
            have HCN : Hid (Calls Try.prog 17 #[.int .i64 j, .slice Al us.length cl, .slice Af F.length cf] wr fun e W' => e = .returned (.tuple #[.int .i64 (nextX L F), .int .i64 0]) ∧ Below wr.heap.size wr W') := hide (by
              have h := next_any wr.heap.size Al Af cl us.length cf F.length (j : Int) us F wr (HM2.out.rt rfl) HRF.out rfl (by have := HFL.out; omega) (Nat.le_refl _) HSM.out _ HNE.out
              exact h)
            obtain ⟨g, hg⟩ : ∃ g, nextX L F = g := ⟨_, rfl⟩
            rw [hg] at HCN HGG HMX
            clear hne hg HNX HGA HFN
            go_wp2_with fail
            with_reducible refine HCN.out.mono ?_
            rintro e w3 ⟨rfl, hb3⟩
            have HM3 := hide (HM2.out.below hb3)
            have HRF3 := hide ((HRF.out.below hb3).more hb3.size)
            have HBW3 := hide (HBW2.out.trans (hb3.mono HBW2.out.size))
            have HB3 := hide (HB2.out.trans (hb3.mono HB2.out.size))
            have HOF := hide (own_fresh HO.out)
            have HOL := hide (fun p (hp : Af = some p) => (show p.block < w3.heap.size from Nat.lt_of_lt_of_le (HO.out.lt p.block (by subst hp; rfl)).2 hb3.size))
            have HLL := hide (fun gg (hgg : (Value.slice Al us.length cl).ownBlock = some gg) => (HM.out.1.own.lt gg hgg).2)
            clear hb3
            have HC2 := hide (contains_any w3.heap.size Af cf F.length F g w3 HRF3.out rfl (by have := HFL.out; omega) (Nat.le_refl _) true (by rw [List.contains_iff_mem]; exact HMX.out))
            go_wp2_with fail
            with_reducible refine HC2.out.mono ?_
            rintro e w4 ⟨rfl, rfl⟩
            have HBN := hide (show Below w3.heap.size w3 (w3.alloc (.cells #[.slice Af F.length cf, .int .i64 g] 37)) from (Below.refl _ _).alloc (Nat.le_refl _) _)
            have HMN := hide (HM3.out.below HBN.out)
            have HUL := HL30.out
            go_wp2_with (at_builtin; go_loud (refine wpList_app elT rfl _ _ rfl rfl HMN.out.1.own rfl (Rd.new w3 #[.slice Af F.length cf, .int .i64 g] 37 2 1 rfl) (by simp [Value.oneCell']) (by omega) (by have := HBW3.out.size; simp; omega) ?_; intro v2 wB hownB hbB hgB hvB))
            have HNEW := hide (show MadeAt w0.heap.size wB v2 (us ++ [⟨Af, cf, F, g⟩]) (L ++ [(F, g)]) from HMN.out.app (t := ⟨Af, cf, F, g⟩) ((HRF3.out.below HBN.out).more HBN.out.size) (fun p hp e => by
              have h1 := HOF.out p hp
              have h2 := HLL.out _ e.symm
              omega) (fun p hp => Nat.lt_of_lt_of_le (HOL.out p hp) HBN.out.size) (show F.length ≤ 10 from by have := HFL.out; omega) (by simpa [encT] using hownB) hgB hvB hbB.size)
            have HBE := hide (show Below w0.heap.size w0 wB from (HBW3.out.trans (HBN.out.mono HBW3.out.size)).trans hbB)
            have HLK := hide (show (L ++ [(F, g)]).length ≤ k + 1 from by rw [List.length_append]; simp; omega)
            clear hownB hbB hgB hvB
            go_roundw
            case rel => exact ⟨k + 1, _, v2, _, rfl, by omega, by omega, by go_num, HLK.out, HNEW.out, HGG.out, HBE.out⟩
            case measure => simp [intOf]; omega
    · by_cases hlt : k < n1
      · have h30 : k = 30 := by omega
        have hd30 : ((k : Int) == 30) = true := by rw [beq_iff_eq]; omega
        have hkm : (k : Int) < (n1 : Int) := by omega
        have hlx : k < xs1.length := by rw [HLX.out]; exact hlt
        obtain ⟨b, o, rfl, hb, d0⟩ := (HX.out.below HBW.out).rowD HLX.out hlx
        have hbl : b < wr.heap.size := Nat.lt_of_lt_of_le hb HBW.out.size
        generalize xs1[k] = rw0 at *
        clear hend h30 hb
        have HTN := hide HM.out.2.1
        have HSM := hide (show SmallT us from HM.out.small (by have := HL30.out; have := HLEN.out; omega))
        have HRB := hide (show rightB (n : Int) (tns us) = true from by rw [HTN.out]; exact HG.out.rightB hn1 hn8)
        have HLS := hide (show leastX n (tns us) ≤ n from by rw [HTN.out]; exact HG.out.fair.least hn1)
        have HHP := hide (show hungryP (n : Int) (tns us) (n : Int) = [] from by
          unfold hungryP
          rw [HRB.out, if_pos rfl, Int.toNat_natCast]
          apply List.eq_nil_of_length_eq_zero
          have h := hungryX_least n (tns us) n hn1
          have h2 := HLS.out
          omega)
        obtain ⟨lw, hlw⟩ : ∃ lw, leastX n (tns us) = lw := ⟨_, rfl⟩
        have HLP := hide (show leastP (n : Int) (tns us) = (lw : Int) from by unfold leastP; rw [HRB.out, if_pos rfl, Int.toNat_natCast, hlw])
        have hlwn : lw ≤ n := by rw [← hlw]; exact HLS.out
        clear hlw
        have HC1 := hide (check_any wr.heap.size Al cl us.length n us wr (HM.out.rt rfl) (Nat.le_refl _) HSM.out 0 (by rw [HRB.out, errT_yes]))
        go_wp2_with fail
        with_reducible refine HC1.out.mono ?_
        rintro e w2 ⟨rfl, hb2⟩
        have HM2 := hide (HM.out.below hb2)
        have HB2 := hide (HB.out.trans (hb2.mono HB.out.size))
        clear hb2
        have HC2 : Hid (Calls Try.prog _ _ w2 fun e W' => ∃ v, e = .returned v ∧ W'.ownsRow w2.heap.size 3 1 v 0 (Cs encI []) ∧ Below w2.heap.size w2 W') := hide (by
          have h := hungry_any w2.heap.size Al cl us.length (n : Int) us (n : Int) w2 (HM2.out.rt rfl) (Nat.le_refl _) HSM.out
          rw [HHP.out] at h
          exact h)
        go_wp2_with fail
        with_reducible refine HC2.out.mono ?_
        rintro e w3 ⟨v3, rfl, hown3, hb3⟩
        obtain ⟨A3, c3, rfl, _, _⟩ := own_form2 hown3
        have HM3 := hide (HM2.out.below hb3)
        have HB3 := hide (HB2.out.trans (hb3.mono HB2.out.size))
        clear hb3 hown3
        have HC3 := hide (least_any w3.heap.size Al cl us.length (n : Int) us w3 (HM3.out.rt rfl) (Nat.le_refl _) HSM.out (lw : Int) HLP.out)
        go_wp2_with fail
        with_reducible refine HC3.out.mono ?_
        rintro e w4 ⟨rfl, hb4⟩
        have HB4 := hide (HB3.out.trans (hb4.mono HB3.out.size))
        have hd9 : decide ((lw : Int) ≤ (n : Int)) = true := by simpa using hlwn
        clear hb4
        go_wp2_with fail
        go_ret
        exact ⟨rfl, HB4.out⟩
      · have hkm : ¬ (k : Int) < (n1 : Int) := by omega
        clear hend
        have HTN := hide HM.out.2.1
        have HSM := hide (show SmallT us from HM.out.small (by have := HL30.out; have := HLEN.out; omega))
        have HRB := hide (show rightB (n : Int) (tns us) = true from by rw [HTN.out]; exact HG.out.rightB hn1 hn8)
        have HLS := hide (show leastX n (tns us) ≤ n from by rw [HTN.out]; exact HG.out.fair.least hn1)
        have HHP := hide (show hungryP (n : Int) (tns us) (n : Int) = [] from by
          unfold hungryP
          rw [HRB.out, if_pos rfl, Int.toNat_natCast]
          apply List.eq_nil_of_length_eq_zero
          have h := hungryX_least n (tns us) n hn1
          have h2 := HLS.out
          omega)
        obtain ⟨lw, hlw⟩ : ∃ lw, leastX n (tns us) = lw := ⟨_, rfl⟩
        have HLP := hide (show leastP (n : Int) (tns us) = (lw : Int) from by unfold leastP; rw [HRB.out, if_pos rfl, Int.toNat_natCast, hlw])
        have hlwn : lw ≤ n := by rw [← hlw]; exact HLS.out
        clear hlw
        have HC1 := hide (check_any wr.heap.size Al cl us.length n us wr (HM.out.rt rfl) (Nat.le_refl _) HSM.out 0 (by rw [HRB.out, errT_yes]))
        go_wp2_with fail
        with_reducible refine HC1.out.mono ?_
        rintro e w2 ⟨rfl, hb2⟩
        have HM2 := hide (HM.out.below hb2)
        have HB2 := hide (HB.out.trans (hb2.mono HB.out.size))
        clear hb2
        have HC2 : Hid (Calls Try.prog _ _ w2 fun e W' => ∃ v, e = .returned v ∧ W'.ownsRow w2.heap.size 3 1 v 0 (Cs encI []) ∧ Below w2.heap.size w2 W') := hide (by
          have h := hungry_any w2.heap.size Al cl us.length (n : Int) us (n : Int) w2 (HM2.out.rt rfl) (Nat.le_refl _) HSM.out
          rw [HHP.out] at h
          exact h)
        go_wp2_with fail
        with_reducible refine HC2.out.mono ?_
        rintro e w3 ⟨v3, rfl, hown3, hb3⟩
        obtain ⟨A3, c3, rfl, _, _⟩ := own_form2 hown3
        have HM3 := hide (HM2.out.below hb3)
        have HB3 := hide (HB2.out.trans (hb3.mono HB2.out.size))
        clear hb3 hown3
        have HC3 := hide (least_any w3.heap.size Al cl us.length (n : Int) us w3 (HM3.out.rt rfl) (Nat.le_refl _) HSM.out (lw : Int) HLP.out)
        go_wp2_with fail
        with_reducible refine HC3.out.mono ?_
        rintro e w4 ⟨rfl, hb4⟩
        have HB4 := hide (HB3.out.trans (hb4.mono HB3.out.size))
        have hd9 : decide ((lw : Int) ≤ (n : Int)) = true := by simpa using hlwn
        clear hb4
        go_wp2_with fail
        go_ret
        exact ⟨rfl, HB4.out⟩
end Go.Proofs.Ytogjokoaghpjiaa
