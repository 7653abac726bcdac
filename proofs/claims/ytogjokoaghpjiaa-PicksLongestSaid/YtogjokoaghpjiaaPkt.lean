/-
  What comes of turns: the program answers as the reference.
-/
import Derived.Test.YtogjokoaghpjiaaPkr
set_option linter.unusedSimpArgs false
set_option linter.unusedVariables false
namespace Go.Proofs.Ytogjokoaghpjiaa
open Go Go.RowKit
attribute [local go_sem] via_cell via_frozen
theorem RT.belowS {w w' : World} {A : Option Addr} {m : Nat} {ts : List Tm} (h : RT w w.heap.size A m ts) (hb : Below w.heap.size w w') : RT w' w'.heap.size A m ts := (h.below hb).more hb.size
theorem own_addr {w : World} {base : Nat} {e : TypeId} {sz n m c : Nat} {A : Option Addr} {xs : List Value} (h : w.ownsRow base e sz (.slice A m c) n xs) : A = none ∨ ∃ g, A = some ⟨g, 0, none⟩ := by
  rcases h.2 with ⟨hv, _⟩ | ⟨g, cap, cur, hv, _⟩
  · injection hv with h1; exact .inl h1
  · injection hv with h1; exact .inr ⟨g, h1⟩
theorem errT_no : errT false = 140 := rfl
theorem errT_yes : errT true = 0 := rfl
def CapT (ts : List Tm) : Prop := ∀ t ∈ ts, t.can.length ≤ t.c ∧ t.c ≤ 9223372036854775807
theorem capT {ts : List Tm} (h : CapT ts) : ∀ t ∈ ts, t.can.length ≤ t.c ∧ t.c ≤ 9223372036854775807 := h
set_option maxHeartbeats 4000000 in
theorem Turns_walk (n w0 : Int) (A1 : Option Addr) (c1 n1 : Nat) (xs1 : List Tm) (W : World) (h1 : RT W W.heap.size A1 n1 xs1) (hn1 : n1 ≤ c1) (hm1 : c1 ≤ 9223372036854775807) (hcap : CapT xs1) :
    Calls Try.prog 7 #[.int .i64 n, .slice A1 n1 c1, .int .i64 w0] W fun e W' => e = .returned (.bool true) ∧ Below W.heap.size W W' := by
  have HB := hide (Below.refl W.heap.size W)
  have HX1 := hide h1
  have HN1 := hide hn1
  have HM1 := hide hm1
  have HCAP := hide hcap
  clear h1 hn1 hm1 hcap
  go_enter Try.func7, Try.ntmps7
  go_wp2_with fail
  with_reducible refine (wakes_any W).mono ?_
  rintro e w1 ⟨rfl, hb⟩
  replace HX1 := hide (HX1.out.belowS hb)
  replace HB := hide (HB.out.trans (hb.mono HB.out.size))
  clear hb
  go_wp2_with fail
  with_reducible refine (few_any A1 c1 n1 xs1 w1 HX1.out HN1.out HM1.out (capT HCAP.out)).mono ?_
  rintro e w2 ⟨⟨Af1, mf1, cf1, us1, rfl, hmc, hcm, hm40, hul, hfew⟩, hb⟩
  have HRT1 := hide (hfew.made.rt hul)
  have HSM1 := hide (show SmallT us1 from hfew.made.small (Nat.le_trans (fewX_len _) (by omega)))
  have HTN1 := hide (show tns us1 = fewX (tns xs1) from hfew.2.1)
  have HMC1 := hide hmc
  have HM401 := hide hm40
  have hcmI1 : (mf1 : Int) ≤ (cf1 : Int) := by omega
  have HAF1 := hide (own_addr hfew.1.own)
  clear hmc hcm hm40 hul hfew
  replace HX1 := hide (HX1.out.belowS hb)
  replace HB := hide (HB.out.trans (hb.mono HB.out.size))
  clear hb
  obtain ⟨r, hr⟩ : ∃ r, rightB n (tns us1) = r := ⟨_, rfl⟩
  have HRR := hide hr
  clear hr
  go_wp2_with fail
  with_reducible refine (right_any w2.heap.size Af1 cf1 mf1 n us1 w2 HRT1.out (Nat.le_refl _) HSM1.out r HRR.out).mono ?_
  rintro e w3 ⟨rfl, hb⟩
  replace HX1 := hide (HX1.out.belowS hb)
  replace HRT1 := hide (HRT1.out.belowS hb)
  replace HB := hide (HB.out.trans (hb.mono HB.out.size))
  clear hb
  cases r with
  | false =>
    go_wp2_with fail
    with_reducible refine (check_any w3.heap.size Af1 cf1 mf1 n us1 w3 HRT1.out (Nat.le_refl _) HSM1.out 140 (by rw [HRR.out, errT_no])).mono ?_
    rintro e w4 ⟨rfl, hb⟩
    replace HX1 := hide (HX1.out.belowS hb)
    replace HRT1 := hide (HRT1.out.belowS hb)
    replace HB := hide (HB.out.trans (hb.mono HB.out.size))
    clear hb
    have HXh := hide (show hungryP n (tns us1) w0 = [] from by unfold hungryP; rw [HRR.out]; rfl)
    have HLh := hide (show (hungryP n (tns us1) w0).length ≤ 4096 from by rw [HXh.out]; decide)
    have HXs := hide (show sharesP n (tns us1) = [] from by unfold sharesP; rw [HRR.out]; rfl)
    have HLs := hide (show (sharesP n (tns us1)).length ≤ 4096 from by rw [HXs.out]; decide)
    have HXl := hide (show leastP n (tns us1) = 0 from by unfold leastP; rw [HRR.out]; rfl)
    have HXp := hide (show lapsP n (tns us1) = 0 from by unfold lapsP; rw [HRR.out]; rfl)
    have HL10 := hide (show ([] : List Int).length = 0 from rfl)
    have HL11 := HL10
    have HN10 := hide (show 0 ≤ 4096 from by omega)
    have HN11 := HN10
    go_wp2_with fail
    with_reducible refine (hungry_any w4.heap.size Af1 cf1 mf1 n us1 w0 w4 HRT1.out (Nat.le_refl _) HSM1.out).mono ?_
    rintro e w5 ⟨vh, rfl, hown, hb⟩
    obtain ⟨Ah, ch, rfl, _, _⟩ := own_form2 hown
    have HOh := hide (Rd.of_own hown)
    replace HX1 := hide (HX1.out.belowS hb)
    replace HRT1 := hide (HRT1.out.belowS hb)
    replace HB := hide (HB.out.trans (hb.mono HB.out.size))
    clear hb hown
    go_wp2_with fail
    with_reducible refine (EqualIn w5.heap.size w5.heap.size Ah none ch 0 _ 0 _ ([] : List Int) w5 rfl HL10.out HOh.out Rd.none_ (Nat.le_refl _) (Nat.le_refl _) HLh.out HN10.out true (by rw [HXh.out]; simp)).mono ?_
    rintro e w6 ⟨rfl, hb⟩
    replace HOh := hide ((HOh.out.below hb).more hb.size)
    replace HX1 := hide (HX1.out.belowS hb)
    replace HRT1 := hide (HRT1.out.belowS hb)
    replace HB := hide (HB.out.trans (hb.mono HB.out.size))
    clear hb
    go_wp2_with fail
    with_reducible refine (shares_any w6.heap.size Af1 cf1 mf1 n us1 w6 HRT1.out (Nat.le_refl _) HSM1.out).mono ?_
    rintro e w7 ⟨⟨vs, rfl, hown⟩, hb⟩
    obtain ⟨As, cs, rfl, _, _⟩ := own_form2 hown
    have HOs := hide (Rd.of_own hown)
    replace HOh := hide ((HOh.out.below hb).more hb.size)
    replace HX1 := hide (HX1.out.belowS hb)
    replace HRT1 := hide (HRT1.out.belowS hb)
    replace HB := hide (HB.out.trans (hb.mono HB.out.size))
    clear hb hown
    go_wp2_with fail
    with_reducible refine (EqualIn w7.heap.size w7.heap.size As none cs 0 _ 0 _ ([] : List Int) w7 rfl HL11.out HOs.out Rd.none_ (Nat.le_refl _) (Nat.le_refl _) HLs.out HN11.out true (by rw [HXs.out]; simp)).mono ?_
    rintro e w8 ⟨rfl, hb⟩
    replace HOh := hide ((HOh.out.below hb).more hb.size)
    replace HOs := hide ((HOs.out.below hb).more hb.size)
    replace HX1 := hide (HX1.out.belowS hb)
    replace HRT1 := hide (HRT1.out.belowS hb)
    replace HB := hide (HB.out.trans (hb.mono HB.out.size))
    clear hb
    go_wp2_with fail
    with_reducible refine (least_any w8.heap.size Af1 cf1 mf1 n us1 w8 HRT1.out (Nat.le_refl _) HSM1.out 0 HXl.out).mono ?_
    rintro e w9 ⟨rfl, hb⟩
    replace HOh := hide ((HOh.out.below hb).more hb.size)
    replace HOs := hide ((HOs.out.below hb).more hb.size)
    replace HX1 := hide (HX1.out.belowS hb)
    replace HRT1 := hide (HRT1.out.belowS hb)
    replace HB := hide (HB.out.trans (hb.mono HB.out.size))
    clear hb
    go_wp2_with fail
    with_reducible refine (laps_any w9.heap.size Af1 cf1 mf1 n us1 w9 HRT1.out (Nat.le_refl _) HSM1.out 0 HXp.out).mono ?_
    rintro e w10 ⟨rfl, hb⟩
    replace HOh := hide ((HOh.out.below hb).more hb.size)
    replace HOs := hide ((HOs.out.below hb).more hb.size)
    replace HX1 := hide (HX1.out.belowS hb)
    replace HRT1 := hide (HRT1.out.belowS hb)
    replace HB := hide (HB.out.trans (hb.mono HB.out.size))
    clear hb
    go_wp2_with fail
    with_reducible refine (few_any A1 c1 n1 xs1 w10 HX1.out HN1.out HM1.out (capT HCAP.out)).mono ?_
    rintro e w11 ⟨⟨Af2, mf2, cf2, us2, rfl, hmc, hcm, hm40, hul, hfew⟩, hb⟩
    have HRT2 := hide (hfew.made.rt hul)
    have HSM2 := hide (show SmallT us2 from hfew.made.small (Nat.le_trans (fewX_len _) (by omega)))
    have HTN2 := hide (show tns us2 = fewX (tns xs1) from hfew.2.1)
    have HMC2 := hide hmc
    have HM402 := hide hm40
    have hcmI2 : (mf2 : Int) ≤ (cf2 : Int) := by omega
    have HAF2 := hide (own_addr hfew.1.own)
    clear hmc hcm hm40 hul hfew
    replace HOh := hide ((HOh.out.below hb).more hb.size)
    replace HOs := hide ((HOs.out.below hb).more hb.size)
    replace HX1 := hide (HX1.out.belowS hb)
    replace HRT1 := hide (HRT1.out.belowS hb)
    replace HB := hide (HB.out.trans (hb.mono HB.out.size))
    clear hb
    go_wp2_with fail
    with_reducible refine (same_any w11.heap.size w11.heap.size Af1 Af2 cf1 cf2 mf1 mf2 us1 us2 w11 HRT1.out HRT2.out (Nat.le_refl _) (Nat.le_refl _) HSM1.out HSM2.out true (by rw [HTN1.out, HTN2.out]; simp)).mono ?_
    rintro e w12 ⟨rfl, hb⟩
    replace HOh := hide ((HOh.out.below hb).more hb.size)
    replace HOs := hide ((HOs.out.below hb).more hb.size)
    replace HX1 := hide (HX1.out.belowS hb)
    replace HRT1 := hide (HRT1.out.belowS hb)
    replace HRT2 := hide (HRT2.out.belowS hb)
    replace HB := hide (HB.out.trans (hb.mono HB.out.size))
    clear hb
    go_wp2_with fail
    go_ret
    exact ⟨rfl, HB.out⟩
  | true =>
    obtain ⟨k, rfl, hk1, hk8, hall⟩ := right_n HRR.out
    have HALL := hide hall
    clear hall
    go_wp2_with fail
    with_reducible refine (check_any w3.heap.size Af1 cf1 mf1 k us1 w3 HRT1.out (Nat.le_refl _) HSM1.out 0 (by rw [HRR.out, errT_yes])).mono ?_
    rintro e w4 ⟨rfl, hb⟩
    replace HX1 := hide (HX1.out.belowS hb)
    replace HRT1 := hide (HRT1.out.belowS hb)
    replace HB := hide (HB.out.trans (hb.mono HB.out.size))
    clear hb
    have HXh := hide (show hungryP (k : Int) (tns us1) w0 = hungryX k (tns us1) w0 from by unfold hungryP; rw [HRR.out]; simp)
    obtain ⟨n10, hn10⟩ : ∃ n10, (hungryX k (tns us1) w0).length = n10 := ⟨_, rfl⟩
    have HL10 := hide hn10
    have HN10 := hide (show n10 ≤ 4096 from by
      rw [← hn10]
      unfold hungryX
      split
      · simp
      · exact Nat.le_trans (List.length_filter_le _ _) (by rw [upTo_length]; omega))
    have HLh := hide (show (hungryP k (tns us1) w0).length ≤ 4096 from by rw [HXh.out, hn10]; exact HN10.out)
    clear hn10
    have HXs := hide (show sharesP (k : Int) (tns us1) = sharesX k (tns us1) from by unfold sharesP; rw [HRR.out]; simp)
    have HL11 := hide (sharesX_length k (tns us1))
    have HN11 := hide (show k ≤ 4096 from by omega)
    have HLs := hide (show (sharesP k (tns us1)).length ≤ 4096 from by rw [HXs.out, sharesX_length]; omega)
    have HXl := hide (show leastP k (tns us1) = ((leastX k (tns us1) : Nat) : Int) from by unfold leastP; rw [HRR.out]; simp)
    have HXp := hide (show lapsP k (tns us1) = ((lapsX k (tns us1) : Nat) : Int) from by unfold lapsP; rw [HRR.out]; simp)
    go_wp2_with fail
    with_reducible refine (rhungry_any w4.heap.size Af1 cf1 mf1 k us1 w0 w4 HRT1.out HMC1.out (Nat.le_refl _) HSM1.out hk8).mono ?_
    rintro e w5 ⟨v10, rfl, hown, hb⟩
    rw [HL10.out] at hown
    obtain ⟨A10, c10, rfl, _, _⟩ := own_form2 hown
    have HO10 := hide (Rd.of_own hown)
    replace HX1 := hide (HX1.out.belowS hb)
    replace HRT1 := hide (HRT1.out.belowS hb)
    replace HB := hide (HB.out.trans (hb.mono HB.out.size))
    clear hb hown
    go_wp2_with fail
    with_reducible refine (rshares_any w5.heap.size Af1 cf1 mf1 k us1 w5 HRT1.out (Nat.le_refl _) HSM1.out hk1 hk8 HALL.out).mono ?_
    rintro e w6 ⟨⟨v11, rfl, hown⟩, hb⟩
    obtain ⟨A11, c11, rfl, _, _⟩ := own_form2 hown
    have HO11 := hide (Rd.of_own hown)
    replace HO10 := hide ((HO10.out.below hb).more hb.size)
    replace HX1 := hide (HX1.out.belowS hb)
    replace HRT1 := hide (HRT1.out.belowS hb)
    replace HB := hide (HB.out.trans (hb.mono HB.out.size))
    clear hb hown
    go_wp2_with fail
    with_reducible refine (rleast_any w6.heap.size Af1 cf1 mf1 k us1 w6 HRT1.out HMC1.out (Nat.le_refl _) HSM1.out hk8 _ rfl).mono ?_
    rintro e w7 ⟨rfl, hb⟩
    replace HO10 := hide ((HO10.out.below hb).more hb.size)
    replace HO11 := hide ((HO11.out.below hb).more hb.size)
    replace HX1 := hide (HX1.out.belowS hb)
    replace HRT1 := hide (HRT1.out.belowS hb)
    replace HB := hide (HB.out.trans (hb.mono HB.out.size))
    clear hb
    go_wp2_with fail
    with_reducible refine (rlaps_any w7.heap.size Af1 cf1 mf1 k us1 w7 HRT1.out HMC1.out (Nat.le_refl _) HSM1.out hk8 _ rfl).mono ?_
    rintro e w8 ⟨rfl, hb⟩
    replace HO10 := hide ((HO10.out.below hb).more hb.size)
    replace HO11 := hide ((HO11.out.below hb).more hb.size)
    replace HX1 := hide (HX1.out.belowS hb)
    replace HRT1 := hide (HRT1.out.belowS hb)
    replace HB := hide (HB.out.trans (hb.mono HB.out.size))
    clear hb
    go_wp2_with fail
    with_reducible refine (hungry_any w8.heap.size Af1 cf1 mf1 k us1 w0 w8 HRT1.out (Nat.le_refl _) HSM1.out).mono ?_
    rintro e w9 ⟨vh, rfl, hown, hb⟩
    obtain ⟨Ah, ch, rfl, _, _⟩ := own_form2 hown
    have HOh := hide (Rd.of_own hown)
    replace HO10 := hide ((HO10.out.below hb).more hb.size)
    replace HO11 := hide ((HO11.out.below hb).more hb.size)
    replace HX1 := hide (HX1.out.belowS hb)
    replace HRT1 := hide (HRT1.out.belowS hb)
    replace HB := hide (HB.out.trans (hb.mono HB.out.size))
    clear hb hown
    go_wp2_with fail
    with_reducible refine (EqualIn w9.heap.size w9.heap.size Ah A10 ch c10 _ n10 _ _ w9 rfl HL10.out HOh.out HO10.out (Nat.le_refl _) (Nat.le_refl _) HLh.out HN10.out true (by rw [HXh.out]; simp)).mono ?_
    rintro e w10 ⟨rfl, hb⟩
    replace HO10 := hide ((HO10.out.below hb).more hb.size)
    replace HO11 := hide ((HO11.out.below hb).more hb.size)
    replace HOh := hide ((HOh.out.below hb).more hb.size)
    replace HX1 := hide (HX1.out.belowS hb)
    replace HRT1 := hide (HRT1.out.belowS hb)
    replace HB := hide (HB.out.trans (hb.mono HB.out.size))
    clear hb
    go_wp2_with fail
    with_reducible refine (shares_any w10.heap.size Af1 cf1 mf1 k us1 w10 HRT1.out (Nat.le_refl _) HSM1.out).mono ?_
    rintro e w11 ⟨⟨vs, rfl, hown⟩, hb⟩
    obtain ⟨As, cs, rfl, _, _⟩ := own_form2 hown
    have HOs := hide (Rd.of_own hown)
    replace HO10 := hide ((HO10.out.below hb).more hb.size)
    replace HO11 := hide ((HO11.out.below hb).more hb.size)
    replace HOh := hide ((HOh.out.below hb).more hb.size)
    replace HX1 := hide (HX1.out.belowS hb)
    replace HRT1 := hide (HRT1.out.belowS hb)
    replace HB := hide (HB.out.trans (hb.mono HB.out.size))
    clear hb hown
    go_wp2_with fail
    with_reducible refine (EqualIn w11.heap.size w11.heap.size As A11 cs c11 _ _ _ _ w11 rfl HL11.out HOs.out HO11.out (Nat.le_refl _) (Nat.le_refl _) HLs.out HN11.out true (by rw [HXs.out]; simp)).mono ?_
    rintro e w12 ⟨rfl, hb⟩
    replace HO10 := hide ((HO10.out.below hb).more hb.size)
    replace HO11 := hide ((HO11.out.below hb).more hb.size)
    replace HOh := hide ((HOh.out.below hb).more hb.size)
    replace HOs := hide ((HOs.out.below hb).more hb.size)
    replace HX1 := hide (HX1.out.belowS hb)
    replace HRT1 := hide (HRT1.out.belowS hb)
    replace HB := hide (HB.out.trans (hb.mono HB.out.size))
    clear hb
    go_wp2_with fail
    with_reducible refine (least_any w12.heap.size Af1 cf1 mf1 k us1 w12 HRT1.out (Nat.le_refl _) HSM1.out _ HXl.out).mono ?_
    rintro e w13 ⟨rfl, hb⟩
    replace HO10 := hide ((HO10.out.below hb).more hb.size)
    replace HO11 := hide ((HO11.out.below hb).more hb.size)
    replace HOh := hide ((HOh.out.below hb).more hb.size)
    replace HOs := hide ((HOs.out.below hb).more hb.size)
    replace HX1 := hide (HX1.out.belowS hb)
    replace HRT1 := hide (HRT1.out.belowS hb)
    replace HB := hide (HB.out.trans (hb.mono HB.out.size))
    clear hb
    go_wp2_with fail
    with_reducible refine (laps_any w13.heap.size Af1 cf1 mf1 k us1 w13 HRT1.out (Nat.le_refl _) HSM1.out _ HXp.out).mono ?_
    rintro e w14 ⟨rfl, hb⟩
    replace HO10 := hide ((HO10.out.below hb).more hb.size)
    replace HO11 := hide ((HO11.out.below hb).more hb.size)
    replace HOh := hide ((HOh.out.below hb).more hb.size)
    replace HOs := hide ((HOs.out.below hb).more hb.size)
    replace HX1 := hide (HX1.out.belowS hb)
    replace HRT1 := hide (HRT1.out.belowS hb)
    replace HB := hide (HB.out.trans (hb.mono HB.out.size))
    clear hb
    go_wp2_with fail
    with_reducible refine (few_any A1 c1 n1 xs1 w14 HX1.out HN1.out HM1.out (capT HCAP.out)).mono ?_
    rintro e w15 ⟨⟨Af2, mf2, cf2, us2, rfl, hmc, hcm, hm40, hul, hfew⟩, hb⟩
    have HRT2 := hide (hfew.made.rt hul)
    have HSM2 := hide (show SmallT us2 from hfew.made.small (Nat.le_trans (fewX_len _) (by omega)))
    have HTN2 := hide (show tns us2 = fewX (tns xs1) from hfew.2.1)
    have HMC2 := hide hmc
    have HM402 := hide hm40
    have hcmI2 : (mf2 : Int) ≤ (cf2 : Int) := by omega
    have HAF2 := hide (own_addr hfew.1.own)
    clear hmc hcm hm40 hul hfew
    replace HO10 := hide ((HO10.out.below hb).more hb.size)
    replace HO11 := hide ((HO11.out.below hb).more hb.size)
    replace HOh := hide ((HOh.out.below hb).more hb.size)
    replace HOs := hide ((HOs.out.below hb).more hb.size)
    replace HX1 := hide (HX1.out.belowS hb)
    replace HRT1 := hide (HRT1.out.belowS hb)
    replace HB := hide (HB.out.trans (hb.mono HB.out.size))
    clear hb
    go_wp2_with fail
    with_reducible refine (same_any w15.heap.size w15.heap.size Af1 Af2 cf1 cf2 mf1 mf2 us1 us2 w15 HRT1.out HRT2.out (Nat.le_refl _) (Nat.le_refl _) HSM1.out HSM2.out true (by rw [HTN1.out, HTN2.out]; simp)).mono ?_
    rintro e w16 ⟨rfl, hb⟩
    replace HO10 := hide ((HO10.out.below hb).more hb.size)
    replace HO11 := hide ((HO11.out.below hb).more hb.size)
    replace HOh := hide ((HOh.out.below hb).more hb.size)
    replace HOs := hide ((HOs.out.below hb).more hb.size)
    replace HX1 := hide (HX1.out.belowS hb)
    replace HRT1 := hide (HRT1.out.belowS hb)
    replace HRT2 := hide (HRT2.out.belowS hb)
    replace HB := hide (HB.out.trans (hb.mono HB.out.size))
    clear hb
    go_wp2_with fail
    go_ret
    exact ⟨rfl, HB.out⟩
end Go.Proofs.Ytogjokoaghpjiaa
