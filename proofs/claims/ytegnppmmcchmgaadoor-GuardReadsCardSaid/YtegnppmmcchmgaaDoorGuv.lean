/-
  GuardReads: the walk through the law.
-/
import Derived.Test.YtegnppmmcchmgaaDoorGum
import Derived.Test.YtegnppmmcchmgaaDoorGul
set_option linter.unusedSimpArgs false
set_option linter.unusedVariables false
namespace Go.Proofs.YtegnppmmcchmgaaDoor
open Go Go.RowKit
attribute [local go_sem] via_cell via_frozen

/-- Is a look good, by the reference's counts? -/
def goodR (l : List Sec) (k : Int × Int) : Bool := ((cnt l k.1 : Int) % 2 == 0) && ((cnt l k.1 : Int) == (cnt l k.2 : Int))
theorem goodR_right {l : List Sec} (h : chk 0 l = true) : goodR l = goodL l := by
  funext k
  unfold goodR goodL goodB oddB
  rw [cntE_right (Int.le_refl 0) h, cntE_right (Int.le_refl 0) h, Bool.eq_iff_iff]
  simp only [Bool.and_eq_true, beq_iff_eq, Bool.not_eq_true', decide_eq_false_iff_not, decide_eq_true_eq]
  omega
def noV (ks : List (Int × Int)) : Int := if ks.any noneB then 2 else 0
theorem noV_snoc (ks : List (Int × Int)) (k : Int × Int) : noV (ks ++ [k]) = if lookB k.1 k.2 then noV ks else 2 := by
  unfold noV noneB
  rw [List.any_append]
  cases h : lookB k.1 k.2 <;> simp only [List.any_cons, List.any_nil, h, Bool.not_true, Bool.not_false, Bool.or_false, Bool.or_true, if_true, Bool.false_eq_true, if_false]
/-- What a round holds. -/
def RdsR (base : Nat) (l : List Sec) (ks : List (Int × Int)) (v nv i : Value) (w0 wr : World) : Prop :=
  ∃ (j : Nat) (u : Value), u = v ∧ j ≤ ks.length ∧ i = .int .i64 j ∧ nv = .int .i64 (noV (ks.take j)) ∧ wr.ownsRow base 4 1 u ((ks.take j).map (goodR l)).length (Cs encB ((ks.take j).map (goodR l))) ∧ Below base w0 wr
set_option maxRecDepth 100000 in
set_option maxHeartbeats 4000000 in
theorem Reads_walk (A0 : Option Addr) (c0 n0 : Nat) (X0 : List Sec) (A1 : Option Addr) (c1 n1 : Nat) (X1 : List (Int × Int)) (W : World) (ht : TwoAt W W.heap.size) (hr0 : Rd W W.heap.size 2 A0 n0 (Cs encS X0)) (hx0 : X0.length = n0) (hn0 : n0 ≤ c0) (hm0 : c0 ≤ 9223372036854775807)
    (hr1 : Rd W W.heap.size 2 A1 n1 (Cs encS X1)) (hx1 : X1.length = n1) (hn1 : n1 ≤ c1) (hm1 : c1 ≤ 9223372036854775807) :
    Calls Tryd.prog 5 #[.slice A0 n0 c0, .slice A1 n1 c1] W fun e W' => e = .returned (.bool true) ∧ Below W.heap.size W W' := by
  have HW := hide (wakes_any W.heap.size W ht (Nat.le_refl _))
  obtain ⟨l, hl⟩ : ∃ l, X0.take 16 = l := ⟨_, rfl⟩
  have hl16 : l.length ≤ 16 := by rw [← hl, List.length_take]; omega
  have HFW := hide (fun (w : World) (hb : Below W.heap.size W w) => few_any W.heap.size A0 c0 n0 X0 w (hr0.below hb) hx0 (by omega) (by omega) hb.size)
  rw [hl] at HFW
  obtain ⟨p, hp⟩ : ∃ p, min n1 12 = p := ⟨_, rfl⟩
  have hpI : min (n1 : Int) 12 = (p : Int) := by omega
  have hp1 : p ≤ n1 := by omega
  have hp2 : p ≤ 12 := by omega
  have hpc : (p : Int) ≤ (c1 : Int) := by omega
  have hcI : (c1 : Int) ≤ 9223372036854775807 := by omega
  have hnI : (n1 : Int) ≤ 9223372036854775807 := by omega
  obtain ⟨ks, hks⟩ : ∃ ks, X1.take p = ks := ⟨_, rfl⟩
  have hkl : ks.length = p := by rw [← hks, List.length_take, hx1, Nat.min_eq_left hp1]
  have HCL := hide (fun (w : World) (hb : Below W.heap.size W w) => CloneL W.heap.size A1 p c1 (Cs encS ks) w (by rw [← hks]; exact (hr1.below hb).first hx1 hp1) hb.size (Cs_one_cell encS_one _) (by omega))
  clear ht hr0 hx0 hr1 hx1 hl hp hks hn0 hm0
  subst hkl
  go_enter Tryd.func5, Tryd.ntmps5
  go_wp2_with fail
  with_reducible refine HW.out.mono ?_
  rintro e w1 ⟨rfl, hb1⟩
  have HB1 := hide hb1
  clear hb1
  go_wp2_with fail
  with_reducible refine (HFW.out w1 HB1.out).mono ?_
  rintro e w2 ⟨v, rfl, hown, hb2⟩
  have HB2 := hide (HB1.out.trans (hb2.mono HB1.out.size))
  obtain ⟨Al, cl, rfl, _⟩ := own_form hown
  have HL2 := hide (Rd.of_own hown)
  obtain ⟨m, hm⟩ : ∃ m, l.length = m := ⟨_, rfl⟩
  have HM := hide hm
  rw [hm] at HL2 hl16 ⊢
  clear hb2 hown hm
  go_wp2_with fail
  with_reducible refine (HCL.out w2 HB2.out).mono ?_
  rintro e w3 ⟨v, rfl, hown, hb3⟩
  have HB3 := hide (HB2.out.trans (hb3.mono HB2.out.size))
  have HBL3 := hide hb3
  obtain ⟨Ak, ck, rfl, _⟩ := own_form hown
  have HK3 := hide (Rd.of_own hown)
  clear hb3 hown
  obtain ⟨r, hr⟩ : ∃ r, chk 0 l = r := ⟨_, rfl⟩
  have HRR := hide hr
  go_wp2_with fail
  with_reducible refine (right_any w2.heap.size Al cl m l w3 (HL2.out.below HBL3.out) HM.out HBL3.out.size (by omega) r hr).mono ?_
  rintro e w4 ⟨rfl, hb4⟩
  have HBL4 := hide (HBL3.out.trans (hb4.mono HBL3.out.size))
  have HB4 := hide (HB3.out.trans (hb4.mono HB3.out.size))
  have HK4 := hide ((HK3.out.below hb4).more hb4.size)
  clear hb4 hr
  obtain ⟨xs, er, hv⟩ : ∃ xs er, readsV l ks = (xs, er) := ⟨_, _, rfl⟩
  have HV := hide hv
  go_wp2_with fail
  with_reducible refine (reads_any w2.heap.size w4.heap.size Al Ak cl ck m l ks w4 (HL2.out.below HBL4.out) HM.out HBL4.out.size (by omega) HK4.out (Nat.le_refl _) (by omega) xs er hv).mono ?_
  rintro e w5 ⟨vg, rfl, hog, hb5⟩
  have HBL5 := hide (HBL4.out.trans (hb5.mono HBL4.out.size))
  have HB5 := hide (HB4.out.trans (hb5.mono HB4.out.size))
  have HK5 := hide ((HK4.out.below hb5).more hb5.size)
  obtain ⟨Ag, cg, rfl, _⟩ := own_form hog
  have HG5 := hide (Rd.of_own hog)
  have hs25 := HBL5.out.size
  clear hb5 hog hv
  have HLW := hide (fun (w : World) (hb : Below w5.heap.size w5 w) => HL2.out.below (HBL5.out.trans (hb.mono hs25)))
  have HCLR := hide (fun (w : World) (hb : Below w5.heap.size w5 w) (x y : Int) (q : Bool) (hq : clearB l x y = q) => clear_any w2.heap.size Al cl m l x y w (HLW.out w hb) HM.out (Nat.le_trans hs25 hb.size) (by omega) q hq)
  have HRCL := hide (fun (w : World) (hb : Below w5.heap.size w5 w) (x y : Int) (q : Bool) (hq : (!(redg l x y).any (opn l)) = q) => rclear_any w2.heap.size Al cl m l x y w (HLW.out w hb) HM.out (Nat.le_trans hs25 hb.size) (by omega) q hq)
  have HRCN := hide (fun (w : World) (hb : Below w5.heap.size w5 w) (x : Int) (q : Int) (hq : (cnt l x : Int) = q) => rcount_any w2.heap.size Al cl m l x w (HLW.out w hb) HM.out (Nat.le_trans hs25 hb.size) (by omega) q hq)
  go_wp2_with fail
  go_loopw [9, 10, 36] (fun u nv i wz => RdsR w5.heap.size l ks u nv i w5 wz) (fun _ _ i _ => ks.length - (intOf i).toNat)
  case atStart => exact ⟨0, _, rfl, Nat.zero_le _, rfl, rfl, World.ownsRow_nil _ _ _ _, Below.refl _ _⟩
  case round =>
    obtain ⟨j, u, rfl, hj, rfl, rfl, hown, hbw⟩ := hrel
    have HO := hide hown
    have HBW := hide hbw
    have hsw := hbw.size
    clear hown hbw
    by_cases hlt : j < ks.length
    · obtain ⟨b, o, rfl, hb, d0, d1⟩ := (HK5.out.below HBW.out).sec hlt
      have hbl : b < wr.heap.size := by omega
      have hji : (j : Int) < (ks.length : Int) := by omega
      have HTK := hide (show ks.take (j + 1) = ks.take j ++ [ks[j]] from List.take_succ_eq_append_getElem hlt)
      have hll : ((ks.take j).map (goodR l)).length ≤ 12 := by rw [List.length_map, List.length_take]; omega
      obtain ⟨nv, hnv⟩ : ∃ nv, noV (ks.take j) = nv := ⟨_, rfl⟩
      have HNV := hide (noV_snoc (ks.take j) ks[j])
      rw [hnv] at HNV ⊢
      have HBN := hide (show Below w5.heap.size w5 (wr.alloc (.cells #[.int .i64 ks[j].1, .int .i64 ks[j].2] 23)) from HBW.out.trans ((Below.refl _ _).alloc hsw _))
      have HRX := hide (RowAt.new wr 23 #[.int .i64 ks[j].1, .int .i64 ks[j].2])
      have HO1 := hide (own_keepB HO.out ((Below.refl _ _).alloc (Nat.le_refl _) (.cells #[.int .i64 ks[j].1, .int .i64 ks[j].2] 23)))
      generalize ks[j] = k at *
      obtain ⟨k1, k2⟩ := k
      dsimp only at d0 d1 HNV HBN HRX HO1
      rw [← HTK.out] at HNV
      have HMP := hide (show (ks.take (j + 1)).map (goodR l) = (ks.take j).map (goodR l) ++ [goodR l (k1, k2)] from by rw [HTK.out, List.map_append]; rfl)
      obtain ⟨x1, hx1⟩ : ∃ x1 : Int, (cnt l k1 : Int) = x1 := ⟨_, rfl⟩
      obtain ⟨x2, hx2⟩ : ∃ x2 : Int, (cnt l k2 : Int) = x2 := ⟨_, rfl⟩
      have HGR := hide (show goodR l (k1, k2) = ((x1 % 2 == 0) && (x1 == x2)) from by unfold goodR; rw [hx1, hx2])
      have hx0 : 0 ≤ x1 := by omega
      have HC1 := hide (fun w hb => HRCN.out w hb k1 x1 hx1)
      have HC2 := hide (fun w hb => HRCN.out w hb k2 x2 hx2)
      have HLK := hide (fun w => rlook_any k1 k2 w)
      obtain ⟨is, his⟩ : ∃ is, lookB k1 k2 = is := ⟨_, rfl⟩
      have HIS := hide his
      rw [his] at HLK HNV
      obtain ⟨cb, hcb⟩ : ∃ cb, clearB l k1 k2 = cb := ⟨_, rfl⟩
      have HCB := hide hcb
      clear hnv hb hx1 hx2 his hcb
      go_wp2_with fail
      generalize wr.alloc (.cells #[.int .i64 k1, .int .i64 k2] 23) = w6 at *
      have e0 := row20 HRX.out
      have e1 := row21 HRX.out
      have el := HRX.out.lt
      cases is
      · cases r
        · skip
          have hcb2 : cb = false := by rw [← HCB.out]; unfold clearB; rw [HRR.out]; rfl
          subst hcb2

          with_reducible refine (HLK.out w6).mono ?_
          rintro e w7 ⟨rfl, rfl⟩
          go_wp2_with fail
          with_reducible refine (HCLR.out w6 HBN.out k1 k2 false HCB.out).mono ?_
          rintro e w7 ⟨rfl, hb7⟩
          have HX7 := hide (HBN.out.trans (hb7.mono HBN.out.size))
          have HR7 := hide (HRX.out.below hb7)
          have HO7 := hide (own_keepB HO1.out hb7)
          clear hb7 e0 e1 el
          have e0 := row20 HR7.out
          have e1 := row21 HR7.out
          have el := HR7.out.lt
          go_wp2_with fail

          have HVX := hide (fun z => HX7.out.trans ((via_below w7 z).mono HX7.out.size))
          refine wp_region_via (by kernel_rfl) (by kernel_rfl) ?_
          repeat (go_big_quiet_step (first | (go_at_call 19; first | with_reducible exact via_of (HC1.out _ (HVX.out _)) | with_reducible exact via_of (HC2.out _ (HVX.out _)))))
          refine via_out fun w8 hb8 => ?_
          have HX8 := hide (HX7.out.trans (hb8.mono HX7.out.size))
          have HO8 := hide (own_keepB HO7.out hb8)
          have hs8 := HX8.out.size
          clear hb8 e0 e1 el
          by_cases hp : x1 % 2 = 0
          · have hpb : (x1 % 2 == 0) = true := by simp [hp]
            obtain ⟨eq, heq⟩ : ∃ eq, (x1 == x2) = eq := ⟨_, rfl⟩
            have HGE := hide (show goodR l (k1, k2) = eq from by rw [HGR.out, hpb, heq]; rfl)
            have HRD := hide (Rd.new w8 #[.bool eq] 4 1 1 rfl)
            clear hp
            go_wp2_with (at_builtin; refine wpList_app elB rfl _ _ rfl rfl (HO8.out.alloc _) rfl HRD.out (by simp [Value.oneCell']) (by omega) (by simp; omega) ?_; intro v9 w9 hown9 hb9 _ _; have HB9 := hide (((Below.refl w5.heap.size w8).alloc hs8 (.cells #[.bool eq] 4)).trans hb9); have HO9 := hide hown9; clear hown9 hb9)
            go_roundw
            case rel => exact ⟨j + 1, _, rfl, by omega, by go_num, by rw [HNV.out]; rfl, by rw [HMP.out, HGE.out, Cs_append, List.length_append]; exact HO9.out, HX8.out.trans HB9.out⟩
            case measure => simp [intOf]; omega
          · have hpb : (x1 % 2 == 0) = false := by simp [hp]
            have HGE := hide (show goodR l (k1, k2) = false from by rw [HGR.out, hpb]; rfl)
            have HRD := hide (Rd.new w8 #[.bool false] 4 1 1 rfl)
            clear hp
            go_wp2_with (at_builtin; refine wpList_app elB rfl _ _ rfl rfl (HO8.out.alloc _) rfl HRD.out (by simp [Value.oneCell']) (by omega) (by simp; omega) ?_; intro v9 w9 hown9 hb9 _ _; have HB9 := hide (((Below.refl w5.heap.size w8).alloc hs8 (.cells #[.bool false] 4)).trans hb9); have HO9 := hide hown9; clear hown9 hb9)
            go_roundw
            case rel => exact ⟨j + 1, _, rfl, by omega, by go_num, by rw [HNV.out]; rfl, by rw [HMP.out, HGE.out, Cs_append, List.length_append]; exact HO9.out, HX8.out.trans HB9.out⟩
            case measure => simp [intOf]; omega
        · skip
          have hcb2 : cb = false := by rw [← HCB.out]; unfold clearB; rw [HIS.out, HRR.out]; rfl
          subst hcb2

          with_reducible refine (HLK.out w6).mono ?_
          rintro e w7 ⟨rfl, rfl⟩
          go_wp2_with fail
          with_reducible refine (HCLR.out w6 HBN.out k1 k2 false HCB.out).mono ?_
          rintro e w7 ⟨rfl, hb7⟩
          have HX7 := hide (HBN.out.trans (hb7.mono HBN.out.size))
          have HR7 := hide (HRX.out.below hb7)
          have HO7 := hide (own_keepB HO1.out hb7)
          clear hb7 e0 e1 el
          have e0 := row20 HR7.out
          have e1 := row21 HR7.out
          have el := HR7.out.lt
          go_wp2_with fail

          have HVX := hide (fun z => HX7.out.trans ((via_below w7 z).mono HX7.out.size))
          refine wp_region_via (by kernel_rfl) (by kernel_rfl) ?_
          repeat (go_big_quiet_step (first | (go_at_call 19; first | with_reducible exact via_of (HC1.out _ (HVX.out _)) | with_reducible exact via_of (HC2.out _ (HVX.out _)))))
          refine via_out fun w8 hb8 => ?_
          have HX8 := hide (HX7.out.trans (hb8.mono HX7.out.size))
          have HO8 := hide (own_keepB HO7.out hb8)
          have hs8 := HX8.out.size
          clear hb8 e0 e1 el
          by_cases hp : x1 % 2 = 0
          · have hpb : (x1 % 2 == 0) = true := by simp [hp]
            obtain ⟨eq, heq⟩ : ∃ eq, (x1 == x2) = eq := ⟨_, rfl⟩
            have HGE := hide (show goodR l (k1, k2) = eq from by rw [HGR.out, hpb, heq]; rfl)
            have HRD := hide (Rd.new w8 #[.bool eq] 4 1 1 rfl)
            clear hp
            go_wp2_with (at_builtin; refine wpList_app elB rfl _ _ rfl rfl (HO8.out.alloc _) rfl HRD.out (by simp [Value.oneCell']) (by omega) (by simp; omega) ?_; intro v9 w9 hown9 hb9 _ _; have HB9 := hide (((Below.refl w5.heap.size w8).alloc hs8 (.cells #[.bool eq] 4)).trans hb9); have HO9 := hide hown9; clear hown9 hb9)
            go_roundw
            case rel => exact ⟨j + 1, _, rfl, by omega, by go_num, by rw [HNV.out]; rfl, by rw [HMP.out, HGE.out, Cs_append, List.length_append]; exact HO9.out, HX8.out.trans HB9.out⟩
            case measure => simp [intOf]; omega
          · have hpb : (x1 % 2 == 0) = false := by simp [hp]
            have HGE := hide (show goodR l (k1, k2) = false from by rw [HGR.out, hpb]; rfl)
            have HRD := hide (Rd.new w8 #[.bool false] 4 1 1 rfl)
            clear hp
            go_wp2_with (at_builtin; refine wpList_app elB rfl _ _ rfl rfl (HO8.out.alloc _) rfl HRD.out (by simp [Value.oneCell']) (by omega) (by simp; omega) ?_; intro v9 w9 hown9 hb9 _ _; have HB9 := hide (((Below.refl w5.heap.size w8).alloc hs8 (.cells #[.bool false] 4)).trans hb9); have HO9 := hide hown9; clear hown9 hb9)
            go_roundw
            case rel => exact ⟨j + 1, _, rfl, by omega, by go_num, by rw [HNV.out]; rfl, by rw [HMP.out, HGE.out, Cs_append, List.length_append]; exact HO9.out, HX8.out.trans HB9.out⟩
            case measure => simp [intOf]; omega
      · cases r
        · skip
          have hcb2 : cb = false := by rw [← HCB.out]; unfold clearB; rw [HRR.out]; rfl
          subst hcb2

          with_reducible refine (HLK.out w6).mono ?_
          rintro e w7 ⟨rfl, rfl⟩
          go_wp2_with fail
          with_reducible refine (HCLR.out w6 HBN.out k1 k2 false HCB.out).mono ?_
          rintro e w7 ⟨rfl, hb7⟩
          have HX7 := hide (HBN.out.trans (hb7.mono HBN.out.size))
          have HR7 := hide (HRX.out.below hb7)
          have HO7 := hide (own_keepB HO1.out hb7)
          clear hb7 e0 e1 el
          have e0 := row20 HR7.out
          have e1 := row21 HR7.out
          have el := HR7.out.lt
          go_wp2_with fail

          have HVX := hide (fun z => HX7.out.trans ((via_below w7 z).mono HX7.out.size))
          refine wp_region_via (by kernel_rfl) (by kernel_rfl) ?_
          repeat (go_big_quiet_step (first | (go_at_call 19; first | with_reducible exact via_of (HC1.out _ (HVX.out _)) | with_reducible exact via_of (HC2.out _ (HVX.out _)))))
          refine via_out fun w8 hb8 => ?_
          have HX8 := hide (HX7.out.trans (hb8.mono HX7.out.size))
          have HO8 := hide (own_keepB HO7.out hb8)
          have hs8 := HX8.out.size
          clear hb8 e0 e1 el
          by_cases hp : x1 % 2 = 0
          · have hpb : (x1 % 2 == 0) = true := by simp [hp]
            obtain ⟨eq, heq⟩ : ∃ eq, (x1 == x2) = eq := ⟨_, rfl⟩
            have HGE := hide (show goodR l (k1, k2) = eq from by rw [HGR.out, hpb, heq]; rfl)
            have HRD := hide (Rd.new w8 #[.bool eq] 4 1 1 rfl)
            clear hp
            go_wp2_with (at_builtin; refine wpList_app elB rfl _ _ rfl rfl (HO8.out.alloc _) rfl HRD.out (by simp [Value.oneCell']) (by omega) (by simp; omega) ?_; intro v9 w9 hown9 hb9 _ _; have HB9 := hide (((Below.refl w5.heap.size w8).alloc hs8 (.cells #[.bool eq] 4)).trans hb9); have HO9 := hide hown9; clear hown9 hb9)
            go_roundw
            case rel => exact ⟨j + 1, _, rfl, by omega, by go_num, by rw [HNV.out]; rfl, by rw [HMP.out, HGE.out, Cs_append, List.length_append]; exact HO9.out, HX8.out.trans HB9.out⟩
            case measure => simp [intOf]; omega
          · have hpb : (x1 % 2 == 0) = false := by simp [hp]
            have HGE := hide (show goodR l (k1, k2) = false from by rw [HGR.out, hpb]; rfl)
            have HRD := hide (Rd.new w8 #[.bool false] 4 1 1 rfl)
            clear hp
            go_wp2_with (at_builtin; refine wpList_app elB rfl _ _ rfl rfl (HO8.out.alloc _) rfl HRD.out (by simp [Value.oneCell']) (by omega) (by simp; omega) ?_; intro v9 w9 hown9 hb9 _ _; have HB9 := hide (((Below.refl w5.heap.size w8).alloc hs8 (.cells #[.bool false] 4)).trans hb9); have HO9 := hide hown9; clear hown9 hb9)
            go_roundw
            case rel => exact ⟨j + 1, _, rfl, by omega, by go_num, by rw [HNV.out]; rfl, by rw [HMP.out, HGE.out, Cs_append, List.length_append]; exact HO9.out, HX8.out.trans HB9.out⟩
            case measure => simp [intOf]; omega
        · skip
          have HQ := hide (show (!(redg l k1 k2).any (opn l)) = cb from by
            have h1 := lookB_out HIS.out
            rw [← HCB.out, clearB_clr HRR.out HIS.out, redg_clr HRR.out h1.1 h1.2.2.2.2, Bool.not_not])

          with_reducible refine (HLK.out w6).mono ?_
          rintro e w7 ⟨rfl, rfl⟩
          go_wp2_with fail
          with_reducible refine (HCLR.out w6 HBN.out k1 k2 cb HCB.out).mono ?_
          rintro e w7 ⟨rfl, hb7⟩
          have HX7 := hide (HBN.out.trans (hb7.mono HBN.out.size))
          have HR7 := hide (HRX.out.below hb7)
          have HO7 := hide (own_keepB HO1.out hb7)
          clear hb7 e0 e1 el
          have e0 := row20 HR7.out
          have e1 := row21 HR7.out
          have el := HR7.out.lt
          go_wp2_with fail
          with_reducible refine (HRCL.out w7 HX7.out k1 k2 cb HQ.out).mono ?_
          rintro e w10 ⟨rfl, hb10⟩
          replace HX7 := hide (HX7.out.trans (hb10.mono HX7.out.size))
          replace HR7 := hide (HR7.out.below hb10)
          replace HO7 := hide (own_keepB HO7.out hb10)
          clear hb10 e0 e1 el
          have e0 := row20 HR7.out
          have e1 := row21 HR7.out
          have el := HR7.out.lt
          cases cb <;>
          · go_wp2_with fail
            have HVX := hide (fun z => HX7.out.trans ((via_below w10 z).mono HX7.out.size))
            refine wp_region_via (by kernel_rfl) (by kernel_rfl) ?_
            repeat (go_big_quiet_step (first | (go_at_call 19; first | with_reducible exact via_of (HC1.out _ (HVX.out _)) | with_reducible exact via_of (HC2.out _ (HVX.out _)))))
            refine via_out fun w8 hb8 => ?_
            have HX8 := hide (HX7.out.trans (hb8.mono HX7.out.size))
            have HO8 := hide (own_keepB HO7.out hb8)
            have hs8 := HX8.out.size
            clear hb8 e0 e1 el
            by_cases hp : x1 % 2 = 0
            · have hpb : (x1 % 2 == 0) = true := by simp [hp]
              obtain ⟨eq, heq⟩ : ∃ eq, (x1 == x2) = eq := ⟨_, rfl⟩
              have HGE := hide (show goodR l (k1, k2) = eq from by rw [HGR.out, hpb, heq]; rfl)
              have HRD := hide (Rd.new w8 #[.bool eq] 4 1 1 rfl)
              clear hp
              go_wp2_with (at_builtin; refine wpList_app elB rfl _ _ rfl rfl (HO8.out.alloc _) rfl HRD.out (by simp [Value.oneCell']) (by omega) (by simp; omega) ?_; intro v9 w9 hown9 hb9 _ _; have HB9 := hide (((Below.refl w5.heap.size w8).alloc hs8 (.cells #[.bool eq] 4)).trans hb9); have HO9 := hide hown9; clear hown9 hb9)
              go_roundw
              case rel => exact ⟨j + 1, _, rfl, by omega, by go_num, by rw [HNV.out]; rfl, by rw [HMP.out, HGE.out, Cs_append, List.length_append]; exact HO9.out, HX8.out.trans HB9.out⟩
              case measure => simp [intOf]; omega
            · have hpb : (x1 % 2 == 0) = false := by simp [hp]
              have HGE := hide (show goodR l (k1, k2) = false from by rw [HGR.out, hpb]; rfl)
              have HRD := hide (Rd.new w8 #[.bool false] 4 1 1 rfl)
              clear hp
              go_wp2_with (at_builtin; refine wpList_app elB rfl _ _ rfl rfl (HO8.out.alloc _) rfl HRD.out (by simp [Value.oneCell']) (by omega) (by simp; omega) ?_; intro v9 w9 hown9 hb9 _ _; have HB9 := hide (((Below.refl w5.heap.size w8).alloc hs8 (.cells #[.bool false] 4)).trans hb9); have HO9 := hide hown9; clear hown9 hb9)
              go_roundw
              case rel => exact ⟨j + 1, _, rfl, by omega, by go_num, by rw [HNV.out]; rfl, by rw [HMP.out, HGE.out, Cs_append, List.length_append]; exact HO9.out, HX8.out.trans HB9.out⟩
              case measure => simp [intOf]; omega
    · obtain rfl : j = ks.length := by omega
      have hv := HV.out
      unfold readsV at hv
      rw [HRR.out] at hv
      rw [List.take_length] at HO ⊢
      obtain ⟨nv, hnv⟩ : ∃ nv, noV ks = nv := ⟨_, rfl⟩
      have HNV := hide hnv
      rw [hnv]
      clear hnv
      cases r
      · have hv : ([], 160) = (xs, er) := hv
        injection hv with e1 e2
        subst e1
        subst e2
        have HEB := hide (show Calls Tryd.prog 25 #[.slice Ag 0 cg, .slice none 0 0] wr _ from EqualB w5.heap.size 0 Ag none cg 0 [] [] wr (HG5.out.below HBW.out) Rd.none_ hsw (Nat.zero_le _) (by simp) (by simp) true (by simp))
        dsimp only [List.length_nil]
        go_wp2_with fail
        with_reducible refine HEB.out.mono ?_

        rintro e w6 ⟨rfl, hb6⟩
        have HB6 := hide (HB5.out.trans ((HBW.out.trans (hb6.mono hsw)).mono HB5.out.size))
        have HLZ := hide (HLW.out w6 (HBW.out.trans (hb6.mono hsw)))
        have hs26 : w2.heap.size ≤ w6.heap.size := by have := hb6.size; omega
        clear hb6
        go_wp2_with fail
        with_reducible refine (HFW.out w6 HB6.out).mono ?_
        rintro e w7 ⟨v7, rfl, hown7, hb7⟩
        have HB7 := hide (HB6.out.trans (hb7.mono HB6.out.size))
        obtain ⟨A7, c7, rfl, _⟩ := own_form hown7
        rw [HM.out] at hown7 ⊢
        have HL7 := hide (Rd.of_own hown7)
        have HL27 := hide (HLZ.out.below (hb7.mono hs26))
        have hs27 : w2.heap.size ≤ w7.heap.size := Nat.le_trans hs26 hb7.size
        clear hb7 hown7
        go_wp2_with fail
        have HEQ := hide (EqualS w2.heap.size w7.heap.size Al A7 cl c7 l l w7 (by rw [HM.out]; exact HL27.out) (by rw [HM.out]; exact HL7.out) hs27 (Nat.le_refl _) (by rw [HM.out]; omega) (by rw [HM.out]; omega) true (by simp))
        rw [HM.out] at HEQ
        with_reducible refine HEQ.out.mono ?_
        rintro e w8 ⟨rfl, hb8⟩
        have HB8 := hide (HB7.out.trans (hb8.mono HB7.out.size))
        clear hb8
        go_wp2_with fail
        go_ret
        exact ⟨rfl, HB8.out⟩
      · have hv : (if ks.any noneB = true then ([], 2) else (ks.map (goodL l), 0)) = (xs, er) := hv
        cases hany : ks.any noneB with
        | true =>
          rw [hany] at hv
          have hv : ([], 2) = (xs, er) := hv
          have h2 : nv = 2 := by rw [← HNV.out]; unfold noV; rw [hany]; rfl
          subst h2
          injection hv with e1 e2
          subst e1
          subst e2
          have HEB := hide (show Calls Tryd.prog 25 #[.slice Ag 0 cg, .slice none 0 0] wr _ from EqualB w5.heap.size 0 Ag none cg 0 [] [] wr (HG5.out.below HBW.out) Rd.none_ hsw (Nat.zero_le _) (by simp) (by simp) true (by simp))
          dsimp only [List.length_nil]
          go_wp2_with fail
          with_reducible refine HEB.out.mono ?_

          rintro e w6 ⟨rfl, hb6⟩
          have HB6 := hide (HB5.out.trans ((HBW.out.trans (hb6.mono hsw)).mono HB5.out.size))
          have HLZ := hide (HLW.out w6 (HBW.out.trans (hb6.mono hsw)))
          have hs26 : w2.heap.size ≤ w6.heap.size := by have := hb6.size; omega
          clear hb6
          go_wp2_with fail
          with_reducible refine (HFW.out w6 HB6.out).mono ?_
          rintro e w7 ⟨v7, rfl, hown7, hb7⟩
          have HB7 := hide (HB6.out.trans (hb7.mono HB6.out.size))
          obtain ⟨A7, c7, rfl, _⟩ := own_form hown7
          rw [HM.out] at hown7 ⊢
          have HL7 := hide (Rd.of_own hown7)
          have HL27 := hide (HLZ.out.below (hb7.mono hs26))
          have hs27 : w2.heap.size ≤ w7.heap.size := Nat.le_trans hs26 hb7.size
          clear hb7 hown7
          go_wp2_with fail
          have HEQ := hide (EqualS w2.heap.size w7.heap.size Al A7 cl c7 l l w7 (by rw [HM.out]; exact HL27.out) (by rw [HM.out]; exact HL7.out) hs27 (Nat.le_refl _) (by rw [HM.out]; omega) (by rw [HM.out]; omega) true (by simp))
          rw [HM.out] at HEQ
          with_reducible refine HEQ.out.mono ?_
          rintro e w8 ⟨rfl, hb8⟩
          have HB8 := hide (HB7.out.trans (hb8.mono HB7.out.size))
          clear hb8
          go_wp2_with fail
          go_ret
          exact ⟨rfl, HB8.out⟩
        | false =>
          rw [hany] at hv
          have hv : (ks.map (goodL l), 0) = (xs, er) := hv
          have h2 : nv = 0 := by rw [← HNV.out]; unfold noV; rw [hany]; rfl
          subst h2
          injection hv with e1 e2
          subst e1
          subst e2
          rw [goodR_right HRR.out] at HO
          obtain ⟨AW, cW, rfl, _⟩ := own_form HO.out
          have HWR := hide (Rd.of_own HO.out)
          have hlw : (ks.map (goodL l)).length ≤ 4096 := by rw [List.length_map]; omega
          have HEB := hide (EqualB w5.heap.size wr.heap.size Ag AW cg cW (ks.map (goodL l)) (ks.map (goodL l)) wr (HG5.out.below HBW.out) HWR.out hsw (Nat.le_refl _) hlw hlw true (by simp))
          simp only [List.length_map] at HEB
          go_wp2_with fail
          with_reducible refine HEB.out.mono ?_
          rintro e w6 ⟨rfl, hb6⟩
          have HB6 := hide (HB5.out.trans ((HBW.out.trans (hb6.mono hsw)).mono HB5.out.size))
          have HLZ := hide (HLW.out w6 (HBW.out.trans (hb6.mono hsw)))
          have hs26 : w2.heap.size ≤ w6.heap.size := by have := hb6.size; omega
          clear hb6
          go_wp2_with fail
          with_reducible refine (HFW.out w6 HB6.out).mono ?_
          rintro e w7 ⟨v7, rfl, hown7, hb7⟩
          have HB7 := hide (HB6.out.trans (hb7.mono HB6.out.size))
          obtain ⟨A7, c7, rfl, _⟩ := own_form hown7
          rw [HM.out] at hown7 ⊢
          have HL7 := hide (Rd.of_own hown7)
          have HL27 := hide (HLZ.out.below (hb7.mono hs26))
          have hs27 : w2.heap.size ≤ w7.heap.size := Nat.le_trans hs26 hb7.size
          clear hb7 hown7
          go_wp2_with fail
          have HEQ := hide (EqualS w2.heap.size w7.heap.size Al A7 cl c7 l l w7 (by rw [HM.out]; exact HL27.out) (by rw [HM.out]; exact HL7.out) hs27 (Nat.le_refl _) (by rw [HM.out]; omega) (by rw [HM.out]; omega) true (by simp))
          rw [HM.out] at HEQ
          with_reducible refine HEQ.out.mono ?_
          rintro e w8 ⟨rfl, hb8⟩
          have HB8 := hide (HB7.out.trans (hb8.mono HB7.out.size))
          clear hb8
          go_wp2_with fail
          go_ret
          exact ⟨rfl, HB8.out⟩
end Go.Proofs.YtegnppmmcchmgaaDoor
