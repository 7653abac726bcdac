/-
  CellsAdds, walked: it answers true.
-/
import Derived.Test.YtadgihmokmfejaaCeadp
import Derived.Test.YtadgihmokmfejaaCeal
set_option linter.unusedSimpArgs false
set_option linter.unusedVariables false
namespace Go.Proofs.Ytadgihmokmfejaa
open Go Go.RowKit
attribute [local go_sem] via_cell via_frozen

set_option maxRecDepth 100000 in
set_option maxHeartbeats 8000000 in
theorem Adds_walk (A0 : Option Addr) (c0 n0 : Nat) (g1 : Int) (A2 : Option Addr) (c2 n2 : Nat) (X : List Int) (ns : List Int) (W : World)
    (hr0 : Rd W W.heap.size 1 A0 n0 (Cs encW X)) (hr2 : Rd W W.heap.size 1 A2 n2 (Cs encW ns)) (hx0 : X.length = n0) (hx2 : ns.length = n2) (hu0 : ∀ x ∈ X, U64 x) (hu2 : ∀ x ∈ ns, U64 x) (hg1 : I64 g1)
    (hn0 : n0 ≤ c0) (hn2 : n2 ≤ c2) (hm0 : c0 ≤ 9223372036854775807) (hm2 : c2 ≤ 9223372036854775807) :
    Calls Try.prog 4 #[.slice A0 n0 c0, .int .i64 g1, .slice A2 n2 c2] W fun e W' => e = .returned (.bool true) ∧ Below W.heap.size W W' := by
  have HB := hide (Below.refl W.heap.size W)
  obtain ⟨m, hm⟩ : ∃ m, min n0 40 = m := ⟨_, rfl⟩
  have hn2I : (n2 : Int) ≤ 9223372036854775807 := by omega
  have hmb : m ≤ 40 := by omega
  have hX40 : (X.take m).length = m := by rw [List.length_take]; omega
  have HWX := hide (show Ws (X.take m) from fun x hx => hu0 x (List.mem_of_mem_take hx))
  have HUN := hide hu2
  have HN0 := hide hr2
  have HHN := hide hx2
  have HX0 := hide hr0
  have HHX := hide hx0
  have HHM := hide hm
  obtain ⟨X4, hX4⟩ : ∃ x, X.take m = x := ⟨_, rfl⟩
  have HX4 := hide hX4
  rw [hX4] at hX40 HWX
  have HHX40 := hide hX40
  have HG1 := hide hg1
  clear hr0 hr2 hx0 hx2 hX40 hX4 hu0 hu2 hm hg1
  go_enter Try.func4, Try.ntmps4
  go_wp2_with fail
  with_reducible refine (wakes_any _).mono ?_
  rintro e w1 ⟨rfl, hb⟩
  replace HX0 := hide ((HX0.out.below hb).more hb.size)
  replace HN0 := hide ((HN0.out.below hb).more hb.size)
  replace HB := hide (HB.out.trans (hb.mono HB.out.size))
  clear hb
  go_wp2_with fail
  with_reducible refine (few_any A0 c0 n0 X _ HX0.out HHX.out hn0 hm0 m HHM.out).mono ?_
  rintro e w2 ⟨v, rfl, hown, hb⟩
  replace HX0 := hide ((HX0.out.below hb).more hb.size)
  replace HN0 := hide ((HN0.out.below hb).more hb.size)
  replace HB := hide (HB.out.trans (hb.mono HB.out.size))
  clear hb
  rw [HX4.out] at hown
  obtain ⟨Aw, cAw, rfl, hcAw, hcmAw⟩ := own_form2 hown
  have HW := hide (Rd.of_own hown)
  clear hown
  clear HX0
  by_cases hmz : m < 1
  · obtain rfl : m = 0 := by omega
    go_wp2_with fail
    go_ret
    exact ⟨rfl, HB.out⟩
  · have hmI : ((m : Int) == 0) = false := by rw [beq_eq_false_iff_ne]; omega
    have hmI0 : ¬ (m : Int) = 0 := by omega
    have hwg : IntKind.u64.wrap g1 = g1 % 18446744073709551616 := rfl
    have hw0 : 0 ≤ IntKind.u64.wrap g1 := by rw [hwg]; exact Int.emod_nonneg _ (by decide)
    obtain ⟨k, hk⟩ : ∃ k : Nat, (IntKind.u64.wrap g1).tmod (m : Int) = k := ⟨((IntKind.u64.wrap g1).tmod (m : Int)).toNat, by have := Int.tmod_nonneg (m : Int) hw0; omega⟩
    have hkm : k < m := by have h := Int.tmod_lt_of_pos (IntKind.u64.wrap g1) (show (0 : Int) < m by omega); omega
    have hkmI : (k : Int) < (m : Int) := by omega
    have hwk : wrap64 (k : Int) = (k : Int) := IntWalk.wrap64_in _ (by omega)
    clear hwg hw0
    obtain ⟨b1, o1, hA1, hb1, y1⟩ := HW.out.word HHX40.out hkm
    subst hA1
    obtain ⟨y, hy⟩ : ∃ y, ceAt X4 k = y := ⟨_, rfl⟩
    have HYY := hide hy
    rw [hy] at y1
    clear hy
    
    go_wp2_with fail
    clear hk hwk
    go_loopw [8, 9, 10, 49] (fun vT vB vt i wr => ∃ j : Nat, j ≤ n2 ∧ j ≤ 12 ∧ i = .int .i64 j ∧ AdAt w2 k y (ns.take j) vT vB vt wr) (fun _ _ _ i _ => n2 - (intOf i).toNat)
    case atStart => exact ⟨0, Nat.zero_le _, Nat.zero_le _, rfl, none, none, 0, 0, rfl, rfl, rfl, Nat.le_refl _, Nat.le_refl _, by omega, by omega, World.ownsRow_nil _ _ _ _, Rd.none_, (fun p hp => by cases hp), Below.refl _ _⟩
    case round =>
      obtain ⟨j, hj, hj12, rfl, hrel⟩ := hrel
      have HREL := hide hrel
      obtain ⟨At, Ab, ct, cb, rfl, rfl, rfl, hct, hcb, hctm, hcbm, hto, hbr, hne, hbw⟩ := hrel
      have hpl : (ns.take j).length = j := by rw [List.length_take, HHN.out]; omega
      rw [hpl] at hct hcb hto hbr hne
      rw [hpl]
      have HTO := hide hto
      have HBR := hide hbr
      have HNE := hide hne
      have HB1 := hide hbw
      clear hto hbr hne hbw
      by_cases hlt : j < n2
      · obtain ⟨b, o, hAl, hb, d0⟩ := ((HN0.out.below HB1.out).word HHN.out hlt)
        subst hAl
        have hjn : (j : Int) < (n2 : Int) := by omega
        have hbl : b < wr.heap.size := Nat.lt_of_lt_of_le hb HB1.out.size
        obtain ⟨nn, hnn⟩ : ∃ x, ceAt ns j = x := ⟨_, rfl⟩
        rw [hnn] at d0
        have HNN := hide hnn
        clear hb hnn
        by_cases h12 : j = 12
        · have h12I : ((j : Int) == 12) = true := by rw [h12]; rfl
          clear h12
          go_wp2_with fail
          have HPL := hide hpl
          clear hpl
          have hj12' : j ≤ 12 := by omega
          generalize ns.take j = pre at *
          obtain ⟨T, hT⟩ : ∃ T, addF k 0 pre = T := ⟨_, rfl⟩
          obtain ⟨tt, htt⟩ : ∃ t, tot y pre = t := ⟨_, rfl⟩
          have hTl : T.length = j := by rw [← hT, addF_length, HPL.out]
          have hok := adds_ok (show 1 ≤ m by omega) (show m ≤ 8192 by omega) hkm pre
          rw [hT] at hok
          have hrt : runX X4 T = X4.set k tt := by rw [← hT, ← htt, adds_there X4 k (by rw [HHX40.out]; exact hkm) pre, HYY.out]
          have hrb : runX X4 T.reverse = X4.set k tt := by rw [← hT, ← htt, adds_back X4 k (by rw [HHX40.out]; exact hkm) HWX.out pre, HYY.out]
          rw [hT] at HTO HBR
          rw [htt]
          have HTL := hide hTl
          have HTR := hide (Rd.of_own HTO.out)
          have HTRL := hide (show T.reverse.length = j by rw [List.length_reverse, hTl])
          have HOK := hide hok
          have HRT := hide hrt
          have HRB := hide hrb
          have HTM := hide hT
          have HSL := hide (show (X4.set k tt).length = m by rw [List.length_set, HHX40.out])
          have HSK := hide (show ceAt (X4.set k tt) k = tt from by have h := ceAt_set X4 (k : Int) tt (by omega) (by have := HHX40.out; omega) (k : Int) (by omega); rw [Int.toNat_natCast, if_pos rfl] at h; exact h)
          clear hT htt hTl hok hrt hrb HTO HNE HREL
          with_reducible refine (prun_any (some ⟨b1, o1, none⟩) At cAw m ct j X4 T _ ((HW.out.below HB1.out).more HB1.out.size) HHX40.out (by omega) HTR.out HTL.out (by omega) 0 HOK.out.1).mono ?_
          rintro e w4 ⟨hb, hor⟩
          replace HTR := hide ((HTR.out.below hb).more hb.size)
          replace HBR := hide ((HBR.out.below hb).more hb.size)
          replace HB1 := hide (HB1.out.trans (hb.mono HB1.out.size))
          clear hb
          obtain ⟨ga, va, vm, rfl, hga, hri⟩ := (hor.resolve_left (fun h => h.1 rfl)).2
          rw [HRT.out] at hri
          obtain ⟨Aq1, cq1, rfl, _, _⟩ := own_form2 hri.sn
          obtain ⟨Aq2, cq2, rfl, _, _⟩ := own_form2 hri.mks
          have HR1 := hide (hri.row.rd HSL.out)
          clear hor hri
          go_wp2_with fail
          with_reducible refine (prun_any (some ⟨b1, o1, none⟩) Ab cAw m cb j X4 T.reverse _ ((HW.out.below HB1.out).more HB1.out.size) HHX40.out (by omega) HBR.out HTRL.out (by omega) 0 HOK.out.2).mono ?_
          rintro e w5 ⟨hb, hor⟩
          replace HTR := hide ((HTR.out.below hb).more hb.size)
          replace HBR := hide ((HBR.out.below hb).more hb.size)
          replace HR1 := hide ((HR1.out.below hb).more hb.size)
          replace HB1 := hide (HB1.out.trans (hb.mono HB1.out.size))
          clear hb
          obtain ⟨gb, va, vm, rfl, hgb, hri⟩ := (hor.resolve_left (fun h => h.1 rfl)).2
          rw [HRB.out] at hri
          obtain ⟨Aq3, cq3, rfl, _, _⟩ := own_form2 hri.sn
          obtain ⟨Aq4, cq4, rfl, _, _⟩ := own_form2 hri.mks
          have HR2 := hide (hri.row.rd HSL.out)
          clear hor hri
          clear HBR
          go_wp2_with fail
          with_reducible refine (EqualWn _ _ (some ⟨ga, 0, none⟩) (some ⟨gb, 0, none⟩) m m m m (X4.set k tt) (X4.set k tt) _ HSL.out HSL.out HR1.out HR2.out (Nat.le_refl _) (Nat.le_refl _) (by omega) (by omega) true (by simp)).mono ?_
          rintro e w6 ⟨rfl, hb⟩
          replace HTR := hide ((HTR.out.below hb).more hb.size)
          replace HR1 := hide ((HR1.out.below hb).more hb.size)
          replace HR2 := hide ((HR2.out.below hb).more hb.size)
          replace HB1 := hide (HB1.out.trans (hb.mono HB1.out.size))
          clear hb
          clear HR2
          obtain ⟨b3, o3, hA3, hb3, y3⟩ := HR1.out.word HSL.out hkm
          injection hA3 with hA3
          injection hA3 with e1 e2
          subst e1
          subst e2
          rw [HSK.out] at y3
          simp only [Nat.zero_add] at y3
          have hnt : (tt != tt) = false := by simp
          obtain ⟨q, hq⟩ : ∃ q : Nat, ((k : Int) + 1).tmod (m : Int) = q := ⟨(((k : Int) + 1).tmod (m : Int)).toNat, by have := Int.tmod_nonneg (m : Int) (show (0 : Int) ≤ (k : Int) + 1 by omega); omega⟩
          have hqm : q < m := by have h := Int.tmod_lt_of_pos ((k : Int) + 1) (show (0 : Int) < m by omega); omega
          have HQ := hide hq
          clear hq
          go_wp2_with fail
          clear y3 hb3
          have HOS := hide (World.ownsRow_lit (base := w6.heap.size) (e := 37) (size := 5) w6 #[.int .i64 0, .int .i64 2, .int .i64 k, .int .u64 0, .int .u64 tt] 1 (Nat.le_refl _) (by simp [maxLen]) rfl)
          have HBS := hide (show Below w6.heap.size w6 (w6.alloc (.cells #[.int .i64 0, .int .i64 2, .int .i64 k, .int .u64 0, .int .u64 tt] 37)) from (Below.refl _ _).alloc (Nat.le_refl _) _)
          have HS0 := hide (st_first X4 k tt m HHX40.out hkm (by omega))
          go_loopw [22, 115] (fun v i wz => ∃ t : Nat, t ≤ j ∧ i = .int .i64 t ∧ StAt w6 m k tt X4 t v wz) (fun _ i _ => j - (intOf i).toNat)
          case atStart => exact ⟨0, Nat.zero_le _, rfl, [(0, 2, (k : Int), 0, tt)], some ⟨w6.heap.size, 0, none⟩, 1, rfl, Nat.le_refl _, by omega, HOS.out, Nat.le_refl _, HS0.out.1, HS0.out.2, HBS.out⟩
          case round =>
            obtain ⟨t, ht, rfl, ST, As, cs, rfl, hcs, hcsm, hos, hsl, hsw, hsk, hbs⟩ := hrel
            have HOT := hide hos
            have HSW := hide hsw
            have HSV := hide hsk
            have HBT := hide hbs
            clear hos hsw hsk hbs HOS HBS HS0
            by_cases htl : t < j
            · have htn : (t : Int) < (j : Int) := by omega
              obtain ⟨b5, o5, hA5, hb5, v1, v2, v3, v4, v5, hta, d0, d1, d2, d3, d4⟩ := (HTR.out.below HBT.out).acc HTL.out htl
              subst hA5
              obtain ⟨jv, nv, hjv, hnv, hv⟩ := addF_mem (k := k) (i := 0) (l := pre) (a := (v1, v2, v3, v4, v5)) (by rw [HTM.out]; exact List.mem_of_getElem? hta)
              have hbl := Nat.lt_of_lt_of_le hb5 HBT.out.size
              have hq1 := HQ.out
              have hqw : wrap64 (q : Int) = (q : Int) := IntWalk.wrap64_in _ (by omega)
              obtain ⟨bx, hbx0⟩ : ∃ g, wr.heap.size = g := ⟨_, rfl⟩
              have HBX0 := hide hbx0
              have hbx5 : b5 < bx := by omega
              have RXN := hide (RowAt.new wr 37 #[.int .i64 v1, .int .i64 v2, .int .i64 v3, .int .u64 v4, .int .u64 v5])
              clear hbx0
              by_cases hqk : q = k
              · have hqk1 : ((q : Int) != (k : Int)) = false := by rw [hqk]; simp
                clear hqk
                go_wp2_with fail
                go_roundw
                case rel => exact ⟨t + 1, by omega, by go_num, ST, As, cs, rfl, hcs, hcsm, HOT.out.alloc _, by omega, HSW.out, HSV.out, HBT.out.alloc HBT.out.size _⟩
                case measure => simp [intOf]; omega
              · have hqk1 : ((q : Int) != (k : Int)) = true := bne_iff_ne.2 (fun h => hqk (Int.ofNat.inj h))
                have HQK := hide hqk
                have HV1 := hide (show v1 = (jv : Int) from congrArg Prod.fst hv)
                clear hqk hv
                have HRN := hide (show Rd ((wr.alloc (.cells #[.int .i64 v1, .int .i64 3, .int .i64 q, .int .u64 v4, .int .u64 v5] 37)).alloc (.cells #[.int .i64 v1, .int .i64 3, .int .i64 q, .int .u64 v4, .int .u64 v5] 37)) (wr.heap.size + 1 + 1) 5 (some ⟨wr.heap.size + 1, 0, none⟩) 1 [.int .i64 v1, .int .i64 3, .int .i64 q, .int .u64 v4, .int .u64 v5] from by
                  have h := Rd.new (wr.alloc (.cells #[.int .i64 v1, .int .i64 3, .int .i64 q, .int .u64 v4, .int .u64 v5] 37)) #[.int .i64 v1, .int .i64 3, .int .i64 q, .int .u64 v4, .int .u64 v5] 37 5 1 rfl
                  rw [World.size_alloc] at h
                  exact h)
                go_wp2_with (at_builtin; refine wpList_app elA rfl _ _ rfl rfl ((HOT.out.alloc _).alloc _) rfl HRN.out (by simp [Value.oneCell']) (by omega) (by rw [World.size_alloc, World.size_alloc]; have := HBT.out.size; omega) ?_; intro v2' wA hownA hbA _ _; obtain ⟨AS, cS, rfl, hcS, hcSm⟩ := own_form2 hownA; have HOA := hide hownA; have HBA := hide (((HBT.out.alloc HBT.out.size (.cells #[.int .i64 v1, .int .i64 3, .int .i64 q, .int .u64 v4, .int .u64 v5] 37)).alloc (by rw [World.size_alloc]; have := HBT.out.size; omega) (.cells #[.int .i64 v1, .int .i64 3, .int .i64 q, .int .u64 v4, .int .u64 v5] 37)).trans hbA); clear hownA hbA)
                go_roundw
                case rel => exact ⟨t + 1, by omega, by go_num, StAt.next hsl HSW.out (by rw [HV1.out]; exact why_add (by omega) (by omega) hqm hjv 3 (by omega) (by omega) v4) (by rw [swap_far _ k q v1 v4 v5 (by rw [runX_length, HHX40.out]; exact hqm) HQK.out]; exact HSV.out) hcS hcSm HOA.out HBA.out⟩
                case measure => simp [intOf]; omega
            · obtain ⟨sl, hsl1⟩ : ∃ x, ST.length = x := ⟨_, rfl⟩
              rw [hsl1] at hcs hsl HOT
              rw [hsl1]
              have HLD := hide (show why m (0, 1, (k : Int), 0, 0) = 0 from why_add (j := 0) (by omega) (by omega) hkm (by omega) 1 (by omega) (by omega) 0)
              have HE2 := hide (runE_ok (n := m) (l := ST ++ [(0, 1, (k : Int), 0, 0)]) (by omega) (by omega) (fun a h => by
                rw [List.mem_append] at h
                rcases h with h | h
                · exact HSW.out a h
                · simp at h; subst h; exact HLD.out))
              have HL2 := hide (show (ST ++ [((0 : Int), (1 : Int), (k : Int), (0 : Int), (0 : Int))]).length = sl + 1 by rw [List.length_append, hsl1]; rfl)
              have HG2 := hide (show (runS X4 (ST ++ [(0, 1, (k : Int), 0, 0)]))[sl]? = some (tt, true) from by
                rw [runS_snoc, List.getElem?_append_right (by rw [runS_length, hsl1]; exact Nat.le_refl _), runS_length, hsl1, Nat.sub_self]
                simp [doS, HSV.out])
              have HSL1 := hide hsl1
              clear hsl1
              have HRN := hide (Rd.new wr #[.int .i64 0, .int .i64 1, .int .i64 k, .int .u64 0, .int .u64 0] 37 5 1 rfl)
              go_wp2_with (at_builtin; refine wpList_app elA rfl _ _ rfl rfl (HOT.out.alloc _) rfl HRN.out (by simp [Value.oneCell']) (by omega) (by rw [World.size_alloc]; have := HBT.out.size; omega) ?_; intro v2' wA hownA hbA _ _; obtain ⟨AS, cS, rfl, hcS, hcSm⟩ := own_form2 hownA; have HOA := hide hownA; have HBA := hide ((HBT.out.alloc HBT.out.size (.cells #[.int .i64 0, .int .i64 1, .int .i64 k, .int .u64 0, .int .u64 0] 37)).trans hbA); clear hownA hbA)
              have HBX1 := hide (HB1.out.trans (HBA.out.mono HB1.out.size))
              have HRA2 := hide (show Rd wA wA.heap.size 5 AS (sl + 1) (Cs encA (ST ++ [(0, 1, (k : Int), 0, 0)])) from by rw [Cs_append]; exact Rd.of_own HOA.out)
              with_reducible refine (prun_any (some ⟨b1, o1, none⟩) AS cAw m cS (sl + 1) X4 (ST ++ [(0, 1, (k : Int), 0, 0)]) _ ((HW.out.below HBX1.out).more HBX1.out.size) HHX40.out (by omega) HRA2.out HL2.out (by omega) 0 HE2.out).mono ?_
              rintro e wF ⟨hb, hor⟩
              obtain ⟨gc, va, vm, rfl, hgc, hri⟩ := (hor.resolve_left (fun h => h.1 rfl)).2
              rw [HL2.out] at hri
              obtain ⟨Aq5, cq5, rfl, _, _⟩ := own_form2 hri.sn
              obtain ⟨Aq6, cq6, rfl, _, _⟩ := own_form2 hri.mks
              obtain ⟨b6, o6, hA6, hb6, hslx, y6, y7⟩ := (Rd.of_own hri.sn).seen2 HG2.out (by rw [runS_length, HL2.out])
              subst hA6
              have HBF := hide (HBX1.out.trans (hb.mono HBX1.out.size))
              have hlen : (((sl + 1 : Nat) : Int) == (sl : Int) + 1) = true := by simp
              have htt2 : (tt == tt) = true := by simp
              clear hor hri hb
              go_wp2_with fail
              go_ret
              exact ⟨rfl, HB.out.trans (HBF.out.mono HB.out.size)⟩
        · have h12I : ((j : Int) == 12) = false := by rw [beq_eq_false_iff_ne]; omega
          obtain ⟨jm, hjm⟩ : ∃ x : Int, ((j % 8 : Nat) : Int) = x := ⟨_, rfl⟩
          have hjm1 : (j : Int).tmod 8 = jm := by rw [Int.tmod_eq_emod_of_nonneg (by omega), ← hjm]; rfl
          have hjm2 : (j : Int) % 8 = jm := by rw [← hjm]; rfl
          have hjw : wrap64 jm = jm := IntWalk.wrap64_in _ (by omega)
          have HJM := hide hjm
          clear hjm
          go_wp2_with fail
          clear d0 hbl hjm1 hjm2 hjw
          have HTL := hide (own_ltb HTO.out)
          have HNB := hide (ne_past HTO.out (Nat.le_refl _))
          have HTK := hide (show ns.take (j + 1) = ns.take j ++ [nn] from by rw [List.take_succ_eq_append_getElem (show j < ns.length by rw [HHN.out]; exact hlt)]; congr 1; rw [← HNN.out]; unfold ceAt; rw [Int.toNat_natCast, List.getD_eq_getElem?_getD, List.getElem?_eq_getElem (show j < ns.length by rw [HHN.out]; exact hlt)]; rfl)
          have HPL := hide hpl
          clear hpl
          generalize ns.take j = pre at *
          obtain ⟨b0, hb0⟩ : ∃ g, wr.heap.size = g := ⟨_, rfl⟩
          have hWb0 : w2.heap.size ≤ b0 := by rw [← hb0]; exact HB1.out.size
          rw [hb0] at HTL HNB
          have hbx : Below wr.heap.size wr (wr.alloc (.cells #[.int .i64 jm, .int .i64 4, .int .i64 k, .int .u64 0, .int .u64 nn] 37)) := (Below.refl _ _).alloc (Nat.le_refl _) _
          have hrx := RowAt.new wr 37 #[.int .i64 jm, .int .i64 4, .int .i64 k, .int .u64 0, .int .u64 nn]
          rw [hb0] at hrx
          replace HBR := hide ((HBR.out.below hbx).more hbx.size)
          replace HTO := hide (HTO.out.keepB hbx)
          replace HB1 := hide (HB1.out.trans (hbx.mono HB1.out.size))
          have hs4 : (wr.alloc (.cells #[.int .i64 jm, .int .i64 4, .int .i64 k, .int .u64 0, .int .u64 nn] 37)).heap.size = b0 + 1 := by rw [World.size_alloc, hb0]
          have RA := hide hrx
          clear hbx hrx
          generalize wr.alloc (.cells #[.int .i64 jm, .int .i64 4, .int .i64 k, .int .u64 0, .int .u64 nn] 37) = w5 at *
          (try rw [hb0])
          clear hb0 hs4
          have hsz : b0 < w5.heap.size := RA.out.lt
          have BX0 := hide (show Below w5.heap.size w5 w5.drew from (Below.refl _ _).drew)
          have BX1 := hide (show Below w5.heap.size w5 (w5.drew.alloc (.cells #[.int .i64 jm, .int .i64 4, .int .i64 k, .int .u64 0, .int .u64 nn] 37)) from (Below.refl _ _).drew.alloc (Nat.le_refl _) _)
          have BX2 := hide (show Below w5.heap.size w5 ((w5.drew.alloc (.cells #[.int .i64 jm, .int .i64 4, .int .i64 k, .int .u64 0, .int .u64 nn] 37)).alloc (.cells #[.int .i64 jm, .int .i64 4, .int .i64 k, .int .u64 0, .int .u64 nn] 37)) from ((Below.refl _ _).drew.alloc (Nat.le_refl _) _).alloc (by simp) _)
          have LA1 := hide (Rd.new w5.drew #[.int .i64 jm, .int .i64 4, .int .i64 k, .int .u64 0, .int .u64 nn] 37 5 1 rfl)
          have LA2a := hide (LA1.out.alloc (by rw [World.size_alloc]; exact Nat.le_refl _) (.cells #[.int .i64 jm, .int .i64 4, .int .i64 k, .int .u64 0, .int .u64 nn] 37))
          have LA2b := hide (show Rd ((w5.drew.alloc (.cells #[.int .i64 jm, .int .i64 4, .int .i64 k, .int .u64 0, .int .u64 nn] 37)).alloc (.cells #[.int .i64 jm, .int .i64 4, .int .i64 k, .int .u64 0, .int .u64 nn] 37)) (w5.heap.size + 1 + 1) 5 (some ⟨w5.heap.size + 1, 0, none⟩) 1 [.int .i64 jm, .int .i64 4, .int .i64 k, .int .u64 0, .int .u64 nn] from by
            have h := Rd.new (w5.drew.alloc (.cells #[.int .i64 jm, .int .i64 4, .int .i64 k, .int .u64 0, .int .u64 nn] 37)) #[.int .i64 jm, .int .i64 4, .int .i64 k, .int .u64 0, .int .u64 nn] 37 5 1 rfl
            rw [World.size_alloc, World.size_drew] at h
            exact h)
          have OB2b := hide (show ((w5.drew.alloc (.cells #[.int .i64 jm, .int .i64 4, .int .i64 k, .int .u64 0, .int .u64 nn] 37)).alloc (.cells #[.int .i64 jm, .int .i64 4, .int .i64 k, .int .u64 0, .int .u64 nn] 37)).ownsRow w5.heap.size 37 5 (.slice (some ⟨w5.heap.size, 0, none⟩) 1 1) 1 [.int .i64 jm, .int .i64 4, .int .i64 k, .int .u64 0, .int .u64 nn] from (World.ownsRow_lit (base := w5.heap.size) (e := 37) (size := 5) w5.drew #[.int .i64 jm, .int .i64 4, .int .i64 k, .int .u64 0, .int .u64 nn] 1 (Nat.le_refl _) (by simp [maxLen]) rfl).alloc (.cells #[.int .i64 jm, .int .i64 4, .int .i64 k, .int .u64 0, .int .u64 nn] 37))
          have OB2a := hide (show ((w5.drew.alloc (.cells #[.int .i64 jm, .int .i64 4, .int .i64 k, .int .u64 0, .int .u64 nn] 37)).alloc (.cells #[.int .i64 jm, .int .i64 4, .int .i64 k, .int .u64 0, .int .u64 nn] 37)).ownsRow w5.heap.size 37 5 (.slice (some ⟨w5.heap.size + 1, 0, none⟩) 1 1) 1 [.int .i64 jm, .int .i64 4, .int .i64 k, .int .u64 0, .int .u64 nn] from by
            have h := World.ownsRow_lit (base := w5.heap.size) (e := 37) (size := 5) (w5.drew.alloc (.cells #[.int .i64 jm, .int .i64 4, .int .i64 k, .int .u64 0, .int .u64 nn] 37)) #[.int .i64 jm, .int .i64 4, .int .i64 k, .int .u64 0, .int .u64 nn] 1 (by rw [World.size_alloc, World.size_drew]; omega) (by simp [maxLen]) rfl
            rw [World.size_alloc, World.size_drew] at h
            exact h)
          have R1 := hide (RA.out.below BX1.out)
          have R2 := hide (RA.out.below BX2.out)
          have hS0 : w5.drew.cell? ⟨b0, 0, none⟩ = some (.int .i64 jm) ∧ w5.drew.cell? ⟨b0, 1, none⟩ = some (.int .i64 4) ∧ w5.drew.cell? ⟨b0, 2, none⟩ = some (.int .i64 k) ∧ w5.drew.cell? ⟨b0, 3, none⟩ = some (.int .u64 0) ∧ w5.drew.cell? ⟨b0, 4, none⟩ = some (.int .u64 nn) := ⟨(RA.out.below BX0.out).cell 0, (RA.out.below BX0.out).cell 1, (RA.out.below BX0.out).cell 2, (RA.out.below BX0.out).cell 3, (RA.out.below BX0.out).cell 4⟩
          have hS1 : (w5.drew.alloc (.cells #[.int .i64 jm, .int .i64 4, .int .i64 k, .int .u64 0, .int .u64 nn] 37)).cell? ⟨b0, 0, none⟩ = some (.int .i64 jm) ∧ (w5.drew.alloc (.cells #[.int .i64 jm, .int .i64 4, .int .i64 k, .int .u64 0, .int .u64 nn] 37)).cell? ⟨b0, 1, none⟩ = some (.int .i64 4) ∧ (w5.drew.alloc (.cells #[.int .i64 jm, .int .i64 4, .int .i64 k, .int .u64 0, .int .u64 nn] 37)).cell? ⟨b0, 2, none⟩ = some (.int .i64 k) ∧ (w5.drew.alloc (.cells #[.int .i64 jm, .int .i64 4, .int .i64 k, .int .u64 0, .int .u64 nn] 37)).cell? ⟨b0, 3, none⟩ = some (.int .u64 0) ∧ (w5.drew.alloc (.cells #[.int .i64 jm, .int .i64 4, .int .i64 k, .int .u64 0, .int .u64 nn] 37)).cell? ⟨b0, 4, none⟩ = some (.int .u64 nn) := ⟨R1.out.cell 0, R1.out.cell 1, R1.out.cell 2, R1.out.cell 3, R1.out.cell 4⟩
          have hS2 : ((w5.drew.alloc (.cells #[.int .i64 jm, .int .i64 4, .int .i64 k, .int .u64 0, .int .u64 nn] 37)).alloc (.cells #[.int .i64 jm, .int .i64 4, .int .i64 k, .int .u64 0, .int .u64 nn] 37)).cell? ⟨b0, 0, none⟩ = some (.int .i64 jm) ∧ ((w5.drew.alloc (.cells #[.int .i64 jm, .int .i64 4, .int .i64 k, .int .u64 0, .int .u64 nn] 37)).alloc (.cells #[.int .i64 jm, .int .i64 4, .int .i64 k, .int .u64 0, .int .u64 nn] 37)).cell? ⟨b0, 1, none⟩ = some (.int .i64 4) ∧ ((w5.drew.alloc (.cells #[.int .i64 jm, .int .i64 4, .int .i64 k, .int .u64 0, .int .u64 nn] 37)).alloc (.cells #[.int .i64 jm, .int .i64 4, .int .i64 k, .int .u64 0, .int .u64 nn] 37)).cell? ⟨b0, 2, none⟩ = some (.int .i64 k) ∧ ((w5.drew.alloc (.cells #[.int .i64 jm, .int .i64 4, .int .i64 k, .int .u64 0, .int .u64 nn] 37)).alloc (.cells #[.int .i64 jm, .int .i64 4, .int .i64 k, .int .u64 0, .int .u64 nn] 37)).cell? ⟨b0, 3, none⟩ = some (.int .u64 0) ∧ ((w5.drew.alloc (.cells #[.int .i64 jm, .int .i64 4, .int .i64 k, .int .u64 0, .int .u64 nn] 37)).alloc (.cells #[.int .i64 jm, .int .i64 4, .int .i64 k, .int .u64 0, .int .u64 nn] 37)).cell? ⟨b0, 4, none⟩ = some (.int .u64 nn) := ⟨R2.out.cell 0, R2.out.cell 1, R2.out.cell 2, R2.out.cell 3, R2.out.cell 4⟩
          have hw1z := HB1.out.size
          go_wp2_with fail
          go_region_held3 (fun wX => wX.cell? ⟨b0, 0, none⟩ = some (.int .i64 jm) ∧ wX.cell? ⟨b0, 1, none⟩ = some (.int .i64 4) ∧ wX.cell? ⟨b0, 2, none⟩ = some (.int .i64 k) ∧ wX.cell? ⟨b0, 3, none⟩ = some (.int .u64 0) ∧ wX.cell? ⟨b0, 4, none⟩ = some (.int .u64 nn))
            (first | exact hS0 | exact hS1 | exact hS2 | exact hSB | exact hSA | exact ⟨(HRA2.out.below ((Below.refl _ _).alloc (Nat.le_refl _) (.cells #[.int .i64 jm, .int .i64 4, .int .i64 k, .int .u64 0, .int .u64 nn] 37))).cell 0, (HRA2.out.below ((Below.refl _ _).alloc (Nat.le_refl _) (.cells #[.int .i64 jm, .int .i64 4, .int .i64 k, .int .u64 0, .int .u64 nn] 37))).cell 1, (HRA2.out.below ((Below.refl _ _).alloc (Nat.le_refl _) (.cells #[.int .i64 jm, .int .i64 4, .int .i64 k, .int .u64 0, .int .u64 nn] 37))).cell 2, (HRA2.out.below ((Below.refl _ _).alloc (Nat.le_refl _) (.cells #[.int .i64 jm, .int .i64 4, .int .i64 k, .int .u64 0, .int .u64 nn] 37))).cell 3, (HRA2.out.below ((Below.refl _ _).alloc (Nat.le_refl _) (.cells #[.int .i64 jm, .int .i64 4, .int .i64 k, .int .u64 0, .int .u64 nn] 37))).cell 4⟩ | go_keep)
            (first
              | (rw [if_pos (by rfl)]; refine wp_app elA (v := .slice At j ct) _ _ rfl rfl (HTO.out.keepB BX1.out) rfl LA1.out (by simp [Value.oneCell']) (by omega) (Nat.le_trans hw1z BX1.out.size) ?_; intro vA wA hownA hbA hgA hvA; obtain ⟨AA, cAA, rfl, hcAA, hcAAm⟩ := own_form2 hownA; have HTA := hide hownA; have HVA := hide hvA; have HBR2 := hide (Rd.grown (HBR.out.below BX1.out) BX1.out.size hgA HNE.out); have HRA2 := hide (show RowAt wA b0 37 #[.int .i64 jm, .int .i64 4, .int .i64 k, .int .u64 0, .int .u64 nn] from (hgA.block b0 (Nat.lt_of_lt_of_le hsz BX1.out.size) HNB.out).trans R1.out); have hSA : wA.cell? ⟨b0, 0, none⟩ = some (.int .i64 jm) ∧ wA.cell? ⟨b0, 1, none⟩ = some (.int .i64 4) ∧ wA.cell? ⟨b0, 2, none⟩ = some (.int .i64 k) ∧ wA.cell? ⟨b0, 3, none⟩ = some (.int .u64 0) ∧ wA.cell? ⟨b0, 4, none⟩ = some (.int .u64 nn) := ⟨HRA2.out.cell 0, HRA2.out.cell 1, HRA2.out.cell 2, HRA2.out.cell 3, HRA2.out.cell 4⟩; have hszA := Nat.le_trans BX1.out.size hgA.size; have HB1A := hide ((HB1.out.trans (BX1.out.mono hw1z)).trans hbA); have HCASE := hide (Or.inl True.intro : True ∨ True))
              | (rw [if_pos (by rfl)]; refine wp_app elA (v := .slice At j ct) _ _ rfl rfl (HTO.out.keepB BX2.out) rfl LA2a.out (by simp [Value.oneCell']) (by omega) (Nat.le_trans hw1z BX2.out.size) ?_; intro vA wA hownA hbA hgA hvA; obtain ⟨AA, cAA, rfl, hcAA, hcAAm⟩ := own_form2 hownA; have HTA := hide hownA; have HVA := hide hvA; have HBR2 := hide (Rd.grown (HBR.out.below BX2.out) BX2.out.size hgA HNE.out); have HRA2 := hide (show RowAt wA b0 37 #[.int .i64 jm, .int .i64 4, .int .i64 k, .int .u64 0, .int .u64 nn] from (hgA.block b0 (Nat.lt_of_lt_of_le hsz BX2.out.size) HNB.out).trans R2.out); have hSA : wA.cell? ⟨b0, 0, none⟩ = some (.int .i64 jm) ∧ wA.cell? ⟨b0, 1, none⟩ = some (.int .i64 4) ∧ wA.cell? ⟨b0, 2, none⟩ = some (.int .i64 k) ∧ wA.cell? ⟨b0, 3, none⟩ = some (.int .u64 0) ∧ wA.cell? ⟨b0, 4, none⟩ = some (.int .u64 nn) := ⟨HRA2.out.cell 0, HRA2.out.cell 1, HRA2.out.cell 2, HRA2.out.cell 3, HRA2.out.cell 4⟩; have hszA := Nat.le_trans BX2.out.size hgA.size; have HB1A := hide ((HB1.out.trans (BX2.out.mono hw1z)).trans hbA); have HLBa := hide (own_ne2 OB2a.out hgA (fun g hg he => by simp only [Value.ownBlock, Option.some.injEq] at hg; subst hg; have h := HTL.out _ he.symm; omega)))
              | (rw [if_pos (by rfl)]; refine wp_app elA (v := .slice At j ct) _ _ rfl rfl (HTO.out.keepB BX2.out) rfl LA2b.out (by simp [Value.oneCell']) (by omega) (Nat.le_trans hw1z BX2.out.size) ?_; intro vA wA hownA hbA hgA hvA; obtain ⟨AA, cAA, rfl, hcAA, hcAAm⟩ := own_form2 hownA; have HTA := hide hownA; have HVA := hide hvA; have HBR2 := hide (Rd.grown (HBR.out.below BX2.out) BX2.out.size hgA HNE.out); have HRA2 := hide (show RowAt wA b0 37 #[.int .i64 jm, .int .i64 4, .int .i64 k, .int .u64 0, .int .u64 nn] from (hgA.block b0 (Nat.lt_of_lt_of_le hsz BX2.out.size) HNB.out).trans R2.out); have hSA : wA.cell? ⟨b0, 0, none⟩ = some (.int .i64 jm) ∧ wA.cell? ⟨b0, 1, none⟩ = some (.int .i64 4) ∧ wA.cell? ⟨b0, 2, none⟩ = some (.int .i64 k) ∧ wA.cell? ⟨b0, 3, none⟩ = some (.int .u64 0) ∧ wA.cell? ⟨b0, 4, none⟩ = some (.int .u64 nn) := ⟨HRA2.out.cell 0, HRA2.out.cell 1, HRA2.out.cell 2, HRA2.out.cell 3, HRA2.out.cell 4⟩; have hszA := Nat.le_trans BX2.out.size hgA.size; have HB1A := hide ((HB1.out.trans (BX2.out.mono hw1z)).trans hbA); have HLBb := hide (own_ne2 OB2b.out hgA (fun g hg he => by simp only [Value.ownBlock, Option.some.injEq] at hg; subst hg; have h := HTL.out _ he.symm; omega)))
              | (rw [if_pos (by rfl)]; refine wp_app elA (v := .slice (some ⟨w5.heap.size + 1, 0, none⟩) 1 1) _ _ rfl rfl HLBa.out rfl HBR2.out (Cs_one_cell encA_one _) (by omega) hszA ?_; intro vB wB hownB hbB hgB hvB; obtain ⟨AB, cBB, rfl, hcBB, hcBBm⟩ := own_form2 hownB; have hRB : RowAt wB b0 37 #[.int .i64 jm, .int .i64 4, .int .i64 k, .int .u64 0, .int .u64 nn] := (hgB.block b0 (by omega) (by simp [Value.ownBlock]; omega)).trans HRA2.out; have hSB : wB.cell? ⟨b0, 0, none⟩ = some (.int .i64 jm) ∧ wB.cell? ⟨b0, 1, none⟩ = some (.int .i64 4) ∧ wB.cell? ⟨b0, 2, none⟩ = some (.int .i64 k) ∧ wB.cell? ⟨b0, 3, none⟩ = some (.int .u64 0) ∧ wB.cell? ⟨b0, 4, none⟩ = some (.int .u64 nn) := ⟨hRB.cell 0, hRB.cell 1, hRB.cell 2, hRB.cell 3, hRB.cell 4⟩; have HTF := hide (own_ne2 (HTA.out) hgB (fun g hg he => by rcases HVA.out with h5 | h5 <;> (simp [Value.ownBlock] at he; rw [h5] at hg; first | (have h := HTL.out g hg; omega) | (simp at hg; omega)))); have HBF := hide (Rd.of_own hownB); have HNF := hide (show ∀ p, AB = some p → some p.block ≠ (Value.slice AA (j + 1) cAA).ownBlock from fun p hp he => by have h := own_ltb HTA.out _ he.symm; rcases hvB with h5 | h5 <;> (subst hp; simp [Value.ownBlock] at h5; first | omega | (rcases HVA.out with h6 | h6 <;> (rw [h6] at he; first | (have h7 := HTL.out _ he.symm; omega) | (simp at he; omega))))); have HBW2 := hide (HB1A.out.trans (hbB.mono (by omega))))
              | (rw [if_pos (by rfl)]; refine wp_app elA (v := .slice (some ⟨w5.heap.size, 0, none⟩) 1 1) _ _ rfl rfl HLBb.out rfl HBR2.out (Cs_one_cell encA_one _) (by omega) hszA ?_; intro vB wB hownB hbB hgB hvB; obtain ⟨AB, cBB, rfl, hcBB, hcBBm⟩ := own_form2 hownB; have hRB : RowAt wB b0 37 #[.int .i64 jm, .int .i64 4, .int .i64 k, .int .u64 0, .int .u64 nn] := (hgB.block b0 (by omega) (by simp [Value.ownBlock]; omega)).trans HRA2.out; have hSB : wB.cell? ⟨b0, 0, none⟩ = some (.int .i64 jm) ∧ wB.cell? ⟨b0, 1, none⟩ = some (.int .i64 4) ∧ wB.cell? ⟨b0, 2, none⟩ = some (.int .i64 k) ∧ wB.cell? ⟨b0, 3, none⟩ = some (.int .u64 0) ∧ wB.cell? ⟨b0, 4, none⟩ = some (.int .u64 nn) := ⟨hRB.cell 0, hRB.cell 1, hRB.cell 2, hRB.cell 3, hRB.cell 4⟩; have HTF := hide (own_ne2 (HTA.out) hgB (fun g hg he => by rcases HVA.out with h5 | h5 <;> (simp [Value.ownBlock] at he; rw [h5] at hg; first | (have h := HTL.out g hg; omega) | (simp at hg; omega)))); have HBF := hide (Rd.of_own hownB); have HNF := hide (show ∀ p, AB = some p → some p.block ≠ (Value.slice AA (j + 1) cAA).ownBlock from fun p hp he => by have h := own_ltb HTA.out _ he.symm; rcases hvB with h5 | h5 <;> (subst hp; simp [Value.ownBlock] at h5; first | omega | (rcases HVA.out with h6 | h6 <;> (rw [h6] at he; first | (have h7 := HTL.out _ he.symm; omega) | (simp at he; omega))))); have HBW2 := hide (HB1A.out.trans (hbB.mono (by omega))))
              | (rw [if_pos (by rfl)]; refine wp_app elA (v := .slice (some ⟨wA.heap.size, 0, none⟩) 1 1) _ _ rfl rfl (World.ownsRow_lit (base := w5.heap.size) (e := 37) (size := 5) wA #[.int .i64 jm, .int .i64 4, .int .i64 k, .int .u64 0, .int .u64 nn] 1 hszA (by simp [maxLen]) rfl) rfl (HBR2.out.alloc hszA (.cells #[.int .i64 jm, .int .i64 4, .int .i64 k, .int .u64 0, .int .u64 nn] 37)) (Cs_one_cell encA_one _) (by omega) (by rw [World.size_alloc]; omega) ?_; intro vB wB hownB hbB hgB hvB; obtain ⟨AB, cBB, rfl, hcBB, hcBBm⟩ := own_form2 hownB; have hRB : RowAt wB b0 37 #[.int .i64 jm, .int .i64 4, .int .i64 k, .int .u64 0, .int .u64 nn] := (hgB.block b0 (by rw [World.size_alloc]; omega) (by simp [Value.ownBlock]; omega)).trans (HRA2.out.below ((Below.refl _ _).alloc (Nat.le_refl _) (.cells #[.int .i64 jm, .int .i64 4, .int .i64 k, .int .u64 0, .int .u64 nn] 37))); have hSB : wB.cell? ⟨b0, 0, none⟩ = some (.int .i64 jm) ∧ wB.cell? ⟨b0, 1, none⟩ = some (.int .i64 4) ∧ wB.cell? ⟨b0, 2, none⟩ = some (.int .i64 k) ∧ wB.cell? ⟨b0, 3, none⟩ = some (.int .u64 0) ∧ wB.cell? ⟨b0, 4, none⟩ = some (.int .u64 nn) := ⟨hRB.cell 0, hRB.cell 1, hRB.cell 2, hRB.cell 3, hRB.cell 4⟩; have HTF := hide (own_ne2 (HTA.out.alloc (.cells #[.int .i64 jm, .int .i64 4, .int .i64 k, .int .u64 0, .int .u64 nn] 37)) hgB (fun g hg he => by simp only [Value.ownBlock, Option.some.injEq] at he; have h := own_ltb HTA.out g hg; omega)); have HBF := hide (Rd.of_own hownB); have HNF := hide (show ∀ p, AB = some p → some p.block ≠ (Value.slice AA (j + 1) cAA).ownBlock from fun p hp he => by have h := own_ltb HTA.out _ he.symm; rcases hvB with h5 | h5 <;> (subst hp; simp [Value.ownBlock] at h5; omega)); have HBW2 := hide (HB1A.out.trans (((Below.refl wA.heap.size wA).alloc (Nat.le_refl _) (.cells #[.int .i64 jm, .int .i64 4, .int .i64 k, .int .u64 0, .int .u64 nn] 37)).mono (by omega) |>.trans (hbB.mono (by omega))))))
          all_goals
            go_wp2_with fail
            go_roundw
            case rel =>
              refine ⟨j + 1, by omega, by omega, by go_num, ?_⟩
              rw [HTK.out]
              exact AdAt.next HPL.out HJM.out.symm hcAA hcBB hcAAm hcBBm HTF.out HBF.out HNF.out HBW2.out
            case measure => simp [intOf]; omega
      · go_wp2_with fail
        have HPL := hide hpl
        clear hpl
        have hj12' : j ≤ 12 := by omega
        generalize ns.take j = pre at *
        obtain ⟨T, hT⟩ : ∃ T, addF k 0 pre = T := ⟨_, rfl⟩
        obtain ⟨tt, htt⟩ : ∃ t, tot y pre = t := ⟨_, rfl⟩
        have hTl : T.length = j := by rw [← hT, addF_length, HPL.out]
        have hok := adds_ok (show 1 ≤ m by omega) (show m ≤ 8192 by omega) hkm pre
        rw [hT] at hok
        have hrt : runX X4 T = X4.set k tt := by rw [← hT, ← htt, adds_there X4 k (by rw [HHX40.out]; exact hkm) pre, HYY.out]
        have hrb : runX X4 T.reverse = X4.set k tt := by rw [← hT, ← htt, adds_back X4 k (by rw [HHX40.out]; exact hkm) HWX.out pre, HYY.out]
        rw [hT] at HTO HBR
        rw [htt]
        have HTL := hide hTl
        have HTR := hide (Rd.of_own HTO.out)
        have HTRL := hide (show T.reverse.length = j by rw [List.length_reverse, hTl])
        have HOK := hide hok
        have HRT := hide hrt
        have HRB := hide hrb
        have HTM := hide hT
        have HSL := hide (show (X4.set k tt).length = m by rw [List.length_set, HHX40.out])
        have HSK := hide (show ceAt (X4.set k tt) k = tt from by have h := ceAt_set X4 (k : Int) tt (by omega) (by have := HHX40.out; omega) (k : Int) (by omega); rw [Int.toNat_natCast, if_pos rfl] at h; exact h)
        clear hT htt hTl hok hrt hrb HTO HNE HREL
        with_reducible refine (prun_any (some ⟨b1, o1, none⟩) At cAw m ct j X4 T _ ((HW.out.below HB1.out).more HB1.out.size) HHX40.out (by omega) HTR.out HTL.out (by omega) 0 HOK.out.1).mono ?_
        rintro e w4 ⟨hb, hor⟩
        replace HTR := hide ((HTR.out.below hb).more hb.size)
        replace HBR := hide ((HBR.out.below hb).more hb.size)
        replace HB1 := hide (HB1.out.trans (hb.mono HB1.out.size))
        clear hb
        obtain ⟨ga, va, vm, rfl, hga, hri⟩ := (hor.resolve_left (fun h => h.1 rfl)).2
        rw [HRT.out] at hri
        obtain ⟨Aq1, cq1, rfl, _, _⟩ := own_form2 hri.sn
        obtain ⟨Aq2, cq2, rfl, _, _⟩ := own_form2 hri.mks
        have HR1 := hide (hri.row.rd HSL.out)
        clear hor hri
        go_wp2_with fail
        with_reducible refine (prun_any (some ⟨b1, o1, none⟩) Ab cAw m cb j X4 T.reverse _ ((HW.out.below HB1.out).more HB1.out.size) HHX40.out (by omega) HBR.out HTRL.out (by omega) 0 HOK.out.2).mono ?_
        rintro e w5 ⟨hb, hor⟩
        replace HTR := hide ((HTR.out.below hb).more hb.size)
        replace HBR := hide ((HBR.out.below hb).more hb.size)
        replace HR1 := hide ((HR1.out.below hb).more hb.size)
        replace HB1 := hide (HB1.out.trans (hb.mono HB1.out.size))
        clear hb
        obtain ⟨gb, va, vm, rfl, hgb, hri⟩ := (hor.resolve_left (fun h => h.1 rfl)).2
        rw [HRB.out] at hri
        obtain ⟨Aq3, cq3, rfl, _, _⟩ := own_form2 hri.sn
        obtain ⟨Aq4, cq4, rfl, _, _⟩ := own_form2 hri.mks
        have HR2 := hide (hri.row.rd HSL.out)
        clear hor hri
        clear HBR
        go_wp2_with fail
        with_reducible refine (EqualWn _ _ (some ⟨ga, 0, none⟩) (some ⟨gb, 0, none⟩) m m m m (X4.set k tt) (X4.set k tt) _ HSL.out HSL.out HR1.out HR2.out (Nat.le_refl _) (Nat.le_refl _) (by omega) (by omega) true (by simp)).mono ?_
        rintro e w6 ⟨rfl, hb⟩
        replace HTR := hide ((HTR.out.below hb).more hb.size)
        replace HR1 := hide ((HR1.out.below hb).more hb.size)
        replace HR2 := hide ((HR2.out.below hb).more hb.size)
        replace HB1 := hide (HB1.out.trans (hb.mono HB1.out.size))
        clear hb
        clear HR2
        obtain ⟨b3, o3, hA3, hb3, y3⟩ := HR1.out.word HSL.out hkm
        injection hA3 with hA3
        injection hA3 with e1 e2
        subst e1
        subst e2
        rw [HSK.out] at y3
        simp only [Nat.zero_add] at y3
        have hnt : (tt != tt) = false := by simp
        obtain ⟨q, hq⟩ : ∃ q : Nat, ((k : Int) + 1).tmod (m : Int) = q := ⟨(((k : Int) + 1).tmod (m : Int)).toNat, by have := Int.tmod_nonneg (m : Int) (show (0 : Int) ≤ (k : Int) + 1 by omega); omega⟩
        have hqm : q < m := by have h := Int.tmod_lt_of_pos ((k : Int) + 1) (show (0 : Int) < m by omega); omega
        have HQ := hide hq
        clear hq
        go_wp2_with fail
        clear y3 hb3
        have HOS := hide (World.ownsRow_lit (base := w6.heap.size) (e := 37) (size := 5) w6 #[.int .i64 0, .int .i64 2, .int .i64 k, .int .u64 0, .int .u64 tt] 1 (Nat.le_refl _) (by simp [maxLen]) rfl)
        have HBS := hide (show Below w6.heap.size w6 (w6.alloc (.cells #[.int .i64 0, .int .i64 2, .int .i64 k, .int .u64 0, .int .u64 tt] 37)) from (Below.refl _ _).alloc (Nat.le_refl _) _)
        have HS0 := hide (st_first X4 k tt m HHX40.out hkm (by omega))
        go_loopw [22, 115] (fun v i wz => ∃ t : Nat, t ≤ j ∧ i = .int .i64 t ∧ StAt w6 m k tt X4 t v wz) (fun _ i _ => j - (intOf i).toNat)
        case atStart => exact ⟨0, Nat.zero_le _, rfl, [(0, 2, (k : Int), 0, tt)], some ⟨w6.heap.size, 0, none⟩, 1, rfl, Nat.le_refl _, by omega, HOS.out, Nat.le_refl _, HS0.out.1, HS0.out.2, HBS.out⟩
        case round =>
          obtain ⟨t, ht, rfl, ST, As, cs, rfl, hcs, hcsm, hos, hsl, hsw, hsk, hbs⟩ := hrel
          have HOT := hide hos
          have HSW := hide hsw
          have HSV := hide hsk
          have HBT := hide hbs
          clear hos hsw hsk hbs HOS HBS HS0
          by_cases htl : t < j
          · have htn : (t : Int) < (j : Int) := by omega
            obtain ⟨b5, o5, hA5, hb5, v1, v2, v3, v4, v5, hta, d0, d1, d2, d3, d4⟩ := (HTR.out.below HBT.out).acc HTL.out htl
            subst hA5
            obtain ⟨jv, nv, hjv, hnv, hv⟩ := addF_mem (k := k) (i := 0) (l := pre) (a := (v1, v2, v3, v4, v5)) (by rw [HTM.out]; exact List.mem_of_getElem? hta)
            have hbl := Nat.lt_of_lt_of_le hb5 HBT.out.size
            have hq1 := HQ.out
            have hqw : wrap64 (q : Int) = (q : Int) := IntWalk.wrap64_in _ (by omega)
            obtain ⟨bx, hbx0⟩ : ∃ g, wr.heap.size = g := ⟨_, rfl⟩
            have HBX0 := hide hbx0
            have hbx5 : b5 < bx := by omega
            have RXN := hide (RowAt.new wr 37 #[.int .i64 v1, .int .i64 v2, .int .i64 v3, .int .u64 v4, .int .u64 v5])
            clear hbx0
            by_cases hqk : q = k
            · have hqk1 : ((q : Int) != (k : Int)) = false := by rw [hqk]; simp
              clear hqk
              go_wp2_with fail
              go_roundw
              case rel => exact ⟨t + 1, by omega, by go_num, ST, As, cs, rfl, hcs, hcsm, HOT.out.alloc _, by omega, HSW.out, HSV.out, HBT.out.alloc HBT.out.size _⟩
              case measure => simp [intOf]; omega
            · have hqk1 : ((q : Int) != (k : Int)) = true := bne_iff_ne.2 (fun h => hqk (Int.ofNat.inj h))
              have HQK := hide hqk
              have HV1 := hide (show v1 = (jv : Int) from congrArg Prod.fst hv)
              clear hqk hv
              have HRN := hide (show Rd ((wr.alloc (.cells #[.int .i64 v1, .int .i64 3, .int .i64 q, .int .u64 v4, .int .u64 v5] 37)).alloc (.cells #[.int .i64 v1, .int .i64 3, .int .i64 q, .int .u64 v4, .int .u64 v5] 37)) (wr.heap.size + 1 + 1) 5 (some ⟨wr.heap.size + 1, 0, none⟩) 1 [.int .i64 v1, .int .i64 3, .int .i64 q, .int .u64 v4, .int .u64 v5] from by
                have h := Rd.new (wr.alloc (.cells #[.int .i64 v1, .int .i64 3, .int .i64 q, .int .u64 v4, .int .u64 v5] 37)) #[.int .i64 v1, .int .i64 3, .int .i64 q, .int .u64 v4, .int .u64 v5] 37 5 1 rfl
                rw [World.size_alloc] at h
                exact h)
              go_wp2_with (at_builtin; refine wpList_app elA rfl _ _ rfl rfl ((HOT.out.alloc _).alloc _) rfl HRN.out (by simp [Value.oneCell']) (by omega) (by rw [World.size_alloc, World.size_alloc]; have := HBT.out.size; omega) ?_; intro v2' wA hownA hbA _ _; obtain ⟨AS, cS, rfl, hcS, hcSm⟩ := own_form2 hownA; have HOA := hide hownA; have HBA := hide (((HBT.out.alloc HBT.out.size (.cells #[.int .i64 v1, .int .i64 3, .int .i64 q, .int .u64 v4, .int .u64 v5] 37)).alloc (by rw [World.size_alloc]; have := HBT.out.size; omega) (.cells #[.int .i64 v1, .int .i64 3, .int .i64 q, .int .u64 v4, .int .u64 v5] 37)).trans hbA); clear hownA hbA)
              go_roundw
              case rel => exact ⟨t + 1, by omega, by go_num, StAt.next hsl HSW.out (by rw [HV1.out]; exact why_add (by omega) (by omega) hqm hjv 3 (by omega) (by omega) v4) (by rw [swap_far _ k q v1 v4 v5 (by rw [runX_length, HHX40.out]; exact hqm) HQK.out]; exact HSV.out) hcS hcSm HOA.out HBA.out⟩
              case measure => simp [intOf]; omega
          · obtain ⟨sl, hsl1⟩ : ∃ x, ST.length = x := ⟨_, rfl⟩
            rw [hsl1] at hcs hsl HOT
            rw [hsl1]
            have HLD := hide (show why m (0, 1, (k : Int), 0, 0) = 0 from why_add (j := 0) (by omega) (by omega) hkm (by omega) 1 (by omega) (by omega) 0)
            have HE2 := hide (runE_ok (n := m) (l := ST ++ [(0, 1, (k : Int), 0, 0)]) (by omega) (by omega) (fun a h => by
              rw [List.mem_append] at h
              rcases h with h | h
              · exact HSW.out a h
              · simp at h; subst h; exact HLD.out))
            have HL2 := hide (show (ST ++ [((0 : Int), (1 : Int), (k : Int), (0 : Int), (0 : Int))]).length = sl + 1 by rw [List.length_append, hsl1]; rfl)
            have HG2 := hide (show (runS X4 (ST ++ [(0, 1, (k : Int), 0, 0)]))[sl]? = some (tt, true) from by
              rw [runS_snoc, List.getElem?_append_right (by rw [runS_length, hsl1]; exact Nat.le_refl _), runS_length, hsl1, Nat.sub_self]
              simp [doS, HSV.out])
            have HSL1 := hide hsl1
            clear hsl1
            have HRN := hide (Rd.new wr #[.int .i64 0, .int .i64 1, .int .i64 k, .int .u64 0, .int .u64 0] 37 5 1 rfl)
            go_wp2_with (at_builtin; refine wpList_app elA rfl _ _ rfl rfl (HOT.out.alloc _) rfl HRN.out (by simp [Value.oneCell']) (by omega) (by rw [World.size_alloc]; have := HBT.out.size; omega) ?_; intro v2' wA hownA hbA _ _; obtain ⟨AS, cS, rfl, hcS, hcSm⟩ := own_form2 hownA; have HOA := hide hownA; have HBA := hide ((HBT.out.alloc HBT.out.size (.cells #[.int .i64 0, .int .i64 1, .int .i64 k, .int .u64 0, .int .u64 0] 37)).trans hbA); clear hownA hbA)
            have HBX1 := hide (HB1.out.trans (HBA.out.mono HB1.out.size))
            have HRA2 := hide (show Rd wA wA.heap.size 5 AS (sl + 1) (Cs encA (ST ++ [(0, 1, (k : Int), 0, 0)])) from by rw [Cs_append]; exact Rd.of_own HOA.out)
            with_reducible refine (prun_any (some ⟨b1, o1, none⟩) AS cAw m cS (sl + 1) X4 (ST ++ [(0, 1, (k : Int), 0, 0)]) _ ((HW.out.below HBX1.out).more HBX1.out.size) HHX40.out (by omega) HRA2.out HL2.out (by omega) 0 HE2.out).mono ?_
            rintro e wF ⟨hb, hor⟩
            obtain ⟨gc, va, vm, rfl, hgc, hri⟩ := (hor.resolve_left (fun h => h.1 rfl)).2
            rw [HL2.out] at hri
            obtain ⟨Aq5, cq5, rfl, _, _⟩ := own_form2 hri.sn
            obtain ⟨Aq6, cq6, rfl, _, _⟩ := own_form2 hri.mks
            obtain ⟨b6, o6, hA6, hb6, hslx, y6, y7⟩ := (Rd.of_own hri.sn).seen2 HG2.out (by rw [runS_length, HL2.out])
            subst hA6
            have HBF := hide (HBX1.out.trans (hb.mono HBX1.out.size))
            have hlen : (((sl + 1 : Nat) : Int) == (sl : Int) + 1) = true := by simp
            have htt2 : (tt == tt) = true := by simp
            clear hor hri hb
            go_wp2_with fail
            go_ret
            exact ⟨rfl, HB.out.trans (HBF.out.mono HB.out.size)⟩
end Go.Proofs.Ytadgihmokmfejaa
