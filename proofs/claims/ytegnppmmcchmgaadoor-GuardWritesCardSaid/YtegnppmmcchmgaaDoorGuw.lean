/-
  GuardWrites: the walk through the law.
-/
import Derived.Test.YtegnppmmcchmgaaDoorGum
import Derived.Test.YtegnppmmcchmgaaDoorGupl
import Derived.Deep.Cut
set_option linter.unusedSimpArgs false
set_option linter.unusedVariables false
namespace Go.Proofs.YtegnppmmcchmgaaDoor
open Go Go.RowKit
attribute [local go_sem] via_cell via_frozen

/-- The sections that are written. -/
def secs (n : Nat) : List Sec := (List.range n).map fun (j : Nat) => (1 + 3 * (j : Int), 3 + 3 * (j : Int))
def full (n : Nat) : List Sec := secs n ++ [(1 + 3 * (n : Int), 0)]
theorem secs_succ (n : Nat) : secs (n + 1) = secs n ++ [(1 + 3 * (n : Int), 3 + 3 * (n : Int))] := by unfold secs; rw [List.range_succ, List.map_append]; rfl
theorem secs_len (n : Nat) : (secs n).length = n := by simp [secs]
set_option maxRecDepth 100000 in
theorem cw1 : ∀ i, i < 8 → countV (secs (i + 1)) (1 + 3 * (i : Int)) = (2 * (i : Int) + 1, 0) := by decide
set_option maxRecDepth 100000 in
theorem cw2 : ∀ i, i < 8 → countV (secs (i + 1)) (1 + 3 * (i : Int) + 2) = (2 * (i : Int) + 1 + 1, 0) := by decide
set_option maxRecDepth 100000 in
theorem nw : ∀ i, i < 8 → nextV (full i) (1 + 3 * (i : Int)) = (0, 4) := by decide
set_option maxRecDepth 100000 in
theorem kw : ∀ i, i < 8 → chk 0 (full i) = true := by decide
theorem cnt_two {l : List Sec} {x : Int} (h : ∀ s ∈ l, s.1 ≤ x ∧ s.2 ≠ 0 ∧ s.2 ≤ x) : cnt l x = 2 * l.length := by
  induction l with
  | nil => rfl
  | cons s r ih =>
    have h1 := h s (by simp)
    rw [cnt_cons, ih (fun t ht => h t (by simp [ht])), List.length_cons]
    unfold cntS
    rw [if_pos h1.1, if_pos h1.2]
    omega
theorem cnt_full {n : Nat} {x : Int} (hx : 1 + 3 * (n : Int) ≤ x) : cnt (full n) x = 2 * n + 1 := by
  have h : cnt (full n) x = cnt (secs n) x + cnt [(1 + 3 * (n : Int), 0)] x := by unfold full cnt; rw [List.map_append, List.sum_append]
  rw [h, cnt_two (fun s hs => by
    unfold secs at hs
    rw [List.mem_map] at hs
    obtain ⟨j, hj, rfl⟩ := hs
    rw [List.mem_range] at hj
    dsimp only
    omega), secs_len]
  simp [cnt, cntS, hx]
theorem readsW {n : Nat} (hn : n < 8) {k : Int × Int} (hk : 1 + 3 * (n : Int) ≤ k.1) : readsV (full n) [k] = ([], 2) ∨ readsV (full n) [k] = ([false], 0) := by
  unfold readsV noneB
  rw [kw n hn]
  cases h : lookB k.1 k.2 with
  | false => left; simp [h]
  | true =>
    right
    have h2 := lookB_out h
    have hg : goodL (full n) k = false := by
      unfold goodL goodB oddB
      rw [cntE_right (Int.le_refl 0) (kw n hn), cnt_full hk]
      have : ((2 * n + 1 : Nat) : Int) % 2 = 1 := by omega
      rw [this]
      simp
    simp [h, hg]
theorem many_eight (g : Int) : ∃ m : Nat, m < 8 ∧ wrap64 ((IntKind.u64.wrap g).tmod 8) = (m : Int) := by
  have h1 : 0 ≤ IntKind.u64.wrap g := by rw [IntKind.wrap_u64]; exact Int.emod_nonneg _ (by omega)
  have h2 : (IntKind.u64.wrap g).tmod 8 = (IntKind.u64.wrap g) % 8 := Int.tmod_eq_emod_of_nonneg h1
  generalize IntKind.u64.wrap g = q at *
  rw [h2]
  obtain ⟨m, hm⟩ := Int.eq_ofNat_of_zero_le (show 0 ≤ q % 8 from by omega)
  exact ⟨m, by omega, by rw [hm]; exact IntWalk.wrap64_in _ (by omega)⟩
set_option maxRecDepth 100000 in
set_option maxHeartbeats 4000000 in
theorem Writes_walk (g : Int) (k : Int × Int) (W : World) (ht : TwoAt W W.heap.size) (hg : I64 g) :
    Calls Tryd.prog 3 #[.int .i64 g, .agg #[.int .i64 k.1, .int .i64 k.2]] W fun e W' => e = .returned (.bool true) ∧ Below W.heap.size W W' := by
  obtain ⟨k1, k2⟩ := k
  dsimp only
  have HBN := hide (show Below W.heap.size W (W.alloc (.cells #[.int .i64 k1, .int .i64 k2] 23)) from (Below.refl _ _).alloc (Nat.le_refl _) _)
  have HRN := hide (RowAt.new W 23 #[.int .i64 k1, .int .i64 k2])
  have HW := hide (wakes_any W.heap.size _ (ht.below HBN.out) HBN.out.size)
  clear ht
  go_enter Tryd.func3, Tryd.ntmps3
  go_wp2_with fail
  generalize W.alloc (.cells #[.int .i64 k1, .int .i64 k2] 23) = w0 at *
  with_reducible refine HW.out.mono ?_
  rintro e w1 ⟨rfl, hb1⟩
  have HB1 := hide (HBN.out.trans (hb1.mono HBN.out.size))
  have HR1 := hide (HRN.out.below hb1)
  clear hb1
  obtain ⟨m, hm8, hmm⟩ := many_eight g
  go_wp2_with fail
  rw [hmm]
  have hs1 := HB1.out.size
  have hlb := HR1.out.lt
  go_loopw [5, 6, 7, 27] (fun v cv sv i wr => ∃ j : Nat, j ≤ m ∧ cv = .int .u64 (2 * (j : Int)) ∧ sv = .int .i64 (1 + 3 * (j : Int)) ∧ i = .int .i64 j ∧ wr.ownsRow w1.heap.size 33 2 v j (Cs encS (secs j)) ∧ Below w1.heap.size w1 wr) (fun _ _ _ i _ => m - (intOf i).toNat)
  case atStart => exact ⟨0, Nat.zero_le _, rfl, rfl, rfl, World.ownsRow_nil _ _ _ _, Below.refl _ _⟩
  case round =>
    obtain ⟨j, hj, rfl, rfl, rfl, hown, hbw⟩ := hrel
    have HO := hide hown
    have HBW := hide hbw
    have hsw := hbw.size
    clear hown hbw hmm
    by_cases hlt : j < m
    · have hji : (j : Int) < (m : Int) := by omega
      have hj8 : j < 8 := by omega
      have HC1 := hide (cw1 j hj8)
      have HC2 := hide (cw2 j hj8)
      have HSS := hide (secs_succ j)
      have HSL := hide (secs_len (j + 1))
      have hj0 : (0 : Int) ≤ j := by omega
      have hj7 : (j : Int) ≤ 7 := by omega
      obtain ⟨q, hq⟩ : ∃ q : Int, (j : Int) = q := ⟨_, rfl⟩
      have HQ := hide hq
      have HOP := hide (open_any (2 * q) ⟨by omega, by omega⟩ wr)
      rw [show moreV (2 * q) false = (2 * q + 1, 0) from by unfold moreV oddB; rw [if_pos ⟨by omega, by first | (simp; done) | (simp; omega)⟩]] at HOP
      have HCL := hide (close_any (2 * q + 1) ⟨by omega, by omega⟩ wr)
      rw [show moreV (2 * q + 1) true = (2 * q + 1 + 1, 0) from by unfold moreV oddB; rw [if_pos ⟨by omega, by first | (simp; done) | (simp; omega)⟩]] at HCL
      have HG1 := hide (good_any (2 * q + 1) (2 * q + 1) ⟨by omega, by omega⟩ wr)
      rw [show goodB (2 * q + 1) (2 * q + 1) = false from by unfold goodB oddB; first | (simp; done) | (simp; omega)] at HG1
      have HG2 := hide (good_any (2 * q) (2 * q) ⟨by omega, by omega⟩ wr)
      rw [show goodB (2 * q) (2 * q) = true from by unfold goodB oddB; simp] at HG2
      have HG3 := hide (good_any (2 * q) (2 * q + 1 + 1) ⟨by omega, by omega⟩ wr)
      rw [show goodB (2 * q) (2 * q + 1 + 1) = false from by unfold goodB oddB; first | (simp; done) | (simp; omega)] at HG3
      rw [hq] at HC1 HC2 HSS hji hj0 hj7 ⊢
      clear hq
      go_wp2_with fail
      with_reducible refine HOP.out.mono ?_
      rintro e w2 ⟨rfl, rfl⟩
      dsimp only [pairU]
      go_wp2_with fail
      with_reducible refine HCL.out.mono ?_
      rintro e w2 ⟨rfl, rfl⟩
      dsimp only [pairU]
      go_wp2_with fail
      with_reducible refine HG1.out.mono ?_
      rintro e w2 ⟨rfl, rfl⟩
      go_wp2_with fail
      with_reducible refine HG2.out.mono ?_
      rintro e w2 ⟨rfl, rfl⟩
      go_wp2_with fail
      with_reducible refine HG3.out.mono ?_
      rintro e w2 ⟨rfl, rfl⟩
      have HNR := hide (Rd.new wr #[.int .i64 (1 + 3 * q), .int .i64 (1 + 3 * q + 2)] 33 2 1 rfl)
      go_wp2_with (at_builtin; refine wpList_app elS rfl _ _ rfl rfl (HO.out.alloc _) rfl HNR.out (by simp [Value.oneCell']) (by omega) (by simp; omega) ?_; intro v2 w2 hown2 hb2 _ _; have HB2 := hide (((Below.refl w1.heap.size wr).alloc hsw (.cells #[.int .i64 (1 + 3 * q), .int .i64 (1 + 3 * q + 2)] 33)).trans hb2); have HO2 := hide hown2; clear hown2 hb2)
      have HO3 : Hid (w2.ownsRow w1.heap.size 33 2 v2 (j + 1) (Cs encS (secs (j + 1)))) := hide (by rw [HSS.out, Cs_append, show (3 + 3 * q : Int) = 1 + 3 * q + 2 from by omega]; exact HO2.out)
      have HBB := hide (HBW.out.trans HB2.out)
      have hs2 := HBB.out.size
      obtain ⟨Al, cl, rfl, _⟩ := own_form HO3.out
      have HL := hide (Rd.of_own HO3.out)
      with_reducible refine (countN_any w2.heap.size Al cl (j + 1) (secs (j + 1)) (1 + 3 * q) w2 HL.out HSL.out (Nat.le_refl _) (by omega) _ HC1.out).mono ?_
      rintro e w3 ⟨rfl, hb3⟩
      have HB3 := hide hb3
      clear hb3
      dsimp only [pairU]
      go_wp2_with fail
      with_reducible refine (countN_any w2.heap.size Al cl (j + 1) (secs (j + 1)) (1 + 3 * q + 2) w3 (HL.out.below HB3.out) HSL.out HB3.out.size (by omega) _ HC2.out).mono ?_
      rintro e w4 ⟨rfl, hb4⟩
      have HB4 := hide (HB3.out.trans (hb4.mono HB3.out.size))
      have HO4 := hide (own_keepB HO3.out HB4.out)
      have HBZ := hide (HBB.out.trans (HB4.out.mono hs2))
      clear hb4
      dsimp only [pairU]
      go_wp2_with fail
      go_roundw
      case rel => exact ⟨j + 1, by omega, by have := HQ.out; go_num, by have := HQ.out; go_num, by have := HQ.out; go_num, HO4.out, HBZ.out⟩
      case measure => have := HQ.out; simp [intOf]; omega
    · obtain rfl : j = m := by omega
      have HNR := hide (Rd.new wr #[.int .i64 (1 + 3 * (j : Int)), .int .i64 0] 33 2 1 rfl)
      have HNW := hide (nw j hm8)
      have HFL := hide (show (full j).length = j + 1 from by unfold full; rw [List.length_append, secs_len]; rfl)
      have HRB := hide (HR1.out.below HBW.out)
      have q0 := row20 HRB.out
      have q1 := row21 HRB.out
      have ql := HRB.out.lt
      have qf := HRB.out.frozen 0
      by_cases hk : k1 < 1 + 3 * (j : Int)
      · skip
        go_upto_region 20 with (at_builtin; refine wpList_app elS rfl _ _ rfl rfl (HO.out.alloc _) rfl HNR.out (by simp [Value.oneCell']) (by omega) (by simp; omega) ?_; intro v2 w2 hown2 hb2 _ _; have HB2 := hide (((Below.refl w1.heap.size wr).alloc hsw (.cells #[.int .i64 (1 + 3 * (j : Int)), .int .i64 0] 33)).trans hb2); have HO2 := hide hown2; clear hown2 hb2)
        have HB6 := hide (HBW.out.trans HB2.out)
        have hs6 := HB6.out.size
        have HOF : Hid (w2.ownsRow w1.heap.size 33 2 v2 (j + 1) (Cs encS (full j))) := hide (by unfold full; rw [Cs_append]; exact HO2.out)
        replace HRB := hide (HR1.out.below HB6.out)
        clear q0 q1 ql qf
        obtain ⟨Al, cl, rfl, _⟩ := own_form HOF.out

        have q0 := row20 HRB.out
        have q1 := row21 HRB.out
        have ql := HRB.out.lt
        have qf := HRB.out.frozen 0
        have HKF := hide (show 1 + 3 * (j : Int) ≤ 1 + 3 * (j : Int) from Int.le_refl _)
        go_upto_region 22 with (fail)
        have HOF7 := hide (own_other HOF.out (w' := w2.setCell ⟨W.heap.size, 0, none⟩ (.int .i64 (1 + 3 * (j : Int)))) (fun g hg => heap_setCell_ne _ _ _ _ (by simp; omega)))
        have HRB7 := hide (HRB.out.set 0 (.int .i64 (1 + 3 * (j : Int))))
        have HBW7 := hide (show Below W.heap.size W (w2.setCell ⟨W.heap.size, 0, none⟩ (.int .i64 (1 + 3 * (j : Int)))) from (HB1.out.trans (HB6.out.mono HB1.out.size)).trans ((Below.refl W.heap.size w2).setCell (p := ⟨W.heap.size, 0, none⟩) (Nat.le_refl _) _))
        generalize w2.setCell ⟨W.heap.size, 0, none⟩ (.int .i64 (1 + 3 * (j : Int))) = w7 at *
        have HL := hide (Rd.of_own HOF7.out)
        replace HRB : Hid (RowAt w7 W.heap.size 23 #[.int .i64 (1 + 3 * (j : Int)), .int .i64 k2]) := hide (by simpa using HRB7.out)
        clear q0 q1 ql qf HRB7

        have q0 := row20 HRB.out
        have q1 := row21 HRB.out
        have ql := HRB.out.lt
        have HNE := hide (show Rd (w7.alloc (.cells #[.int .i64 (1 + 3 * (j : Int)), .int .i64 k2] 23)) (w7.heap.size + 1) 2 (some ⟨w7.heap.size, 0, none⟩) ([((1 + 3 * (j : Int)), k2)] : List Sec).length (Cs encS [((1 + 3 * (j : Int)), k2)]) from Rd.new w7 #[.int .i64 (1 + 3 * (j : Int)), .int .i64 k2] 23 2 1 rfl)
        have HBX := hide (show Below w7.heap.size w7 (w7.alloc (.cells #[.int .i64 (1 + 3 * (j : Int)), .int .i64 k2] 23)) from (Below.refl _ _).alloc (Nat.le_refl _) _)
        have HSX := hide (show w7.heap.size + 1 ≤ (w7.alloc (.cells #[.int .i64 (1 + 3 * (j : Int)), .int .i64 k2] 23)).heap.size from by simp)
        go_wp2_with fail
        generalize w7.alloc (.cells #[.int .i64 (1 + 3 * (j : Int)), .int .i64 k2] 23) = w8 at *
        have hs8 : w7.heap.size ≤ w8.heap.size := by have := HSX.out; omega
        have HL8 := hide (HL.out.below HBX.out)
        have HRDS := hide (fun xs er hv => show Calls Tryd.prog 13 #[.slice Al (j + 1) cl, .slice (some ⟨w7.heap.size, 0, none⟩) 1 1] w8 _ from reads_any w7.heap.size (w7.heap.size + 1) Al (some ⟨w7.heap.size, 0, none⟩) cl 1 (j + 1) (full j) [((1 + 3 * (j : Int)), k2)] w8 HL8.out HFL.out hs8 (by omega) HNE.out HSX.out (by simp) xs er hv)
        have HB8 := hide (HBW7.out.trans (HBX.out.mono HBW7.out.size))
        rcases readsW (k := ((1 + 3 * (j : Int)), k2)) (by omega : j < 8) HKF.out with hv | hv
        · with_reducible refine (HRDS.out _ _ hv).mono ?_
          rintro e w9 ⟨vg, rfl, hog, hb9⟩
          obtain ⟨Ag, cg, rfl, hcg⟩ := own_form hog
          have HB9 := hide (HB8.out.trans (hb9.mono HB8.out.size))
          have HL9 := hide (HL8.out.below (hb9.mono hs8))
          have hs9 : w7.heap.size ≤ w9.heap.size := Nat.le_trans hs8 hb9.size
          clear hb9 hog hv
          dsimp only [List.length_nil]
          go_wp2_with fail
          with_reducible refine (nextN_any w7.heap.size Al cl (j + 1) (full j) (1 + 3 * (j : Int)) w9 HL9.out HFL.out hs9 (by omega) (0, 4) HNW.out).mono ?_
          rintro e w10 ⟨rfl, hb10⟩
          have HB10 := hide (HB9.out.trans (hb10.mono HB9.out.size))
          clear hb10
          dsimp only [pairI]
          go_wp2_with fail
          go_ret
          exact ⟨rfl, HB10.out⟩
        · with_reducible refine (HRDS.out _ _ hv).mono ?_
          rintro e w9 ⟨vg, rfl, hog, hb9⟩
          obtain ⟨Ag, cg, rfl, hcg⟩ := own_form hog
          obtain ⟨g9, cc, hAg, hge, hgl⟩ := hog.form (by simp)
          injection hAg with hAg _ _
          subst hAg
          have HRG := hide (Rd.of_own hog)
          have HB9 := hide (HB8.out.trans (hb9.mono HB8.out.size))
          have HL9 := hide (HL8.out.below (hb9.mono hs8))
          have hs9 : w7.heap.size ≤ w9.heap.size := Nat.le_trans hs8 hb9.size
          clear hb9 hog hv
          dsimp only [List.length_cons, List.length_nil] at *
          go_wp2_with fail
          with_reducible refine (nextN_any w7.heap.size Al cl (j + 1) (full j) (1 + 3 * (j : Int)) w9 HL9.out HFL.out hs9 (by omega) (0, 4) HNW.out).mono ?_
          rintro e w10 ⟨rfl, hb10⟩
          have HB10 := hide (HB9.out.trans (hb10.mono HB9.out.size))
          have HRG2 := hide ((HRG.out.below hb10).more hb10.size)
          obtain ⟨b9, o9, hA9, hb9, hc9⟩ := HRG2.out.2 (by omega)
          injection hA9 with hA9
          injection hA9 with e1 e2
          subst e1
          subst e2
          have d0 : w10.cell? ⟨g9, 0, none⟩ = some (.bool false) := hc9 0 _ rfl
          clear hb10 hc9
          dsimp only [pairI]
          go_wp2_with fail
          go_ret
          exact ⟨rfl, HB10.out⟩
      · skip
        go_upto_region 20 with (at_builtin; refine wpList_app elS rfl _ _ rfl rfl (HO.out.alloc _) rfl HNR.out (by simp [Value.oneCell']) (by omega) (by simp; omega) ?_; intro v2 w2 hown2 hb2 _ _; have HB2 := hide (((Below.refl w1.heap.size wr).alloc hsw (.cells #[.int .i64 (1 + 3 * (j : Int)), .int .i64 0] 33)).trans hb2); have HO2 := hide hown2; clear hown2 hb2)
        have HB6 := hide (HBW.out.trans HB2.out)
        have hs6 := HB6.out.size
        have HOF : Hid (w2.ownsRow w1.heap.size 33 2 v2 (j + 1) (Cs encS (full j))) := hide (by unfold full; rw [Cs_append]; exact HO2.out)
        replace HRB := hide (HR1.out.below HB6.out)
        clear q0 q1 ql qf
        obtain ⟨Al, cl, rfl, _⟩ := own_form HOF.out

        have HKF := hide (show 1 + 3 * (j : Int) ≤ k1 from by omega)
        have HBW7 := hide (show Below W.heap.size W w2 from HB1.out.trans (HB6.out.mono HB1.out.size))
        have HL := hide (Rd.of_own HOF.out)
        have hkd : decide (k1 < 1 + 3 * (j : Int)) = false := by simpa using hk

        have q0 := row20 HRB.out
        have q1 := row21 HRB.out
        have ql := HRB.out.lt
        have HNE := hide (show Rd (w2.alloc (.cells #[.int .i64 k1, .int .i64 k2] 23)) (w2.heap.size + 1) 2 (some ⟨w2.heap.size, 0, none⟩) ([(k1, k2)] : List Sec).length (Cs encS [(k1, k2)]) from Rd.new w2 #[.int .i64 k1, .int .i64 k2] 23 2 1 rfl)
        have HBX := hide (show Below w2.heap.size w2 (w2.alloc (.cells #[.int .i64 k1, .int .i64 k2] 23)) from (Below.refl _ _).alloc (Nat.le_refl _) _)
        have HSX := hide (show w2.heap.size + 1 ≤ (w2.alloc (.cells #[.int .i64 k1, .int .i64 k2] 23)).heap.size from by simp)
        go_wp2_with fail
        generalize w2.alloc (.cells #[.int .i64 k1, .int .i64 k2] 23) = w8 at *
        have hs8 : w2.heap.size ≤ w8.heap.size := by have := HSX.out; omega
        have HL8 := hide (HL.out.below HBX.out)
        have HRDS := hide (fun xs er hv => show Calls Tryd.prog 13 #[.slice Al (j + 1) cl, .slice (some ⟨w2.heap.size, 0, none⟩) 1 1] w8 _ from reads_any w2.heap.size (w2.heap.size + 1) Al (some ⟨w2.heap.size, 0, none⟩) cl 1 (j + 1) (full j) [(k1, k2)] w8 HL8.out HFL.out hs8 (by omega) HNE.out HSX.out (by simp) xs er hv)
        have HB8 := hide (HBW7.out.trans (HBX.out.mono HBW7.out.size))
        rcases readsW (k := (k1, k2)) (by omega : j < 8) HKF.out with hv | hv
        · with_reducible refine (HRDS.out _ _ hv).mono ?_
          rintro e w9 ⟨vg, rfl, hog, hb9⟩
          obtain ⟨Ag, cg, rfl, hcg⟩ := own_form hog
          have HB9 := hide (HB8.out.trans (hb9.mono HB8.out.size))
          have HL9 := hide (HL8.out.below (hb9.mono hs8))
          have hs9 : w2.heap.size ≤ w9.heap.size := Nat.le_trans hs8 hb9.size
          clear hb9 hog hv
          dsimp only [List.length_nil]
          go_wp2_with fail
          with_reducible refine (nextN_any w2.heap.size Al cl (j + 1) (full j) (1 + 3 * (j : Int)) w9 HL9.out HFL.out hs9 (by omega) (0, 4) HNW.out).mono ?_
          rintro e w10 ⟨rfl, hb10⟩
          have HB10 := hide (HB9.out.trans (hb10.mono HB9.out.size))
          clear hb10
          dsimp only [pairI]
          go_wp2_with fail
          go_ret
          exact ⟨rfl, HB10.out⟩
        · with_reducible refine (HRDS.out _ _ hv).mono ?_
          rintro e w9 ⟨vg, rfl, hog, hb9⟩
          obtain ⟨Ag, cg, rfl, hcg⟩ := own_form hog
          obtain ⟨g9, cc, hAg, hge, hgl⟩ := hog.form (by simp)
          injection hAg with hAg _ _
          subst hAg
          have HRG := hide (Rd.of_own hog)
          have HB9 := hide (HB8.out.trans (hb9.mono HB8.out.size))
          have HL9 := hide (HL8.out.below (hb9.mono hs8))
          have hs9 : w2.heap.size ≤ w9.heap.size := Nat.le_trans hs8 hb9.size
          clear hb9 hog hv
          dsimp only [List.length_cons, List.length_nil] at *
          go_wp2_with fail
          with_reducible refine (nextN_any w2.heap.size Al cl (j + 1) (full j) (1 + 3 * (j : Int)) w9 HL9.out HFL.out hs9 (by omega) (0, 4) HNW.out).mono ?_
          rintro e w10 ⟨rfl, hb10⟩
          have HB10 := hide (HB9.out.trans (hb10.mono HB9.out.size))
          have HRG2 := hide ((HRG.out.below hb10).more hb10.size)
          obtain ⟨b9, o9, hA9, hb9, hc9⟩ := HRG2.out.2 (by omega)
          injection hA9 with hA9
          injection hA9 with e1 e2
          subst e1
          subst e2
          have d0 : w10.cell? ⟨g9, 0, none⟩ = some (.bool false) := hc9 0 _ rfl
          clear hb10 hc9
          dsimp only [pairI]
          go_wp2_with fail
          go_ret
          exact ⟨rfl, HB10.out⟩
end Go.Proofs.YtegnppmmcchmgaaDoor
