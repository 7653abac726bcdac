/-
  If each asks but for mutexes greater than all that it has, there is no ring; and if there is none, someone can step.
-/
import Derived.Test.YtlelpnahillioaaMut
import Derived.Test.YtlelpnahillioaaMuup
set_option linter.unusedSimpArgs false
set_option linter.unusedVariables false
namespace Go.Proofs.Ytlelpnahillioaa
open Go Go.RowKit
attribute [local go_sem] via_cell via_frozen

theorem wrap_mod (g : Int) (m : Nat) (hm : 0 < m) : ∃ k : Nat, k < m ∧ (IntKind.u64.wrap g).tmod (m : Int) = (k : Int) := by
  have hwg : IntKind.u64.wrap g = g % 18446744073709551616 := rfl
  have hw0 : 0 ≤ IntKind.u64.wrap g := by rw [hwg]; exact Int.emod_nonneg _ (by decide)
  have h1 := Int.tmod_nonneg (m : Int) hw0
  have h2 := Int.tmod_lt_of_pos (IntKind.u64.wrap g) (show (0 : Int) < m by omega)
  exact ⟨((IntKind.u64.wrap g).tmod (m : Int)).toNat, by omega, by omega⟩
/-- How many of the first ones do not wait. -/
def cntX (l : Ml) (j : Nat) : Nat := ((List.range j).filter (fun (i : Nat) => decide (waitsX l (i : Int) < 0))).length
theorem cntX_succ (l : Ml) (j : Nat) : cntX l (j + 1) = if waitsX l (j : Int) < 0 then cntX l j + 1 else cntX l j := by
  unfold cntX
  rw [List.range_succ, List.filter_append, List.length_append]
  by_cases h : waitsX l (j : Int) < 0 <;> simp [h]
theorem cntX_le (l : Ml) (j : Nat) : cntX l j ≤ j := by
  have := List.length_filter_le (fun (i : Nat) => decide (waitsX l (i : Int) < 0)) (List.range j)
  unfold cntX
  simpa using this
theorem cntX_pos {l : Ml} (h : ∃ g : Nat, g < 8 ∧ waitsX l g < 0) : cntX l 8 ≠ 0 := by
  obtain ⟨g, hg, hw⟩ := h
  intro e
  unfold cntX at e
  have := List.eq_nil_of_length_eq_zero e
  rw [List.filter_eq_nil_iff] at this
  exact this g (by simpa using hg) (by simpa using hw)
theorem askX_len {l : Ml} {w g : Int} {l2 : Ml} {b : Bool} (h : askX l w g = .ok (l2, b)) : l2.length = l.length := by
  unfold askX at h
  split at h
  · cases h
  split at h
  · cases h
  split at h <;> (injection h with h; injection h with h _; subst h; simp)
theorem leaveX_len {l : Ml} {w g : Int} {l2 : Ml} {b : Int} (h : leaveX l w g = .ok (l2, b)) : l2.length = l.length := by
  unfold leaveX at h
  split at h
  · cases h
  split at h
  · cases h
  split at h <;> (injection h with h; injection h with h _; subst h; simp)
theorem doX_len {l : Ml} {d : Dd} {l2 : Ml} (hd : doX l d = .ok l2) : l2.length = l.length := by
  unfold doX at hd
  split at hd
  · cases hl : leaveX l d.2.2 d.2.1 with
    | error e => rw [hl] at hd; cases hd
    | ok x => rw [hl] at hd; injection hd with hd; subst hd; exact leaveX_len hl
  · cases hl : askX l d.2.2 d.2.1 with
    | error e => rw [hl] at hd; cases hd
    | ok x => rw [hl] at hd; injection hd with hd; subst hd; exact askX_len hl
theorem playX_len : ∀ (ds : List Dd) (l : Ml) (n : Nat) (l2 : Ml) (m : Nat), playX l ds n = .ok (l2, m) → l2.length = l.length
  | [], l, n, l2, m, h => by unfold playX at h; injection h with h; injection h with h _; subst h; rfl
  | d :: ds, l, n, l2, m, h => by
    unfold playX at h
    split at h
    · exact playX_len ds _ _ _ _ h
    · split at h
      · rename_i l3 hd; rw [playX_len ds _ _ _ _ h, doX_len hd]
      · cases h
section
variable {w : World} {g : Nat} {t : TypeId} {u v x : Value}
theorem row30 (h : RowAt w g t #[u, v, x]) : w.cell? ⟨g, 0, none⟩ = some u := by have := h.cell 0; simpa using this
theorem row31 (h : RowAt w g t #[u, v, x]) : w.cell? ⟨g, 1, none⟩ = some v := by have := h.cell 1; simpa using this
theorem row32 (h : RowAt w g t #[u, v, x]) : w.cell? ⟨g, 2, none⟩ = some x := by have := h.cell 2; simpa using this
end
theorem mus_newL (n : Nat) : mus (newL n) = List.replicate n (0, []) := by simp [mus, newL, mmZ, Mm.mu]
set_option maxRecDepth 100000 in
set_option maxHeartbeats 8000000 in
theorem Order_walk (g0 : Int) (A1 : Option Addr) (c1 n1 : Nat) (xs1 : List Dd) (W : World) (h1 : Rd W W.heap.size 3 A1 n1 (Cs encD xs1)) (hx1 : xs1.length = n1) (hn1 : n1 ≤ c1) (hm1 : c1 ≤ 9223372036854775807) (hu1 : ∀ e ∈ xs1, I64 e.2.1 ∧ I64 e.2.2) (hg0 : I64 g0) :
    Calls Try.prog 5 #[.int .i64 g0, .slice A1 n1 c1] W fun e W' => e = .returned (.bool true) ∧ Below W.heap.size W W' := by
  have HX := hide h1
  have HLX := hide hx1
  have HU := hide hu1
  clear h1 hx1
  go_enter Try.func5, Try.ntmps5
  go_wp2_with fail
  with_reducible refine (wakes_any W).mono ?_
  rintro e w0 ⟨rfl, hb0⟩
  have HB := hide hb0
  clear hb0
  obtain ⟨r, hr6, hre0⟩ := wrap_mod g0 6 (by omega)
  have hre : (IntKind.u64.wrap g0).tmod 6 = (r : Int) := hre0
  have hr6I : (r : Int) < 6 := by omega
  clear hre0
  go_wp2_with fail
  with_reducible refine (NewK (r + 1) (1 + (r : Int)) (by omega) (by omega) (by omega) w0).mono ?_
  rintro e w1 ⟨⟨A0, c0, rfl, ho⟩, hb⟩
  obtain ⟨m, hm⟩ : ∃ m, r + 1 = m := ⟨_, rfl⟩
  rw [hm] at ho
  rw [hm]
  have hm1 : 1 ≤ m := by omega
  have hm6 : m ≤ 6 := by omega
  have HO := hide (show Own W.heap.size w1 A0 m c0 (mus (newL m)) from ho.base HB.out.size)
  have HRT := hide (show RightM (mus (newL m)) from by
    rw [mus_newL]
    refine ⟨by simp; omega, by simp; omega, fun x hx => ?_, ?_⟩
    · obtain rfl := List.eq_of_mem_replicate hx
      exact muB_iff.1 (by decide)
    · have : flatQ (List.replicate m ((0 : Int), ([] : List Int))) = [] := by simp [flatQ]
      rw [this]; simp)
  have HOR := hide (show Ord (mus (newL m)) from by rw [mus_newL]; exact ord_new m)
  replace HB := hide (HB.out.trans (hb.mono HB.out.size))
  clear ho hb hre hm hr6 hr6I
  go_wp2_with fail
  go_loopw [5, 32] (fun lv i wr => ∃ (k : Nat) (l : Ml) (A : Option Addr) (c : Nat), k ≤ n1 ∧ lv = .slice A m c ∧ i = .int .i64 k ∧ RightM l ∧ Ord l ∧ Own W.heap.size wr A m c l ∧ Below W.heap.size W wr) (fun _ i _ => n1 - (intOf i).toNat)
  case atStart => exact ⟨0, _, A0, c0, Nat.zero_le _, rfl, rfl, HRT.out, HOR.out, HO.out, HB.out⟩
  case round =>
    obtain ⟨k, l, A, c, hk, rfl, rfl, hrt, hord, hown, hbw⟩ := hrel
    have HRL := hide hrt
    have HOL := hide hord
    have HOW := hide hown
    have HBW := hide hbw
    clear hrt hord hown hbw
    by_cases hlt : k < n1
    · obtain ⟨b, o, rfl, hb, d0, d1, d2⟩ := (HX.out.below HBW.out).deed HLX.out hlt
      have hbl : b < wr.heap.size := Nat.lt_of_lt_of_le hb HBW.out.size
      have hkm : (k : Int) < (n1 : Int) := by omega
      generalize xs1.getD k ddZ = d at *
      obtain ⟨lv, dg, dw⟩ := d
      dsimp only at *
      clear hb
      by_cases h60 : k = 60
      · have hd : ((k : Int) == 60) = true := by simp; omega
        have HBN := hide (show Below W.heap.size W (wr.alloc (.cells #[.bool lv, .int .i64 dg, .int .i64 dw] 29)) from HBW.out.alloc HBW.out.size _)
        clear h60
        go_wp2_with fail
        go_ret
        exact ⟨rfl, HBN.out⟩
      · have hd : ((k : Int) == 60) = false := by rw [beq_eq_false_iff_ne]; omega
        obtain ⟨g, hg8, hge0⟩ := wrap_mod dg 8 (by omega)
        have hge : (IntKind.u64.wrap dg).tmod 8 = (g : Int) := hge0
        obtain ⟨w, hwm, hwe⟩ := wrap_mod dw m (by omega)
        have hg8I : (g : Int) < 8 := by omega
        have hwmI : (w : Int) < (m : Int) := by omega
        have hm6I : (m : Int) ≤ 6 := by omega
        have hm0 : ((m : Int) == 0) = false := by rw [beq_eq_false_iff_ne]; omega
        have hm0' : ¬ (m : Int) = 0 := by omega
        clear h60 hge0
        go_upto_region 12 with (fail)
        have HBN := hide (show Below wr.heap.size wr (wr.alloc (.cells #[.bool lv, .int .i64 (g : Int), .int .i64 (w : Int)] 29)) from (Below.refl _ _).alloc (Nat.le_refl _) _)
        have HBX := hide (RowAt.new wr 29 #[.bool lv, .int .i64 (g : Int), .int .i64 (w : Int)])
        have HO4 := hide (HOW.out.below HBN.out)
        have HB4 := hide (HBW.out.trans (HBN.out.mono HBW.out.size))
        obtain ⟨gd, hgd⟩ : ∃ gd, wr.heap.size = gd := ⟨_, rfl⟩
        rw [hgd] at HBX ⊢
        clear hgd HBN hge hwe hm0 hm0' d0 d1 d2
        generalize wr.alloc (.cells #[.bool lv, .int .i64 (g : Int), .int .i64 (w : Int)] 29) = w4 at *
        have e1 := row31 HBX.out
        have el := HBX.out.lt
        obtain ⟨hs, hhs⟩ : ∃ x, hasGo (g : Int) 0 l = x := ⟨_, rfl⟩
        obtain ⟨nh, hnh⟩ : ∃ x, hs.length = x := ⟨_, rfl⟩
        have HHS := hide hhs
        have HNH := hide hnh
        have HHK := hide (HasK (g : Int) HO4.out HRL.out.small (xs := hs) (n := nh) (by rw [if_pos (rightM_iff.2 HRL.out)]; unfold hasX; rw [if_pos (goerB_iff.2 ⟨by omega, by omega⟩)]; exact hhs) hnh)
        have HNL := hide (show nh ≤ 160 from by have h1 := hasGo_len (g : Int) l 0; have h2 := HRL.out.hi; rw [hhs, hnh] at h1; omega)
        clear hhs hnh
        go_wp2_with fail
        with_reducible refine HHK.out.mono ?_
        rintro e w5 ⟨⟨Ah, ch, rfl, _, hrd, _⟩, hb5⟩
        have HRDH := hide hrd
        have HBX5 := hide (HBX.out.below hb5)
        have HO5 := hide (HO4.out.below hb5)
        have HB5 := hide (HB4.out.trans (hb5.mono HB4.out.size))
        clear hb5 hrd HHK e1 el HBX HO4 HB4
        have b0 := row30 HBX5.out
        have b2 := row32 HBX5.out
        have bl := HBX5.out.lt
        cases lv
        · by_cases hn0 : nh = 0
          · have HLAST := hide (show ∀ j : Nat, j < l.length → (mAt l j).1 = (g : Int) + 1 → (j : Int) < (w : Int) from fun j hj hw => by
              have h1 := (hasGo_last (g : Int) l j hj hw).1
              rw [HHS.out] at h1
              exact absurd (List.eq_nil_of_length_eq_zero (HNH.out.trans hn0)) h1)
            subst hn0
            have hdn : decide ((0 : Int) < ((0 : Nat) : Int)) = false := rfl
            go_wp2_with fail
            go_quiet (fail)
            have HBX := hide (show RowAt (w5.drewN nq) gd 29 #[.bool false, .int .i64 (g : Int), .int .i64 (w : Int)] from HBX5.out.drewN nq)
            have HO6 := hide (show Own W.heap.size (w5.drewN nq) A m c l from HO5.out.below (below_drewN (Below.refl _ _) nq))
            have HB6 := hide (below_drewN HB5.out nq)
            clear b0 b2 bl HBX5 HO5 HB5
            generalize w5.drewN nq = w6 at *
            have e0 := row30 HBX.out
            have e1 := row31 HBX.out
            have e2 := row32 HBX.out
            have el := HBX.out.lt
            have HBL := hide (show Below w6.heap.size w6 (w6.alloc (.cells #[.bool false, .int .i64 (g : Int), .int .i64 (w : Int)] 29)) from (Below.refl _ _).alloc (Nat.le_refl _) _)
            have HRD := hide ((Rd.new w6 #[.bool false, .int .i64 (g : Int), .int .i64 (w : Int)] 29 3 1 rfl).more (show w6.heap.size + 1 ≤ (w6.alloc (.cells #[.bool false, .int .i64 (g : Int), .int .i64 (w : Int)] 29)).heap.size from by rw [World.size_alloc]; exact Nat.le_refl _))
            have HO7 := hide (HO6.out.below HBL.out)
            have HB7 := hide (HB6.out.trans (HBL.out.mono HB6.out.size))
            cases hpl : playX l [(false, (g : Int), (w : Int))] 0 with
            | error e9 =>
              have HPF := hide (show playF l [(false, (g : Int), (w : Int))] = .error e9 from by unfold playF; rw [if_pos (rightM_iff.2 HRL.out)]; exact hpl)
              have HE9 := hide (playX_err1 (goerB_iff.2 ⟨by show (0 : Int) ≤ g; omega, by show (g : Int) < 8; omega⟩) ⟨by show (0 : Int) ≤ w; omega, by have := HOW.out.len; show (w : Int) < l.length; omega⟩ hpl)
              have HPC := hide (PlayK (nd := 1) (cd := 1) (Ad := some ⟨w6.heap.size, 0, none⟩) (ds := [(false, (g : Int), (w : Int))]) HO7.out HRL.out.small HRD.out rfl (by omega) (l2 := []) (n := 0) (E := e9) (by rw [HPF.out]; rfl) (by rw [HPF.out]; rfl) (by rw [HPF.out]; rfl))
              clear hpl
              go_wp2_with fail
              generalize w6.alloc (.cells #[.bool false, .int .i64 (g : Int), .int .i64 (w : Int)] 29) = w7 at *
              with_reducible refine HPC.out.mono ?_
              rintro e w8 ⟨⟨A8, m8, c8, rfl, _⟩, hb8⟩
              have HO8 := hide (HO7.out.below hb8)
              have HB8 := hide (HB7.out.trans (hb8.mono HB7.out.size))
              clear hb8 e0 e1 e2 el
              rcases HE9.out with h9 | h9
              · subst h9
                go_wp2_with fail
                go_roundw
                case rel => exact ⟨k + 1, l, A, c, by omega, rfl, by go_num, HRL.out, HOL.out, HO8.out, HB8.out⟩
                case measure => simp [intOf]; omega
              · subst h9
                go_wp2_with fail
                go_roundw
                case rel => exact ⟨k + 1, l, A, c, by omega, rfl, by go_num, HRL.out, HOL.out, HO8.out, HB8.out⟩
                case measure => simp [intOf]; omega
            | ok x9 =>
              obtain ⟨l2, n9⟩ := x9
              have HPF := hide (show playF l [(false, (g : Int), (w : Int))] = .ok (l2, n9) from by unfold playF; rw [if_pos (rightM_iff.2 HRL.out)]; exact hpl)
              have HR2 := hide (playX_right _ HRL.out hpl)
              have HOR2 := hide (ord_play HRL.out HOL.out hpl (fun _ => HLAST.out))
              have HPC := hide (PlayK (nd := 1) (cd := 1) (Ad := some ⟨w6.heap.size, 0, none⟩) (ds := [(false, (g : Int), (w : Int))]) HO7.out HRL.out.small HRD.out rfl (by omega) (l2 := l2) (n := (n9 : Int)) (E := 0) (by rw [HPF.out]; rfl) (by rw [HPF.out]; rfl) (by rw [HPF.out]; rfl))
              have HLEN := hide (playX_len _ _ _ _ _ hpl)
              clear hpl
              go_wp2_with fail
              generalize w6.alloc (.cells #[.bool false, .int .i64 (g : Int), .int .i64 (w : Int)] 29) = w7 at *
              with_reducible refine HPC.out.mono ?_
              rintro e w8 ⟨⟨A8, m8, c8, rfl, ho8⟩, hb8⟩
              obtain rfl : m8 = m := by have h1 := ho8.len; have h2 := HOW.out.len; have h3 := HLEN.out; omega
              have HO8 := hide (ho8.base HB7.out.size)
              have HB8 := hide (HB7.out.trans (hb8.mono HB7.out.size))
              clear hb8 ho8 e0 e1 e2 el HPC HRD HBL HO7 HO6 HBX HPF
              go_wp2_with fail
              go_loopw [13, 94] (fun cv i wr2 => ∃ (t : Nat), t ≤ 8 ∧ cv = .int .i64 ((cntX l2 t : Nat) : Int) ∧ i = .int .i64 t ∧ Own W.heap.size wr2 A8 m8 c8 l2 ∧ Below W.heap.size W wr2) (fun _ i _ => 8 - (intOf i).toNat)
              case atStart => exact ⟨0, Nat.zero_le _, rfl, rfl, HO8.out, HB8.out⟩
              case round =>
                obtain ⟨t, ht, rfl, rfl, hot, hbt⟩ := hrel
                have HOT := hide hot
                have HBT := hide hbt
                clear hot hbt
                by_cases ht8 : t < 8
                · have htI : (t : Int) < 8 := by omega
                  have HCS := hide (cntX_succ l2 t)
                  have hcl : ((cntX l2 t : Nat) : Int) ≤ 8 := by have := cntX_le l2 t; omega
                  have hc0 : (0 : Int) ≤ ((cntX l2 t : Nat) : Int) := by omega
                  by_cases hx : waitsX l2 (t : Int) < 0
                  · have HWK := hide (WaitsK (t : Int) HOT.out HR2.out.small (z := 0) (b := false) (by rw [if_pos (rightM_iff.2 HR2.out)]; omega) (by rw [rightM_iff.2 HR2.out, decide_eq_false (by omega)]; rfl))
                    have HC1 := hide (HCS.out.trans (if_pos hx))
                    generalize cntX l2 t = cc at *
                    clear hx
                    go_wp2_with fail
                    with_reducible refine HWK.out.mono ?_
                    rintro e w9 ⟨rfl, hb9⟩
                    have HO9 := hide (HOT.out.below hb9)
                    have HB9 := hide (HBT.out.trans (hb9.mono HBT.out.size))
                    clear hb9
                    go_wp2_with fail
                    go_roundw
                    case rel => exact ⟨t + 1, by omega, by rw [HC1.out]; go_num, by go_num, HO9.out, HB9.out⟩
                    case measure => simp [intOf]; omega
                  · have HWK := hide (WaitsK (t : Int) HOT.out HR2.out.small (z := waitsX l2 (t : Int)) (b := true) (by rw [if_pos (rightM_iff.2 HR2.out)]; omega) (by rw [rightM_iff.2 HR2.out, decide_eq_true (by omega)]; rfl))
                    have HC1 := hide (HCS.out.trans (if_neg hx))
                    generalize cntX l2 t = cc at *
                    clear hx
                    go_wp2_with fail
                    with_reducible refine HWK.out.mono ?_
                    rintro e w9 ⟨rfl, hb9⟩
                    have HO9 := hide (HOT.out.below hb9)
                    have HB9 := hide (HBT.out.trans (hb9.mono HBT.out.size))
                    clear hb9
                    go_wp2_with fail
                    go_roundw
                    case rel => exact ⟨t + 1, by omega, by rw [HC1.out], by go_num, HO9.out, HB9.out⟩
                    case measure => simp [intOf]; omega
                · obtain rfl : t = 8 := by omega
                  have HCK := hide (CheckK HOT.out HR2.out.small (z := 0) (by rw [rightM_iff.2 HR2.out]; rfl))
                  have HNZ := hide (cntX_pos (someCan HR2.out HOR2.out))
                  have hcz : (((cntX l2 8 : Nat) : Int) == 0) = false := by rw [beq_eq_false_iff_ne]; have := HNZ.out; omega
                  generalize cntX l2 8 = cc at *
                  go_wp2_with fail
                  with_reducible refine HCK.out.mono ?_
                  rintro e w9 ⟨rfl, hb9⟩
                  have HO9 := hide (HOT.out.below hb9)
                  have HB9 := hide (HBT.out.trans (hb9.mono HBT.out.size))
                  have HRG := hide (RingK HO9.out HR2.out.small (xs := []) (n := 0) (by rw [if_pos (rightM_iff.2 HR2.out)]; exact noRing HR2.out HOR2.out) rfl)
                  clear hb9 HCK
                  go_wp2_with fail
                  with_reducible refine HRG.out.mono ?_
                  rintro e wa ⟨⟨Ar, cr, rfl, _, _, _⟩, hba⟩
                  have HOa := hide (HO9.out.below hba)
                  have HBa := hide (HB9.out.trans (hba.mono HB9.out.size))
                  clear hba HRG
                  go_wp2_with fail
                  go_roundw
                  case rel => exact ⟨k + 1, l2, A8, c8, by omega, rfl, by go_num, HR2.out, HOR2.out, HOa.out, HBa.out⟩
                  case measure => simp [intOf]; omega
          · obtain ⟨p, rfl⟩ : ∃ p, nh = p + 1 := ⟨nh - 1, by omega⟩
            obtain ⟨bb, ob, rfl, hbb, dh⟩ := HRDH.out.numD HNH.out (k := p) (by omega)
            obtain ⟨la, hla⟩ : ∃ x, hs.getD p 0 = x := ⟨_, rfl⟩
            rw [hla] at dh
            have HLA := hide hla
            have hpI : (p : Int) ≤ 160 := by have := HNL.out; omega
            have hp0 : (0 : Int) < (p : Int) + 1 := by omega
            have hpp : (p : Int) < (p : Int) + 1 := by omega
            clear hla
            by_cases hge : (w : Int) ≤ la
            · have hdg : decide ((w : Int) ≤ la) = true := by simpa using hge
              clear hge
              go_wp2_with fail
              go_quiet (fail)
              have HO6 := hide (show Own W.heap.size (w5.drewN nq) A m c l from HO5.out.below (below_drewN (Below.refl _ _) nq))
              have HB6 := hide (below_drewN HB5.out nq)
              go_wp2_with fail
              go_roundw
              case rel => exact ⟨k + 1, l, A, c, by omega, rfl, by go_num, HRL.out, HOL.out, HO6.out, HB6.out⟩
              case measure => simp [intOf]; omega
            · have hdg : decide ((w : Int) ≤ la) = false := by simpa using hge
              have HLAST := hide (show ∀ j : Nat, j < l.length → (mAt l j).1 = (g : Int) + 1 → (j : Int) < (w : Int) from fun j hj hw => by
                have h1 := (hasGo_last (g : Int) l j hj hw).2
                rw [HHS.out, HNH.out, Nat.add_sub_cancel, HLA.out] at h1
                omega)
              clear hge
              go_wp2_with fail
              go_quiet (fail)
              have HBX := hide (show RowAt (w5.drewN nq) gd 29 #[.bool false, .int .i64 (g : Int), .int .i64 (w : Int)] from HBX5.out.drewN nq)
              have HO6 := hide (show Own W.heap.size (w5.drewN nq) A m c l from HO5.out.below (below_drewN (Below.refl _ _) nq))
              have HB6 := hide (below_drewN HB5.out nq)
              clear b0 b2 bl HBX5 HO5 HB5
              generalize w5.drewN nq = w6 at *
              have e0 := row30 HBX.out
              have e1 := row31 HBX.out
              have e2 := row32 HBX.out
              have el := HBX.out.lt
              have HBL := hide (show Below w6.heap.size w6 (w6.alloc (.cells #[.bool false, .int .i64 (g : Int), .int .i64 (w : Int)] 29)) from (Below.refl _ _).alloc (Nat.le_refl _) _)
              have HRD := hide ((Rd.new w6 #[.bool false, .int .i64 (g : Int), .int .i64 (w : Int)] 29 3 1 rfl).more (show w6.heap.size + 1 ≤ (w6.alloc (.cells #[.bool false, .int .i64 (g : Int), .int .i64 (w : Int)] 29)).heap.size from by rw [World.size_alloc]; exact Nat.le_refl _))
              have HO7 := hide (HO6.out.below HBL.out)
              have HB7 := hide (HB6.out.trans (HBL.out.mono HB6.out.size))
              cases hpl : playX l [(false, (g : Int), (w : Int))] 0 with
              | error e9 =>
                have HPF := hide (show playF l [(false, (g : Int), (w : Int))] = .error e9 from by unfold playF; rw [if_pos (rightM_iff.2 HRL.out)]; exact hpl)
                have HE9 := hide (playX_err1 (goerB_iff.2 ⟨by show (0 : Int) ≤ g; omega, by show (g : Int) < 8; omega⟩) ⟨by show (0 : Int) ≤ w; omega, by have := HOW.out.len; show (w : Int) < l.length; omega⟩ hpl)
                have HPC := hide (PlayK (nd := 1) (cd := 1) (Ad := some ⟨w6.heap.size, 0, none⟩) (ds := [(false, (g : Int), (w : Int))]) HO7.out HRL.out.small HRD.out rfl (by omega) (l2 := []) (n := 0) (E := e9) (by rw [HPF.out]; rfl) (by rw [HPF.out]; rfl) (by rw [HPF.out]; rfl))
                clear hpl
                go_wp2_with fail
                generalize w6.alloc (.cells #[.bool false, .int .i64 (g : Int), .int .i64 (w : Int)] 29) = w7 at *
                with_reducible refine HPC.out.mono ?_
                rintro e w8 ⟨⟨A8, m8, c8, rfl, _⟩, hb8⟩
                have HO8 := hide (HO7.out.below hb8)
                have HB8 := hide (HB7.out.trans (hb8.mono HB7.out.size))
                clear hb8 e0 e1 e2 el
                rcases HE9.out with h9 | h9
                · subst h9
                  go_wp2_with fail
                  go_roundw
                  case rel => exact ⟨k + 1, l, A, c, by omega, rfl, by go_num, HRL.out, HOL.out, HO8.out, HB8.out⟩
                  case measure => simp [intOf]; omega
                · subst h9
                  go_wp2_with fail
                  go_roundw
                  case rel => exact ⟨k + 1, l, A, c, by omega, rfl, by go_num, HRL.out, HOL.out, HO8.out, HB8.out⟩
                  case measure => simp [intOf]; omega
              | ok x9 =>
                obtain ⟨l2, n9⟩ := x9
                have HPF := hide (show playF l [(false, (g : Int), (w : Int))] = .ok (l2, n9) from by unfold playF; rw [if_pos (rightM_iff.2 HRL.out)]; exact hpl)
                have HR2 := hide (playX_right _ HRL.out hpl)
                have HOR2 := hide (ord_play HRL.out HOL.out hpl (fun _ => HLAST.out))
                have HPC := hide (PlayK (nd := 1) (cd := 1) (Ad := some ⟨w6.heap.size, 0, none⟩) (ds := [(false, (g : Int), (w : Int))]) HO7.out HRL.out.small HRD.out rfl (by omega) (l2 := l2) (n := (n9 : Int)) (E := 0) (by rw [HPF.out]; rfl) (by rw [HPF.out]; rfl) (by rw [HPF.out]; rfl))
                have HLEN := hide (playX_len _ _ _ _ _ hpl)
                clear hpl
                go_wp2_with fail
                generalize w6.alloc (.cells #[.bool false, .int .i64 (g : Int), .int .i64 (w : Int)] 29) = w7 at *
                with_reducible refine HPC.out.mono ?_
                rintro e w8 ⟨⟨A8, m8, c8, rfl, ho8⟩, hb8⟩
                obtain rfl : m8 = m := by have h1 := ho8.len; have h2 := HOW.out.len; have h3 := HLEN.out; omega
                have HO8 := hide (ho8.base HB7.out.size)
                have HB8 := hide (HB7.out.trans (hb8.mono HB7.out.size))
                clear hb8 ho8 e0 e1 e2 el HPC HRD HBL HO7 HO6 HBX HPF
                go_wp2_with fail
                go_loopw [13, 94] (fun cv i wr2 => ∃ (t : Nat), t ≤ 8 ∧ cv = .int .i64 ((cntX l2 t : Nat) : Int) ∧ i = .int .i64 t ∧ Own W.heap.size wr2 A8 m8 c8 l2 ∧ Below W.heap.size W wr2) (fun _ i _ => 8 - (intOf i).toNat)
                case atStart => exact ⟨0, Nat.zero_le _, rfl, rfl, HO8.out, HB8.out⟩
                case round =>
                  obtain ⟨t, ht, rfl, rfl, hot, hbt⟩ := hrel
                  have HOT := hide hot
                  have HBT := hide hbt
                  clear hot hbt
                  by_cases ht8 : t < 8
                  · have htI : (t : Int) < 8 := by omega
                    have HCS := hide (cntX_succ l2 t)
                    have hcl : ((cntX l2 t : Nat) : Int) ≤ 8 := by have := cntX_le l2 t; omega
                    have hc0 : (0 : Int) ≤ ((cntX l2 t : Nat) : Int) := by omega
                    by_cases hx : waitsX l2 (t : Int) < 0
                    · have HWK := hide (WaitsK (t : Int) HOT.out HR2.out.small (z := 0) (b := false) (by rw [if_pos (rightM_iff.2 HR2.out)]; omega) (by rw [rightM_iff.2 HR2.out, decide_eq_false (by omega)]; rfl))
                      have HC1 := hide (HCS.out.trans (if_pos hx))
                      generalize cntX l2 t = cc at *
                      clear hx
                      go_wp2_with fail
                      with_reducible refine HWK.out.mono ?_
                      rintro e w9 ⟨rfl, hb9⟩
                      have HO9 := hide (HOT.out.below hb9)
                      have HB9 := hide (HBT.out.trans (hb9.mono HBT.out.size))
                      clear hb9
                      go_wp2_with fail
                      go_roundw
                      case rel => exact ⟨t + 1, by omega, by rw [HC1.out]; go_num, by go_num, HO9.out, HB9.out⟩
                      case measure => simp [intOf]; omega
                    · have HWK := hide (WaitsK (t : Int) HOT.out HR2.out.small (z := waitsX l2 (t : Int)) (b := true) (by rw [if_pos (rightM_iff.2 HR2.out)]; omega) (by rw [rightM_iff.2 HR2.out, decide_eq_true (by omega)]; rfl))
                      have HC1 := hide (HCS.out.trans (if_neg hx))
                      generalize cntX l2 t = cc at *
                      clear hx
                      go_wp2_with fail
                      with_reducible refine HWK.out.mono ?_
                      rintro e w9 ⟨rfl, hb9⟩
                      have HO9 := hide (HOT.out.below hb9)
                      have HB9 := hide (HBT.out.trans (hb9.mono HBT.out.size))
                      clear hb9
                      go_wp2_with fail
                      go_roundw
                      case rel => exact ⟨t + 1, by omega, by rw [HC1.out], by go_num, HO9.out, HB9.out⟩
                      case measure => simp [intOf]; omega
                  · obtain rfl : t = 8 := by omega
                    have HCK := hide (CheckK HOT.out HR2.out.small (z := 0) (by rw [rightM_iff.2 HR2.out]; rfl))
                    have HNZ := hide (cntX_pos (someCan HR2.out HOR2.out))
                    have hcz : (((cntX l2 8 : Nat) : Int) == 0) = false := by rw [beq_eq_false_iff_ne]; have := HNZ.out; omega
                    generalize cntX l2 8 = cc at *
                    go_wp2_with fail
                    with_reducible refine HCK.out.mono ?_
                    rintro e w9 ⟨rfl, hb9⟩
                    have HO9 := hide (HOT.out.below hb9)
                    have HB9 := hide (HBT.out.trans (hb9.mono HBT.out.size))
                    have HRG := hide (RingK HO9.out HR2.out.small (xs := []) (n := 0) (by rw [if_pos (rightM_iff.2 HR2.out)]; exact noRing HR2.out HOR2.out) rfl)
                    clear hb9 HCK
                    go_wp2_with fail
                    with_reducible refine HRG.out.mono ?_
                    rintro e wa ⟨⟨Ar, cr, rfl, _, _, _⟩, hba⟩
                    have HOa := hide (HO9.out.below hba)
                    have HBa := hide (HB9.out.trans (hba.mono HB9.out.size))
                    clear hba HRG
                    go_wp2_with fail
                    go_roundw
                    case rel => exact ⟨k + 1, l2, A8, c8, by omega, rfl, by go_num, HR2.out, HOR2.out, HOa.out, HBa.out⟩
                    case measure => simp [intOf]; omega
        · have HDUM := hide (trivial : True)
          go_wp2_with fail
          go_quiet (fail)
          have HBX := hide (show RowAt (w5.drewN nq) gd 29 #[.bool true, .int .i64 (g : Int), .int .i64 (w : Int)] from HBX5.out.drewN nq)
          have HO6 := hide (show Own W.heap.size (w5.drewN nq) A m c l from HO5.out.below (below_drewN (Below.refl _ _) nq))
          have HB6 := hide (below_drewN HB5.out nq)
          clear b0 b2 bl HBX5 HO5 HB5
          generalize w5.drewN nq = w6 at *
          have e0 := row30 HBX.out
          have e1 := row31 HBX.out
          have e2 := row32 HBX.out
          have el := HBX.out.lt
          have HBL := hide (show Below w6.heap.size w6 (w6.alloc (.cells #[.bool true, .int .i64 (g : Int), .int .i64 (w : Int)] 29)) from (Below.refl _ _).alloc (Nat.le_refl _) _)
          have HRD := hide ((Rd.new w6 #[.bool true, .int .i64 (g : Int), .int .i64 (w : Int)] 29 3 1 rfl).more (show w6.heap.size + 1 ≤ (w6.alloc (.cells #[.bool true, .int .i64 (g : Int), .int .i64 (w : Int)] 29)).heap.size from by rw [World.size_alloc]; exact Nat.le_refl _))
          have HO7 := hide (HO6.out.below HBL.out)
          have HB7 := hide (HB6.out.trans (HBL.out.mono HB6.out.size))
          cases hpl : playX l [(true, (g : Int), (w : Int))] 0 with
          | error e9 =>
            have HPF := hide (show playF l [(true, (g : Int), (w : Int))] = .error e9 from by unfold playF; rw [if_pos (rightM_iff.2 HRL.out)]; exact hpl)
            have HE9 := hide (playX_err1 (goerB_iff.2 ⟨by show (0 : Int) ≤ g; omega, by show (g : Int) < 8; omega⟩) ⟨by show (0 : Int) ≤ w; omega, by have := HOW.out.len; show (w : Int) < l.length; omega⟩ hpl)
            have HPC := hide (PlayK (nd := 1) (cd := 1) (Ad := some ⟨w6.heap.size, 0, none⟩) (ds := [(true, (g : Int), (w : Int))]) HO7.out HRL.out.small HRD.out rfl (by omega) (l2 := []) (n := 0) (E := e9) (by rw [HPF.out]; rfl) (by rw [HPF.out]; rfl) (by rw [HPF.out]; rfl))
            clear hpl
            go_wp2_with fail
            generalize w6.alloc (.cells #[.bool true, .int .i64 (g : Int), .int .i64 (w : Int)] 29) = w7 at *
            with_reducible refine HPC.out.mono ?_
            rintro e w8 ⟨⟨A8, m8, c8, rfl, _⟩, hb8⟩
            have HO8 := hide (HO7.out.below hb8)
            have HB8 := hide (HB7.out.trans (hb8.mono HB7.out.size))
            clear hb8 e0 e1 e2 el
            rcases HE9.out with h9 | h9
            · subst h9
              go_wp2_with fail
              go_roundw
              case rel => exact ⟨k + 1, l, A, c, by omega, rfl, by go_num, HRL.out, HOL.out, HO8.out, HB8.out⟩
              case measure => simp [intOf]; omega
            · subst h9
              go_wp2_with fail
              go_roundw
              case rel => exact ⟨k + 1, l, A, c, by omega, rfl, by go_num, HRL.out, HOL.out, HO8.out, HB8.out⟩
              case measure => simp [intOf]; omega
          | ok x9 =>
            obtain ⟨l2, n9⟩ := x9
            have HPF := hide (show playF l [(true, (g : Int), (w : Int))] = .ok (l2, n9) from by unfold playF; rw [if_pos (rightM_iff.2 HRL.out)]; exact hpl)
            have HR2 := hide (playX_right _ HRL.out hpl)
            have HOR2 := hide (ord_play HRL.out HOL.out hpl (fun h => by cases h))
            have HPC := hide (PlayK (nd := 1) (cd := 1) (Ad := some ⟨w6.heap.size, 0, none⟩) (ds := [(true, (g : Int), (w : Int))]) HO7.out HRL.out.small HRD.out rfl (by omega) (l2 := l2) (n := (n9 : Int)) (E := 0) (by rw [HPF.out]; rfl) (by rw [HPF.out]; rfl) (by rw [HPF.out]; rfl))
            have HLEN := hide (playX_len _ _ _ _ _ hpl)
            clear hpl
            go_wp2_with fail
            generalize w6.alloc (.cells #[.bool true, .int .i64 (g : Int), .int .i64 (w : Int)] 29) = w7 at *
            with_reducible refine HPC.out.mono ?_
            rintro e w8 ⟨⟨A8, m8, c8, rfl, ho8⟩, hb8⟩
            obtain rfl : m8 = m := by have h1 := ho8.len; have h2 := HOW.out.len; have h3 := HLEN.out; omega
            have HO8 := hide (ho8.base HB7.out.size)
            have HB8 := hide (HB7.out.trans (hb8.mono HB7.out.size))
            clear hb8 ho8 e0 e1 e2 el HPC HRD HBL HO7 HO6 HBX HPF
            go_wp2_with fail
            go_loopw [13, 94] (fun cv i wr2 => ∃ (t : Nat), t ≤ 8 ∧ cv = .int .i64 ((cntX l2 t : Nat) : Int) ∧ i = .int .i64 t ∧ Own W.heap.size wr2 A8 m8 c8 l2 ∧ Below W.heap.size W wr2) (fun _ i _ => 8 - (intOf i).toNat)
            case atStart => exact ⟨0, Nat.zero_le _, rfl, rfl, HO8.out, HB8.out⟩
            case round =>
              obtain ⟨t, ht, rfl, rfl, hot, hbt⟩ := hrel
              have HOT := hide hot
              have HBT := hide hbt
              clear hot hbt
              by_cases ht8 : t < 8
              · have htI : (t : Int) < 8 := by omega
                have HCS := hide (cntX_succ l2 t)
                have hcl : ((cntX l2 t : Nat) : Int) ≤ 8 := by have := cntX_le l2 t; omega
                have hc0 : (0 : Int) ≤ ((cntX l2 t : Nat) : Int) := by omega
                by_cases hx : waitsX l2 (t : Int) < 0
                · have HWK := hide (WaitsK (t : Int) HOT.out HR2.out.small (z := 0) (b := false) (by rw [if_pos (rightM_iff.2 HR2.out)]; omega) (by rw [rightM_iff.2 HR2.out, decide_eq_false (by omega)]; rfl))
                  have HC1 := hide (HCS.out.trans (if_pos hx))
                  generalize cntX l2 t = cc at *
                  clear hx
                  go_wp2_with fail
                  with_reducible refine HWK.out.mono ?_
                  rintro e w9 ⟨rfl, hb9⟩
                  have HO9 := hide (HOT.out.below hb9)
                  have HB9 := hide (HBT.out.trans (hb9.mono HBT.out.size))
                  clear hb9
                  go_wp2_with fail
                  go_roundw
                  case rel => exact ⟨t + 1, by omega, by rw [HC1.out]; go_num, by go_num, HO9.out, HB9.out⟩
                  case measure => simp [intOf]; omega
                · have HWK := hide (WaitsK (t : Int) HOT.out HR2.out.small (z := waitsX l2 (t : Int)) (b := true) (by rw [if_pos (rightM_iff.2 HR2.out)]; omega) (by rw [rightM_iff.2 HR2.out, decide_eq_true (by omega)]; rfl))
                  have HC1 := hide (HCS.out.trans (if_neg hx))
                  generalize cntX l2 t = cc at *
                  clear hx
                  go_wp2_with fail
                  with_reducible refine HWK.out.mono ?_
                  rintro e w9 ⟨rfl, hb9⟩
                  have HO9 := hide (HOT.out.below hb9)
                  have HB9 := hide (HBT.out.trans (hb9.mono HBT.out.size))
                  clear hb9
                  go_wp2_with fail
                  go_roundw
                  case rel => exact ⟨t + 1, by omega, by rw [HC1.out], by go_num, HO9.out, HB9.out⟩
                  case measure => simp [intOf]; omega
              · obtain rfl : t = 8 := by omega
                have HCK := hide (CheckK HOT.out HR2.out.small (z := 0) (by rw [rightM_iff.2 HR2.out]; rfl))
                have HNZ := hide (cntX_pos (someCan HR2.out HOR2.out))
                have hcz : (((cntX l2 8 : Nat) : Int) == 0) = false := by rw [beq_eq_false_iff_ne]; have := HNZ.out; omega
                generalize cntX l2 8 = cc at *
                go_wp2_with fail
                with_reducible refine HCK.out.mono ?_
                rintro e w9 ⟨rfl, hb9⟩
                have HO9 := hide (HOT.out.below hb9)
                have HB9 := hide (HBT.out.trans (hb9.mono HBT.out.size))
                have HRG := hide (RingK HO9.out HR2.out.small (xs := []) (n := 0) (by rw [if_pos (rightM_iff.2 HR2.out)]; exact noRing HR2.out HOR2.out) rfl)
                clear hb9 HCK
                go_wp2_with fail
                with_reducible refine HRG.out.mono ?_
                rintro e wa ⟨⟨Ar, cr, rfl, _, _, _⟩, hba⟩
                have HOa := hide (HO9.out.below hba)
                have HBa := hide (HB9.out.trans (hba.mono HB9.out.size))
                clear hba HRG
                go_wp2_with fail
                go_roundw
                case rel => exact ⟨k + 1, l2, A8, c8, by omega, rfl, by go_num, HR2.out, HOR2.out, HOa.out, HBa.out⟩
                case measure => simp [intOf]; omega
    · go_wp2_with fail
      go_ret
      exact ⟨rfl, HBW.out⟩
end Go.Proofs.Ytlelpnahillioaa
