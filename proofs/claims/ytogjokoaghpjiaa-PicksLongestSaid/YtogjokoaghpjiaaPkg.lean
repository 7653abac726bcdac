/-
  The same turns.
-/
import Derived.Test.YtogjokoaghpjiaaPkf
set_option linter.unusedSimpArgs false
set_option linter.unusedVariables false
namespace Go.Proofs.Ytogjokoaghpjiaa
open Go Go.RowKit
attribute [local go_sem] via_cell via_frozen

def tnEq (x y : Tm) : Bool := decide (x.ch = y.ch) && decide (x.can = y.can)
theorem tnEq_iff (x y : Tm) : tnEq x y = true ↔ x.tn = y.tn := by
  unfold tnEq Tm.tn
  simp [and_comm]
theorem sameC_any (x y : Tm) (W : World) (h1 : Rd W W.heap.size 1 x.A x.can.length (Cs encI x.can)) (h2 : Rd W W.heap.size 1 y.A y.can.length (Cs encI y.can)) (l1 : x.can.length ≤ 4096) (l2 : y.can.length ≤ 4096) (r : Bool) (hr : tnEq x y = r) :
    Calls Try.prog 44 #[.agg #[.slice x.A x.can.length x.c, .int .i64 x.ch], .agg #[.slice y.A y.can.length y.c, .int .i64 y.ch]] W fun e W' => e = .returned (.bool r) ∧ Below W.heap.size W W' := by
  obtain ⟨xA, xc, xcan, xch⟩ := x
  obtain ⟨yA, yc, ycan, ych⟩ := y
  dsimp only at *
  have HB := hide (show Below W.heap.size W ((W.alloc (.cells #[.slice xA xcan.length xc, .int .i64 xch] 37)).alloc (.cells #[.slice yA ycan.length yc, .int .i64 ych] 37)) from ((Below.refl _ _).alloc (Nat.le_refl _) _).alloc (by simp) _)
  unfold tnEq at hr
  dsimp only at hr
  by_cases hc : xch = ych
  · have hd : (xch == ych) = true := by simpa using hc
    have HE := hide (EqualI W.heap.size W.heap.size xA yA xc yc xcan ycan _ (h1.below HB.out) (h2.below HB.out) HB.out.size HB.out.size l1 l2 r (by rw [← hr]; simp [hc]))
    clear h1 h2 hr
    subst hc
    go_enter Try.func44, Try.ntmps44
    go_wp2_with fail
    with_reducible refine HE.out.mono ?_
    rintro e w1 ⟨rfl, hb⟩
    have HBF := hide (HB.out.trans (hb.mono HB.out.size))
    clear hb
    go_wp2_with fail
    go_ret
    exact ⟨rfl, HBF.out⟩
  · have hd : (xch == ych) = false := by simpa using hc
    have HF := hide (show false = r from by rw [← hr]; simp [hc])
    clear h1 h2 hr
    go_enter Try.func44, Try.ntmps44
    go_wp2_with fail
    go_ret
    exact ⟨ret_bool HF.out, HB.out⟩
theorem take_tns {ts us : List Tm} {k : Nat} (h1 : k < ts.length) (h2 : k < us.length) : ((tns ts).take (k + 1) = (tns us).take (k + 1)) ↔ ((tns ts).take k = (tns us).take k ∧ tnEq ts[k] us[k] = true) := by
  have e1 : (tns ts).take (k + 1) = (tns ts).take k ++ [ts[k].tn] := by rw [← tns_take, List.take_succ_eq_append_getElem h1, tns, List.map_append, ← tns, tns_take]; rfl
  have e2 : (tns us).take (k + 1) = (tns us).take k ++ [us[k].tn] := by rw [← tns_take, List.take_succ_eq_append_getElem h2, tns, List.map_append, ← tns, tns_take]; rfl
  rw [e1, e2, tnEq_iff]
  constructor
  · intro h
    have := List.append_inj' h rfl
    exact ⟨this.1, by simpa using this.2⟩
  · rintro ⟨h, h'⟩
    rw [h, h']
set_option maxHeartbeats 1000000 in
theorem equalF_any (B1 B2 : Nat) (A1 A2 : Option Addr) (c1 c2 m1 m2 : Nat) (ts us : List Tm) (W : World) (h1 : RT W B1 A1 m1 ts) (h2 : RT W B2 A2 m2 us) (hB1 : B1 ≤ W.heap.size) (hB2 : B2 ≤ W.heap.size) (s1 : SmallT ts) (s2 : SmallT us) (r : Bool) (hr : decide (tns ts = tns us) = r) :
    Calls Try.prog 43 #[.slice A1 m1 c1, .slice A2 m2 c2, .func (.func 44) #[] #[]] W fun e W' => e = .returned (.bool r) ∧ Below W.heap.size W W' := by
  have HR := hide hr
  have H1 := hide h1
  have H2 := hide h2
  have L1 := hide h1.len
  have L2 := hide h2.len
  have S1 := hide s1
  have S2 := hide s2
  have hm1 : m1 ≤ 4096 := by have := s1.1; have := h1.len; omega
  have hm2 : m2 ≤ 4096 := by have := s2.1; have := h2.len; omega
  clear h1 h2 hr s1 s2
  by_cases hlen : m1 = m2
  · subst hlen
    have ht : ((m1 : Int) != (m1 : Int)) = false := by simp
    go_enter Try.func43, Try.ntmps43
    go_wp2_with fail
    go_loopw [17] (fun i wr => ∃ k : Nat, k ≤ m1 ∧ i = .int .i64 k ∧ (tns ts).take k = (tns us).take k ∧ Below W.heap.size W wr) (fun i _ => m1 - (intOf i).toNat)
    case atStart => exact ⟨0, Nat.zero_le _, rfl, rfl, Below.refl _ _⟩
    case round =>
      obtain ⟨k, hk, rfl, hpre, hbw⟩ := hrel
      have HP := hide hpre
      have HBW := hide hbw
      clear hpre hbw
      by_cases hlt : k < m1
      · have hx1 : k < ts.length := by rw [L1.out]; exact hlt
        have hx2 : k < us.length := by rw [L2.out]; exact hlt
        obtain ⟨b1, o1, rfl, hb1, d10, d11, hcan1⟩ := (H1.out.below (HBW.out.mono hB1)).at_ hx1
        obtain ⟨b2, o2, rfl, hb2, d20, d21, hcan2⟩ := (H2.out.below (HBW.out.mono hB2)).at_ hx2
        have hbl1 : b1 < wr.heap.size := Nat.lt_of_lt_of_le hb1 (Nat.le_trans hB1 HBW.out.size)
        have hbl2 : b2 < wr.heap.size := Nat.lt_of_lt_of_le hb2 (Nat.le_trans hB2 HBW.out.size)
        have hkm : (k : Int) < (m1 : Int) := by omega
        have HT := hide (take_tns hx1 hx2)
        have hl1 := S1.out.2 _ (List.getElem_mem hx1)
        have hl2 := S2.out.2 _ (List.getElem_mem hx2)
        generalize ts[k] = x at *
        generalize us[k] = y at *
        obtain ⟨q, hq⟩ : ∃ q, tnEq x y = q := ⟨_, rfl⟩
        have HBN := hide (show Below wr.heap.size wr ((wr.alloc (.cells #[.slice x.A x.can.length x.c, .int .i64 x.ch] 37)).alloc (.cells #[.slice y.A y.can.length y.c, .int .i64 y.ch] 37)) from ((Below.refl _ _).alloc (Nat.le_refl _) _).alloc (by simp) _)
        have HC := hide (sameC_any x y _ (((hcan1.more (Nat.le_trans hB1 HBW.out.size)).below HBN.out).more HBN.out.size) (((hcan2.more (Nat.le_trans hB2 HBW.out.size)).below HBN.out).more HBN.out.size) hl1 hl2 q hq)
        have HQ := hide hq
        clear hq hb1 hb2 hcan1 hcan2
        go_wp2_with fail
        with_reducible refine HC.out.mono ?_
        rintro e w2 ⟨rfl, hb2⟩
        have HBE := hide (HBW.out.trans ((HBN.out.trans (hb2.mono HBN.out.size)).mono HBW.out.size))
        clear hb2
        cases q
        · have HF := hide (show false = r from by
            rw [← HR.out, eq_comm, decide_eq_false_iff_not]
            intro h
            have h' := (HT.out.1 (by rw [h])).2
            rw [HQ.out] at h'
            cases h')
          go_wp2_with fail
          go_ret
          exact ⟨ret_bool HF.out, HBE.out⟩
        · have HN := hide (HT.out.2 ⟨HP.out, HQ.out⟩)
          go_wp2_with fail
          go_roundw
          case rel => exact ⟨k + 1, by omega, by go_num, HN.out, HBE.out⟩
          case measure => simp [intOf]; omega
      · have HF := hide (show true = r from by
          rw [← HR.out, eq_comm, decide_eq_true_iff]
          have h := HP.out
          rw [List.take_of_length_le (by rw [tns_len, L1.out]; omega), List.take_of_length_le (by rw [tns_len, L2.out]; omega)] at h
          exact h)
        go_wp2_with fail
        go_ret
        exact ⟨ret_bool HF.out, HBW.out⟩
  · have ht : ((m1 : Int) != (m2 : Int)) = true := by rw [bne_iff_ne]; omega
    have HF := hide (show false = r from by
      rw [← HR.out, eq_comm, decide_eq_false_iff_not]
      intro h
      apply hlen
      rw [← L1.out, ← L2.out, ← tns_len ts, ← tns_len us, h])
    go_enter Try.func43, Try.ntmps43
    go_wp2_with fail
    go_ret
    exact ⟨ret_bool HF.out, Below.refl _ _⟩
theorem same_any (B1 B2 : Nat) (A1 A2 : Option Addr) (c1 c2 m1 m2 : Nat) (ts us : List Tm) (W : World) (h1 : RT W B1 A1 m1 ts) (h2 : RT W B2 A2 m2 us) (hB1 : B1 ≤ W.heap.size) (hB2 : B2 ≤ W.heap.size) (s1 : SmallT ts) (s2 : SmallT us) (r : Bool) (hr : decide (tns ts = tns us) = r) :
    Calls Try.prog 29 #[.slice A1 m1 c1, .slice A2 m2 c2] W fun e W' => e = .returned (.bool r) ∧ Below W.heap.size W W' := by
  have HI := hide (equalF_any B1 B2 A1 A2 c1 c2 m1 m2 ts us W h1 h2 hB1 hB2 s1 s2 r hr)
  clear h1 h2 s1 s2 hr
  go_enter Try.func29, Try.ntmps29
  go_wp2_with fail
  with_reducible refine HI.out.mono ?_
  rintro e w1 ⟨rfl, hb⟩
  go_wp2_with fail
  go_ret
  exact ⟨rfl, hb⟩
end Go.Proofs.Ytogjokoaghpjiaa
