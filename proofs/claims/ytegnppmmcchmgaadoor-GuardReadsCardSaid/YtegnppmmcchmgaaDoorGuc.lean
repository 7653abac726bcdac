/-
  Whether these are sections: the program's, and the reference's.
-/
import Derived.Test.YtegnppmmcchmgaaDoorGub
set_option linter.unusedSimpArgs false
set_option linter.unusedVariables false
namespace Go.Proofs.YtegnppmmcchmgaaDoor
open Go Go.RowKit
attribute [local go_sem] via_cell via_frozen

def errS (b : Bool) : Int := if b then 0 else 160
theorem Rd.sec {w : World} {B : Nat} {A : Option Addr} {l : List Sec} (h : Rd w B 2 A l.length (Cs encS l)) {k : Nat} (hk : k < l.length) :
    ∃ b o, A = some ⟨b, o, none⟩ ∧ b < B ∧ w.cell? ⟨b, o + k * 2, none⟩ = some (.int .i64 l[k].1) ∧ w.cell? ⟨b, o + k * 2 + 1, none⟩ = some (.int .i64 l[k].2) := by
  obtain ⟨b, o, h1, h2, h3⟩ := h.elem encS_len hk
  exact ⟨b, o, h1, h2, by simpa using h3 0 _ (by omega) rfl, h3 1 _ (by omega) rfl⟩
theorem chk_at {z : Int} {l : List Sec} {k : Nat} (hk : k < l.length) : chk z (l.drop k) = (!badS (decide (k + 1 = l.length)) z l[k] && chk l[k].2 (l.drop (k + 1))) := by
  rw [List.drop_eq_getElem_cons hk, chk]
  have h : (l.drop (k + 1)).isEmpty = decide (k + 1 = l.length) := by
    rw [Bool.eq_iff_iff, List.isEmpty_iff, List.drop_eq_nil_iff]
    simp; omega
  rw [h]
set_option maxHeartbeats 1000000 in
theorem check_any (B : Nat) (A : Option Addr) (c m : Nat) (l : List Sec) (W : World) (h : Rd W B 2 A m (Cs encS l)) (hx : l.length = m) (hB : B ≤ W.heap.size) (hm : m ≤ 4096) (r : Bool) (hr : chk 0 l = r) :
    Calls Tryd.prog 17 #[.slice A m c] W fun e W' => e = .returned (.int .i64 (errS r)) ∧ Below W.heap.size W W' := by
  subst hx
  have HR := hide hr
  have H := hide h
  clear h hr
  go_enter Tryd.func17, Tryd.ntmps17
  go_wp2_with fail
  go_loopw [3, 9] (fun a i wr => ∃ (k : Nat) (z : Int), k ≤ l.length ∧ a = .int .i64 z ∧ i = .int .i64 k ∧ 0 ≤ z ∧ chk 0 l = chk z (l.drop k) ∧ Below W.heap.size W wr) (fun _ i _ => l.length - (intOf i).toNat)
  case atStart => exact ⟨0, 0, Nat.zero_le _, rfl, rfl, by omega, by simp, Below.refl _ _⟩
  case round =>
    obtain ⟨k, z, hk, rfl, rfl, hz, hc, hbw⟩ := hrel
    have HC := hide hc
    have HBW := hide hbw
    have hsz := hbw.size
    clear hc hbw
    by_cases hlt : k < l.length
    · obtain ⟨b, o, rfl, hb, d0, d1⟩ := (H.out.below (HBW.out.mono hB)).sec hlt
      have HA := hide (chk_at (z := z) hlt)
      have hbl : b < wr.heap.size := by omega
      have hki : (k : Int) < (l.length : Int) := by omega
      have HBN := hide (show Below W.heap.size W (wr.alloc (.cells #[.int .i64 l[k].1, .int .i64 l[k].2] 33)) from HBW.out.trans ((Below.refl _ _).alloc hsz _))
      obtain ⟨f, hf⟩ : ∃ f, l[k].1 = f := ⟨_, rfl⟩
      obtain ⟨t, ht⟩ : ∃ t, l[k].2 = t := ⟨_, rfl⟩
      have HS := hide (show l[k] = (f, t) from by rw [← hf, ← ht])
      rw [hf] at d0 HBN
      rw [ht] at d1 HBN
      clear hf ht hb
      have HX := hide (show chk 0 l = (!badS (decide (k + 1 = l.length)) z (f, t) && chk t (l.drop (k + 1))) from by rw [HC.out, HA.out, HS.out])
      clear HA HS HC
      have bad : badS (decide (k + 1 = l.length)) z (f, t) = true → 160 = errS r := fun hb => by rw [← HR.out, HX.out, hb]; rfl
      have BAD := hide bad
      clear bad
      by_cases c3 : t = 0
      · subst c3
        · by_cases c1 : f ≤ z
          · have HF := hide (BAD.out (by unfold badS; simp [c1]))
            go_wp2_with fail
            go_ret
            exact ⟨ret_int HF.out, HBN.out⟩
          · by_cases c2 : 1073741824 < f
            · have HF := hide (BAD.out (by unfold badS; simp [c1, c2]))
              go_wp2_with fail
              go_ret
              exact ⟨ret_int HF.out, HBN.out⟩
            · by_cases c4 : k + 1 = l.length
              · have c4i : ((k : Int) == (l.length : Int) - 1) = true := by rw [beq_iff_eq]; omega
                have HG := hide (show chk 0 l = chk 0 (l.drop (k + 1)) from by rw [HX.out, show badS (decide (k + 1 = l.length)) z (f, 0) = false from by unfold badS; simp [c1, c2, c4]]; rfl)
                have h0t : (0 : Int) ≤ 0 := by omega
                clear c4
                go_wp2_with fail
                go_roundw
                case rel => exact ⟨k + 1, 0, by omega, rfl, by go_num, h0t, HG.out, HBN.out⟩
                case measure => simp [intOf]; omega
              · have c4i : ((k : Int) == (l.length : Int) - 1) = false := by rw [beq_eq_false_iff_ne]; omega
                have c5 : (0 : Int) ≤ f := by omega
                have HF := hide (BAD.out (by unfold badS; simp [c1, c2, c4, c5]))
                clear c4
                go_wp2_with fail
                go_ret
                exact ⟨ret_int HF.out, HBN.out⟩
      · by_cases c1 : f ≤ z
        · have HF := hide (BAD.out (by unfold badS; simp [c3, c1]))
          go_wp2_with fail
          go_ret
          exact ⟨ret_int HF.out, HBN.out⟩
        · by_cases c2 : 1073741824 < f
          · have HF := hide (BAD.out (by unfold badS; simp [c3, c1, c2]))
            go_wp2_with fail
            go_ret
            exact ⟨ret_int HF.out, HBN.out⟩
          · by_cases c5 : t ≤ f
            · have HF := hide (BAD.out (by unfold badS; simp [c3, c1, c2, c5]))
              go_wp2_with fail
              go_ret
              exact ⟨ret_int HF.out, HBN.out⟩
            · by_cases c6 : 1073741824 < t
              · have HF := hide (BAD.out (by unfold badS; simp [c3, c1, c2, c5, c6]))
                go_wp2_with fail
                go_ret
                exact ⟨ret_int HF.out, HBN.out⟩
              · have HG := hide (show chk 0 l = chk t (l.drop (k + 1)) from by rw [HX.out, show badS (decide (k + 1 = l.length)) z (f, t) = false from by unfold badS; simp [c3, c1, c2, c5, c6]]; rfl)
                have h0t : 0 ≤ t := by omega
                go_wp2_with fail
                go_roundw
                case rel => exact ⟨k + 1, t, by omega, rfl, by go_num, h0t, HG.out, HBN.out⟩
                case measure => simp [intOf]; omega
    · obtain rfl : k = l.length := by omega
      have HF := hide (show 0 = errS r from by rw [← HR.out, HC.out, List.drop_length]; rfl)
      go_wp2_with fail
      go_ret
      exact ⟨ret_int HF.out, HBW.out⟩
set_option maxHeartbeats 1000000 in
theorem right_any (B : Nat) (A : Option Addr) (c m : Nat) (l : List Sec) (W : World) (h : Rd W B 2 A m (Cs encS l)) (hx : l.length = m) (hB : B ≤ W.heap.size) (hm : m ≤ 4096) (r : Bool) (hr : chk 0 l = r) :
    Calls Tryd.prog 16 #[.slice A m c] W fun e W' => e = .returned (.bool r) ∧ Below W.heap.size W W' := by
  subst hx
  have HR := hide hr
  have H := hide h
  clear h hr
  go_enter Tryd.func16, Tryd.ntmps16
  go_wp2_with fail
  go_loopw [7] (fun i wr => ∃ (k : Nat) (z : Int), k ≤ l.length ∧ i = .int .i64 k ∧ 0 ≤ z ∧ (chk 0 l = chk z (l.drop k) ∧ (k = 0 → z = 0) ∧ ∀ j, k = j + 1 → ∀ hj : j < l.length, z = l[j].2) ∧ Below W.heap.size W wr) (fun i _ => l.length - (intOf i).toNat)
  case atStart => exact ⟨0, 0, Nat.zero_le _, rfl, by omega, ⟨by simp, fun _ => rfl, fun j h => absurd h (by omega)⟩, Below.refl _ _⟩
  case round =>
    obtain ⟨k, z, hk, rfl, hz, ⟨hc, hz0, hzj⟩, hbw⟩ := hrel
    have HC := hide hc
    have HZ0 := hide hz0
    have HZJ := hide hzj
    have HBW := hide hbw
    have hsz := hbw.size
    clear hc hbw hz0 hzj
    by_cases hlt : k < l.length
    · obtain ⟨b, o, rfl, hb, d0, d1⟩ := (H.out.below (HBW.out.mono hB)).sec hlt
      have HSS := hide (fun j (hj : j < l.length) => (H.out.below (HBW.out.mono hB)).sec hj)
      have HA := hide (chk_at (z := z) hlt)
      have hbl : b < wr.heap.size := by omega
      have hki : (k : Int) < (l.length : Int) := by omega
      have HBN := hide (show Below W.heap.size W (wr.alloc (.cells #[.int .i64 l[k].1, .int .i64 l[k].2] 33)) from HBW.out.trans ((Below.refl _ _).alloc hsz _))
      obtain ⟨f, hf⟩ : ∃ f, l[k].1 = f := ⟨_, rfl⟩
      obtain ⟨t, ht⟩ : ∃ t, l[k].2 = t := ⟨_, rfl⟩
      have HS := hide (show l[k] = (f, t) from by rw [← hf, ← ht])
      rw [hf] at d0 HBN
      rw [ht] at d1 HBN
      clear hf ht hb
      have HX := hide (show chk 0 l = (!badS (decide (k + 1 = l.length)) z (f, t) && chk t (l.drop (k + 1))) from by rw [HC.out, HA.out, HS.out])
      have HZN := hide (show (k + 1 = 0 → t = 0) ∧ ∀ j, k + 1 = j + 1 → ∀ hj : j < l.length, t = l[j].2 from ⟨fun h => by omega, fun j h hj => by obtain rfl : k = j := by omega
                                                                                                                                                  rw [HS.out]⟩)
      have bad : badS (decide (k + 1 = l.length)) z (f, t) = true → false = r := fun hb => by rw [← HR.out, HX.out, hb]; rfl
      have BAD := hide bad
      clear HA HC HS bad
      by_cases c3 : t = 0
      · subst c3
        by_cases c0 : f < 1
        · have HF := hide (BAD.out (by unfold badS; simp only [Bool.or_eq_true, decide_eq_true_eq, Bool.and_eq_true]; omega))
          go_wp2_with fail
          go_ret
          exact ⟨ret_bool HF.out, HBN.out⟩
        · by_cases c2 : 1073741824 < f
          · have HF := hide (BAD.out (by unfold badS; simp [c2]))
            go_wp2_with fail
            go_ret
            exact ⟨ret_bool HF.out, HBN.out⟩
          · by_cases c4 : k + 1 = l.length
            · have c4i : decide ((k : Int) < (l.length : Int) - 1) = false := by rw [decide_eq_false_iff_not]; omega
              have HC4 := hide c4
              clear c4
              by_cases hk0 : k = 0
              · obtain rfl := HZ0.out hk0
                have c1 : ¬ f ≤ 0 := by omega
                subst hk0
                simp only [Nat.zero_mul, Nat.add_zero, Nat.zero_add] at d0 d1
                have c4j : decide ((1 : Int) < (l.length : Int)) = false := by rw [decide_eq_false_iff_not]; have := HC4.out; omega
                have c4k : decide (1 < l.length) = false := by rw [decide_eq_false_iff_not]; have := HC4.out; omega
                have c4l : decide ((0 : Int) < (l.length : Int) - 1) = false := by rw [decide_eq_false_iff_not]; have := HC4.out; omega
                have c4m : ((l.length : Int) - 1) = 0 := by have := HC4.out; omega
                have HG := hide (show chk 0 l = chk 0 (l.drop (0 + 1)) from by rw [HX.out, show badS (decide (0 + 1 = l.length)) 0 (f, 0) = false from by unfold badS; simp [c1, c2, HC4.out]]; rfl)
                have h0t : (0 : Int) ≤ 0 := by omega
                go_wp2_with fail
                go_quiet (fail)
                go_wp2_with fail
                go_roundw
                case rel => exact ⟨0 + 1, 0, by omega, by go_num, h0t, ⟨HG.out, fun h => by omega, HZN.out.2⟩, HBN.out.trans ⟨rfl, rfl, rfl, Nat.le_refl _, fun _ _ => rfl⟩⟩
                case measure => simp [intOf]; omega
              · obtain ⟨j, rfl⟩ : ∃ j, k = j + 1 := ⟨k - 1, by omega⟩
                have hzj := HZJ.out j rfl (by omega)
                obtain ⟨b2, o2, he2, _, _, dp⟩ := HSS.out j (by omega)
                injection he2 with he2
                injection he2 with e1 e2
                subst e1
                subst e2
                rw [← hzj] at dp
                clear hzj hk0
                have c4j : decide ((j : Int) + 1 < (l.length : Int) - 1) = false := by rw [decide_eq_false_iff_not]; have := HC4.out; omega
                by_cases c1 : f ≤ z
                · have HF := hide (BAD.out (by unfold badS; simp [c1]))
                  go_wp2_with fail
                  go_quiet (fail)
                  go_wp2_with fail
                  go_ret
                  exact ⟨ret_bool HF.out, below_drewN HBN.out _⟩
                · have HG := hide (show chk 0 l = chk 0 (l.drop (j + 1 + 1)) from by rw [HX.out, show badS (decide (j + 1 + 1 = l.length)) z (f, 0) = false from by unfold badS; simp [c1, c2, HC4.out]]; rfl)
                  have h0t : (0 : Int) ≤ 0 := by omega
                  go_wp2_with fail
                  go_quiet (fail)
                  go_wp2_with fail
                  go_roundw
                  case rel => exact ⟨j + 1 + 1, 0, by omega, by go_num, h0t, ⟨HG.out, fun h => by omega, HZN.out.2⟩, HBN.out.trans ⟨rfl, rfl, rfl, Nat.le_refl _, fun _ _ => rfl⟩⟩
                  case measure => simp [intOf]; omega
            · have c4i : decide ((k : Int) < (l.length : Int) - 1) = true := by rw [decide_eq_true_iff]; omega
              have c5 : (0 : Int) ≤ f := by omega
              have HF := hide (BAD.out (by unfold badS; simp [c2, c4, c5]))
              clear c4
              go_wp2_with fail
              go_ret
              exact ⟨ret_bool HF.out, HBN.out⟩
      · by_cases c0 : f < 1
        · have HF := hide (BAD.out (by unfold badS; simp only [Bool.or_eq_true, decide_eq_true_eq, Bool.and_eq_true]; omega))
          go_wp2_with fail
          go_ret
          exact ⟨ret_bool HF.out, HBN.out⟩
        · by_cases c2 : 1073741824 < f
          · have HF := hide (BAD.out (by unfold badS; simp [c2]))
            go_wp2_with fail
            go_ret
            exact ⟨ret_bool HF.out, HBN.out⟩
          · by_cases c6 : 1073741824 < t
            · have HF := hide (BAD.out (by unfold badS; simp [c3, c6]))
              go_wp2_with fail
              go_ret
              exact ⟨ret_bool HF.out, HBN.out⟩
            · by_cases c5 : t ≤ f
              · have HF := hide (BAD.out (by unfold badS; simp [c3, c5]))
                go_wp2_with fail
                go_ret
                exact ⟨ret_bool HF.out, HBN.out⟩
              · skip
                by_cases hk0 : k = 0
                · obtain rfl := HZ0.out hk0
                  have c1 : ¬ f ≤ 0 := by omega
                  subst hk0
                  simp only [Nat.zero_mul, Nat.add_zero, Nat.zero_add] at d0 d1
                  have HG := hide (show chk 0 l = chk t (l.drop (0 + 1)) from by rw [HX.out, show badS (decide (0 + 1 = l.length)) 0 (f, t) = false from by unfold badS; simp [c1, c2, c3, c5, c6]]; rfl)
                  have h0t : (0 : Int) ≤ t := by omega
                  go_wp2_with fail
                  go_quiet (fail)
                  go_wp2_with fail
                  go_roundw
                  case rel => exact ⟨0 + 1, t, by omega, by go_num, h0t, ⟨HG.out, fun h => by omega, HZN.out.2⟩, HBN.out.trans ⟨rfl, rfl, rfl, Nat.le_refl _, fun _ _ => rfl⟩⟩
                  case measure => simp [intOf]; omega
                · obtain ⟨j, rfl⟩ : ∃ j, k = j + 1 := ⟨k - 1, by omega⟩
                  have hzj := HZJ.out j rfl (by omega)
                  obtain ⟨b2, o2, he2, _, _, dp⟩ := HSS.out j (by omega)
                  injection he2 with he2
                  injection he2 with e1 e2
                  subst e1
                  subst e2
                  rw [← hzj] at dp
                  clear hzj hk0
                  by_cases c1 : f ≤ z
                  · have HF := hide (BAD.out (by unfold badS; simp [c1]))
                    go_wp2_with fail
                    go_quiet (fail)
                    go_wp2_with fail
                    go_ret
                    exact ⟨ret_bool HF.out, below_drewN HBN.out _⟩
                  · have HG := hide (show chk 0 l = chk t (l.drop (j + 1 + 1)) from by rw [HX.out, show badS (decide (j + 1 + 1 = l.length)) z (f, t) = false from by unfold badS; simp [c1, c2, c3, c5, c6]]; rfl)
                    have h0t : (0 : Int) ≤ t := by omega
                    go_wp2_with fail
                    go_quiet (fail)
                    go_wp2_with fail
                    go_roundw
                    case rel => exact ⟨j + 1 + 1, t, by omega, by go_num, h0t, ⟨HG.out, fun h => by omega, HZN.out.2⟩, HBN.out.trans ⟨rfl, rfl, rfl, Nat.le_refl _, fun _ _ => rfl⟩⟩
                    case measure => simp [intOf]; omega
    · obtain rfl : k = l.length := by omega
      have HF := hide (show true = r from by rw [← HR.out, HC.out, List.drop_length]; rfl)
      go_wp2_with fail
      go_ret
      exact ⟨ret_bool HF.out, HBW.out⟩
end Go.Proofs.YtegnppmmcchmgaaDoor
