/-
  The reference's: the counter at a step; whether a section is open at one.
-/
import Derived.Test.YtegnppmmcchmgaaDoorGuc
set_option linter.unusedSimpArgs false
set_option linter.unusedVariables false
namespace Go.Proofs.YtegnppmmcchmgaaDoor
open Go Go.RowKit
attribute [local go_sem] via_cell via_frozen

theorem cnt_take (l : List Sec) (at_ : Int) (k : Nat) (hk : k < l.length) : cnt (l.take (k + 1)) at_ = cnt (l.take k) at_ + cntS l[k] at_ := by
  unfold cnt
  rw [List.take_succ_eq_append_getElem hk, List.map_append, List.sum_append]
  simp
theorem opn_take (l : List Sec) (n : Int) (k : Nat) (hk : k < l.length) : opn (l.take (k + 1)) n = (opn (l.take k) n || opnS l[k] n) := by
  unfold opn
  rw [List.take_succ_eq_append_getElem hk, List.any_append]
  simp
theorem opn_at {l : List Sec} {n : Int} {k : Nat} (hk : k < l.length) (h : opnS l[k] n = true) : opn l n = true := by
  unfold opn
  rw [List.any_eq_true]
  exact ⟨_, List.getElem_mem hk, h⟩
set_option maxHeartbeats 1000000 in
theorem rcount_any (B : Nat) (A : Option Addr) (c m : Nat) (l : List Sec) (at_ : Int) (W : World) (h : Rd W B 2 A m (Cs encS l)) (hx : l.length = m) (hB : B ≤ W.heap.size) (hm : m ≤ 4096) (r : Int) (hr : (cnt l at_ : Int) = r) :
    Calls Tryd.prog 19 #[.slice A m c, .int .i64 at_] W fun e W' => e = .returned (.int .u64 r) ∧ Below W.heap.size W W' := by
  subst hx
  have HR := hide hr
  have H := hide h
  clear h hr
  go_enter Tryd.func19, Tryd.ntmps19
  go_wp2_with fail
  go_loopw [5, 10] (fun n i wr => ∃ (k : Nat) (z : Nat), k ≤ l.length ∧ n = .int .u64 (z : Int) ∧ i = .int .i64 k ∧ (cnt (l.take k) at_ = z) ∧ Below W.heap.size W wr) (fun _ i _ => l.length - (intOf i).toNat)
  case atStart => exact ⟨0, 0, Nat.zero_le _, rfl, rfl, by simp [cnt], Below.refl _ _⟩
  case round =>
    obtain ⟨k, z, hk, rfl, rfl, hc, hbw⟩ := hrel
    have HC := hide hc
    have HBW := hide hbw
    have hsz := hbw.size
    have hzb : z ≤ 2 * k := by have := cnt_le (l.take k) at_; rw [hc, List.length_take] at this; omega
    have hz1 : (z : Int) ≤ 8192 := by omega
    have hz0 : (0 : Int) ≤ z := by omega
    clear hc hbw hzb
    by_cases hlt : k < l.length
    · obtain ⟨b, o, rfl, hb, d0, d1⟩ := (H.out.below (HBW.out.mono hB)).sec hlt
      have HA := hide (cnt_take l at_ k hlt)
      have hbl : b < wr.heap.size := by omega
      have hki : (k : Int) < (l.length : Int) := by omega
      have HBN := hide (show Below W.heap.size W (wr.alloc (.cells #[.int .i64 l[k].1, .int .i64 l[k].2] 33)) from HBW.out.trans ((Below.refl _ _).alloc hsz _))
      obtain ⟨f, hf⟩ : ∃ f, l[k].1 = f := ⟨_, rfl⟩
      obtain ⟨t, ht⟩ : ∃ t, l[k].2 = t := ⟨_, rfl⟩
      have HS := hide (show l[k] = (f, t) from by rw [← hf, ← ht])
      rw [hf] at d0 HBN
      rw [ht] at d1 HBN
      clear hf ht hb
      have HX := hide (show cnt (l.take (k + 1)) at_ = z + cntS (f, t) at_ from by rw [HA.out, HC.out, HS.out])
      clear HA HS HC
      by_cases c3 : t = 0
      · subst c3
        by_cases c1 : f ≤ at_
        · have HG := hide (show cnt (l.take (k + 1)) at_ = z + 1 from by rw [HX.out]; unfold cntS; simp [c1])
          go_wp2_with fail
          go_roundw
          case rel => exact ⟨k + 1, z + 1, by omega, by go_num, by go_num, HG.out, HBN.out⟩
          case measure => simp [intOf]; omega
        · have HG := hide (show cnt (l.take (k + 1)) at_ = z from by rw [HX.out]; unfold cntS; simp [c1])
          go_wp2_with fail
          go_roundw
          case rel => exact ⟨k + 1, z, by omega, by go_num, by go_num, HG.out, HBN.out⟩
          case measure => simp [intOf]; omega
      · by_cases c1 : f ≤ at_
        · by_cases c2 : t ≤ at_
          · have HG := hide (show cnt (l.take (k + 1)) at_ = z + 1 + 1 from by rw [HX.out]; unfold cntS; simp [c1, c2, c3])
            go_wp2_with fail
            go_roundw
            case rel => exact ⟨k + 1, z + 1 + 1, by omega, by go_num, by go_num, HG.out, HBN.out⟩
            case measure => simp [intOf]; omega
          · have HG := hide (show cnt (l.take (k + 1)) at_ = z + 1 from by rw [HX.out]; unfold cntS; simp [c1, c2, c3])
            go_wp2_with fail
            go_roundw
            case rel => exact ⟨k + 1, z + 1, by omega, by go_num, by go_num, HG.out, HBN.out⟩
            case measure => simp [intOf]; omega
        · by_cases c2 : t ≤ at_
          · have HG := hide (show cnt (l.take (k + 1)) at_ = z + 1 from by rw [HX.out]; unfold cntS; simp [c1, c2, c3])
            go_wp2_with fail
            go_roundw
            case rel => exact ⟨k + 1, z + 1, by omega, by go_num, by go_num, HG.out, HBN.out⟩
            case measure => simp [intOf]; omega
          · have HG := hide (show cnt (l.take (k + 1)) at_ = z from by rw [HX.out]; unfold cntS; simp [c1, c2, c3])
            go_wp2_with fail
            go_roundw
            case rel => exact ⟨k + 1, z, by omega, by go_num, by go_num, HG.out, HBN.out⟩
            case measure => simp [intOf]; omega
    · obtain rfl : k = l.length := by omega
      have HF := hide (show (z : Int) = r from by rw [← HR.out, ← HC.out, List.take_length])
      go_wp2_with fail
      go_ret
      exact ⟨ret_int HF.out, HBW.out⟩
set_option maxHeartbeats 1000000 in
theorem ropen_any (B : Nat) (A : Option Addr) (c m : Nat) (l : List Sec) (n : Int) (W : World) (h : Rd W B 2 A m (Cs encS l)) (hx : l.length = m) (hB : B ≤ W.heap.size) (hm : m ≤ 4096) (r : Bool) (hr : opn l n = r) :
    Calls Tryd.prog 41 #[.slice A m c, .int .i64 n] W fun e W' => e = .returned (.bool r) ∧ Below W.heap.size W W' := by
  subst hx
  have HR := hide hr
  have H := hide h
  clear h hr
  go_enter Tryd.func41, Tryd.ntmps41
  go_wp2_with fail
  go_loopw [9] (fun i wr => ∃ (k : Nat), k ≤ l.length ∧ i = .int .i64 k ∧ (opn (l.take k) n = false) ∧ Below W.heap.size W wr) (fun i _ => l.length - (intOf i).toNat)
  case atStart => exact ⟨0, Nat.zero_le _, rfl, by simp [opn], Below.refl _ _⟩
  case round =>
    obtain ⟨k, hk, rfl, hc, hbw⟩ := hrel
    have HC := hide hc
    have HBW := hide hbw
    have hsz := hbw.size
    clear hc hbw
    by_cases hlt : k < l.length
    · obtain ⟨b, o, rfl, hb, d0, d1⟩ := (H.out.below (HBW.out.mono hB)).sec hlt
      have HA := hide (opn_take l n k hlt)
      have HO := hide (fun h => opn_at (n := n) hlt h)
      have hbl : b < wr.heap.size := by omega
      have hki : (k : Int) < (l.length : Int) := by omega
      have HBN := hide (show Below W.heap.size W (wr.alloc (.cells #[.int .i64 l[k].1, .int .i64 l[k].2] 33)) from HBW.out.trans ((Below.refl _ _).alloc hsz _))
      obtain ⟨f, hf⟩ : ∃ f, l[k].1 = f := ⟨_, rfl⟩
      obtain ⟨t, ht⟩ : ∃ t, l[k].2 = t := ⟨_, rfl⟩
      have HS := hide (show l[k] = (f, t) from by rw [← hf, ← ht])
      rw [hf] at d0 HBN
      rw [ht] at d1 HBN
      clear hf ht hb
      have HY := hide (show opnS (f, t) n = true → true = r from fun h => by rw [← HR.out]; exact (HO.out (by rw [HS.out]; exact h)).symm)
      have HX := hide (show opnS (f, t) n = false → opn (l.take (k + 1)) n = false from fun h => by rw [HA.out, HC.out, HS.out, h]; rfl)
      clear HA HS HC HO
      by_cases c1 : f ≤ n
      · by_cases c3 : t = 0
        · subst c3
          have HF := hide (HY.out (by unfold opnS; simp [c1]))
          go_wp2_with fail
          go_ret
          exact ⟨ret_bool HF.out, HBN.out⟩
        · by_cases c2 : n < t
          · have HF := hide (HY.out (by unfold opnS; simp [c1, c2]))
            go_wp2_with fail
            go_ret
            exact ⟨ret_bool HF.out, HBN.out⟩
          · have HG := hide (HX.out (by unfold opnS; simp [c1, c2, c3]))
            go_wp2_with fail
            go_roundw
            case rel => exact ⟨k + 1, by omega, by go_num, HG.out, HBN.out⟩
            case measure => simp [intOf]; omega
      · have HG := hide (HX.out (by unfold opnS; simp [c1]))
        go_wp2_with fail
        go_roundw
        case rel => exact ⟨k + 1, by omega, by go_num, HG.out, HBN.out⟩
        case measure => simp [intOf]; omega
    · obtain rfl : k = l.length := by omega
      have HF := hide (show false = r from by rw [← HR.out, ← HC.out, List.take_length])
      go_wp2_with fail
      go_ret
      exact ⟨ret_bool HF.out, HBW.out⟩
end Go.Proofs.YtegnppmmcchmgaaDoor
