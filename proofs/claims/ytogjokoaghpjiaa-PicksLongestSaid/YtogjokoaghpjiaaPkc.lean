/-
  Who is among others (the reference's); who is chosen by a pick (both).
-/
import Derived.Test.YtogjokoaghpjiaaPkb
set_option linter.unusedSimpArgs false
set_option linter.unusedVariables false
namespace Go.Proofs.Ytogjokoaghpjiaa
open Go Go.RowKit
attribute [local go_sem] via_cell via_frozen

theorem has_any (B : Nat) (A : Option Addr) (c m : Nat) (xs : List Int) (g : Int) (W : World) (h : Rd W B 1 A m (Cs encI xs)) (hx : xs.length = m) (hm : m ≤ 4096) (hB : B ≤ W.heap.size) (r : Bool) (hr : xs.contains g = r) :
    Calls Try.prog 40 #[.slice A m c, .int .i64 g] W fun e W' => e = .returned (.bool r) ∧ W = W' := by
  have HX := hide hx
  have HR := hide hr
  have H := hide h
  clear h hx hr
  go_enter Try.func40, Try.ntmps40
  go_wp2_with fail
  go_loopw [9] (fun i wr => ∃ k : Nat, k ≤ m ∧ i = .int .i64 k ∧ (xs.take k).contains g = false ∧ wr = W) (fun i _ => m - (intOf i).toNat)
  case atStart => exact ⟨0, Nat.zero_le _, rfl, rfl, rfl⟩
  case round =>
    obtain ⟨k, hk, rfl, hno, rfl⟩ := hrel
    have HN := hide hno
    clear hno
    by_cases hlt : k < m
    · have hlx : k < xs.length := by rw [HX.out]; exact hlt
      obtain ⟨b, o, rfl, hb, d0⟩ := H.out.numE HX.out hlx
      have hbl : b < wr.heap.size := Nat.lt_of_lt_of_le hb hB
      have hkm : (k : Int) < (m : Int) := by omega
      have HT := hide (show xs.take (k + 1) = xs.take k ++ [xs[k]] from List.take_succ_eq_append_getElem hlx)
      have HM := hide (List.getElem_mem hlx)
      generalize xs[k] = x at *
      clear hb
      by_cases hxg : x = g
      · have hd : (x == g) = true := by simpa using hxg
        have HF := hide (show true = r by rw [← HR.out]; subst hxg; simpa using HM.out)
        clear hxg
        go_wp2_with fail
        go_ret
        exact ⟨ret_bool HF.out, rfl⟩
      · have hd : (x == g) = false := by simpa using hxg
        have HNX := hide (show (xs.take (k + 1)).contains g = false by
          rw [HT.out]
          have h := HN.out
          simp at h ⊢
          exact ⟨h, fun e => hxg e.symm⟩)
        clear hxg
        go_wp2_with fail
        go_roundw
        case rel => exact ⟨k + 1, by omega, by go_num, HNX.out, by trivial⟩
        case measure => simp [intOf]; omega
    · go_wp2_with fail
      go_ret
      have h := HN.out
      rw [List.take_of_length_le (by rw [HX.out]; omega), HR.out] at h
      exact ⟨ret_bool h.symm, rfl⟩
theorem pick_mod (p : Int) (m : Nat) (hm : 0 < m) : ((p.tmod m) + m).tmod m = p % m := by
  have h1 : -(m : Int) < p.tmod m := Int.lt_tmod_of_pos p (by omega)
  have h0 : 0 ≤ p.tmod m + m := by omega
  rw [Int.tmod_eq_emod_of_nonneg h0, Int.add_emod_right, Int.tmod_def, Int.sub_mul_emod_self_left]
theorem rchoose_any (A : Option Addr) (c m : Nat) (xs : List Int) (p : Int) (W : World) (h : Rd W W.heap.size 1 A m (Cs encI xs)) (hx : xs.length = m) (hm0 : 0 < m) (hm : m ≤ 4096) (hp : I64 p) (r : Int) (hr : chooseX xs p = r) :
    Calls Try.prog 14 #[.slice A m c, .int .i64 p] W fun e W' => e = .returned (.int .i64 r) ∧ W = W' := by
  have h1 : -(m : Int) < p.tmod m := Int.lt_tmod_of_pos p (by omega)
  have h2 : p.tmod m < (m : Int) := Int.tmod_lt_of_pos p (by omega)
  have hpm := pick_mod p m hm0
  have hq0 := Int.emod_nonneg p (show (m : Int) ≠ 0 by omega)
  have hq1 := Int.emod_lt_of_pos p (show (0 : Int) < m by omega)
  obtain ⟨q, hq⟩ : ∃ q : Nat, p % (m : Int) = q := ⟨(p % (m : Int)).toNat, by omega⟩
  have hqm : q < m := by omega
  have hqI : (q : Int) < (m : Int) := by omega
  rw [hq] at hpm
  obtain ⟨t, ht⟩ : ∃ t, p.tmod (m : Int) = t := ⟨_, rfl⟩
  rw [ht] at h1 h2 hpm
  have hw1 : wrap64 t = t := IntWalk.wrap64_in _ (by omega)
  have hw2 : wrap64 (t + m) = t + m := IntWalk.wrap64_in _ (by omega)
  have hw3 : wrap64 (q : Int) = q := IntWalk.wrap64_in _ (by omega)
  obtain ⟨b, o, rfl, hb, d0⟩ := h.numE hx (show q < xs.length by rw [hx]; exact hqm)
  have hv : xs[q]'(by rw [hx]; exact hqm) = r := by
    rw [← hr]; unfold chooseX
    have e : (p % (xs.length : Int)).toNat = q := by rw [hx, hq]; rfl
    rw [e, List.getD_eq_getElem?_getD, List.getElem?_eq_getElem (by rw [hx]; exact hqm)]; rfl
  rw [hv] at d0
  have hm0I : ¬ (m : Int) = 0 := by omega
  have hmb : ((m : Int) == 0) = false := by rw [beq_eq_false_iff_ne]; omega
  clear h hx hr hq0 hq1 hq hv hp
  go_enter Try.func14, Try.ntmps14
  go_wp2_with fail
  go_ret
  exact ⟨rfl, rfl⟩
theorem choose_no (A : Option Addr) (c m : Nat) (xs : List Int) (p : Int) (W : World) (h : Rd W W.heap.size 1 A m (Cs encI xs)) (hx : xs.length = m) (hm : m ≤ 4096) (hr : canB 8 xs = false) :
    Calls Try.prog 12 #[.slice A m c, .int .i64 p] W fun e W' => e = .returned (.tuple #[.int .i64 0, .int .i64 2]) ∧ Below W.heap.size W W' := by
  have HA := hide (able_any A c m 8 xs W h hx hm false hr)
  clear h hx hr
  go_enter Try.func12, Try.ntmps12
  go_wp2_with fail
  with_reducible refine HA.out.mono ?_
  rintro e w1 ⟨rfl, hb⟩
  go_wp2_with fail
  go_ret2
  exact ⟨rfl, hb⟩
theorem choose_yes (A : Option Addr) (c m : Nat) (xs : List Int) (p : Int) (W : World) (h : Rd W W.heap.size 1 A m (Cs encI xs)) (hx : xs.length = m) (hm : m ≤ 4096) (hr : canB 8 xs = true) (hp : I64 p) (v : Int) (hv0 : chooseX xs p = v) :
    Calls Try.prog 12 #[.slice A m c, .int .i64 p] W fun e W' => e = .returned (.tuple #[.int .i64 v, .int .i64 0]) ∧ Below W.heap.size W W' := by
  have HA := hide (able_any A c m 8 xs W h hx hm true hr)
  have hm0 : 0 < m := by
    have := canB_ne hr
    cases xs with
    | nil => exact absurd rfl this
    | cons a l => rw [← hx]; simp
  have h1 : -(m : Int) < p.tmod m := Int.lt_tmod_of_pos p (by omega)
  have h2 : p.tmod m < (m : Int) := Int.tmod_lt_of_pos p (by omega)
  have hpm := pick_mod p m hm0
  have hq0 := Int.emod_nonneg p (show (m : Int) ≠ 0 by omega)
  have hq1 := Int.emod_lt_of_pos p (show (0 : Int) < m by omega)
  obtain ⟨q, hq⟩ : ∃ q : Nat, p % (m : Int) = q := ⟨(p % (m : Int)).toNat, by omega⟩
  have hqm : q < m := by omega
  have hqI : (q : Int) < (m : Int) := by omega
  rw [hq] at hpm
  obtain ⟨t, ht⟩ : ∃ t, p.tmod (m : Int) = t := ⟨_, rfl⟩
  rw [ht] at h1 h2 hpm
  have hw1 : wrap64 t = t := IntWalk.wrap64_in _ (by omega)
  have hw2 : wrap64 (t + m) = t + m := IntWalk.wrap64_in _ (by omega)
  have hw3 : wrap64 (q : Int) = q := IntWalk.wrap64_in _ (by omega)
  obtain ⟨b, o, rfl, hb, d0⟩ := h.numE hx (show q < xs.length by rw [hx]; exact hqm)
  have hv : xs[q]'(by rw [hx]; exact hqm) = v := by
    rw [← hv0]; unfold chooseX
    have e : (p % (xs.length : Int)).toNat = q := by rw [hx, hq]; rfl
    rw [e, List.getD_eq_getElem?_getD, List.getElem?_eq_getElem (by rw [hx]; exact hqm)]; rfl
  rw [hv] at d0
  have hm0I : ¬ (m : Int) = 0 := by omega
  have hmb : ((m : Int) == 0) = false := by rw [beq_eq_false_iff_ne]; omega
  have HD := hide d0
  clear h hx hr hq0 hq1 hq hv hp hv0 d0
  go_enter Try.func12, Try.ntmps12
  go_wp2_with fail
  with_reducible refine HA.out.mono ?_
  rintro e w1 ⟨rfl, hb1⟩
  have d1 := kept hb1 HD.out
  have hbl : b < w1.heap.size := Nat.lt_of_lt_of_le hb hb1.size
  have HB := hide hb1
  clear hb1
  go_wp2_with fail
  go_ret2
  exact ⟨rfl, HB.out⟩
end Go.Proofs.Ytogjokoaghpjiaa
