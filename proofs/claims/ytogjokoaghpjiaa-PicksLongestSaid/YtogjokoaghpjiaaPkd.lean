/-
  Who can: the reference's.
-/
import Derived.Test.YtogjokoaghpjiaaPkc
set_option linter.unusedSimpArgs false
set_option linter.unusedVariables false
namespace Go.Proofs.Ytogjokoaghpjiaa
open Go Go.RowKit
attribute [local go_sem] via_cell via_frozen

theorem rises_no {n : Int} {xs : List Int} {k : Nat} {g : Int} (ht : xs.take (k + 1) = xs.take k ++ [g]) (h : g ≤ (xs.take k).getLastD (-1) ∨ n ≤ g) : risesB n (-1) xs = false := by
  rw [Bool.eq_false_iff]
  intro hr
  rw [← List.take_append_drop (k + 1) xs] at hr
  have h2 := risesB_prefix hr
  rw [ht, risesB_snoc] at h2
  simp only [Bool.and_eq_true, decide_eq_true_eq] at h2
  omega
theorem last_take {xs : List Int} {k : Nat} (hk : k < xs.length) : (xs.take (k + 1)).getLastD (-1) = xs[k] := by
  rw [List.take_succ_eq_append_getElem hk, List.getLastD_concat]
theorem can_any (B : Nat) (A : Option Addr) (c m : Nat) (n : Int) (xs : List Int) (W : World) (h : Rd W B 1 A m (Cs encI xs)) (hx : xs.length = m) (hm : m ≤ 4096) (hB : B ≤ W.heap.size) (r : Bool) (hr : canB n xs = r) :
    Calls Try.prog 11 #[.int .i64 n, .slice A m c] W fun e W' => e = .returned (.bool r) ∧ W = W' := by
  have HX := hide hx
  have H := hide h
  have HNO := hide (show risesB n (-1) xs = false → false = r from fun h => by rw [← hr]; unfold canB; rw [h]; simp)
  have HYES := hide (show risesB n (-1) xs = true → decide (0 < m) = r from fun h => by
    rw [← hr]; unfold canB; rw [h, ← hx]
    cases xs <;> simp)
  clear h hx hr
  go_enter Try.func11, Try.ntmps11
  go_wp2_with fail
  go_loopw [9] (fun i wr => ∃ k : Nat, k ≤ m ∧ i = .int .i64 k ∧ risesB n (-1) (xs.take k) = true ∧ wr = W) (fun i _ => m - (intOf i).toNat)
  case atStart => exact ⟨0, Nat.zero_le _, rfl, rfl, rfl⟩
  case round =>
    obtain ⟨k, hk, rfl, hno, rfl⟩ := hrel
    have HN := hide hno
    clear hno
    by_cases hlt : k < m
    · have hlx : k < xs.length := by rw [HX.out]; exact hlt
      obtain ⟨b, o, rfl, hb, d0⟩ := H.out.numE HX.out hlx
      have hbl : b < wr.heap.size := Nat.lt_of_lt_of_le hb hB
      have hkm : (k : Int) < (m : Int) := by omega
      have HT := hide (show xs.take (k + 1) = xs.take k ++ [xs[k]] from List.take_succ_eq_append_getElem hlx)
      have HS := hide (risesB_snoc n (-1) (xs.take k) xs[k])
      obtain ⟨g, hg⟩ : ∃ g, xs[k] = g := ⟨_, rfl⟩
      rw [hg] at d0 HT HS
      clear hg
      by_cases h0 : g < 0
      · have hd : decide (g < 0) = true := by simpa using h0
        have HF := hide (HNO.out (rises_no HT.out (by
          left
          have : -1 ≤ (xs.take k).getLastD (-1) := by
            cases k with
            | zero => simp
            | succ k =>
              rw [last_take (show k < xs.length by omega)]
              have := risesB_all HN.out xs[k] (by rw [List.take_succ_eq_append_getElem (show k < xs.length by omega)]; exact List.mem_append.2 (Or.inr (List.mem_singleton.2 rfl)))
              omega
          omega)))
        clear h0
        go_wp2_with fail
        go_ret
        exact ⟨ret_bool HF.out, rfl⟩
      · have hd : decide (g < 0) = false := by simpa using h0
        by_cases h1 : n ≤ g
        · have hd1 : decide (n ≤ g) = true := by simpa using h1
          have HF := hide (HNO.out (rises_no HT.out (.inr h1)))
          clear h0 h1
          go_wp2_with fail
          go_ret
          exact ⟨ret_bool HF.out, rfl⟩
        · have hd1 : decide (n ≤ g) = false := by simpa using h1
          cases k with
          | zero =>
            simp only [Nat.add_zero] at d0
            have HNX := hide (show risesB n (-1) (xs.take (0 + 1)) = true by rw [HT.out, HS.out, HN.out]; simp; omega)
            clear h0 h1
            go_wp2_with fail
            go_roundw
            case rel => exact ⟨1, by omega, by go_num, HNX.out, by trivial⟩
            case measure => simp [intOf]; omega
          | succ k =>
            obtain ⟨b', o', he, hb', d1⟩ := H.out.numE HX.out (show k < xs.length by omega)
            injection he with he
            injection he with e1 e2
            subst e1 e2
            have HLT := hide (last_take (show k < xs.length by omega))
            obtain ⟨y, hy⟩ : ∃ y, xs[k] = y := ⟨_, rfl⟩
            rw [hy] at d1 HLT
            clear hy hb'
            have hk0 : decide ((0 : Int) < ((k + 1 : Nat) : Int)) = true := by simp <;> omega
            by_cases hyg : g ≤ y
            · have hd2 : decide (g ≤ y) = true := by simpa using hyg
              have HF := hide (HNO.out (rises_no HT.out (.inl (by rw [HLT.out]; exact hyg))))
              clear h0 h1 hyg
              go_wp2_with fail
              go_ret
              exact ⟨ret_bool HF.out, rfl⟩
            · have hd2 : decide (g ≤ y) = false := by simpa using hyg
              have HNX := hide (show risesB n (-1) (xs.take (k + 1 + 1)) = true by rw [HT.out, HS.out, HN.out, HLT.out]; simp; omega)
              clear h0 h1 hyg
              go_wp2_with fail
              go_roundw
              case rel => exact ⟨k + 1 + 1, by omega, by go_num, HNX.out, by trivial⟩
              case measure => simp [intOf]; omega
    · go_wp2_with fail
      go_ret
      have h := HN.out
      rw [List.take_of_length_le (by rw [HX.out]; omega)] at h
      exact ⟨ret_bool (by rw [← HYES.out h]), rfl⟩
end Go.Proofs.Ytogjokoaghpjiaa
