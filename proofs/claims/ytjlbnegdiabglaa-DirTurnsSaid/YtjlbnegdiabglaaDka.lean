/-
  The reference's powers of two, and whether entries stand alone.
-/
import Derived.Test.YtjlbnegdiabglaaDjt
import Derived.BigQuiet
set_option linter.unusedSimpArgs false
set_option linter.unusedVariables false
namespace Go.Proofs.Ytjlbnegdiabglaa
open Go Go.RowKit
attribute [local go_sem] via_cell via_frozen

set_option maxHeartbeats 400000 in
theorem two_any (W : World) (n : Nat) (hn : n ≤ 60) :
    Calls Try.prog 40 #[.int .i64 (n : Int)] W fun e W' => e = .returned (.int .i64 ((2 ^ n : Nat) : Int)) ∧ W = W' := by
  go_enter Try.func40, Try.ntmps40
  go_wp2
  go_loop [3, 5] (fun o i => ∃ k : Nat, k ≤ n ∧ i = .int .i64 k ∧ o = .int .i64 ((2 ^ k : Nat) : Int)) (fun _ i => n - (intOf i).toNat)
  case atStart => exact ⟨0, Nat.zero_le _, rfl, rfl⟩
  case round =>
    obtain ⟨k, hk, rfl, rfl⟩ := hrel
    have hp : (2 : Nat) ^ k ≤ 2 ^ 60 := Nat.pow_le_pow_right (by omega) (by omega)
    by_cases hlt : k < n
    · have H := hide (show ((2 : Nat) ^ (k + 1) : Nat) = 2 * 2 ^ k from by omega)
      have hb : (2 : Nat) ^ k ≤ 1152921504606846976 := by omega
      clear hp
      generalize hq : (2 : Nat) ^ k = q at *
      clear hq
      go_wp2
      go_round
      case rel => exact ⟨k + 1, by omega, by go_num, by rw [H.out]; go_num⟩
      case measure => simp [intOf]; omega
    · obtain rfl : k = n := by omega
      clear hp
      go_wp2
      go_ret
      exact ⟨rfl, rfl⟩
/-- Entries told one by one: does it hold of the first j? -/
def spannedN (es : List En) (k many : Nat) (j : Nat) : Bool := (List.range j).all fun i => (decide (k ≤ i ∧ i < k + many) == decide ((es.getD i (0, 0)).1 = (es.getD k (0, 0)).1)) && (!decide (k ≤ i ∧ i < k + many) || decide (es.getD i (0, 0) = es.getD k (0, 0)))
def spannedC (es : List En) (k many : Nat) (i : Nat) : Bool := (decide (k ≤ i ∧ i < k + many) == decide ((es.getD i (0, 0)).1 = (es.getD k (0, 0)).1)) && (!decide (k ≤ i ∧ i < k + many) || decide (es.getD i (0, 0) = es.getD k (0, 0)))
theorem allUp {p : Nat → Bool} {i : Nat} (h : ∀ j, j < i → p j = true) (hi : p i = true) : ∀ j, j < i + 1 → p j = true := fun j hj => by
  rcases Nat.lt_succ_iff_lt_or_eq.1 hj with h1 | rfl
  · exact h j h1
  · exact hi
theorem spannedB_all (es : List En) (k many : Nat) : spannedB es k many = (List.range es.length).all (spannedC es k many) := rfl
set_option maxHeartbeats 4000000 in
theorem spannedR_any (B : Nat) (A : Option Addr) (c : Nat) (dep : Int) (es : List En) (k many : Nat) (W : World) (h : Rd W B 2 A es.length (Cs encE es)) (hB : B ≤ W.heap.size) (hk : k < es.length) (hl : es.length ≤ 4096) (hm : many ≤ 4096) (r : Bool) (hr : spannedB es k many = r) :
    Calls Try.prog 41 #[.agg #[.int .i64 dep, .slice A es.length c], .int .i64 (k : Int), .int .i64 (many : Int)] W fun e W' => e = .returned (.bool r) ∧ Below W.heap.size W W' := by
  obtain ⟨n, hn⟩ : ∃ n, es.length = n := ⟨_, rfl⟩
  have HR := hide hr
  have H := hide h
  rw [hn] at H hk hl
  have HN := hide hn
  rw [hn]
  have hba := (Below.refl _ W).alloc (Nat.le_refl _) (.cells #[.int .i64 dep, .slice A n c] 24)
  have R3 := hide (RowAt.new W 24 #[.int .i64 dep, .slice A n c])
  have HB := hide hba
  clear h hr hn hba
  go_enter Try.func41, Try.ntmps41
  go_upto_region 1 with (fail)
  generalize W.alloc (.cells #[.int .i64 dep, .slice A n c] 24) = w1 at *
  have q1 := row21 R3.out
  have ql := R3.out.lt
  go_wp2_with fail
  clear q1 ql
  go_loopw [13] (fun iv wr => ∃ i : Nat, i ≤ n ∧ iv = .int .i64 i ∧ (∀ j, j < i → spannedC es k many j = true) ∧ Below w1.heap.size w1 wr) (fun iv _ => n - (intOf iv).toNat)
  case atStart => exact ⟨0, Nat.zero_le _, rfl, fun j hj => absurd hj (Nat.not_lt_zero _), Below.refl _ _⟩
  case round =>
    obtain ⟨i, hi, rfl, hall, hb⟩ := hrel
    have HALL := hide hall
    have HB2 := hide hb
    clear hall hb
    by_cases hlt : i < n
    · have hrd := (H.out.below (HB.out.trans (HB2.out.mono HB.out.size) |>.mono hB))
      rw [← HN.out] at hrd
      obtain ⟨b, off, hA, hbl, hc⟩ := hrd.elem encE_len (show i < es.length by rw [HN.out]; exact hlt)
      obtain ⟨b2, off2, hA2, _, hc2⟩ := hrd.elem encE_len (show k < es.length by rw [HN.out]; exact hk)
      subst hA
      injection hA2 with hA2
      injection hA2 with hA2a hA2b _
      subst hA2a
      subst hA2b
      have hgi : es[i]'(by rw [HN.out]; exact hlt) = es.getD i (0, 0) := by rw [List.getD_eq_getElem?_getD, List.getElem?_eq_getElem]; rfl
      have hgk : es[k]'(by rw [HN.out]; exact hk) = es.getD k (0, 0) := by rw [List.getD_eq_getElem?_getD, List.getElem?_eq_getElem]; rfl
      rw [hgi] at hc
      rw [hgk] at hc2
      have HSC := hide (show spannedC es k many i = ((decide (k ≤ i ∧ i < k + many) == ((es.getD i (0, 0)).1 == (es.getD k (0, 0)).1)) && (!decide (k ≤ i ∧ i < k + many) || decide (es.getD i (0, 0) = es.getD k (0, 0)))) from rfl)
      obtain ⟨x, hx⟩ : ∃ x, es.getD i (0, 0) = x := ⟨_, rfl⟩
      obtain ⟨y, hy⟩ : ∃ x, es.getD k (0, 0) = x := ⟨_, rfl⟩
      rw [hx] at hc HSC
      rw [hy] at hc2 HSC
      obtain ⟨bs, hbs⟩ : ∃ b, (x.1 == y.1) = b := ⟨_, rfl⟩
      obtain ⟨be, hbe⟩ : ∃ b, decide (x = y) = b := ⟨_, rfl⟩
      have HBS := hide hbs
      have HBE := hide hbe
      have hne := fun w => neqE w x y be hbe
      have z0 := hc 0 _ (by omega) rfl
      have z1 := hc 1 _ (by omega) rfl
      simp only [Nat.add_zero] at z0
      try dsimp only at z1
      have hbX : b < wr.heap.size := Nat.lt_of_lt_of_le hbl (Nat.le_trans hB (Nat.le_trans HB.out.size HB2.out.size))
      have hiI : (i : Int) < (n : Int) := by omega
      have hknI : (k : Int) < (n : Int) := by omega
      have hwm : IntKind.i64.wrap ((k : Int) + (many : Int)) = (k : Int) + (many : Int) := IntWalk.i64_in _ (by omega)
      have hba := (Below.refl _ wr).alloc (Nat.le_refl _) (.cells #[.int .i64 x.1, .int .u64 x.2] 31)
      have f0 := kept hba (hc2 0 _ (by omega) rfl)
      have f1 := kept hba (hc2 1 _ (by omega) rfl)
      simp only [Nat.add_zero] at f0
      try dsimp only at f1
      have R8 := hide (RowAt.new wr 31 #[.int .i64 x.1, .int .u64 x.2])
      have R3r := hide ((R3.out.below HB2.out).below hba)
      have HB3 := hide (HB2.out.trans (hba.mono HB2.out.size))
      have HBr := hide (HB.out.trans (HB3.out.mono HB.out.size))
      clear hc hc2 hrd hgi hgk hx hy hba hbe hbl
      go_upto_region 4 with (fail)
      clear z0 z1
      generalize hg8 : wr.heap.size = g8 at *
      clear hg8
      generalize wr.alloc (.cells #[.int .i64 x.1, .int .u64 x.2] 31) = w2 at *
      have z0 := row20 R8.out
      have z1 := row21 R8.out
      have u0 := z0
      have u1 := z1
      have ul := R8.out.lt
      have q1 := row21 R3r.out
      have ql := R3r.out.lt
      by_cases hk1 : k ≤ i
      · have hkI : (k : Int) ≤ (i : Int) := by omega
        by_cases hk2 : i < k + many
        · have hkJ : (i : Int) < (k : Int) + (many : Int) := by omega
          have HBI := hide (show true = decide (k ≤ i ∧ i < k + many) from by simp [hk1, hk2])
          go_upto_region 5 with (fail)
          cases bs
          · go_quiet (fail)
            clear z0 z1 f0 f1 u0 u1 ul q1 ql
            have HF := hide (below_drewN HBr.out nq)
            have HRF := hide (show r = false from by
              rw [← HR.out, spannedB_all, List.all_eq_false]
              refine ⟨i, by rw [List.mem_range, HN.out]; exact hlt, ?_⟩
              rw [HSC.out, ← HBI.out, HBS.out]
              simp)
            generalize w2.drewN nq = w3 at *
            go_wp2_with fail
            go_ret
            exact ⟨ret_bool (by rw [HRF.out]), HF.out⟩
          · cases be
            · go_quiet (fail)
              clear z0 z1 f0 f1 u0 u1 ul q1 ql
              have HF := hide (below_drewN HBr.out nq)
              have HRF := hide (show r = false from by
                rw [← HR.out, spannedB_all, List.all_eq_false]
                refine ⟨i, by rw [List.mem_range, HN.out]; exact hlt, ?_⟩
                rw [HSC.out, ← HBI.out, HBS.out, HBE.out]
                simp)
              generalize w2.drewN nq = w3 at *
              go_wp2_with fail
              go_ret
              exact ⟨ret_bool (by rw [HRF.out]), HF.out⟩
            · go_quiet (fail)
              clear z0 z1 f0 f1 u0 u1 ul q1 ql
              have HF := hide (below_drewN HB3.out nq)
              have HI := hide (show spannedC es k many i = true from by
                rw [HSC.out, ← HBI.out, HBS.out, HBE.out]
                simp)
              generalize w2.drewN nq = w3 at *
              go_wp2_with fail
              go_roundw
              case rel => exact ⟨i + 1, by omega, by go_num, allUp HALL.out HI.out, HF.out⟩
              case measure => simp [intOf]; omega
        · have hkJ : ¬ ((i : Int) < (k : Int) + (many : Int)) := by omega
          have HBI := hide (show false = decide (k ≤ i ∧ i < k + many) from by simp [hk2])
          go_upto_region 5 with (fail)
          cases bs
          · go_quiet (fail)
            clear z0 z1 f0 f1 u0 u1 ul q1 ql
            have HF := hide (below_drewN HB3.out nq)
            have HI := hide (show spannedC es k many i = true from by
              rw [HSC.out, ← HBI.out, HBS.out]
              simp)
            generalize w2.drewN nq = w3 at *
            go_wp2_with fail
            go_roundw
            case rel => exact ⟨i + 1, by omega, by go_num, allUp HALL.out HI.out, HF.out⟩
            case measure => simp [intOf]; omega
          · go_quiet (fail)
            clear z0 z1 f0 f1 u0 u1 ul q1 ql
            have HF := hide (below_drewN HBr.out nq)
            have HRF := hide (show r = false from by
              rw [← HR.out, spannedB_all, List.all_eq_false]
              refine ⟨i, by rw [List.mem_range, HN.out]; exact hlt, ?_⟩
              rw [HSC.out, ← HBI.out, HBS.out]
              simp)
            generalize w2.drewN nq = w3 at *
            go_wp2_with fail
            go_ret
            exact ⟨ret_bool (by rw [HRF.out]), HF.out⟩
      · have hkI : ¬ ((k : Int) ≤ (i : Int)) := by omega
        have HBI := hide (show false = decide (k ≤ i ∧ i < k + many) from by simp [hk1])
        go_upto_region 5 with (fail)
        cases bs
        · go_quiet (fail)
          clear z0 z1 f0 f1 u0 u1 ul q1 ql
          have HF := hide (below_drewN HB3.out nq)
          have HI := hide (show spannedC es k many i = true from by
            rw [HSC.out, ← HBI.out, HBS.out]
            simp)
          generalize w2.drewN nq = w3 at *
          go_wp2_with fail
          go_roundw
          case rel => exact ⟨i + 1, by omega, by go_num, allUp HALL.out HI.out, HF.out⟩
          case measure => simp [intOf]; omega
        · go_quiet (fail)
          clear z0 z1 f0 f1 u0 u1 ul q1 ql
          have HF := hide (below_drewN HBr.out nq)
          have HRF := hide (show r = false from by
            rw [← HR.out, spannedB_all, List.all_eq_false]
            refine ⟨i, by rw [List.mem_range, HN.out]; exact hlt, ?_⟩
            rw [HSC.out, ← HBI.out, HBS.out]
            simp)
          generalize w2.drewN nq = w3 at *
          go_wp2_with fail
          go_ret
          exact ⟨ret_bool (by rw [HRF.out]), HF.out⟩
    · obtain rfl : i = n := by omega
      have HF := hide (HB.out.trans (HB2.out.mono HB.out.size))
      have HT := hide (show r = true from by
        rw [← HR.out, spannedB_all, List.all_eq_true]
        intro j hj
        exact HALL.out j (by have := HN.out; simpa [this] using hj))
      go_wp2_with fail
      go_ret
      exact ⟨ret_bool (by rw [HT.out]), HF.out⟩
end Go.Proofs.Ytjlbnegdiabglaa
