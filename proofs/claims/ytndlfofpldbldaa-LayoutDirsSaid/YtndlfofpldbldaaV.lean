/-
  layout.Table over every row of words: one contract.
-/
import Derived.Test.YtndlfofpldbldaaQ
import Derived.Test.YtndlfofpldbldaaU
set_option linter.unusedSimpArgs false
set_option linter.unusedVariables false
namespace Go.Proofs.Ytndlfofpldbldaa
open Go Go.RowKit

theorem and255 (x : Int) (h : U64 x) : wrap64 (bits BinOp.and IntKind.u64 x 255) = x % 256 := by
  obtain ⟨h0, h1⟩ := h
  obtain ⟨a, rfl⟩ := Int.eq_ofNat_of_zero_le h0
  have := u64_and_nat a 255 (by omega) (by omega)
  rw [show ((255 : Nat) : Int) = 255 from rfl] at this
  rw [this, show (255 : Nat) = 2 ^ 8 - 1 from rfl, Nat.and_two_pow_sub_one_eq_mod, IntWalk.wrap64_in _ (by omega)]
  omega

theorem flat_rtab (d p c l : Int) (hp : 0 ≤ p) : flatB d p c l = rtabB d p c l := by
  unfold flatB rtabB
  rw [decide_eq_decide]
  have h2 : (1 : Int) ≤ 2 ^ d.toNat := by
    have : (0 : Nat) < 2 ^ d.toNat := Nat.pow_pos (by omega)
    have : (1 : Nat) ≤ 2 ^ d.toNat := this
    exact_mod_cast this
  have e : p / 2 ^ d.toNat = 0 ↔ p < 2 ^ d.toNat := by
    constructor
    · intro h
      rcases Int.lt_or_le p (2 ^ d.toNat) with hh | hh
      · exact hh
      · have := Int.le_ediv_of_mul_le (a := 1) (by omega : (0 : Int) < 2 ^ d.toNat) (by omega : 1 * (2 : Int) ^ d.toNat ≤ p)
        omega
    · intro h; exact Int.ediv_eq_zero_of_lt hp h
  rw [e]
  constructor
  · rintro ⟨⟨a, b⟩, c, ⟨d, e⟩, f, g⟩; exact ⟨a, b, c, d, e, f, g⟩
  · rintro ⟨a, b, c, d, e, f, g⟩; exact ⟨⟨a, b⟩, c, ⟨d, e⟩, f, g⟩

theorem okT_len {xs : List Int} (h : okT xs = true) : xs.length = 40 := by
  simp only [okT, Bool.and_eq_true, decide_eq_true_eq] at h
  have e := congrArg List.length h.2
  simp only [readW, List.length_append, List.length_cons, List.length_nil, List.length_take, List.length_drop] at e
  omega

/-- The words that a row's own ones would be, one by one. -/
theorem readW_iff (xs : List Int) (hl : xs.length = 40) (hu : ∀ x ∈ xs, U64 x) : xs = readW xs ↔ (xs.getD 2 0 < 256 ∧ xs.getD 3 0 < 256 ∧ (xs.drop 38).any (fun x => decide (x ≠ 0)) = false) := by
  have h2 := (hu _ (List.getElem_mem (show 2 < xs.length by omega))).1
  have h3 := (hu _ (List.getElem_mem (show 3 < xs.length by omega))).1
  rw [← getD_at xs 2 (by omega)] at h2
  rw [← getD_at xs 3 (by omega)] at h3
  have e : xs = [xs.getD 0 0, xs.getD 1 0, xs.getD 2 0, xs.getD 3 0] ++ (xs.drop 4).take 34 ++ xs.drop 38 := by
    have h1 : xs = xs.take 4 ++ xs.drop 4 := (List.take_append_drop 4 xs).symm
    have h5 : xs.drop 4 = (xs.drop 4).take 34 ++ (xs.drop 4).drop 34 := (List.take_append_drop 34 _).symm
    have h6 : xs.take 4 = [xs.getD 0 0, xs.getD 1 0, xs.getD 2 0, xs.getD 3 0] := by
      rw [getD_at xs 0 (by omega), getD_at xs 1 (by omega), getD_at xs 2 (by omega), getD_at xs 3 (by omega)]
      rw [List.take_succ_eq_append_getElem (by omega), List.take_succ_eq_append_getElem (by omega), List.take_succ_eq_append_getElem (by omega), List.take_succ_eq_append_getElem (by omega)]
      simp
    rw [List.drop_drop] at h5
    rw [List.append_assoc, ← h5, ← h6]; exact h1
  have hd : (xs.drop 38).length = 2 := by simp; omega
  have hz : (xs.drop 38).any (fun x => decide (x ≠ 0)) = false ↔ xs.drop 38 = [0, 0] := by
    match hq : xs.drop 38, hd with
    | [a, b], _ => simp
  rw [hz]
  constructor
  · intro h
    have h' := e.symm.trans h
    unfold readW at h'
    rw [List.append_assoc, List.append_assoc, List.cons_append, List.cons_append, List.cons_append, List.cons_append, List.nil_append, List.cons_append, List.cons_append, List.cons_append, List.cons_append, List.nil_append] at h'
    injection h' with a0 h'
    injection h' with a1 h'
    injection h' with a2 h'
    injection h' with a3 h'
    have h4 := List.append_inj_right' h' (by rw [hd]; rfl)
    exact ⟨by omega, by omega, h4⟩
  · rintro ⟨a, b, c⟩
    rw [c] at e
    have a1 : xs.getD 1 0 % 256 + 256 * (xs.getD 1 0 / 256) = xs.getD 1 0 := by omega
    have a2 : xs.getD 2 0 % 256 = xs.getD 2 0 := by omega
    have a3 : xs.getD 3 0 % 256 = xs.getD 3 0 := by omega
    unfold readW
    rw [a1, a2, a3]
    exact e

theorem okT_iff (xs : List Int) (hl : xs.length = 40) (hu : ∀ x ∈ xs, U64 x) : okT xs = true ↔
    (xs.getD 2 0 ≤ 14 ∧ xs.getD 3 0 ≤ 14 ∧ flatB (xs.getD 1 0 % 256) (xs.getD 1 0 / 256) (xs.getD 2 0) (xs.getD 3 0) = true ∧ (xs.drop 38).any (fun x => decide (x ≠ 0)) = false) := by
  have h1 := (hu _ (List.getElem_mem (show 1 < xs.length by omega))).1
  have h2 := (hu _ (List.getElem_mem (show 2 < xs.length by omega))).1
  have h3 := (hu _ (List.getElem_mem (show 3 < xs.length by omega))).1
  rw [← getD_at xs 1 (by omega)] at h1
  rw [← getD_at xs 2 (by omega)] at h2
  rw [← getD_at xs 3 (by omega)] at h3
  rw [okT, Bool.and_eq_true, decide_eq_true_eq, readW_iff xs hl hu, flat_rtab _ _ _ _ (by omega)]
  constructor
  · rintro ⟨a, b, c, d⟩
    have a2 : xs.getD 2 0 % 256 = xs.getD 2 0 := by omega
    have a3 : xs.getD 3 0 % 256 = xs.getD 3 0 := by omega
    rw [a2, a3] at a
    obtain ⟨_, _, _, _, e, _, f⟩ := rtabB_out a
    exact ⟨e, f, a, d⟩
  · rintro ⟨a, b, c, d⟩
    have a2 : xs.getD 2 0 % 256 = xs.getD 2 0 := by omega
    have a3 : xs.getD 3 0 % 256 = xs.getD 3 0 := by omega
    rw [a2, a3]
    exact ⟨c, by omega, by omega, d⟩

theorem tabT_read (xs : List Int) (hl : xs.length = 40) (hu : ∀ x ∈ xs, U64 x) (h2 : xs.getD 2 0 ≤ 14) (h3 : xs.getD 3 0 ≤ 14) : tabT xs (xs.getD 0 0) (xs.getD 1 0) (xs.getD 2 0) (xs.getD 3 0) = readX xs := by
  have k2 := (hu _ (List.getElem_mem (show 2 < xs.length by omega))).1
  have k3 := (hu _ (List.getElem_mem (show 3 < xs.length by omega))).1
  have u1 := hu _ (List.getElem_mem (show 1 < xs.length by omega))
  rw [← getD_at xs 1 (by omega)] at u1
  rw [← getD_at xs 2 (by omega)] at k2
  rw [← getD_at xs 3 (by omega)] at k3
  have e := readX_rows xs hl
  have a2 : xs.getD 2 0 % 256 = xs.getD 2 0 := by omega
  have a3 : xs.getD 3 0 % 256 = xs.getD 3 0 := by omega
  have e4 : ((Cs encW xs).drop 4).take 2 = [Value.int .u64 (xs.getD 4 0), .int .u64 (xs.getD 5 0)] := by
    rw [Cs_mapW, ← List.map_drop, ← List.map_take, List.drop_eq_getElem_cons (by omega), List.drop_eq_getElem_cons (by omega), getD_at xs 4 (by omega), getD_at xs 5 (by omega)]
    rfl
  unfold tabT
  rw [e4, and255 _ u1, ← e, a2, a3, Cs_mapW, ← List.map_drop, ← List.map_take, ← List.map_drop, ← List.map_take]
  rfl

theorem LTable_any (B : Nat) (A : Option Addr) (n c : Nat) (xs : List Int) (W : World) (hr : Rd W B 1 A n (Cs encW xs)) (hl : xs.length = n) (hB : B ≤ W.heap.size) (hu : ∀ x ∈ xs, U64 x) (hc : n ≤ c) :
    Calls Try.prog 27 #[.slice A n c] W fun e W' => e = .returned (.tuple #[.agg (if okT xs then readX xs else zeroT).toArray, .int .i64 (if okT xs then 0 else 260)]) ∧ Below W.heap.size W W' := by
  by_cases hn : n = 40
  · subst hn
    obtain ⟨b, off, rfl, hb, hcell⟩ := hr.2 (by omega)
    obtain ⟨k, rfl⟩ : ∃ k, c = 40 + k := ⟨c - 40, by omega⟩
    have g0 := (getD_at xs 0 (by omega)).symm
    have g1 := (getD_at xs 1 (by omega)).symm
    have g2 := (getD_at xs 2 (by omega)).symm
    have g3 := (getD_at xs 3 (by omega)).symm
    have u1 := hu _ (List.getElem_mem (show 1 < xs.length by omega))
    have u2 := hu _ (List.getElem_mem (show 2 < xs.length by omega))
    have u3 := hu _ (List.getElem_mem (show 3 < xs.length by omega))
    rw [g1] at u1
    rw [g2] at u2
    rw [g3] at u3
    have hsrc : ∀ w, Below W.heap.size W w → ∀ j u, (Cs encW xs)[j]? = some u → w.cell? ⟨b, off + j, none⟩ = some u := fun w hw j u hj => (hw.cell (by show b < _; omega)).trans (hcell j u hj)
    have hbW : b < W.heap.size := by omega
    have hp0 : 0 ≤ xs.getD 1 0 / 256 := by have := u1.1; omega
    have hp1 : xs.getD 1 0 / 256 < 18446744073709551616 := by have := u1.2; omega
    have hiff := okT_iff xs hl hu
    have ew := and255 _ u1
    by_cases h2 : xs.getD 2 0 ≤ 14
    · by_cases h3 : xs.getD 3 0 ≤ 14
      · cases hf : flatB (xs.getD 1 0 % 256) (xs.getD 1 0 / 256) (xs.getD 2 0) (xs.getD 3 0)
        · have ho : okT xs = false := by rw [Bool.eq_false_iff]; intro h; have := (hiff.1 h).2.2.1; rw [hf] at this; cases this
          rw [ho]
          exact Table_no (some ⟨b, off, none⟩) 40 (40 + k) W fun w hw hs hcw hrow => Table1_flat W.heap.size b off k W.heap.size (W.heap.size + 1 + 1) xs _ _ _ _ w hl (hsrc w hw) (Nat.le_refl _) (by omega) (by omega) hbW (by omega) hs hcw g0 g1 g2 g3 u2.1 h2 u3.1 h3 (by rw [ew]; exact hf) hp0 hp1 zeroT.toArray rfl hrow
        · cases hz : (xs.drop 38).any (fun x => decide (x ≠ 0))
          · have ho : okT xs = true := hiff.2 ⟨h2, h3, hf, hz⟩
            rw [ho]
            refine Table_yes (some ⟨b, off, none⟩) 40 (40 + k) (readX xs) (readX_len xs hl) (readX_one xs) W fun w hw hs hcw hrow => ?_
            have := Table1_ok W.heap.size b off k W.heap.size (W.heap.size + 1 + 1) xs _ _ _ _ w hl (hsrc w hw) (Nat.le_refl _) (by omega) (by omega) hbW (by omega) hs hcw g0 g1 g2 g3 u2.1 h2 u3.1 h3 (by rw [ew]; exact hf) hp0 hp1 hz zeroT.toArray rfl hrow
            rw [tabT_read xs hl hu h2 h3] at this
            exact this
          · have ho : okT xs = false := by rw [Bool.eq_false_iff]; intro h; have := (hiff.1 h).2.2.2; rw [hz] at this; cases this
            rw [ho]
            exact Table_no (some ⟨b, off, none⟩) 40 (40 + k) W fun w hw hs hcw hrow => Table1_nz W.heap.size b off k W.heap.size (W.heap.size + 1 + 1) xs _ _ _ _ w hl (hsrc w hw) (Nat.le_refl _) (by omega) (by omega) hbW (by omega) hs hcw g0 g1 g2 g3 u2.1 h2 u3.1 h3 (by rw [ew]; exact hf) hp0 hp1 hz zeroT.toArray rfl hrow
      · have ho : okT xs = false := by rw [Bool.eq_false_iff]; intro h; exact h3 (hiff.1 h).2.1
        rw [ho]
        exact Table_no (some ⟨b, off, none⟩) 40 (40 + k) W fun w hw hs hcw hrow => Table1_num3 W.heap.size b off k W.heap.size (W.heap.size + 1 + 1) xs _ _ _ _ w hl (hsrc w hw) (Nat.le_refl _) (by omega) (by omega) hbW (by omega) hs hcw g0 g1 g2 g3 u2.1 h2 (by omega) zeroT.toArray rfl hrow
    · have ho : okT xs = false := by rw [Bool.eq_false_iff]; intro h; exact h2 (hiff.1 h).1
      rw [ho]
      exact Table_no (some ⟨b, off, none⟩) 40 (40 + k) W fun w hw hs hcw hrow => Table1_num W.heap.size b off k W.heap.size (W.heap.size + 1 + 1) xs _ _ _ _ w hl (hsrc w hw) (Nat.le_refl _) (by omega) (by omega) hbW (by omega) hs hcw g0 g1 g2 g3 (by omega) zeroT.toArray rfl hrow
  · have ho : okT xs = false := by rw [Bool.eq_false_iff]; intro h; exact hn (by rw [← hl]; exact okT_len h)
    rw [ho]
    exact Table_no A n c W fun w hw hs hcw hrow => Table1_len A n c W.heap.size (W.heap.size + 1 + 1) w hn (by omega) hs hcw

theorem RReadTable_all (B : Nat) (A : Option Addr) (n c : Nat) (xs : List Int) (W : World) (hr : Rd W B 1 A n (Cs encW xs)) (hl : xs.length = n) (hB : B ≤ W.heap.size) (hu : ∀ x ∈ xs, U64 x) :
    Calls Try.prog 28 #[.slice A n c] W fun e W' => ∃ X : List Value, e = .returned (.tuple #[.agg X.toArray, .bool (okT xs)]) ∧ X.length = 39 ∧ (∀ u ∈ X, u.oneCell' = true) ∧ (okT xs = true → X = readX xs) ∧ Below W.heap.size W W' := by
  by_cases hn : n = 40
  · subst hn
    obtain ⟨b, off, rfl, hb, hcell⟩ := hr.2 (by omega)
    refine (RReadTable_any (okT xs) B b off c xs W hl (by rw [hl]; exact hr) hB hu rfl).mono ?_
    rintro e W' ⟨rfl, hb⟩
    exact ⟨_, rfl, readX_len xs hl, readX_one xs, fun _ => rfl, hb⟩
  · have ho : okT xs = false := by rw [Bool.eq_false_iff]; intro h; exact hn (by rw [← hl]; exact okT_len h)
    refine (RReadTable_len A n c W hn).mono ?_
    rintro e W' ⟨rfl, hb⟩
    rw [ho]
    exact ⟨zeroT, rfl, rfl, fun u hu => (Array.all_eq_true_iff_forall_mem.1 zeroT_one) u (by simpa using hu), fun h => (by cases h), hb⟩
end Go.Proofs.Ytndlfofpldbldaa
