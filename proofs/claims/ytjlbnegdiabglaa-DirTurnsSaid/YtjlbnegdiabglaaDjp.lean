/-
  A directory doubled, plainly: its tables are the same.
-/
import Derived.Test.YtjlbnegdiabglaaDjb
set_option linter.unusedSimpArgs false
set_option linter.unusedVariables false
namespace Go.Proofs.Ytjlbnegdiabglaa
open Go Go.RowKit

theorem lead_dbl (e : En) : ∀ l, lead e (dbl l) = 2 * lead e l
  | [] => rfl
  | x :: l => by
    have ih := lead_dbl e l
    show (if x = e then (if x = e then lead e (dbl l) + 1 else 0) + 1 else 0) = 2 * (if x = e then lead e l + 1 else 0)
    by_cases h : x = e
    · rw [if_pos h, if_pos h, if_pos h, ih]
      omega
    · rw [if_neg h, if_neg h]
theorem drop_dbl : ∀ (k : Nat) (l : List En), (dbl l).drop (2 * k) = dbl (l.drop k)
  | 0, l => rfl
  | k + 1, [] => by simp [dbl]
  | k + 1, x :: l => by
    have hd : dbl (x :: l) = x :: x :: dbl l := rfl
    rw [hd, show 2 * (k + 1) = 2 * k + 1 + 1 by omega, List.drop_succ_cons, List.drop_succ_cons, List.drop_succ_cons, drop_dbl k l]
def R2 (r : Rn) : Rn := ⟨2 * r.at_, 2 * r.many, r.e⟩
theorem runs_dblAt : ∀ (f : Nat) (l : List En) (k : Nat), l.length ≤ f → runsAt (2 * k) (dbl l) = (runsAt k l).map R2
  | _, [], k, _ => rfl
  | 0, x :: l, k, h => by simp at h
  | f + 1, e :: l, k, h => by
    have hd : dbl (e :: l) = e :: (e :: dbl l) := rfl
    have hl : lead e (e :: dbl l) = 2 * lead e l + 1 := by
      show (if e = e then lead e (dbl l) + 1 else 0) = _
      rw [if_pos rfl, lead_dbl]
    rw [hd, runsAt_cons, runsAt_cons, hl, List.drop_succ_cons, drop_dbl, List.map_cons,
      show 2 * k + (2 * lead e l + 1 + 1) = 2 * (k + (lead e l + 1)) by omega,
      runs_dblAt f (l.drop (lead e l)) (k + (lead e l + 1)) (by rw [List.length_drop]; simp at h; omega)]
    congr 1
theorem runs_dbl (es : List En) : runs (dbl es) = (runs es).map R2 := runs_dblAt es.length es 0 (Nat.le_refl _)
theorem log2_two {m : Nat} (h : 1 ≤ m) : Nat.log2 (2 * m) = Nat.log2 m + 1 := by
  rw [log2_half (by omega), Nat.mul_div_cancel_left _ (by omega)]
theorem rc_R2 (dep : Int) {r : Rn} (h : 1 ≤ r.many) : rc (dep + 1) (R2 r) = ⟨r.e, (rc dep r).dep, (rc dep r).pre, 2 * (r.at_ : Int), 2 * (r.many : Int)⟩ := by
  have h1 := log2_two h
  have h2 : 2 * r.at_ / (2 * r.many) = r.at_ / r.many := Nat.mul_div_mul_left _ _ (by omega)
  simp only [rc, R2, h1, h2]
  congr 1 <;> omega
theorem ok_R2 {r : Rn} (h : okRun r = true) (h1 : 1 ≤ r.many) (h2 : r.many ≤ 16) : okRun (R2 r) = true := by
  unfold okRun R2 at *
  simp only [Bool.and_eq_true, decide_eq_true_eq] at h ⊢
  obtain ⟨h3, h4⟩ := h
  have h5 := (pow_small32 h1 (by omega)).1 h3
  refine ⟨(pow_small32 (L := 2 * r.many) (by omega) (by omega)).2 ?_, ?_⟩
  · rw [log2_two h1, Nat.pow_succ, h5]; omega
  · rw [Nat.mul_mod_mul_left, h4]
theorem entsOk_mem {es : List En} (h : entsOk es = true) {e : En} (he : e ∈ es) : okEnt e.1 e.2 = true := List.all_eq_true.1 h e he
theorem may_dbl {dep : Int} {es : List En} (h : mayB dep es = true) (hd : dep < 5) : mayB (dep + 1) (dbl es) = true := by
  obtain ⟨hd0, hd5, hl32, hl1, -, hlen⟩ := may_shape h
  have hl16 : es.length ≤ 16 := by
    rw [hlen]
    have := Nat.pow_le_pow_right (n := 2) (by omega) (show dep.toNat ≤ 4 by omega)
    omega
  unfold mayB at h ⊢
  simp only [Bool.and_eq_true] at h ⊢
  obtain ⟨⟨⟨h1, h2⟩, h3⟩, h4⟩ := h
  refine ⟨⟨⟨?_, ?_⟩, ?_⟩, ?_⟩
  · simp only [dirShape, decide_eq_true_eq, dbl_length]
    refine ⟨by omega, ?_⟩
    rw [hlen, show (dep + 1).toNat = dep.toNat + 1 by omega, Int.pow_succ]
    push_cast
    omega
  · unfold entsOk
    rw [List.all_eq_true]
    intro x hx
    obtain ⟨y, hy, hxy⟩ := List.mem_flatMap.1 hx
    have : x = y := by simpa using hxy
    subst this
    exact entsOk_mem h2 hy
  · rw [runs_dbl, List.all_map, List.all_eq_true]
    intro r hr
    obtain ⟨m1, m2, _⟩ := runs_mem hr
    exact ok_R2 (List.all_eq_true.1 h3 r hr) m1 (by omega)
  · have : slabsOf (runs (dbl es)) = slabsOf (runs es) := by
      unfold slabsOf
      rw [runs_dbl, List.map_map]
      rfl
    rw [this]
    exact h4
theorem half_dbl : ∀ es : List En, halfX (dbl es) = some es
  | [] => rfl
  | x :: l => by
    have hd : dbl (x :: l) = x :: x :: dbl l := rfl
    rw [hd]
    unfold halfX
    rw [if_pos rfl, half_dbl l]; rfl
theorem inB_same {s t : Rc} (h1 : s.dep = t.dep) (h2 : s.pre = t.pre) : inB s t = true := by
  unfold inB
  rw [h1, h2]
  simp
theorem runs_some {es : List En} (h : 1 ≤ es.length) : 0 < (runs es).length := by
  obtain ⟨r, hr, _⟩ := runs_at es (j := 0) (by omega)
  exact List.length_pos_of_mem hr
/-- What DirBack's last line asks. -/
theorem back_plain {dep : Int} {es : List En} (h : mayB dep es = true) (hd : dep < 5) :
    finerX (spansX (dep + 1) (dbl es)) (spansX dep es) = true ∧ finerX (spansX dep es) (spansX (dep + 1) (dbl es)) = true ∧ (spansX (dep + 1) (dbl es)).length = (spansX dep es).length := by
  have h1 := runs_some (may_shape h).2.2.2.1
  unfold spansX
  rw [if_pos h, if_pos (may_dbl h hd), runs_dbl]
  simp only [List.length_map, and_true]
  unfold finerX
  simp only [List.length_map, Bool.and_eq_true, decide_eq_true_eq, List.all_eq_true, List.any_eq_true]
  refine ⟨⟨⟨h1, h1⟩, fun s hs => ?_⟩, ⟨h1, h1⟩, fun s hs => ?_⟩
  · rw [List.map_map] at hs
    obtain ⟨r, hr, rfl⟩ := List.mem_map.1 hs
    have he := rc_R2 dep (runs_mem hr).1
    exact ⟨rc dep r, List.mem_map_of_mem hr, inB_same (by show (rc (dep + 1) (R2 r)).dep = _; rw [he]) (by show (rc (dep + 1) (R2 r)).pre = _; rw [he])⟩
  · obtain ⟨r, hr, rfl⟩ := List.mem_map.1 hs
    have he := rc_R2 dep (runs_mem hr).1
    exact ⟨rc (dep + 1) (R2 r), List.mem_map_of_mem (List.mem_map_of_mem hr), inB_same (by rw [he]) (by rw [he])⟩
end Go.Proofs.Ytjlbnegdiabglaa
