/-
  The reference's split, plainly: it is the program's.
-/
import Derived.Test.YtjlbnegdiabglaaDjt
set_option linter.unusedSimpArgs false
set_option linter.unusedVariables false
namespace Go.Proofs.Ytjlbnegdiabglaa
open Go Go.RowKit

/-- The reference's last loop: of the entries that are e the first h become low, the others high; m of them were met. -/
def refOut (e low high : En) (h : Nat) : Nat → List En → List En
  | _, [] => []
  | m, x :: l => if x = e then (if m + 1 ≤ h then low else high) :: refOut e low high h (m + 1) l else x :: refOut e low high h m l
def cntE (e : En) : List En → Nat
  | [] => 0
  | x :: l => (if x = e then 1 else 0) + cntE e l
theorem cntE_append (e : En) : ∀ a b : List En, cntE e (a ++ b) = cntE e a + cntE e b
  | [], b => by simp [cntE]
  | x :: a, b => by simp only [List.cons_append, cntE, cntE_append e a b]; omega
theorem cntE_none {e : En} : ∀ {l : List En}, (∀ x ∈ l, x ≠ e) → cntE e l = 0
  | [], _ => rfl
  | x :: l, h => by
    simp only [cntE]
    rw [if_neg (h x (by simp)), cntE_none (fun y hy => h y (by simp [hy]))]
theorem cntE_rep (e : En) : ∀ n, cntE e (List.replicate n e) = n
  | 0 => rfl
  | n + 1 => by simp only [List.replicate_succ, cntE, cntE_rep e n, if_pos]; omega
theorem refOut_append (e low high : En) (h : Nat) : ∀ (a b : List En) (m : Nat), refOut e low high h m (a ++ b) = refOut e low high h m a ++ refOut e low high h (m + cntE e a) b
  | [], b, m => by simp [refOut, cntE]
  | x :: a, b, m => by
    by_cases hx : x = e
    · simp only [List.cons_append, refOut, cntE, if_pos hx, refOut_append e low high h a b, Nat.add_assoc]
    · simp only [List.cons_append, refOut, cntE, if_neg hx, refOut_append e low high h a b, Nat.zero_add]
theorem refOut_none {e low high : En} {h : Nat} : ∀ {l : List En} {m : Nat}, (∀ x ∈ l, x ≠ e) → refOut e low high h m l = l
  | [], _, _ => rfl
  | x :: l, m, hn => by
    simp only [refOut]
    rw [if_neg (hn x (by simp)), refOut_none (fun y hy => hn y (by simp [hy]))]
theorem refOut_low {e low high : En} {h : Nat} : ∀ (n m : Nat), m + n ≤ h → refOut e low high h m (List.replicate n e) = List.replicate n low
  | 0, _, _ => rfl
  | n + 1, m, hn => by
    simp only [List.replicate_succ, refOut, if_true]
    rw [if_pos (by omega), refOut_low n (m + 1) (by omega)]
theorem refOut_high {e low high : En} {h : Nat} : ∀ (n m : Nat), h ≤ m → refOut e low high h m (List.replicate n e) = List.replicate n high
  | 0, _, _ => rfl
  | n + 1, m, hn => by
    simp only [List.replicate_succ, refOut, if_true]
    rw [if_neg (by omega), refOut_high n (m + 1) (by omega)]
theorem refOut_mid {e low high : En} {half : Nat} {A B : List En} (hA : ∀ x ∈ A, x ≠ e) (hB : ∀ x ∈ B, x ≠ e) :
    refOut e low high half 0 (A ++ (List.replicate (2 * half) e ++ B)) = A ++ (List.replicate half low ++ (List.replicate half high ++ B)) := by
  rw [refOut_append, refOut_none hA, cntE_none hA, show List.replicate (2 * half) e = List.replicate half e ++ List.replicate half e by rw [List.replicate_append_replicate]; congr 1; omega, List.append_assoc, refOut_append, refOut_low half 0 (by omega), cntE_rep, refOut_append, refOut_high half _ (by omega), refOut_none hB]
/-- What the reference's Split comes to. -/
def refSplit (dep : Int) (es : List En) (e low high : En) : Except Int (Int × List En) :=
  if es.any (fun x => decide (x = e)) = false then .error 4
  else if (okEnt low.1 low.2 && okEnt high.1 high.2 && !decide (low.1 = high.1)) = false then .error 2
  else if (es.any (fun x => decide (x.1 = low.1)) || es.any (fun x => decide (x.1 = high.1))) = true then .error 5
  else if cntE e es = 1 then (if dep = 5 then .error 342 else .ok (dep + 1, refOut e low high 1 0 (dbl es)))
  else .ok (dep, refOut e low high (cntE e es / 2) 0 es)
theorem mem_laid {rs : List Rn} {x : En} (h : x ∈ laid rs) : ∃ r ∈ rs, r.e = x := by
  unfold laid at h
  obtain ⟨r, hr, hx⟩ := List.mem_flatMap.1 h
  exact ⟨r, hr, (List.eq_of_mem_replicate hx).symm⟩
theorem all_apart {es : List En} {low high : En} : es.all (apartB low high) = !(es.any (fun x => decide (x.1 = low.1)) || es.any (fun x => decide (x.1 = high.1))) := by
  rw [Bool.eq_iff_iff]
  simp only [List.all_eq_true, Bool.not_eq_true', Bool.or_eq_false_iff, List.any_eq_false, apartB, Bool.and_eq_true, decide_eq_false_iff_not, decide_eq_true_eq]
  constructor
  · intro h; exact ⟨fun x hx => (h x hx).1, fun x hx => (h x hx).2⟩
  · intro h x hx; exact ⟨h.1 x hx, h.2 x hx⟩
theorem refSplit_is {dep : Int} {es : List En} {e low high : En} (h : mayB dep es = true) : refSplit dep es e low high = splitO dep es e low high := by
  obtain ⟨ch, hlaid⟩ := runs_chain es
  obtain ⟨hd0, hd5, hl32, hl1, -, hlen⟩ := may_shape h
  cases hf : ((runs es).map (rc dep)).find? (fun x => decide (x.e = e)) with
  | none =>
    have hno : es.any (fun x => decide (x = e)) = false := by
      rw [List.any_eq_false]
      intro x hx hxe
      rw [← hlaid] at hx
      obtain ⟨r, hr, hre⟩ := mem_laid hx
      rw [List.find?_eq_none] at hf
      have := hf (rc dep r) (List.mem_map_of_mem hr)
      have hxe : x = e := by simpa using hxe
      apply this
      show decide (r.e = e) = true
      rw [hre, hxe]; simp
    unfold refSplit splitO
    rw [if_pos hno, hf]
  | some s =>
    obtain ⟨pre, r, post, h1, rfl, h3, h4⟩ := find_map hf
    have hrm : r ∈ runs es := by rw [h1]; simp
    obtain ⟨r1, r2, r3, r4⟩ := runs_mem hrm
    have hpost : ∀ y ∈ post, y.e ≠ e := by
      have hn := h
      unfold mayB at hn
      simp only [Bool.and_eq_true, decide_eq_true_eq] at hn
      have hn := hn.2
      rw [h1] at hn
      unfold slabsOf at hn
      rw [List.map_append, List.map_cons, List.nodup_append] at hn
      intro y hy hye
      exact (List.nodup_cons.1 hn.2.1).1 (List.mem_map.2 ⟨y, hy, by rw [hye, h3]⟩)
    have hA : ∀ x ∈ laid pre, x ≠ e := fun x hx => by obtain ⟨q, hq, hqe⟩ := mem_laid hx; rw [← hqe]; exact h4 q hq
    have hB : ∀ x ∈ laid post, x ≠ e := fun x hx => by obtain ⟨q, hq, hqe⟩ := mem_laid hx; rw [← hqe]; exact hpost q hq
    have hes : es = laid pre ++ (List.replicate r.many e ++ laid post) := by
      rw [← hlaid, h1, laid_append, laid_cons, h3]
    have hat : r.at_ = (laid pre).length := by
      have := chain_place pre 0 r post (by rw [← h1]; exact ch)
      omega
    have hcnt : cntE e es = r.many := by
      rw [hes, cntE_append, cntE_append, cntE_rep, cntE_none hA, cntE_none hB]; omega
    have hyes : es.any (fun x => decide (x = e)) = true := by
      rw [List.any_eq_true]
      refine ⟨e, ?_, by simp⟩
      rw [hes]
      obtain ⟨m, hm⟩ : ∃ m, r.many = m + 1 := ⟨r.many - 1, by omega⟩
      rw [hm, List.replicate_succ]; simp
    unfold refSplit splitO
    rw [if_neg (by rw [hyes]; simp), hf]
    dsimp only
    by_cases c1 : (okEnt low.1 low.2 && okEnt high.1 high.2 && !decide (low.1 = high.1)) = false
    · rw [if_pos c1, if_pos c1]
    rw [if_neg c1, if_neg c1, all_apart]
    by_cases c2 : (es.any (fun x => decide (x.1 = low.1)) || es.any (fun x => decide (x.1 = high.1))) = true
    · rw [if_pos c2, c2]; rfl
    have c2' : (es.any (fun x => decide (x.1 = low.1)) || es.any (fun x => decide (x.1 = high.1))) = false := Bool.eq_false_iff.2 c2
    rw [if_neg c2, c2', if_neg (show ¬ (!false) = false by decide), hcnt]
    by_cases c3 : r.many = 1
    · rw [if_pos c3, if_pos (show (rc dep r).many = 1 by show ((r.many : Nat) : Int) = 1; omega)]
      by_cases c4 : dep < 5
      · rw [if_pos c4, if_neg (by omega)]
        have hr2 : runs (dbl es) = pre.map R2 ++ R2 r :: post.map R2 := by rw [runs_dbl, h1, List.map_append, List.map_cons]
        have hf2 : ((runs (dbl es)).map (rc (dep + 1))).find? (fun x => decide (x.e = e)) = some (rc (dep + 1) (R2 r)) := by
          rw [hr2]
          exact map_find (fun y hy => by obtain ⟨z, hz, rfl⟩ := List.mem_map.1 hy; exact h4 z hz) h3
        rw [hf2]
        dsimp only
        have e1 : (rc (dep + 1) (R2 r)).at_.toNat = 2 * r.at_ := rfl
        have e2 : (rc (dep + 1) (R2 r)).many.toNat / 2 = 1 := by show 2 * r.many / 2 = 1; omega
        rw [e1, e2, hes, dbl_append, dbl_append, c3]
        have e3 : dbl (List.replicate 1 e) = List.replicate (2 * 1) e := rfl
        have hA2 : ∀ x ∈ dbl (laid pre), x ≠ e := fun x hx => by
          obtain ⟨y, hy, hxy⟩ := List.mem_flatMap.1 hx
          have : x = y := by simpa using hxy
          rw [this]; exact hA y hy
        have hB2 : ∀ x ∈ dbl (laid post), x ≠ e := fun x hx => by
          obtain ⟨y, hy, hxy⟩ := List.mem_flatMap.1 hx
          have : x = y := by simpa using hxy
          rw [this]; exact hB y hy
        rw [e3, refOut_mid hA2 hB2, show 2 * r.at_ = (dbl (laid pre)).length by rw [dbl_length, hat], spl_parts]
      · rw [if_neg c4, if_pos (by omega)]
    · rw [if_neg c3, if_neg (show ¬ (rc dep r).many = 1 by show ¬ ((r.many : Nat) : Int) = 1; omega)]
      obtain ⟨c5, c6⟩ := even_many h hrm c3
      have e1 : (rc dep r).at_.toNat = r.at_ := rfl
      have e2 : (rc dep r).many.toNat / 2 = r.many / 2 := rfl
      rw [e1, e2]
      generalize hh : r.many / 2 = half at *
      rw [hes, c5, refOut_mid hA hB, hat, spl_parts]
end Go.Proofs.Ytjlbnegdiabglaa
