/-
  The plain laws of marks: back by them, the words are as they were; what they tell of a cell ends with what it holds.
-/
import Derived.Test.YtadgihmokmfejaaCez
set_option linter.unusedSimpArgs false
set_option linter.unusedVariables false
namespace Go.Proofs.Ytadgihmokmfejaa
open Go Go.RowKit

/-- An access that can be made. -/
def Fits (n : Nat) (a : Acc) : Prop := 1 ≤ a.2.1 ∧ a.2.1 ≤ 4 ∧ 0 ≤ a.2.2.1 ∧ a.2.2.1 < n
theorem fits_of {n : Nat} {a : Acc} (h : why n a = 0) : Fits n a := by
  obtain ⟨wh, kd, at_, ol, nw⟩ := a
  obtain ⟨_, _, k1, k4, _, _, h0, h1⟩ := why_ok h
  exact ⟨k1, k4, h0, h1⟩
theorem runE_zero {n : Nat} : ∀ {l : List Acc}, runE n l = 0 → ∀ a ∈ l, why n a = 0
  | [], _ => by simp
  | b :: l, h => by
    unfold runE at h
    by_cases hb : why n b = 0
    · rw [if_neg (by simp [hb])] at h
      intro a ha
      rcases List.mem_cons.1 ha with rfl | ha
      · exact hb
      · exact runE_zero h a ha
    · rw [if_pos hb] at h
      exact absurd h hb
theorem runE_range {n : Nat} {l : List Acc} (h : runE n l = 0) : 1 ≤ n ∧ n ≤ 8192 := by
  by_cases hr : n < 1 ∨ 8192 < n
  · rw [runE_out hr] at h; cases h
  · omega

/-- An access leaves no mark, and nothing turns; or a mark, and the cell holds what it says. -/
theorem do_cases (i : Nat) (w : List Int) (a : Acc) (h : Fits w.length a) :
    (doM i w a = [] ∧ doX w a = w) ∨ (doM i w a = [((i : Int), a.2.2.1, ceAt w a.2.2.1, ceAt (doX w a) a.2.2.1)] ∧ (doS w a).2 = true ∧ ∃ v, doX w a = w.set a.2.2.1.toNat v) := by
  obtain ⟨wh, kd, at_, ol, nw⟩ := a
  obtain ⟨h1, h4, h0, hl⟩ := h
  dsimp only at h1 h4 h0 hl ⊢
  have hk : kd = 1 ∨ kd = 2 ∨ kd = 3 ∨ kd = 4 := by omega
  rcases hk with rfl | rfl | rfl | rfl
  · left; exact ⟨by simp [doM, doS], by simp [doX]⟩
  · right; exact ⟨by simp [doM, doS], by simp [doS], _, by simp only [doX]; rw [if_neg (by decide), if_pos (by first | trivial | rfl)]⟩
  · by_cases he : ceAt w at_ = ol
    · right
      exact ⟨by simp [doM, doS, he], by simp [doS, he], nw, by simp only [doX]; rw [if_neg (by decide), if_neg (by decide), if_pos (by first | trivial | rfl), if_pos he]⟩
    · left
      exact ⟨by simp [doM, doS, he], by simp only [doX]; rw [if_neg (by decide), if_neg (by decide), if_pos (by first | trivial | rfl), if_neg he]⟩
  · right; exact ⟨by simp [doM, doS], by simp [doS], _, by simp only [doX]; rw [if_neg (by decide), if_neg (by decide), if_neg (by decide)]⟩
theorem ceAt_set (w : List Int) (p : Int) (v : Int) (h0 : 0 ≤ p) (hl : p < w.length) (k : Int) (hk : 0 ≤ k) : ceAt (w.set p.toNat v) k = if k = p then v else ceAt w k := by
  unfold ceAt
  simp only [List.getD_eq_getElem?_getD, List.getElem?_set]
  by_cases h : k = p
  · subst h; rw [if_pos rfl, if_pos rfl, if_pos (by omega)]; rfl
  · rw [if_neg h, if_neg (by omega)]
theorem set_back (w : List Int) (p : Int) (v : Int) (h0 : 0 ≤ p) (hl : p < w.length) : (w.set p.toNat v).set p.toNat (ceAt w p) = w := by
  have hc : ceAt w p = w[p.toNat]'(by omega) := by unfold ceAt; rw [List.getD_eq_getElem?_getD, List.getElem?_eq_getElem (by omega)]; rfl
  rw [List.set_set, hc, List.set_getElem_self]
theorem backR_app (w : List Int) (l l2 : List Mk) : backR w (l ++ l2) = (backR w l).bind (fun v => backR v l2) := by
  induction l generalizing w with
  | nil => simp [backR]
  | cons a l ih =>
    simp only [List.cons_append, backR]
    by_cases h : backOk w a = true
    · rw [if_pos h, if_pos h, ih]
    · rw [if_neg h, if_neg h]; rfl
theorem back_run (i : Nat) (w : List Int) (l : List Acc) (h : ∀ a ∈ l, Fits w.length a) : backX (runX w l) (runM i w l) = some w := by
  unfold backX
  induction l generalizing w i with
  | nil => rfl
  | cons a l ih =>
    have ha := h a (by simp)
    have hl := ih (i + 1) (doX w a) (fun b hb => by rw [doX_length]; exact h b (by simp [hb]))
    show backR (runX (doX w a) l) (doM i w a ++ runM (i + 1) (doX w a) l).reverse = some w
    rw [List.reverse_append, backR_app, hl]
    rcases do_cases i w a ha with ⟨h1, h2⟩ | ⟨h1, _, v, h2⟩
    · rw [h1, h2]; rfl
    · rw [h1]
      have h3 : ceAt (doX w a) a.2.2.1 = v := by rw [h2, ceAt_set w _ v ha.2.2.1 ha.2.2.2 _ ha.2.2.1, if_pos rfl]
      have hok : backOk (doX w a) ((i : Int), a.2.2.1, ceAt w a.2.2.1, ceAt (doX w a) a.2.2.1) = true := by
        unfold backOk; simp only [doX_length]; simp [ha.2.2.1, ha.2.2.2]
      simp only [List.reverse_cons, List.reverse_nil, List.nil_append, Option.bind_some, backR, hok, if_true]
      unfold back1
      rw [h2, set_back w _ v ha.2.2.1 ha.2.2.2]

/-- What marks tell of a cell. -/
structure Tells (X : List Int) (l : List Acc) (k : Nat) : Prop where
  no : (lastX (runM 0 X l) k).2 = false → heldX (runM 0 X l) k = [] ∧ ceAt (runX X l) k = ceAt X k
  yes : (lastX (runM 0 X l) k).2 = true → ∃ (b : Nat) (h0 : Int) (t : List Int) (a : Acc) (q : Int), (lastX (runM 0 X l) k).1 = b ∧ heldX (runM 0 X l) k = h0 :: t ∧ h0 = ceAt X k ∧ (h0 :: t).getLast? = some (ceAt (runX X l) k) ∧ l[b]? = some a ∧ a.2.2.1 = k ∧ (runS X l)[b]? = some (q, true)
theorem tells (X : List Int) (k : Nat) (hk : k < X.length) (l : List Acc) (h : ∀ a ∈ l, Fits X.length a) : Tells X l k := by
  induction hn : l.length generalizing l with
  | zero =>
    obtain rfl := List.eq_nil_of_length_eq_zero hn
    exact ⟨fun _ => ⟨rfl, rfl⟩, fun h => by cases h⟩
  | succ n ih =>
    obtain ⟨l0, a, rfl⟩ : ∃ l0 a, l = l0 ++ [a] := by
      rcases List.eq_nil_or_concat l with rfl | ⟨l0, a, rfl⟩
      · simp at hn
      · exact ⟨l0, a, by simp⟩
    have hl0 : l0.length = n := by simp at hn; exact hn
    have ih := ih l0 (fun b hb => h b (by simp [hb])) hl0
    have ha : Fits (runX X l0).length a := by rw [runX_length]; exact h a (by simp)
    have hS : (runS X l0).length = n := by rw [runS_length, hl0]
    have hp : ∀ {b : Nat} {x : Acc}, l0[b]? = some x → (l0 ++ [a])[b]? = some x := fun {b x} hx => by rw [List.getElem?_append_left (List.getElem?_eq_some_iff.1 hx).1]; exact hx
    have hpS : ∀ {b : Nat} {x : Int × Bool} {y : Int × Bool}, (runS X l0)[b]? = some x → (runS X l0 ++ [y])[b]? = some x := fun {b x y} hx => by rw [List.getElem?_append_left (List.getElem?_eq_some_iff.1 hx).1]; exact hx
    rcases do_cases (0 + l0.length) (runX X l0) a ha with ⟨h1, h2⟩ | ⟨h1, hd, v, h2⟩
    · constructor
      · rw [runM_snoc, runX_snoc, h1, h2, List.append_nil]; exact ih.no
      · rw [runM_snoc, runX_snoc, runS_snoc, h1, h2, List.append_nil]
        intro hy
        obtain ⟨b, h0, t, x, q, e1, e2, e3, e4, e5, e6, e7⟩ := ih.yes hy
        exact ⟨b, h0, t, x, q, e1, e2, e3, e4, hp e5, e6, hpS e7⟩
    · have hset := ceAt_set (runX X l0) a.2.2.1 v ha.2.2.1 ha.2.2.2 (k : Int) (by omega)
      by_cases hat : a.2.2.1 = k
      · have hv : ceAt (doX (runX X l0) a) k = v := by rw [h2, hset, if_pos hat.symm]
        have hl1 : lastX (runM 0 X (l0 ++ [a])) k = (((0 + l0.length : Nat) : Int), true) := by
          rw [runM_snoc, h1, lastX_snoc]; unfold last1; rw [if_pos hat]
        have hh1 : heldX (runM 0 X (l0 ++ [a])) k = (if (heldX (runM 0 X l0) k).length = 0 then [ceAt (runX X l0) k] else heldX (runM 0 X l0) k) ++ [v] := by
          rw [runM_snoc, h1, heldX_snoc]; unfold held1; rw [if_pos hat]; dsimp only; rw [hat, hv]
        constructor
        · intro hf; rw [hl1] at hf; cases hf
        · intro _
          rw [hl1, hh1, runX_snoc, runS_snoc]
          have hxs : (doS (runX X l0) a) = ((doS (runX X l0) a).1, true) := by rw [← hd]
          cases hlast : (lastX (runM 0 X l0) k).2 with
          | false =>
            obtain ⟨e1, e2⟩ := ih.no hlast
            rw [e1, if_pos (show ([] : List Int).length = 0 from rfl)]
            exact ⟨l0.length, _, [v], a, (doS (runX X l0) a).1, by simp, rfl, by rw [← e2], by simp [hv], by simp, hat, by rw [List.getElem?_append_right (by omega), hS, hl0, Nat.sub_self]; simpa using hxs⟩
          | true =>
            obtain ⟨b, h0, t, x, q, e1, e2, e3, e4, e5, e6, e7⟩ := ih.yes hlast
            rw [e2, if_neg (by simp)]
            exact ⟨l0.length, h0, t ++ [v], a, (doS (runX X l0) a).1, by simp, rfl, e3, by rw [← List.cons_append, List.getLast?_append]; simp [hv], by simp, hat, by rw [List.getElem?_append_right (by omega), hS, hl0, Nat.sub_self]; simpa using hxs⟩
      · have hv : ceAt (doX (runX X l0) a) k = ceAt (runX X l0) k := by rw [h2, hset, if_neg (fun e => hat e.symm)]
        have hl1 : lastX (runM 0 X (l0 ++ [a])) k = lastX (runM 0 X l0) k := by
          rw [runM_snoc, h1, lastX_snoc]; unfold last1; rw [if_neg hat]
        have hh1 : heldX (runM 0 X (l0 ++ [a])) k = heldX (runM 0 X l0) k := by
          rw [runM_snoc, h1, heldX_snoc]; unfold held1; rw [if_neg hat]
        constructor
        · rw [hl1, hh1, runX_snoc, hv]; exact ih.no
        · rw [hl1, hh1, runX_snoc, runS_snoc, hv]
          intro hy
          obtain ⟨b, h0, t, x, q, e1, e2, e3, e4, e5, e6, e7⟩ := ih.yes hy
          exact ⟨b, h0, t, x, q, e1, e2, e3, e4, hp e5, e6, hpS e7⟩
end Go.Proofs.Ytadgihmokmfejaa
