/-
  Arenas of which many slabs are set at once: what taking, retiring and giving back come to together. No program in sight.
-/
import Derived.Test.YtejhknboiacgeaaArp
set_option linter.unusedSimpArgs false
set_option linter.unusedVariables false
namespace Go.Proofs.Ytejhknboiacgeaa

def setAll (t : Int) (d : Int) (xs l : List (Int × Int)) : List (Int × Int) := l.foldl (fun ys e => ys.set e.1.toNat (t, e.2 + d)) xs
/-- The entries are of this tag, each once. -/
structure Fit (xs : List (Int × Int)) (tag : Int) (l : List (Int × Int)) : Prop where
  nodup : (l.map fun e => e.1.toNat).Nodup
  at_ : ∀ e ∈ l, 0 ≤ e.1 ∧ xs[e.1.toNat]? = some (tag, e.2)
theorem Fit.tail {xs : List (Int × Int)} {tag : Int} {e : Int × Int} {l : List (Int × Int)} (h : Fit xs tag (e :: l)) (s : Int × Int) : Fit (xs.set e.1.toNat s) tag l := by
  have hn := h.nodup
  rw [List.map_cons, List.nodup_cons] at hn
  refine ⟨hn.2, fun x hx => ?_⟩
  have h1 := h.at_ x (by simp [hx])
  refine ⟨h1.1, ?_⟩
  rw [List.getElem?_set_ne]
  · exact h1.2
  · intro he
    exact hn.1 (by rw [List.mem_map]; exact ⟨x, hx, he.symm⟩)
theorem Fit.lt {xs : List (Int × Int)} {tag : Int} {e : Int × Int} {l : List (Int × Int)} (h : Fit xs tag l) (he : e ∈ l) : e.1.toNat < xs.length := (List.getElem?_eq_some_iff.1 (h.at_ e he).2).1
theorem setAll_length (t d : Int) : ∀ (l xs : List (Int × Int)), (setAll t d xs l).length = xs.length
  | [], xs => rfl
  | e :: l, xs => by
    have := setAll_length t d l (xs.set e.1.toNat (t, e.2 + d))
    simpa [setAll] using this
theorem setAll_off (t d : Int) : ∀ (l xs : List (Int × Int)) (i : Nat), i ∉ l.map (fun e => e.1.toNat) → (setAll t d xs l)[i]? = xs[i]?
  | [], xs, i, _ => rfl
  | e :: l, xs, i, h => by
    rw [List.map_cons, List.mem_cons, not_or] at h
    have := setAll_off t d l (xs.set e.1.toNat (t, e.2 + d)) i h.2
    have h2 : (setAll t d xs (e :: l)) = setAll t d (xs.set e.1.toNat (t, e.2 + d)) l := rfl
    rw [h2, this, List.getElem?_set_ne (fun hh => h.1 hh.symm)]
theorem setAll_at (t d : Int) : ∀ (l xs : List (Int × Int)), (l.map fun e => e.1.toNat).Nodup → ∀ e ∈ l, e.1.toNat < xs.length → (setAll t d xs l)[e.1.toNat]? = some (t, e.2 + d)
  | [], _, _, _, h, _ => by cases h
  | x :: l, xs, hn, e, he, hl => by
    rw [List.map_cons, List.nodup_cons] at hn
    have h2 : (setAll t d xs (x :: l)) = setAll t d (xs.set x.1.toNat (t, x.2 + d)) l := rfl
    rw [h2]
    rcases List.mem_cons.1 he with rfl | he
    · rw [setAll_off _ _ _ _ _ hn.1, List.getElem?_set_self (by simpa using hl)]
    · exact setAll_at t d l _ hn.2 e he (by simpa using hl)
theorem Fit.set {xs : List (Int × Int)} {tag : Int} {l : List (Int × Int)} (h : Fit xs tag l) (t : Int) : Fit (setAll t 0 xs l) t l :=
  ⟨h.nodup, fun e he => ⟨(h.at_ e he).1, by rw [setAll_at t 0 l xs h.nodup e he (h.lt he), Int.add_zero]⟩⟩
theorem retS_fit : ∀ (l xs : List (Int × Int)), Fit xs 1 l → retS xs l = some (setAll 2 0 xs l)
  | [], xs, _ => rfl
  | e :: l, xs, h => by
    have h1 := h.at_ e (by simp)
    have hl := h.lt (show e ∈ e :: l by simp)
    have hm : meantB xs e = true := by
      simp only [meantB, Bool.and_eq_true, decide_eq_true_eq]
      refine ⟨⟨h1.1, by omega⟩, ?_⟩
      rw [List.getD_eq_getElem?_getD, h1.2]; rfl
    have ht : tagOf xs e = 1 := by unfold tagOf; rw [List.getD_eq_getElem?_getD, h1.2]; rfl
    simp only [retS]
    rw [if_pos ⟨hm, ht⟩, retS_fit l _ (by have := h.tail (2, e.2); exact this)]
    simp [setAll, put1]
theorem givS_fit (tag : Int) (htag : tag ≠ 0) : ∀ (l xs : List (Int × Int)), Fit xs tag l → (∀ e ∈ l, e.2 < 1099511627775) → givS xs l = .ok (setAll 0 1 xs l)
  | [], xs, _, _ => rfl
  | e :: l, xs, h, hg => by
    have h1 := h.at_ e (by simp)
    have hl := h.lt (show e ∈ e :: l by simp)
    have hm : meantB xs e = true := by
      simp only [meantB, Bool.and_eq_true, decide_eq_true_eq]
      refine ⟨⟨h1.1, by omega⟩, ?_⟩
      rw [List.getD_eq_getElem?_getD, h1.2]; rfl
    have ht : tagOf xs e ≠ 0 := by unfold tagOf; rw [List.getD_eq_getElem?_getD, h1.2]; exact htag
    simp only [givS]
    rw [if_pos ⟨hm, ht⟩, if_pos (hg e (by simp)), givS_fit tag htag l _ (h.tail _) (fun x hx => hg x (by simp [hx]))]
    simp [setAll]
theorem setAll_over (t t' d d' : Int) (l xs : List (Int × Int)) (hn : (l.map fun e => e.1.toNat).Nodup) (hl : ∀ e ∈ l, e.1.toNat < xs.length) : setAll t d (setAll t' d' xs l) l = setAll t d xs l := by
  apply List.ext_getElem?
  intro i
  by_cases h : i ∈ l.map fun e => e.1.toNat
  · obtain ⟨e, he, rfl⟩ := List.mem_map.1 h
    rw [setAll_at t d l _ hn e he (by rw [setAll_length]; exact hl e he), setAll_at t d l _ hn e he (hl e he)]
  · rw [setAll_off _ _ _ _ _ h, setAll_off _ _ _ _ _ h, setAll_off _ _ _ _ _ h]

/-- How many of a tag. -/
def cnt (xs : List (Int × Int)) (t : Int) : Nat := xs.countP fun s => decide (s.1 = t)
theorem entsF_cnt (tag : Int) : ∀ (xs : List (Int × Int)) (i : Nat), (entsF tag i xs).length = cnt xs tag
  | [], _ => rfl
  | s :: xs, i => by
    have := entsF_cnt tag xs (i + 1)
    unfold cnt at *
    simp only [entsF, List.countP_cons]
    by_cases h : s.1 = tag <;> simp [h, this]
theorem ents_cnt (xs : List (Int × Int)) (tag : Int) : (ents xs tag).length = cnt xs tag := entsF_cnt tag xs 0
theorem cnt_set (xs : List (Int × Int)) (t : Int) (k : Nat) (s old : Int × Int) (hk : xs[k]? = some old) : cnt (xs.set k s) t + (if old.1 = t then 1 else 0) = cnt xs t + (if s.1 = t then 1 else 0) := by
  induction xs generalizing k with
  | nil => simp at hk
  | cons x xs ih =>
    cases k with
    | zero =>
      simp at hk; subst hk
      simp only [cnt, List.set_cons_zero, List.countP_cons, decide_eq_true_eq]
      omega
    | succ k =>
      have := ih k (by simpa using hk)
      simp only [cnt, List.set_cons_succ, List.countP_cons, decide_eq_true_eq] at this ⊢
      omega
theorem cnt_setAll (t d tag : Int) (ht : tag ≠ t) (u : Int) : ∀ (l xs : List (Int × Int)), Fit xs tag l → cnt (setAll t d xs l) u + (if tag = u then l.length else 0) = cnt xs u + (if t = u then l.length else 0)
  | [], xs, _ => by simp [setAll]
  | e :: l, xs, h => by
    have h1 := cnt_set xs u e.1.toNat (t, e.2 + d) (tag, e.2) (h.at_ e (by simp)).2
    have h2 := cnt_setAll t d tag ht u l _ (h.tail (t, e.2 + d))
    have h3 : (setAll t d xs (e :: l)) = setAll t d (xs.set e.1.toNat (t, e.2 + d)) l := rfl
    rw [h3]
    simp only [List.length_cons]
    by_cases ha : tag = u <;> by_cases hb : t = u <;> simp only [ha, hb, if_true, if_false] at h1 h2 ⊢ <;> omega
theorem entsF_nodup (tag : Int) : ∀ (xs : List (Int × Int)) (i : Nat), ((entsF tag i xs).map fun e => e.1.toNat).Nodup
  | [], _ => by simp [entsF]
  | s :: xs, i => by
    simp only [entsF]
    by_cases h : s.1 = tag
    · rw [if_pos h, List.map_cons, List.nodup_cons]
      refine ⟨fun hm => ?_, entsF_nodup tag xs (i + 1)⟩
      obtain ⟨e, he, hh⟩ := List.mem_map.1 hm
      obtain ⟨j, _, h2, _⟩ := entsF_mem tag xs (i + 1) e he
      simp at hh; omega
    · rw [if_neg h]; exact entsF_nodup tag xs (i + 1)
theorem ents_fit (xs : List (Int × Int)) (tag : Int) (j : Nat) : Fit xs tag ((ents xs tag).take j) :=
  ⟨by rw [List.map_take]; exact (entsF_nodup tag xs 0).sublist (List.take_sublist _ _), fun e he => by
    obtain ⟨h1, _, h3⟩ := ents_mem (List.mem_of_mem_take he)
    exact ⟨h1, h3⟩⟩
theorem tk_setAll (xs : List (Int × Int)) (j : Nat) : tk xs j = setAll 1 0 xs ((ents xs 0).take j) := by
  unfold tk setAll put1
  simp
theorem arOk_tk (xs : List (Int × Int)) (h : arOk xs = true) : ∀ j, j ≤ (ents xs 0).length → arOk (tk xs j) = true
  | 0, _ => by simpa [tk] using h
  | j + 1, hj => by
    rw [tk_succ xs j (by omega)]
    refine arOk_put (tag := 0) (arOk_tk xs h j (by omega)) ?_ (by omega) (by omega)
    rw [tk_ents]
    have h := List.drop_eq_getElem_cons (show j < (ents xs 0).length by omega)
    rw [h]
    exact List.mem_cons_self
end Go.Proofs.Ytejhknboiacgeaa
