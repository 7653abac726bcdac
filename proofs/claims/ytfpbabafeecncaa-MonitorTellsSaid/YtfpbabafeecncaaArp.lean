/-
  Arenas as rows of pairs (tag, generation): what may be, what is meant, entries of a tag, and what taking, retiring, giving back come to. No program in sight.
-/
import Derived.WalkKit
set_option linter.unusedSimpArgs false
set_option linter.unusedVariables false
namespace Go.Proofs.Ytfpbabafeecncaa

def slabOk (s : Int × Int) : Bool := decide (0 ≤ s.1 ∧ s.1 ≤ 2 ∧ s.2 ≤ 1099511627775)
def arOk (ss : List (Int × Int)) : Bool := decide (2 ≤ ss.length ∧ ss.length ≤ 128) && ss.all slabOk
def chk (ss : List (Int × Int)) : Int := if arOk ss = true then 0 else 210
def meantB (ss : List (Int × Int)) (e : Int × Int) : Bool := decide (0 ≤ e.1 ∧ e.1 < ss.length) && decide ((ss.getD e.1.toNat (0, 0)).2 = e.2)
def tagOf (ss : List (Int × Int)) (e : Int × Int) : Int := (ss.getD e.1.toNat (0, 0)).1
/-- The entries of a tag, the first slab being number i. -/
def entsF (tag : Int) : Nat → List (Int × Int) → List (Int × Int)
  | _, [] => []
  | i, s :: ss => if s.1 = tag then ((i : Int), s.2) :: entsF tag (i + 1) ss else entsF tag (i + 1) ss
def ents (ss : List (Int × Int)) (tag : Int) : List (Int × Int) := entsF tag 0 ss
def put1 (t : Int) (ss : List (Int × Int)) (e : Int × Int) : List (Int × Int) := ss.set e.1.toNat (t, e.2)
/-- The arena behind j takes. -/
def tk (ss : List (Int × Int)) (j : Nat) : List (Int × Int) := ((ents ss 0).take j).foldl (put1 1) ss

theorem entsF_append (tag : Int) : ∀ (l m : List (Int × Int)) (i : Nat), entsF tag i (l ++ m) = entsF tag i l ++ entsF tag (i + l.length) m
  | [], m, i => by simp [entsF]
  | s :: l, m, i => by
    simp only [List.cons_append, entsF, List.length_cons]
    have h := entsF_append tag l m (i + 1)
    rw [show i + 1 + l.length = i + (l.length + 1) by omega] at h
    by_cases hs : s.1 = tag <;> simp [hs, h]
theorem ents_snoc (ss : List (Int × Int)) (tag : Int) (k : Nat) (hk : k < ss.length) :
    ents (ss.take (k + 1)) tag = ents (ss.take k) tag ++ (if ss[k].1 = tag then [((k : Int), ss[k].2)] else []) := by
  rw [List.take_succ_eq_append_getElem hk]
  unfold ents
  rw [entsF_append]
  have hl : 0 + (ss.take k).length = k := by rw [List.length_take]; omega
  rw [hl]
  simp [entsF]
theorem entsF_mem (tag : Int) : ∀ (ss : List (Int × Int)) (i : Nat) (e : Int × Int), e ∈ entsF tag i ss → ∃ j, j < ss.length ∧ e.1 = ((i + j : Nat) : Int) ∧ ss[j]? = some (tag, e.2)
  | [], _, _, h => by simp [entsF] at h
  | s :: ss, i, e, h => by
    simp only [entsF] at h
    by_cases hs : s.1 = tag
    · rw [if_pos hs, List.mem_cons] at h
      rcases h with rfl | h
      · refine ⟨0, by simp, by simp, ?_⟩
        subst hs; rfl
      · obtain ⟨j, h1, h2, h3⟩ := entsF_mem tag ss (i + 1) e h
        exact ⟨j + 1, by simp; omega, by rw [h2]; omega, by simpa using h3⟩
    · rw [if_neg hs] at h
      obtain ⟨j, h1, h2, h3⟩ := entsF_mem tag ss (i + 1) e h
      exact ⟨j + 1, by simp; omega, by rw [h2]; omega, by simpa using h3⟩
theorem ents_mem {ss : List (Int × Int)} {tag : Int} {e : Int × Int} (h : e ∈ ents ss tag) : 0 ≤ e.1 ∧ e.1 < ss.length ∧ ss[e.1.toNat]? = some (tag, e.2) := by
  obtain ⟨j, h1, h2, h3⟩ := entsF_mem tag ss 0 e h
  rw [Nat.zero_add] at h2
  refine ⟨by omega, by omega, ?_⟩
  rw [h2]; simpa using h3
theorem entsF_length (tag : Int) : ∀ (ss : List (Int × Int)) (i : Nat), (entsF tag i ss).length ≤ ss.length
  | [], _ => by simp [entsF]
  | s :: ss, i => by
    simp only [entsF]
    have := entsF_length tag ss (i + 1)
    by_cases hs : s.1 = tag <;> simp [hs] <;> omega
theorem ents_length (ss : List (Int × Int)) (tag : Int) : (ents ss tag).length ≤ ss.length := entsF_length tag ss 0
/-- The first of a tag, once it is another's. -/
theorem entsF_next (tag t : Int) (ht : t ≠ tag) : ∀ (ss : List (Int × Int)) (i : Nat) (e : Int × Int) (r : List (Int × Int)), entsF tag i ss = e :: r → entsF tag i (ss.set (e.1.toNat - i) (t, e.2)) = r
  | [], _, _, _, h => by simp [entsF] at h
  | s :: ss, i, e, r, h => by
    simp only [entsF] at h
    by_cases hs : s.1 = tag
    · rw [if_pos hs] at h
      injection h with h1 h2
      subst h1
      simp [entsF, ht, h2]
    · rw [if_neg hs] at h
      obtain ⟨j, h1, h2, h3⟩ := entsF_mem tag ss (i + 1) e (by rw [h]; simp)
      have hne : e.1.toNat - i = (e.1.toNat - (i + 1)) + 1 := by rw [h2]; omega
      rw [hne, List.set_cons_succ]
      simp only [entsF, if_neg hs]
      exact entsF_next tag t ht ss (i + 1) e r h
theorem ents_next {ss : List (Int × Int)} {tag t : Int} (ht : t ≠ tag) {e : Int × Int} {r : List (Int × Int)} (h : ents ss tag = e :: r) : ents (put1 t ss e) tag = r := by
  have := entsF_next tag t ht ss 0 e r h
  unfold ents put1; simpa using this
theorem put1_length (t : Int) (ss : List (Int × Int)) (e : Int × Int) : (put1 t ss e).length = ss.length := by simp [put1]
theorem tk_length (ss : List (Int × Int)) (j : Nat) : (tk ss j).length = ss.length := by
  unfold tk
  generalize (ents ss 0).take j = l
  induction l generalizing ss with
  | nil => rfl
  | cons e l ih => rw [List.foldl_cons, ih, put1_length]
theorem foldl_ents (t : Int) (ht : t ≠ 0) : ∀ (j : Nat) (ss : List (Int × Int)), ents (((ents ss 0).take j).foldl (put1 t) ss) 0 = (ents ss 0).drop j
  | 0, ss => by simp
  | j + 1, ss => by
    cases h : ents ss 0 with
    | nil => simp [h]
    | cons e r =>
      have h2 := ents_next ht h
      have h3 := foldl_ents t ht j (put1 t ss e)
      rw [h2] at h3
      simpa using h3
theorem tk_ents (ss : List (Int × Int)) (j : Nat) : ents (tk ss j) 0 = (ents ss 0).drop j := foldl_ents 1 (by omega) j ss
theorem tk_succ (ss : List (Int × Int)) (j : Nat) (hj : j < (ents ss 0).length) : tk ss (j + 1) = put1 1 (tk ss j) (ents ss 0)[j] := by
  unfold tk
  rw [List.take_succ_eq_append_getElem hj, List.foldl_append]; rfl

/-- Retired; the errors: 4. -/
def retS : List (Int × Int) → List (Int × Int) → Option (List (Int × Int))
  | ss, [] => some ss
  | ss, e :: l => if meantB ss e = true ∧ tagOf ss e = 1 then retS (put1 2 ss e) l else none
/-- Given back; the errors: 4, 6. -/
def givS : List (Int × Int) → List (Int × Int) → Except Int (List (Int × Int))
  | ss, [] => .ok ss
  | ss, e :: l => if meantB ss e = true ∧ tagOf ss e ≠ 0 then (if e.2 < 1099511627775 then givS (ss.set e.1.toNat (0, e.2 + 1)) l else .error 6) else .error 4

theorem meantB_out {ss : List (Int × Int)} {e : Int × Int} (h : meantB ss e = true) : ∃ k : Nat, e.1 = (k : Int) ∧ k < ss.length ∧ (ss.getD k (0, 0)).2 = e.2 := by
  simp only [meantB, Bool.and_eq_true, decide_eq_true_eq] at h
  obtain ⟨⟨h0, h1⟩, h2⟩ := h
  obtain ⟨k, hk⟩ := Int.eq_ofNat_of_zero_le h0
  refine ⟨k, hk, by omega, ?_⟩
  rw [hk] at h2
  simpa using h2
theorem arOk_out {ss : List (Int × Int)} (h : arOk ss = true) : 2 ≤ ss.length ∧ ss.length ≤ 128 ∧ ∀ s ∈ ss, slabOk s = true := by
  simp only [arOk, Bool.and_eq_true, decide_eq_true_eq, List.all_eq_true] at h
  exact ⟨h.1.1, h.1.2, h.2⟩
theorem arOk_set {ss : List (Int × Int)} (h : arOk ss = true) (k : Nat) (s : Int × Int) (hs : slabOk s = true) : arOk (ss.set k s) = true := by
  obtain ⟨h1, h2, h3⟩ := arOk_out h
  simp only [arOk, Bool.and_eq_true, decide_eq_true_eq, List.all_eq_true, List.length_set]
  refine ⟨⟨h1, h2⟩, fun x hx => ?_⟩
  rcases List.mem_or_eq_of_mem_set hx with hx | rfl
  · exact h3 x hx
  · exact hs
theorem arOk_at {ss : List (Int × Int)} (h : arOk ss = true) {k : Nat} (hk : k < ss.length) : slabOk (ss.getD k (0, 0)) = true := by
  rw [List.getD_eq_getElem?_getD, List.getElem?_eq_getElem hk]
  exact (arOk_out h).2.2 _ (List.getElem_mem hk)
theorem slabOk_out {s : Int × Int} (h : slabOk s = true) : 0 ≤ s.1 ∧ s.1 ≤ 2 ∧ s.2 ≤ 1099511627775 := by simpa [slabOk] using h
theorem slabOk_mk {t g : Int} (h0 : 0 ≤ t) (h1 : t ≤ 2) (h2 : g ≤ 1099511627775) : slabOk (t, g) = true := by simp [slabOk, h0, h1, h2]
theorem arOk_ret : ∀ (l ss : List (Int × Int)) (out : List (Int × Int)), arOk ss = true → retS ss l = some out → arOk out = true
  | [], ss, out, h, hr => by simp [retS] at hr; subst hr; exact h
  | e :: l, ss, out, h, hr => by
    simp only [retS] at hr
    by_cases hc : meantB ss e = true ∧ tagOf ss e = 1
    · rw [if_pos hc] at hr
      obtain ⟨k, hk, hkl, hg⟩ := meantB_out hc.1
      have := slabOk_out (arOk_at h hkl)
      refine arOk_ret l _ out (arOk_set h _ _ (slabOk_mk (by omega) (by omega) (by omega))) hr
    · rw [if_neg hc] at hr; cases hr
theorem arOk_giv : ∀ (l ss : List (Int × Int)) (out : List (Int × Int)), arOk ss = true → givS ss l = .ok out → arOk out = true
  | [], ss, out, h, hr => by simp [givS] at hr; subst hr; exact h
  | e :: l, ss, out, h, hr => by
    simp only [givS] at hr
    by_cases hc : meantB ss e = true ∧ tagOf ss e ≠ 0
    · rw [if_pos hc] at hr
      by_cases hg : e.2 < 1099511627775
      · rw [if_pos hg] at hr
        exact arOk_giv l _ out (arOk_set h _ _ (slabOk_mk (by omega) (by omega) (by omega))) hr
      · rw [if_neg hg] at hr; cases hr
    · rw [if_neg hc] at hr; cases hr
theorem arOk_put {ss : List (Int × Int)} (h : arOk ss = true) {e : Int × Int} {tag : Int} (he : e ∈ ents ss tag) {t : Int} (h0 : 0 ≤ t) (h2 : t ≤ 2) : arOk (put1 t ss e) = true := by
  obtain ⟨a, b, c⟩ := ents_mem he
  have hs := (arOk_out h).2.2 _ (List.mem_of_getElem? c)
  have := slabOk_out hs
  exact arOk_set h _ _ (slabOk_mk h0 h2 this.2.2)
/-- One turned. -/
def withL (xs : List (Int × Int)) (k : Int) (s : Int × Int) : List (Int × Int) := xs.mapIdx fun i x => if (i : Int) = k then s else x
theorem withL_length (xs : List (Int × Int)) (k : Int) (s : Int × Int) : (withL xs k s).length = xs.length := by simp [withL]
theorem withL_snoc (xs : List (Int × Int)) (k : Int) (s : Int × Int) (j : Nat) (hj : j < xs.length) : withL (xs.take (j + 1)) k s = withL (xs.take j) k s ++ [if (j : Int) = k then s else xs[j]] := by
  rw [List.take_succ_eq_append_getElem hj]
  unfold withL
  rw [List.mapIdx_concat]
  have hl : (xs.take j).length = j := by rw [List.length_take]; omega
  rw [hl]
theorem withL_set (xs : List (Int × Int)) (k : Nat) (s : Int × Int) : withL xs (k : Int) s = xs.set k s := by
  apply List.ext_getElem?
  intro i
  simp only [withL, List.getElem?_mapIdx, List.getElem?_set]
  by_cases h : i < xs.length
  · simp [h]
    by_cases hk : k = i
    · subst hk; simp [h]
    · have : ¬ (i : Int) = k := by omega
      simp [hk, this]
  · simp [h]
    intro hk; omega
end Go.Proofs.Ytfpbabafeecncaa
