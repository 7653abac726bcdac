/-
  Sections, in plain Lean: rows of clear steps are clear, and what lies between them is not.
-/
import Derived.Test.YtegnppmmcchmgaaDoorGupl
set_option linter.unusedSimpArgs false
set_option linter.unusedVariables false
namespace Go.Proofs.YtegnppmmcchmgaaDoor
open Go Go.RowKit

theorem nxt_is_clear {a : Int} {l : List Sec} (ha0 : 0 ≤ a) (h : chk a l = true) {z : Int} (hz : nxt l z ≤ MAX) (hzM : z ≤ MAX) : ∀ s ∈ l, opnS s (nxt l z) = false := by
  induction l generalizing a z with
  | nil => intro s hs; cases hs
  | cons t r ih =>
    obtain ⟨c0, c1, c2, c3, c4⟩ := chk_cons ha0 h
    have hle := chk_le c0 c4
    have hnot : ∀ x : Int, (x < t.1 ∨ (t.2 ≠ 0 ∧ t.2 ≤ x)) → opnS t x = false := fun x hx => by
      unfold opnS
      simp only [Bool.and_eq_false_iff, Bool.or_eq_false_iff, decide_eq_false_iff_not, beq_eq_false_iff_ne, ne_eq]
      omega
    unfold nxt at hz ⊢
    by_cases h1 : t.1 ≤ z
    · rw [if_pos h1] at hz ⊢
      by_cases h2 : t.2 = 0
      · rw [if_pos h2] at hz; omega
      · rw [if_neg h2] at hz ⊢
        by_cases h3 : z < t.2
        · rw [if_pos h3] at hz ⊢
          have hg := nxt_ge (a := t.2) hle (by omega)
          intro s hs
          rcases List.mem_cons.1 hs with rfl | hs
          · exact hnot _ (.inr ⟨h2, hg⟩)
          · exact ih c0 c4 hz (by omega) s hs
        · rw [if_neg h3] at hz ⊢
          have hg := nxt_ge (a := z) hle hzM
          intro s hs
          rcases List.mem_cons.1 hs with rfl | hs
          · exact hnot _ (.inr ⟨h2, by omega⟩)
          · exact ih c0 c4 hz hzM s hs
    · rw [if_neg h1] at hz ⊢
      have hnz : nxt r z = z := by
        refine nxt_clear fun s hs => ?_
        rcases c3 with ⟨_, rfl⟩ | c3
        · cases hs
        · have := chk_gt c0 c4 s hs
          unfold opnS
          simp only [Bool.and_eq_false_iff, decide_eq_false_iff_not]
          left; omega
      intro s hs
      rcases List.mem_cons.1 hs with rfl | hs
      · rw [hnz]; exact hnot _ (.inl (by omega))
      · exact ih c0 c4 hz hzM s hs
theorem nxt_before {l : List Sec} {z x : Int} (h1 : z ≤ x) (h2 : x < nxt l z) : ∃ s ∈ l, opnS s x = true := by
  induction l generalizing z with
  | nil => unfold nxt at h2; omega
  | cons t r ih =>
    have hyes : t.1 ≤ x → (t.2 = 0 ∨ x < t.2) → ∃ s ∈ t :: r, opnS s x = true := fun ha hb => ⟨t, by simp, by
      unfold opnS
      simp only [Bool.and_eq_true, Bool.or_eq_true, decide_eq_true_eq, beq_iff_eq]
      exact ⟨ha, hb⟩⟩
    have hup : (∃ s ∈ r, opnS s x = true) → ∃ s ∈ t :: r, opnS s x = true := fun ⟨s, hs, ho⟩ => ⟨s, by simp [hs], ho⟩
    unfold nxt at h2
    split at h2
    · split at h2
      · exact hyes (by omega) (.inl ‹_›)
      · split at h2
        · by_cases hx : x < t.2
          · exact hyes (by omega) (.inr hx)
          · exact hup (ih (by omega) h2)
        · exact hup (ih h1 h2)
    · exact hup (ih h1 h2)
theorem clr_not {l : List Sec} (h : chk 0 l = true) {x : Int} (ho : ∃ s ∈ l, opnS s x = true) : clr l x x = false := by
  rw [Bool.eq_false_iff]
  intro hc
  obtain ⟨s, hs, ho⟩ := ho
  have := ((clr_iff h (Int.le_refl x)).1 hc).1 s hs
  rw [this] at ho
  cases ho
theorem clr_mono {l : List Sec} {a b a' b' : Int} (h : clr l a b = true) (h1 : a ≤ a') (h2 : b' ≤ b) : clr l a' b' = true := by
  unfold clr at h ⊢
  rw [List.all_eq_true] at h ⊢
  intro s hs
  have := h s hs
  simp only [Bool.or_eq_true, Bool.and_eq_true, decide_eq_true_eq] at this ⊢
  rcases this with ⟨h3, h4⟩ | h3
  · exact .inl ⟨h3, by omega⟩
  · exact .inr (by omega)
theorem look_mk {a b : Int} (h0 : 0 ≤ a) (h1 : a ≤ b) (h2 : b ≤ MAX) : lookB a b = true := by
  unfold lookB stepB
  simp only [Bool.and_eq_true, decide_eq_true_eq]
  omega
/-- What a row of clear steps says. -/
structure SpanIs (l : List Sec) (k z b : Int) (s : Int × Int) : Prop where
  ge : z ≤ s.1
  le : s.1 ≤ s.2
  end_ : s.2 ≤ b
  clear : ∀ x y, s.1 ≤ x → x ≤ y → y ≤ s.2 → clearB l x y = true
  ahead : k < s.1 → clearB l (s.1 - 1) (s.1 - 1) = false
  behind : s.2 < b → clearB l (s.2 + 1) (s.2 + 1) = false
  next : nextV l z = (s.1, 0)
theorem span_is {l : List Sec} (h : chk 0 l = true) {k z b : Int} (hk : 0 ≤ k) (hkz : k ≤ z) (hzb : z ≤ b) (hb : b ≤ MAX) (hf : nxt l z ≤ b) (hinv : z = k ∨ clearB l z z = false) : SpanIs l k z b (spn l z b) := by
  have h1 := spn_fst hf
  obtain ⟨h2, h3⟩ := spn_snd hf
  have hle := chk_le (Int.le_refl 0) h
  have hge := nxt_ge (a := z) hle (by omega)
  have hcl := nxt_is_clear (Int.le_refl 0) h (z := z) (by omega) (by omega)
  have hso := edg_sorted (Int.le_refl 0) h
  have hsnd : (spn l z b).2 = (match (edg l).find? (fun e => decide (nxt l z < e)) with | some e => min b (e - 1) | none => b) := by unfold spn; rw [if_neg (by omega)]; rfl
  have hall : clr l (spn l z b).1 (spn l z b).2 = true := by
    rw [clr_iff h (by omega), h1]
    refine ⟨hcl, fun e he hae => ?_⟩
    rw [hsnd]
    split
    · rename_i x hx
      have h9 := find_least hso hx e he hae
      exact Int.lt_of_le_of_lt (Int.min_le_right _ _) (by omega)
    · rename_i hx
      rw [List.find?_eq_none] at hx
      have := hx e he
      simp at this
      omega
  refine ⟨by omega, by omega, h3, fun x y hx hxy hy => ?_, fun hkf => ?_, fun hsb => ?_, ?_⟩
  · rw [clearB_clr h (look_mk (by omega) hxy (by omega))]
    exact clr_mono hall hx hy
  · rw [clearB_clr h (look_mk (by omega) (Int.le_refl _) (by omega))]
    refine clr_not h (nxt_before (z := z) ?_ (by omega))
    rcases Int.lt_or_le z (spn l z b).1 with hlt | hge2
    · omega
    · exfalso
      have hz : nxt l z = z := by omega
      rcases hinv with rfl | hinv
      · omega
      · rw [clearB_clr h (look_mk (by omega) (Int.le_refl _) (by omega))] at hinv
        rw [hz] at hcl
        have : clr l z z = true := by
          rw [clr_iff h (Int.le_refl z)]
          exact ⟨hcl, fun e _ he => he⟩
        rw [this] at hinv
        cases hinv
  · rw [clearB_clr h (look_mk (by omega) (Int.le_refl _) (by omega))]
    refine clr_not h ?_
    rw [hsnd] at hsb ⊢
    cases hx : (edg l).find? (fun e => decide (nxt l z < e)) with
    | none => rw [hx] at hsb; simp at hsb
    | some e =>
      rw [hx] at hsb
      dsimp only at hsb ⊢
      have he : min b (e - 1) = e - 1 := by
        rcases Int.le_total b (e - 1) with h7 | h7
        · rw [Int.min_eq_left h7] at hsb; omega
        · exact Int.min_eq_right h7
      rw [he]
      have hfe : nxt l z < e := by simpa using List.find?_some hx
      obtain ⟨t, htm, hte⟩ := mem_edg.1 (List.mem_of_find?_eq_some hx)
      have hts := chk_sec (Int.le_refl 0) h t htm
      have hno := hcl t htm
      have hle1 := find_least hso hx t.1 (mem_edg.2 ⟨t, htm, by unfold edgS; split <;> simp⟩)
      refine ⟨t, htm, ?_⟩
      unfold opnS at hno ⊢
      simp only [Bool.and_eq_false_iff, Bool.or_eq_false_iff, decide_eq_false_iff_not, beq_eq_false_iff_ne, ne_eq] at hno
      simp only [Bool.and_eq_true, Bool.or_eq_true, decide_eq_true_eq, beq_iff_eq]
      unfold edgS at hte
      split at hte
      · simp at hte; omega
      · simp at hte; rcases hte with rfl | rfl <;> omega
  · unfold nextV
    have hs1 : stepB z = true := by unfold stepB; simp; omega
    have hs2 : stepB (nxt l z) = true := by unfold stepB; simp; omega
    rw [h, hs1, hs2, h1]
    rfl
end Go.Proofs.YtegnppmmcchmgaaDoor
