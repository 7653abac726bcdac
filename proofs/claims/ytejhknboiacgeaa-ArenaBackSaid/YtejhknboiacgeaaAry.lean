/-
  ArenaBack: the plain law.
-/
import Derived.Test.YtejhknboiacgeaaArw
import Derived.Test.YtejhknboiacgeaaArq
import Derived.Deep.CutRange
import Derived.Deep.CutBlock
set_option linter.unusedSimpArgs false
set_option linter.unusedVariables false
namespace Go.Proofs.Ytejhknboiacgeaa
open Go Go.RowKit
attribute [local go_sem] via_cell via_frozen

/-- What taking, retiring, and giving back come to, told at once. -/
structure BackFacts (S : List (Int × Int)) (j : Nat) (T R : List (Int × Int)) (l : List (Int × Int)) (f v r : Int) : Prop where
  hT : tkA S j = T
  hL : tkL S j = l
  hE : tkE S j = 0
  ll : l.length = j
  tl : T.length = S.length
  c0 : cn T 0 = f - j
  c1 : cn T 1 = v + j
  c2 : cn T 2 = r
  hR : rtA T l = R
  hRE : rtE T l = 0
  rl : R.length = S.length
  d0 : cn R 0 = f - j
  d1 : cn R 1 = v
  d2 : cn R 2 = r + j
  give : (∀ e ∈ l, e.2 < 1099511627775) → ∃ G, gvA R l = G ∧ gvE R l = 0 ∧ gvA T l = G ∧ gvE T l = 0 ∧ G.length = S.length ∧ cn G 0 = f ∧ cn G 1 = v ∧ cn G 2 = r
  gen : ∀ e ∈ l, e.2 ≤ 1099511627775
theorem cn_cnt {xs : List (Int × Int)} (h : arOk xs = true) (t : Int) : cn xs t = cnt xs t := by
  unfold cn; rw [if_pos h, ents_cnt]
theorem back_facts (S : List (Int × Int)) (ho : arOk S = true) (j : Nat) (hj : j ≤ (ents S 0).length) : ∃ T R l, BackFacts S j T R l (cn S 0) (cn S 1) (cn S 2) := by
  obtain ⟨l, hl⟩ : ∃ l, (ents S 0).take j = l := ⟨_, rfl⟩
  have hll : l.length = j := by rw [← hl, List.length_take]; omega
  have hE : tkE S j = 0 := by
    simp only [tkE, ho, if_true]; rw [if_neg (by omega), if_neg (by omega)]
  have hf : Fit S 0 l := by rw [← hl]; exact ents_fit S 0 j
  have hT : tk S j = setAll 1 0 S l := by rw [tk_setAll, hl]
  have oT : arOk (setAll 1 0 S l) = true := by rw [← hT]; exact arOk_tk S ho j hj
  have fT : Fit (setAll 1 0 S l) 1 l := hf.set 1
  have hR := retS_fit l _ fT
  have oR : arOk (setAll 2 0 (setAll 1 0 S l) l) = true := arOk_ret _ _ _ oT hR
  have fR : Fit (setAll 2 0 (setAll 1 0 S l) l) 2 l := fT.set 2
  have hlt : ∀ e ∈ l, e.1.toNat < (setAll 1 0 S l).length := fun e he => fT.lt he
  refine ⟨setAll 1 0 S l, setAll 2 0 (setAll 1 0 S l) l, l, ⟨?_, ?_, hE, hll, setAll_length _ _ _ _, ?_, ?_, ?_, ?_, ?_, ?_, ?_, ?_, ?_, ?_, ?_⟩⟩
  · simp [tkA, hE, hT]
  · simp [tkL, hE, hl]
  · rw [cn_cnt oT, cn_cnt ho]; have := cnt_setAll 1 0 0 (by omega) 0 l S hf; simp at this; omega
  · rw [cn_cnt oT, cn_cnt ho]; have := cnt_setAll 1 0 0 (by omega) 1 l S hf; simp at this; omega
  · rw [cn_cnt oT, cn_cnt ho]; have := cnt_setAll 1 0 0 (by omega) 2 l S hf; simp at this; omega
  · simp [rtA, oT, hR]
  · simp [rtE, oT, hR]
  · rw [setAll_length, setAll_length]
  · rw [cn_cnt oR, cn_cnt ho]
    have h1 := cnt_setAll 1 0 0 (by omega) 0 l S hf
    have h2 := cnt_setAll 2 0 1 (by omega) 0 l _ fT
    simp at h1 h2; omega
  · rw [cn_cnt oR, cn_cnt ho]
    have h1 := cnt_setAll 1 0 0 (by omega) 1 l S hf
    have h2 := cnt_setAll 2 0 1 (by omega) 1 l _ fT
    simp at h1 h2; omega
  · rw [cn_cnt oR, cn_cnt ho]
    have h1 := cnt_setAll 1 0 0 (by omega) 2 l S hf
    have h2 := cnt_setAll 2 0 1 (by omega) 2 l _ fT
    simp at h1 h2; omega
  · intro hg
    have g1 := givS_fit 2 (by omega) l _ fR hg
    have g2 := givS_fit 1 (by omega) l _ fT hg
    have he := setAll_over 0 2 1 0 l (setAll 1 0 S l) fT.nodup hlt
    rw [he] at g1
    have oG : arOk (setAll 0 1 (setAll 1 0 S l) l) = true := arOk_giv _ _ _ oT g2
    refine ⟨setAll 0 1 (setAll 1 0 S l) l, by simp [gvA, oR, g1], by simp [gvE, oR, g1], by simp [gvA, oT, g2], by simp [gvE, oT, g2], by rw [setAll_length, setAll_length], ?_, ?_, ?_⟩
    · rw [cn_cnt oG, cn_cnt ho]
      have h1 := cnt_setAll 1 0 0 (by omega) 0 l S hf
      have h2 := cnt_setAll 0 1 1 (by omega) 0 l _ fT
      simp at h1 h2; omega
    · rw [cn_cnt oG, cn_cnt ho]
      have h1 := cnt_setAll 1 0 0 (by omega) 1 l S hf
      have h2 := cnt_setAll 0 1 1 (by omega) 1 l _ fT
      simp at h1 h2; omega
    · rw [cn_cnt oG, cn_cnt ho]
      have h1 := cnt_setAll 1 0 0 (by omega) 2 l S hf
      have h2 := cnt_setAll 0 1 1 (by omega) 2 l _ fT
      simp at h1 h2; omega
  · intro e he
    have h1 := (hf.at_ e he).2
    have := slabOk_out ((arOk_out ho).2.2 _ (List.mem_of_getElem? h1))
    exact this.2.2
/-- Why nothing is taken. -/
theorem tk_no (S : List (Int × Int)) (many : Int) (h : tkE S many ≠ 0) : tkA S many = [] ∧ tkL S many = [] ∧ (tkE S many ≠ 6 ∨ cn S 0 < many) := by
  refine ⟨by simp [tkA, h], by simp [tkL, h], ?_⟩
  unfold tkE at *
  unfold cn
  by_cases ho : arOk S = true
  · rw [if_pos ho] at h ⊢
    rw [if_pos ho]
    by_cases h1 : many < 0
    · left; rw [if_pos h1]; omega
    · rw [if_neg h1] at h ⊢
      by_cases h2 : ((ents S 0).length : Int) < many
      · right; exact h2
      · rw [if_neg h2] at h; exact absurd rfl h
  · left; rw [if_neg ho]; omega
theorem tk_yes (S : List (Int × Int)) (many : Int) (h : tkE S many = 0) : arOk S = true ∧ ∃ j : Nat, many = j ∧ j ≤ (ents S 0).length := by
  unfold tkE at h
  by_cases ho : arOk S = true
  · rw [if_pos ho] at h
    by_cases h1 : many < 0
    · rw [if_pos h1] at h; cases h
    · rw [if_neg h1] at h
      by_cases h2 : ((ents S 0).length : Int) < many
      · rw [if_pos h2] at h; cases h
      · exact ⟨ho, many.toNat, by omega, by omega⟩
  · rw [if_neg ho] at h; cases h
end Go.Proofs.Ytejhknboiacgeaa
