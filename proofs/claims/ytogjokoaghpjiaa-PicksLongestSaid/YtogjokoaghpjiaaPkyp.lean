/-
  Plain law: if who steps is always who waits longest, nobody waits as long as there are goroutines.
-/
import Derived.Test.YtogjokoaghpjiaaPkyb
import Derived.Test.YtogjokoaghpjiaaPkopen
set_option linter.unusedSimpArgs false
set_option linter.unusedVariables false
namespace Go.Proofs.Ytogjokoaghpjiaa
open Go Go.RowKit

theorem countP_lt {p q : Int → Bool} {l : List Int} {c : Int} (h : ∀ x ∈ l, p x = true → q x = true) (hc : c ∈ l) (hq : q c = true) (hp : p c = false) : l.countP p < l.countP q := by
  induction l with
  | nil => simp at hc
  | cons x l ih =>
    have hle : l.countP p ≤ l.countP q := List.countP_mono_left (fun y hy => h y (by simp [hy]))
    rw [List.countP_cons, List.countP_cons]
    rcases List.mem_cons.1 hc with rfl | hc
    · rw [hq, hp]; simp; omega
    · have := ih (fun y hy => h y (by simp [hy])) hc
      have hx := h x (by simp)
      cases hpx : p x with
      | false => simp; omega
      | true => rw [hx hpx]; simp; omega
/-- How many wait as long as k. -/
def waitN (n : Nat) (l : List Tn) (k : Nat) : Nat := (upTo n).countP (fun g => decide (k ≤ waitX l g))
structure FairL (n : Nat) (l : List Tn) : Prop where
  cnt : ∀ k, 1 ≤ k → waitN n l k ≤ n - k
  most : ∀ g ∈ upTo n, mostX l g ≤ n - 1
theorem FairL.nil (n : Nat) : FairL n [] := by
  refine ⟨fun k hk => ?_, fun g _ => by simp [mostX]⟩
  have : waitN n [] k = 0 := by
    unfold waitN
    rw [List.countP_eq_zero]
    intro g _
    simp [waitX]; omega
  omega
theorem FairL.small {n : Nat} {l : List Tn} (h : FairL n l) (hn : 1 ≤ n) {g : Int} (hg : g ∈ upTo n) : waitX l g ≤ n - 1 := by
  have h1 := h.cnt n hn
  rw [Nat.sub_self] at h1
  have h2 : waitN n l n = 0 := by omega
  unfold waitN at h2
  rw [List.countP_eq_zero] at h2
  have := h2 g hg
  simp at this
  omega
theorem FairL.app {n : Nat} {l : List Tn} (h : FairL n l) (hn : 1 ≤ n) {can : List Int} {c : Int} (hc : c ∈ can) (hcn : c ∈ upTo n) (hmax : ∀ x ∈ can, waitX l x ≤ waitX l c) : FairL n (l ++ [(can, c)]) := by
  have hc0 : waitX (l ++ [(can, c)]) c = 0 := by rw [waitX_snoc]; simp [starvesB]
  have hcnt : ∀ k, 1 ≤ k → waitN n (l ++ [(can, c)]) k ≤ n - k := by
    intro k hk
    by_cases hk1 : k = 1
    · subst hk1
      unfold waitN
      have h1 : (upTo n).countP (fun g => decide (1 ≤ waitX (l ++ [(can, c)]) g)) < (upTo n).countP (fun _ => true) :=
        countP_lt (fun _ _ _ => rfl) hcn rfl (by rw [hc0]; rfl)
      rw [List.countP_true, upTo_length] at h1
      omega
    · by_cases hex : ∃ g ∈ upTo n, k ≤ waitX (l ++ [(can, c)]) g
      · obtain ⟨g, hg, hgk⟩ := hex
        have hst : ∀ x, k ≤ waitX (l ++ [(can, c)]) x → x ∈ can ∧ k - 1 ≤ waitX l x := by
          intro x hx
          rw [waitX_snoc] at hx
          split at hx
          · rename_i hs
            unfold starvesB at hs
            simp at hs
            exact ⟨hs.2, by omega⟩
          · omega
        have hcw : k - 1 ≤ waitX l c := Nat.le_trans (hst g hgk).2 (hmax g (hst g hgk).1)
        have h1 : waitN n (l ++ [(can, c)]) k < waitN n l (k - 1) :=
          countP_lt (fun x _ hx => by simpa using (hst x (by simpa using hx)).2) hcn (by simpa using hcw) (by rw [hc0]; simp; omega)
        have := h.cnt (k - 1) (by omega)
        omega
      · have : waitN n (l ++ [(can, c)]) k = 0 := by
          unfold waitN
          rw [List.countP_eq_zero]
          intro g hg
          simp
          rcases Nat.lt_or_ge (waitX (l ++ [(can, c)]) g) k with h1 | h1
          · exact h1
          · exact absurd ⟨g, hg, h1⟩ hex
        omega
  refine ⟨hcnt, fun g hg => ?_⟩
  have h2 : waitX (l ++ [(can, c)]) g ≤ n - 1 := by
    have h1 := hcnt n hn
    rw [Nat.sub_self] at h1
    have h2 : waitN n (l ++ [(can, c)]) n = 0 := by omega
    unfold waitN at h2
    rw [List.countP_eq_zero] at h2
    have := h2 g hg
    simp at this
    omega
  rw [mostX_snoc]
  exact Nat.max_le.2 ⟨h.most g hg, h2⟩
theorem FairL.least {n : Nat} {l : List Tn} (h : FairL n l) (hn : 1 ≤ n) : leastX n l ≤ n := by
  unfold leastX
  have := foldl_max_le ((upTo n).map (mostX l)) 0 (n - 1) (Nat.zero_le _) (fun x hx => by
    obtain ⟨g, hg, rfl⟩ := List.mem_map.1 hx
    exact h.most g hg)
  omega
theorem bestX_max (f : Int → Nat) : ∀ (l : List Int) (b : Int), f b ≤ f (bestX f b l) ∧ ∀ x ∈ l, f x ≤ f (bestX f b l)
  | [], b => ⟨Nat.le_refl _, by simp⟩
  | y :: l, b => by
    obtain ⟨h1, h2⟩ := bestX_max f l (if f b < f y then y else b)
    have e : bestX f b (y :: l) = bestX f (if f b < f y then y else b) l := rfl
    rw [e]
    have h3 : f b ≤ f (if f b < f y then y else b) ∧ f y ≤ f (if f b < f y then y else b) := by split <;> omega
    refine ⟨Nat.le_trans h3.1 h1, fun x hx => ?_⟩
    rcases List.mem_cons.1 hx with rfl | hx
    · exact Nat.le_trans h3.2 h1
    · exact h2 x hx
theorem nextX_ok (l : List Tn) (can : List Int) (h : can ≠ []) : nextX l can ∈ can ∧ ∀ x ∈ can, waitX l x ≤ waitX l (nextX l can) := by
  cases can with
  | nil => exact absurd rfl h
  | cons g can =>
    rw [nextX_best]
    obtain ⟨_, h2⟩ := bestX_max (waitX l) (g :: can) g
    refine ⟨?_, h2⟩
    rcases bestX_mem (waitX l) g (g :: can) with e | e
    · rw [e]; simp
    · exact e
theorem filter_rises (n k : Nat) (hk : k ≤ n) (P : Int → Bool) : risesB n (-1) ((upTo k).filter P) = true := by
  induction k with
  | zero => rfl
  | succ k ih =>
    rw [upTo_succ, List.filter_append, List.filter_cons]
    split
    · rw [List.filter_nil, risesB_snoc, ih (by omega)]
      have h1 : ((upTo k).filter P).getLastD (-1) < (k : Int) := by
        rcases List.eq_nil_or_concat ((upTo k).filter P) with e | ⟨l0, a, e⟩
        · rw [e]; simp; omega
        · rw [e, List.concat_eq_append, List.getLastD_concat]
          have : a ∈ (upTo k).filter P := by rw [e]; simp
          have h2 := (List.mem_filter.1 this).1
          unfold upTo at h2
          obtain ⟨j, hj, rfl⟩ := List.mem_map.1 h2
          have := List.mem_range.1 hj
          omega
      rw [Bool.true_and, Bool.and_eq_true, decide_eq_true_iff, decide_eq_true_iff]
      exact ⟨h1, by omega⟩
    · rw [List.filter_nil, List.append_nil]; exact ih (by omega)
theorem filter_can {n : Nat} {P : Int → Bool} (h : (upTo n).filter P ≠ []) : canB n ((upTo n).filter P) = true := by
  unfold canB
  rw [filter_rises n n (Nat.le_refl _) P]
  cases hq : (upTo n).filter P with
  | nil => exact absurd hq h
  | cons a l => rfl
/-- What is built: right turns, fair ones. -/
structure LongL (n : Nat) (l : List Tn) : Prop where
  right : l.all (turnB n) = true
  fair : FairL n l
theorem LongL.nil (n : Nat) : LongL n [] := ⟨rfl, FairL.nil n⟩
theorem LongL.app {n : Nat} {l : List Tn} (h : LongL n l) (hn : 1 ≤ n) {P : Int → Bool} (hne : (upTo n).filter P ≠ []) : LongL n (l ++ [((upTo n).filter P, nextX l ((upTo n).filter P))]) := by
  obtain ⟨h1, h2⟩ := nextX_ok l _ hne
  refine ⟨?_, h.fair.app hn h1 (List.mem_filter.1 h1).1 h2⟩
  rw [List.all_append, h.right]
  simp [turnB, filter_can hne]
  simpa using h1
theorem LongL.rightB {n : Nat} {l : List Tn} (h : LongL n l) (h1 : 1 ≤ n) (h8 : n ≤ 8) : rightB (n : Int) l = true := by
  unfold Go.Proofs.Ytogjokoaghpjiaa.rightB
  rw [h.right]
  simp
  omega
theorem Rd.rowD {w : World} {B n : Nat} {A : Option Addr} {X : List Rw} (h : Rd w B 1 A n (Cs encR X)) (hx : X.length = n) {k : Nat} (hk : k < X.length) :
    ∃ b off, A = some ⟨b, off, none⟩ ∧ b < B ∧ w.cell? ⟨b, off + k, none⟩ = some (.slice X[k].A X[k].xs.length X[k].c) := by
  subst hx
  obtain ⟨b, off, h1, h2, h3⟩ := h.elem encR_len hk
  exact ⟨b, off, h1, h2, by simpa using h3 0 _ (by omega) rfl⟩
end Go.Proofs.Ytogjokoaghpjiaa
