/-
  Directories, plainly: runs of the same entry; which directories are of tables.
-/
import Derived.Test.YtjlbnegdiabglaaDia
set_option linter.unusedSimpArgs false
set_option linter.unusedVariables false
namespace Go.Proofs.Ytjlbnegdiabglaa
open Go Go.RowKit

abbrev En := Int × Int
/-- A run: where it begins, how long it is, its entry. -/
structure Rn where
  at_ : Nat
  many : Nat
  e : En
def lead (e : En) : List En → Nat
  | [] => 0
  | x :: l => if x = e then lead e l + 1 else 0
theorem lead_le (e : En) : ∀ l, lead e l ≤ l.length
  | [] => Nat.le_refl _
  | x :: l => by
    unfold lead
    have := lead_le e l
    split <;> simp <;> omega
theorem lead_take (e : En) : ∀ l, l.take (lead e l) = List.replicate (lead e l) e
  | [] => rfl
  | x :: l => by
    unfold lead
    split
    · rename_i h; subst h; simp [List.replicate_succ, lead_take]
    · rfl
theorem lead_next (e : En) : ∀ l : List En, ∀ x ∈ (l.drop (lead e l)).head?, x ≠ e
  | [] => by simp [lead]
  | y :: l => by
    unfold lead
    split
    · exact lead_next e l
    · rename_i h; intro x hx; simp at hx; rw [← hx]; exact h
theorem lead_snoc (e : En) : ∀ (l : List En) (k : Nat), k ≤ l.length → (∀ x ∈ l.take k, x = e) → (k < l.length → l[k]? ≠ some e) → lead e l = k
  | [], k, hk, _, _ => by simp at hk; subst hk; rfl
  | x :: l, k, hk, h1, h2 => by
    cases k with
    | zero =>
      unfold lead
      rw [if_neg]
      have := h2 (by simp)
      simpa using this
    | succ k =>
      have hx : x = e := h1 x (by simp)
      unfold lead
      rw [if_pos hx, lead_snoc e l k (by simpa using hk) (fun y hy => h1 y (by simp [hy])) (fun hl => by simpa using h2 (by simpa using hl))]
/-- The runs of a row that begins at a place. -/
def runsGo : Nat → Nat → List En → List Rn
  | 0, _, _ => []
  | _ + 1, _, [] => []
  | f + 1, k, e :: l => ⟨k, lead e l + 1, e⟩ :: runsGo f (k + (lead e l + 1)) (l.drop (lead e l))
theorem runsGo_fuel : ∀ (f g k : Nat) (l : List En), l.length ≤ f → l.length ≤ g → runsGo f k l = runsGo g k l
  | 0, g, k, l, h, _ => by
    have : l = [] := List.eq_nil_of_length_eq_zero (by omega)
    subst this
    cases g <;> rfl
  | f + 1, 0, k, l, _, h => by
    have : l = [] := List.eq_nil_of_length_eq_zero (by omega)
    subst this
    rfl
  | f + 1, g + 1, k, [], _, _ => rfl
  | f + 1, g + 1, k, e :: l, h1, h2 => by
    unfold runsGo
    rw [runsGo_fuel f g _ _ (by rw [List.length_drop]; simp at h1; omega) (by rw [List.length_drop]; simp at h2; omega)]
def runsAt (k : Nat) (l : List En) : List Rn := runsGo l.length k l
theorem runsAt_nil (k : Nat) : runsAt k [] = [] := rfl
theorem runsAt_cons (k : Nat) (e : En) (l : List En) : runsAt k (e :: l) = ⟨k, lead e l + 1, e⟩ :: runsAt (k + (lead e l + 1)) (l.drop (lead e l)) := by
  unfold runsAt
  rw [List.length_cons]
  show _ :: runsGo l.length _ _ = _
  rw [runsGo_fuel l.length (l.drop (lead e l)).length _ _ (by rw [List.length_drop]; omega) (Nat.le_refl _)]
def runs (es : List En) : List Rn := runsAt 0 es
/-- At a place where something is left: the run there, and those behind it. -/
theorem runsAt_drop (es : List En) {k : Nat} (hk : k < es.length) : runsAt k (es.drop k) = ⟨k, lead (es.getD k (0, 0)) (es.drop (k + 1)) + 1, es.getD k (0, 0)⟩ :: runsAt (k + (lead (es.getD k (0, 0)) (es.drop (k + 1)) + 1)) (es.drop (k + (lead (es.getD k (0, 0)) (es.drop (k + 1)) + 1))) := by
  have e1 : es.drop k = es.getD k (0, 0) :: es.drop (k + 1) := by
    rw [List.drop_eq_getElem_cons hk, List.getD_eq_getElem?_getD, List.getElem?_eq_getElem hk]; rfl
  have e2 : es.drop (k + (lead (es.getD k (0, 0)) (es.drop (k + 1)) + 1)) = (es.drop (k + 1)).drop (lead (es.getD k (0, 0)) (es.drop (k + 1))) := by
    rw [List.drop_drop]; congr 1; omega
  rw [e2, ← runsAt_cons, ← e1]
theorem run_fits (es : List En) {k : Nat} (hk : k < es.length) : k + (lead (es.getD k (0, 0)) (es.drop (k + 1)) + 1) ≤ es.length := by
  have := lead_le (es.getD k (0, 0)) (es.drop (k + 1))
  rw [List.length_drop] at this
  omega
/-- In the run all entries are its own; the one behind it is another one. -/
theorem run_same (es : List En) {k j : Nat} (hk : k < es.length) (h1 : k ≤ j) (h2 : j < k + (lead (es.getD k (0, 0)) (es.drop (k + 1)) + 1)) : es.getD j (0, 0) = es.getD k (0, 0) := by
  rcases Nat.lt_or_ge k j with h | h
  · have ht := lead_take (es.getD k (0, 0)) (es.drop (k + 1))
    have hf := run_fits es hk
    generalize es.getD k (0, 0) = e at *
    have h3 : ((es.drop (k + 1)).take (lead e (es.drop (k + 1))))[j - (k + 1)]? = some e := by
      rw [ht, List.getElem?_replicate, if_pos (by omega)]
    rw [List.getElem?_take, if_pos (by omega), List.getElem?_drop, show k + 1 + (j - (k + 1)) = j by omega] at h3
    rw [List.getD_eq_getElem?_getD, h3]; rfl
  · have : j = k := by omega
    rw [this]
theorem run_out (es : List En) {k : Nat} (hk : k < es.length) (h : k + (lead (es.getD k (0, 0)) (es.drop (k + 1)) + 1) < es.length) : es.getD (k + (lead (es.getD k (0, 0)) (es.drop (k + 1)) + 1)) (0, 0) ≠ es.getD k (0, 0) := by
  have hn := lead_next (es.getD k (0, 0)) (es.drop (k + 1))
  generalize es.getD k (0, 0) = e at *
  rw [List.head?_drop, List.getElem?_drop, show k + 1 + lead e (es.drop (k + 1)) = k + (lead e (es.drop (k + 1)) + 1) by omega] at hn
  rw [List.getD_eq_getElem?_getD, List.getElem?_eq_getElem h]
  exact hn _ (by rw [List.getElem?_eq_getElem h]; exact rfl)
/-- May a run be a table's? -/
def okRun (r : Rn) : Bool := decide (r.many &&& (r.many - 1) = 0) && decide (r.at_ % r.many = 0)
def slabsOf (rs : List Rn) : List Int := rs.map (fun r => r.e.1)
/-- Is it a directory of tables? -/
def mayB (dep : Int) (es : List En) : Bool := dirShape dep es.length && entsOk es && (runs es).all okRun && decide ((slabsOf (runs es)).Nodup)
/-- A table's reach. -/
structure Rc where
  e : En
  dep : Int
  pre : Int
  at_ : Int
  many : Int
deriving DecidableEq
def rc (dep : Int) (r : Rn) : Rc := ⟨r.e, dep - (Nat.log2 r.many : Nat), (r.at_ / r.many : Nat), r.at_, r.many⟩
def spansX (dep : Int) (es : List En) : List Rc := if mayB dep es then (runs es).map (rc dep) else []
/-- The reference's word: so many entries, from one on, stand alone. -/
def spannedB (es : List En) (k many : Nat) : Bool := (List.range es.length).all fun i => (decide (k ≤ i ∧ i < k + many) == decide ((es.getD i (0, 0)).1 = (es.getD k (0, 0)).1)) && (!decide (k ≤ i ∧ i < k + many) || decide (es.getD i (0, 0) = es.getD k (0, 0)))
theorem spannedB_iff {es : List En} {k many : Nat} : spannedB es k many = true ↔ ∀ i, i < es.length → ((k ≤ i ∧ i < k + many) ↔ (es.getD i (0, 0)).1 = (es.getD k (0, 0)).1) ∧ ((k ≤ i ∧ i < k + many) → es.getD i (0, 0) = es.getD k (0, 0)) := by
  unfold spannedB
  simp only [List.all_eq_true, List.mem_range, Bool.and_eq_true, Bool.or_eq_true, beq_iff_eq, decide_eq_decide, Bool.not_eq_true', decide_eq_false_iff_not, decide_eq_true_eq]
  constructor
  · intro h i hi
    obtain ⟨h1, h2⟩ := h i hi
    exact ⟨h1, fun hin => h2.resolve_left (fun hn => hn hin)⟩
  · intro h i hi
    obtain ⟨h1, h2⟩ := h i hi
    refine ⟨h1, ?_⟩
    by_cases hin : k ≤ i ∧ i < k + many
    · exact .inr (h2 hin)
    · exact .inl hin
def lenAt (es : List En) (k : Nat) : Nat := lead (es.getD k (0, 0)) (es.drop (k + 1)) + 1
/-- Where no slab from before stands behind: alone stands the run, if its slab stands nowhere behind it. -/
theorem spanned_run {es : List En} {k : Nat} (hk : k < es.length) (hb : ∀ i j, i < k → k ≤ j → j < es.length → (es.getD i (0, 0)).1 ≠ (es.getD j (0, 0)).1) {many : Nat} (hm : 1 ≤ many) (hf : k + many ≤ es.length) :
    spannedB es k many = true ↔ many = lenAt es k ∧ ∀ j, k + lenAt es k ≤ j → j < es.length → (es.getD j (0, 0)).1 ≠ (es.getD k (0, 0)).1 := by
  have hfit : k + lenAt es k ≤ es.length := run_fits es hk
  have hin : ∀ j, k ≤ j → j < k + lenAt es k → es.getD j (0, 0) = es.getD k (0, 0) := fun j h1 h2 => run_same es hk h1 h2
  have hout : k + lenAt es k < es.length → es.getD (k + lenAt es k) (0, 0) ≠ es.getD k (0, 0) := fun h => run_out es hk h
  have hpos : 1 ≤ lenAt es k := by unfold lenAt; omega
  rw [spannedB_iff]
  constructor
  · intro h
    have hL : many = lenAt es k := by
      rcases Nat.lt_trichotomy many (lenAt es k) with hlt | heq | hgt
      · exfalso
        have h1 := (h (k + many) (by omega)).1
        have := h1.2 (by rw [hin (k + many) (by omega) (by omega)])
        omega
      · exact heq
      · exfalso
        have h2 := (h (k + lenAt es k) (by omega)).2 ⟨by omega, by omega⟩
        exact hout (by omega) h2
    refine ⟨hL, fun j h1 h2 he => ?_⟩
    have := ((h j h2).1).2 he
    omega
  · rintro ⟨rfl, h⟩ i hi
    refine ⟨⟨fun hh => by rw [hin i hh.1 hh.2], fun he => ?_⟩, fun hh => hin i hh.1 hh.2⟩
    rcases Nat.lt_or_ge i k with h1 | h1
    · exact absurd he (hb i k h1 (Nat.le_refl _) hk)
    · rcases Nat.lt_or_ge i (k + lenAt es k) with h2 | h2
      · exact ⟨h1, h2⟩
      · exact absurd he (h i h2 hi)
theorem pow_fin32 : ∀ L : Fin 33, 1 ≤ L.1 → (L.1 &&& (L.1 - 1) = 0 ↔ 2 ^ Nat.log2 L.1 = L.1) := by decide
theorem pow_small32 {L : Nat} (h1 : 1 ≤ L) (h2 : L ≤ 32) : (L &&& (L - 1) = 0 ↔ 2 ^ Nat.log2 L = L) := pow_fin32 ⟨L, by omega⟩ h1
end Go.Proofs.Ytjlbnegdiabglaa
