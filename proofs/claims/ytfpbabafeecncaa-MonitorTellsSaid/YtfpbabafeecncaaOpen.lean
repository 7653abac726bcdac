/-
  Arguments opened: a slice whose elements are rows of numbers reads as a list of them, whatever the element's make; a struct of numbers by value.
-/
import Derived.Test.YtfpbabafeecncaaRow
import Derived.Test.YtfpbabafeecncaaMem
import Derived.Deep.Slices
import Derived.Deep.Fields
namespace Go.Proofs.Ytfpbabafeecncaa
open Go Go.RowKit Go.WideShapes Go.ChangeShapes Go.ChangeAt Go.Deep
set_option linter.unusedVariables false
set_option linter.unusedSimpArgs false

theorem cell_lt {w : World} {a : Addr} {v : Value} (h : w.cell? a = some v) : a.block < w.heap.size := by
  rcases Nat.lt_or_ge a.block w.heap.size with hlt | hge
  · exact hlt
  · unfold World.cell? at h; rw [Array.getElem?_eq_none hge] at h; cases h
theorem cell_spot {w : World} {a : Addr} {v : Value} (h : w.cell? a = some v) : a.spot = none := by
  unfold World.cell? at h
  split at h
  · split at h
    · cases h
    · rename_i hs; simpa using hs
  · cases h

section
variable {H : Type} {enc : TypeId × Value → H} {P : Program} {w : World} {base : Nat} {spare : Nat → Bool} {held : Bool}

/-- A slice that came in reads as a list, if each of its elements does. -/
theorem open_rd {α : Type} {en : α → List Value} {wf : α → Prop} {t e : TypeId} {fuel sz : Nat} {cs : List Value} {x : DataW H × List MemPlace} (ht : P.underlying t = some (.slice e)) (hC : P.cellsOf e = sz) (hsz : 0 < sz)
    (hdec : ∀ (n : Nat) (cs' : List Value) (y : DataW H × List MemPlace), cs'.length = sz → DataW.trod enc P w base spare held n e cs' = some y → ∃ z : α, cs' = en z ∧ wf z)
    (h : DataW.trod enc P w base spare held fuel t cs = some x) :
    ∃ (A : Option Addr) (n c : Nat) (xs : List α), cs = [.slice A n c] ∧ n ≤ c ∧ c ≤ maxLen ∧ xs.length = n ∧ Rd w w.heap.size sz A n (Cs en xs) ∧ ∀ z ∈ xs, wf z := by
  rcases open_slice ht h with ⟨rfl, _⟩ | ⟨a, len, cap, m, n, D, Pl, rfl, hb, hl, hm, hmm, _, hi⟩
  · exact ⟨none, 0, 0, [], rfl, Nat.le_refl _, by simp [maxLen], rfl, Rd.none_, by simp⟩
  · rw [hC] at hi
    have hlm : len ≤ m := by rw [hmm]; split <;> omega
    have each : ∀ i, i < len → ∃ z : α, wf z ∧ (en z).length = sz ∧ ∀ j, j < sz → w.cell? ((a.add (i * sz)).add j) = (en z)[j]? := by
      intro i hil
      obtain ⟨cs', hc, ht'⟩ := hi i (by omega)
      obtain ⟨_, hcl, hat⟩ := World.cells?_some hc
      obtain ⟨z, rfl, hz⟩ := hdec n cs' _ hcl ht'
      exact ⟨z, hz, hcl, hat⟩
    have build : ∀ k, k ≤ len → ∃ xs : List α, xs.length = k ∧ (∀ z ∈ xs, wf z ∧ (en z).length = sz) ∧ ∀ i z, xs[i]? = some z → ∀ j, j < sz → w.cell? ((a.add (i * sz)).add j) = (en z)[j]? := by
      intro k
      induction k with
      | zero => exact fun _ => ⟨[], rfl, by simp, by simp⟩
      | succ k ih =>
        intro hk
        obtain ⟨xs, hxl, hwf, hxc⟩ := ih (by omega)
        obtain ⟨z, hz, hzl, hzc⟩ := each k (by omega)
        refine ⟨xs ++ [z], by simp [hxl], ?_, ?_⟩
        · intro y hy
          rw [List.mem_append] at hy
          rcases hy with hy | hy
          · exact hwf y hy
          · simp at hy; subst hy; exact ⟨hz, hzl⟩
        · intro i y hy
          rcases Nat.lt_or_ge i xs.length with hlt | hge
          · rw [List.getElem?_append_left hlt] at hy; exact hxc i y hy
          · rw [List.getElem?_append_right hge] at hy
            have hi0 : i - xs.length = 0 := by
              rcases Nat.eq_zero_or_pos (i - xs.length) with h0 | h0
              · exact h0
              · rw [List.getElem?_eq_none (by simp; omega)] at hy; cases hy
            rw [hi0] at hy
            simp at hy
            subst hy
            rw [show i = k by omega]
            exact hzc
    obtain ⟨xs, hxl, hwf, hxc⟩ := build len (Nat.le_refl _)
    refine ⟨some a, len, cap, xs, rfl, hl, hm, hxl, ⟨?_, fun hn => ?_⟩, fun z hz => (hwf z hz).1⟩
    · have : ∀ l : List α, (∀ z ∈ l, (en z).length = sz) → (Cs en l).length = l.length * sz := by
        intro l
        induction l with
        | nil => simp [Cs]
        | cons y l ih =>
          intro hy
          have hc : Cs en (y :: l) = en y ++ Cs en l := by simp [Cs]
          rw [hc, List.length_append, ih (fun z hz => hy z (by simp [hz])), hy y (by simp), List.length_cons, Nat.add_mul]; omega
      rw [this xs (fun z hz => (hwf z hz).2), hxl]
    · have h0 : 0 < xs.length := by omega
      have hx0 := hxc 0 xs[0] (List.getElem?_eq_getElem h0) 0 hsz
      have hl0 := (hwf xs[0] (List.getElem_mem h0)).2
      have hv0 : (en xs[0])[0]? = some ((en xs[0])[0]'(by omega)) := List.getElem?_eq_getElem (by omega)
      rw [hv0] at hx0
      have ha0 : (a.add (0 * sz)).add 0 = a := by simp [Addr.add]
      rw [ha0] at hx0
      have hsp := cell_spot hx0
      have hbl := cell_lt hx0
      obtain ⟨ab, ao, asp⟩ := a
      simp only at hsp hbl
      subst hsp
      refine ⟨ab, ao, rfl, hbl, ?_⟩
      have hadd : ∀ i j : Nat, ((⟨ab, ao, none⟩ : Addr).add i).add j = ⟨ab, ao + (i + j), none⟩ := by
        intro i j
        unfold Addr.add
        by_cases h1 : i = 0 <;> by_cases h2 : j = 0 <;> simp [h1, h2, Nat.add_assoc]
      intro j u hu
      have hjl : j < (Cs en xs).length := (List.getElem?_eq_some_iff.1 hu).1
      -- the place j lies in element j / sz
      have key : ∀ (l : List α) (s : Nat), (∀ z ∈ l, (en z).length = sz) → (∀ i z, l[i]? = some z → ∀ j, j < sz → w.cell? ⟨ab, ao + ((s + i) * sz + j), none⟩ = (en z)[j]?) → ∀ j u, (Cs en l)[j]? = some u → w.cell? ⟨ab, ao + (s * sz + j), none⟩ = some u := by
        intro l
        induction l with
        | nil => intro s _ _ j u hu; simp [Cs] at hu
        | cons y l ih =>
          intro s hy hc j u hu
          have hcs : Cs en (y :: l) = en y ++ Cs en l := by simp [Cs]
          rw [hcs] at hu
          have hyl := hy y (by simp)
          rcases Nat.lt_or_ge j sz with hj | hj
          · rw [List.getElem?_append_left (by omega)] at hu
            have := hc 0 y rfl j hj
            rw [Nat.add_zero] at this
            rw [this]; exact hu
          · rw [List.getElem?_append_right (by omega), hyl] at hu
            have := ih (s + 1) (fun z hz => hy z (by simp [hz])) (fun i z hz j hj => by
              have := hc (i + 1) z (by simpa using hz) j hj
              rw [show s + 1 + i = s + (i + 1) by omega]; exact this) (j - sz) u hu
            rw [show s * sz + j = (s + 1) * sz + (j - sz) by rw [Nat.add_mul]; omega]
            exact this
      have := key xs 0 (fun z hz => (hwf z hz).2) (fun i z hz j hj => by
        rw [Nat.zero_add, ← hadd]; exact hxc i z hz j hj) j u hu
      rw [Nat.zero_mul, Nat.zero_add] at this
      exact this

/-- A number by itself. -/
theorem dec_int {k : IntKind} {e : TypeId} (he : P.underlying e = some (.int k)) {n : Nat} {cs' : List Value} {y : DataW H × List MemPlace} (hl : cs'.length = 1) (h : DataW.trod enc P w base spare held n e cs' = some y) :
    ∃ z : Int, cs' = [.int k z] ∧ (Lit.int k z).wf = true := by
  match cs', hl with
  | [v], _ =>
    obtain ⟨z, hz, _, wz⟩ := DataW.trod_int he h
    simp at hz
    subst hz
    exact ⟨z, rfl, wz⟩
/-- The fields of a struct, each of one cell. -/
theorem dec_fields {fs : Array Field} {e : TypeId} (hs : P.underlying e = some (.struct fs)) (hone : oneCellFields P fs = true) {n : Nat} {cs' : List Value} {y : DataW H × List MemPlace} (hl : cs'.length = fs.size) (h : DataW.trod enc P w base spare held n e cs' = some y)
    (j : Nat) (f : Field) (hj : fs[j]? = some f) : ∃ (v : Value) (y' : DataW H × List MemPlace) (n' : Nat), cs'[j]? = some v ∧ DataW.trod enc P w base spare held n' f.type [v] = some y' := by
  obtain ⟨ys, n', hn', hy, hlen, hyl, hf⟩ := DataW.trod_struct hs h
  obtain ⟨ho, hk⟩ := hone_of hone j f hj
  have hjl : j < fs.size := (Array.getElem?_eq_some_iff.1 hj).1
  have hv : cs'[j]? = some (cs'[j]'(by omega)) := List.getElem?_eq_getElem (by omega)
  have h1 := hf j f hj
  rw [ho, hk] at h1
  have hone' : (cs'.drop j).take 1 = [cs'[j]'(by omega)] := by
    rw [List.drop_eq_getElem_cons (by omega)]
    rfl
  rw [hone'] at h1
  have hys : ys[j]? = some (ys[j]'(by omega)) := List.getElem?_eq_getElem (by omega)
  exact ⟨_, _, n', hv, h1.trans hys⟩
/-- A field that is a number. -/
theorem dec_field_int {fs : Array Field} {e : TypeId} (hs : P.underlying e = some (.struct fs)) (hone : oneCellFields P fs = true) {n : Nat} {cs' : List Value} {y : DataW H × List MemPlace} (hl : cs'.length = fs.size) (h : DataW.trod enc P w base spare held n e cs' = some y)
    (j : Nat) (f : Field) (hj : fs[j]? = some f) {k : IntKind} (hk : P.underlying f.type = some (.int k)) : ∃ z : Int, cs'[j]? = some (.int k z) ∧ (Lit.int k z).wf = true := by
  obtain ⟨v, y', n', hv, ht⟩ := dec_fields hs hone hl h j f hj
  obtain ⟨z, hz, wz⟩ := dec_int hk (cs' := [v]) rfl ht
  simp at hz
  subst hz
  exact ⟨z, hv, wz⟩
/-- An array's element that is a number. -/
theorem dec_array_int {len : Nat} {e e' : TypeId} (hs : P.underlying e = some (.array len e')) (hC : P.cellsOf e' = 1) {k : IntKind} (hk : P.underlying e' = some (.int k)) {n : Nat} {cs' : List Value} {y : DataW H × List MemPlace} (hl : cs'.length = len) (h : DataW.trod enc P w base spare held n e cs' = some y)
    (j : Nat) (hj : j < len) : ∃ z : Int, cs'[j]? = some (.int k z) ∧ (Lit.int k z).wf = true := by
  obtain ⟨ys, m, _, _, _, hyl, hf⟩ := DataW.trod_array hs h
  have h1 := hf j hj
  rw [hC, Nat.mul_one, List.drop_eq_getElem_cons (by omega)] at h1
  have hys : ys[j]? = some (ys[j]'(by omega)) := List.getElem?_eq_getElem (by omega)
  rw [hys] at h1
  obtain ⟨z, hz, wz⟩ := dec_int hk (cs' := [cs'[j]'(by omega)]) rfl h1
  simp at hz
  exact ⟨z, by rw [← hz]; exact List.getElem?_eq_getElem (by omega), wz⟩
end
end Go.Proofs.Ytfpbabafeecncaa
