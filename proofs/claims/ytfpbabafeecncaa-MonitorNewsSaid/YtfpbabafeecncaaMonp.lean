/-
  Arguments opened: rows of pairs of numbers.
-/
import Derived.Test.YtfpbabafeecncaaMopen
set_option linter.unusedVariables false
set_option linter.unusedSimpArgs false
set_option linter.constructorNameAsVariable false
set_option maxRecDepth 100000
namespace Go.Proofs.Ytfpbabafeecncaa
open Go Go.RowKit Go.WideShapes Go.ChangeShapes Go.ChangeAt Go.Joins

def encP (z : Int × Int) : List Value := [.int .i64 z.1, .int .i64 z.2]
theorem encP_len : ∀ x, (encP x).length = 2 := fun _ => rfl
section
variable {H : Type} {enc : TypeId × Value → H} {w : World} {base : Nat} {spare : Nat → Bool} {held : Bool}
theorem decPr (n : Nat) (cs' : List Value) (y : DataW H × List MemPlace) (hl : cs'.length = 2) (h : DataW.trod enc Try.prog w base spare held n 24 cs' = some y) : ∃ z : Int × Int, cs' = encP z ∧ (I64 z.1 ∧ I64 z.2) := by
  obtain ⟨a, ha, wa⟩ := dec_array_int Try.underlying24 (by kernel_rfl) Try.underlying3 hl h 0 (by omega)
  obtain ⟨b, hb, wb⟩ := dec_array_int Try.underlying24 (by kernel_rfl) Try.underlying3 hl h 1 (by omega)
  match cs', hl with
  | [u, v], _ =>
    simp at ha hb
    subst ha hb
    exact ⟨(a, b), rfl, i64_bounds wa, i64_bounds wb⟩
theorem open_pairs {v : Value} {d : DataW H} {p : List MemPlace} {b0 : Nat} (hv : Value.okWide Try.prog w .any b0 22 v) (h : DataW.Trod enc Try.prog w base spare held 22 v d p) :
    ∃ (A : Option Addr) (n c : Nat) (es : List (Int × Int)), v = .slice A n c ∧ n ≤ c ∧ c ≤ 9223372036854775807 ∧ es.length = n ∧ Rd w w.heap.size 2 A n (Cs encP es) ∧ (∀ e ∈ es, I64 e.1 ∧ I64 e.2) := by
  obtain ⟨a2, l2, k2, rfl⟩ := okWide_slice Try.underlying22 hv
  obtain ⟨f2, h2⟩ := h
  obtain ⟨A2, n2, c2, xs2, e2, hn2, hm2, hx2, hr2, hw2⟩ := open_rd (en := encP) (wf := fun e => I64 e.1 ∧ I64 e.2) Try.underlying22 (by kernel_rfl) (by omega) decPr h2
  simp only [Value.cells, List.cons.injEq, Value.slice.injEq, and_true] at e2
  obtain ⟨rfl, rfl, rfl⟩ := e2
  exact ⟨_, _, _, xs2, rfl, hn2, by unfold maxLen at hm2; omega, hx2, hr2, hw2⟩
end
end Go.Proofs.Ytfpbabafeecncaa
