/-
  Arguments opened: directories, words, rows of words.
-/
import Derived.Test.YtjlbnegdiabglaaOpen
import Derived.Test.YtjlbnegdiabglaaRow
import Derived.Test.YtjlbnegdiabglaaDia
set_option linter.unusedVariables false
set_option linter.unusedSimpArgs false
namespace Go.Proofs.Ytjlbnegdiabglaa
open Go Go.RowKit Go.WideShapes Go.ChangeShapes Go.ChangeAt Go.Joins

section
variable {H : Type} {enc : TypeId × Value → H} {w : World} {base : Nat} {spare : Nat → Bool} {held : Bool}
theorem decEd (n : Nat) (cs' : List Value) (y : DataW H × List MemPlace) (hl : cs'.length = 2) (h : DataW.trod enc Try.prog w base spare held n 31 cs' = some y) : ∃ z : Int × Int, cs' = encE z ∧ U64 z.2 := by
  obtain ⟨a, ha, wa⟩ := dec_field_int Try.underlying31 (by kernel_rfl) hl h 0 _ rfl Try.underlying3
  obtain ⟨b, hb, wb⟩ := dec_field_int Try.underlying31 (by kernel_rfl) hl h 1 _ rfl Try.underlying25
  match cs', hl with
  | [u, v], _ =>
    simp at ha hb
    subst ha hb
    exact ⟨(a, b), rfl, u64_bounds wb⟩
theorem decWt (n : Nat) (cs' : List Value) (y : DataW H × List MemPlace) (hl : cs'.length = 1) (h : DataW.trod enc Try.prog w base spare held n 25 cs' = some y) : ∃ z : Int, cs' = encW z ∧ U64 z := by
  obtain ⟨a, ha, wa⟩ := dec_int Try.underlying25 hl h
  exact ⟨a, ha, u64_bounds wa⟩
set_option maxRecDepth 100000 in
/-- A directory that came in: its depth, and its entries as a row that reads as a list. -/
theorem open_dir {v : Value} {d : DataW H} {p : List MemPlace} {b0 : Nat} (hv : Value.okWide Try.prog w .any b0 24 v) (h : DataW.Trod enc Try.prog w base spare held 24 v d p) :
    ∃ (dep : Int) (A : Option Addr) (n c : Nat) (es : List (Int × Int)), v = .agg #[.int .i64 dep, .slice A n c] ∧ n ≤ c ∧ c ≤ 9223372036854775807 ∧ es.length = n ∧ Rd w w.heap.size 2 A n (Cs encE es) ∧ (∀ e ∈ es, U64 e.2) ∧ I64 dep := by
  obtain ⟨c0, c1, y0, y1, m, rfl, _, _, hy0, hy1⟩ := open_agg2 (P := Try.prog) (w := w) (r := .any) (b0 := b0) (t := 24) (v := v) Try.underlying24 (by kernel_rfl) (by kernel_rfl) hv h
  obtain ⟨s, e0, _, ws⟩ := DataW.trod_int Try.underlying3 hy0
  obtain ⟨A, n, c, es, e1, hn, hm, hx, hr, hw⟩ := open_rd Try.underlying22 (by kernel_rfl) (by omega) decEd hy1
  simp at e0 e1
  subst e0 e1
  exact ⟨s, A, n, c, es, rfl, hn, by unfold maxLen at hm; omega, hx, hr, hw, i64_bounds ws⟩
theorem open_word {v : Value} {d : DataW H} {p : List MemPlace} {b0 : Nat} (hv : Value.okWide Try.prog w .any b0 25 v) (h : DataW.Trod enc Try.prog w base spare held 25 v d p) : ∃ x : Int, v = .int .u64 x ∧ U64 x := by
  obtain ⟨x, rfl, _, _, wx⟩ := open_int Try.underlying25 hv h
  exact ⟨x, rfl, u64_bounds wx⟩
theorem open_words {v : Value} {d : DataW H} {p : List MemPlace} {b0 : Nat} (hv : Value.okWide Try.prog w .any b0 40 v) (h : DataW.Trod enc Try.prog w base spare held 40 v d p) :
    ∃ (A : Option Addr) (n c : Nat) (es : List Int), v = .slice A n c ∧ n ≤ c ∧ c ≤ 9223372036854775807 ∧ es.length = n ∧ Rd w w.heap.size 1 A n (Cs encW es) ∧ (∀ e ∈ es, U64 e) := by
  obtain ⟨a2, l2, k2, rfl⟩ := okWide_slice Try.underlying40 hv
  obtain ⟨f2, h2⟩ := h
  obtain ⟨A2, n2, c2, xs2, e2, hn2, hm2, hx2, hr2, hw2⟩ := open_rd Try.underlying40 (by kernel_rfl) (by omega) decWt h2
  simp only [Value.cells, List.cons.injEq, Value.slice.injEq, and_true] at e2
  obtain ⟨rfl, rfl, rfl⟩ := e2
  exact ⟨_, _, _, xs2, rfl, hn2, by unfold maxLen at hm2; omega, hx2, hr2, hw2⟩
end
end Go.Proofs.Ytjlbnegdiabglaa
