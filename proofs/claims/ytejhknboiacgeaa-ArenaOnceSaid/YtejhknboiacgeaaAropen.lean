/-
  Arguments opened: arenas, rows of entries.
-/
import Derived.Test.YtejhknboiacgeaaOpen
import Derived.Test.YtejhknboiacgeaaAra
set_option linter.unusedVariables false
set_option linter.unusedSimpArgs false
namespace Go.Proofs.Ytejhknboiacgeaa
open Go Go.RowKit Go.WideShapes Go.ChangeShapes Go.ChangeAt Go.Joins

section
variable {H : Type} {enc : TypeId × Value → H} {w : World} {base : Nat} {spare : Nat → Bool} {held : Bool}
theorem decSl (n : Nat) (cs' : List Value) (y : DataW H × List MemPlace) (hl : cs'.length = 2) (h : DataW.trod enc Try.prog w base spare held n 59 cs' = some y) : ∃ z : Int × Int, cs' = encE z ∧ U64 z.2 := by
  obtain ⟨a, ha, wa⟩ := dec_field_int Try.underlying59 (by kernel_rfl) hl h 0 _ rfl Try.underlying3
  obtain ⟨b, hb, wb⟩ := dec_field_int Try.underlying59 (by kernel_rfl) hl h 1 _ rfl Try.underlying29
  match cs', hl with
  | [u, v], _ =>
    simp at ha hb
    subst ha hb
    exact ⟨(a, b), rfl, u64_bounds wb⟩
theorem decEn (n : Nat) (cs' : List Value) (y : DataW H × List MemPlace) (hl : cs'.length = 2) (h : DataW.trod enc Try.prog w base spare held n 31 cs' = some y) : ∃ z : Int × Int, cs' = encE z ∧ U64 z.2 := by
  obtain ⟨a, ha, wa⟩ := dec_field_int Try.underlying31 (by kernel_rfl) hl h 0 _ rfl Try.underlying3
  obtain ⟨b, hb, wb⟩ := dec_field_int Try.underlying31 (by kernel_rfl) hl h 1 _ rfl Try.underlying29
  match cs', hl with
  | [u, v], _ =>
    simp at ha hb
    subst ha hb
    exact ⟨(a, b), rfl, u64_bounds wb⟩
theorem open_arena {v : Value} {d : DataW H} {p : List MemPlace} {b0 : Nat} (hv : Value.okWide Try.prog w .any b0 24 v) (h : DataW.Trod enc Try.prog w base spare held 24 v d p) :
    ∃ (A : Option Addr) (n c : Nat) (es : List (Int × Int)), v = .agg #[.slice A n c] ∧ n ≤ c ∧ c ≤ 9223372036854775807 ∧ es.length = n ∧ Rd w w.heap.size 2 A n (Cs encE es) ∧ (∀ e ∈ es, U64 e.2) := by
  obtain ⟨cs, rfl, hsz⟩ := okWide_struct Try.underlying24 hv
  obtain ⟨fuel, hf⟩ := h
  have hl : (Value.agg cs).cells.toList.length = 1 := by
    have : Try.prog.cellsOf 24 = 1 := by kernel_rfl
    simp [Value.cells]; omega
  obtain ⟨v, y', n', hv0, ht⟩ := dec_fields Try.underlying24 (by kernel_rfl) hl (by simpa [Value.cells] using hf) 0 _ rfl
  obtain ⟨A, n, c, es, e1, hn, hm, hx, hr, hw⟩ := open_rd Try.underlying22 (by kernel_rfl) (by omega) decSl ht
  simp at e1
  subst e1
  refine ⟨A, n, c, es, ?_, hn, by unfold maxLen at hm; omega, hx, hr, hw⟩
  obtain ⟨l⟩ := cs
  match l, hl with
  | [u], _ => simp [Value.cells] at hv0; rw [hv0]
theorem open_ents {v : Value} {d : DataW H} {p : List MemPlace} {b0 : Nat} (hv : Value.okWide Try.prog w .any b0 25 v) (h : DataW.Trod enc Try.prog w base spare held 25 v d p) :
    ∃ (A : Option Addr) (n c : Nat) (es : List (Int × Int)), v = .slice A n c ∧ n ≤ c ∧ c ≤ 9223372036854775807 ∧ es.length = n ∧ Rd w w.heap.size 2 A n (Cs encE es) ∧ (∀ e ∈ es, U64 e.2) := by
  obtain ⟨a2, l2, k2, rfl⟩ := okWide_slice Try.underlying25 hv
  obtain ⟨f2, h2⟩ := h
  obtain ⟨A2, n2, c2, xs2, e2, hn2, hm2, hx2, hr2, hw2⟩ := open_rd Try.underlying25 (by kernel_rfl) (by omega) decEn h2
  simp only [Value.cells, List.cons.injEq, Value.slice.injEq, and_true] at e2
  obtain ⟨rfl, rfl, rfl⟩ := e2
  exact ⟨_, _, _, xs2, rfl, hn2, by unfold maxLen at hm2; omega, hx2, hr2, hw2⟩
theorem open_num {v : Value} {d : DataW H} {p : List MemPlace} {b0 : Nat} (hv : Value.okWide Try.prog w .any b0 3 v) (h : DataW.Trod enc Try.prog w base spare held 3 v d p) : ∃ x : Int, v = .int .i64 x ∧ I64 x := by
  obtain ⟨x, rfl, _, _, wx⟩ := open_int Try.underlying3 hv h
  exact ⟨x, rfl, i64_bounds wx⟩
end
end Go.Proofs.Ytejhknboiacgeaa
