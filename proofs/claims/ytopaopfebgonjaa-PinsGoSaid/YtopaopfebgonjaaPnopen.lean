/-
  Arguments opened: pins, rows of ops, rows of numbers, a number.
-/
import Derived.Test.YtopaopfebgonjaaOpen
import Derived.Test.YtopaopfebgonjaaPna
set_option linter.unusedVariables false
set_option linter.unusedSimpArgs false
namespace Go.Proofs.Ytopaopfebgonjaa
open Go Go.RowKit Go.WideShapes Go.ChangeShapes Go.ChangeAt Go.Joins

section
variable {H : Type} {enc : TypeId × Value → H} {w : World} {base : Nat} {spare : Nat → Bool} {held : Bool}
theorem decW (n : Nat) (cs' : List Value) (y : DataW H × List MemPlace) (hl : cs'.length = 1) (h : DataW.trod enc Try.prog w base spare held n 22 cs' = some y) : ∃ z : Int, cs' = encW z ∧ U64 z := by
  obtain ⟨x, hx, hw⟩ := dec_int Try.underlying22 hl h
  exact ⟨x, by simpa [encW] using hx, u64_bounds hw⟩
theorem decO (n : Nat) (cs' : List Value) (y : DataW H × List MemPlace) (hl : cs'.length = 3) (h : DataW.trod enc Try.prog w base spare held n 32 cs' = some y) : ∃ z : Int × Int × Int, cs' = encO z ∧ 0 ≤ z.2.2 := by
  obtain ⟨a, ha, wa⟩ := dec_field_int Try.underlying32 (by kernel_rfl) hl h 0 _ rfl Try.underlying3
  obtain ⟨b, hb, wb⟩ := dec_field_int Try.underlying32 (by kernel_rfl) hl h 1 _ rfl Try.underlying3
  obtain ⟨c, hc, wc⟩ := dec_field_int Try.underlying32 (by kernel_rfl) hl h 2 _ rfl Try.underlying22
  match cs', hl with
  | [u, v, x], _ =>
    simp at ha hb hc
    subst ha hb hc
    exact ⟨(a, b, c), rfl, (u64_bounds wc).1⟩
theorem open_pins {v : Value} {d : DataW H} {p : List MemPlace} {b0 : Nat} (hv : Value.okWide Try.prog w .any b0 25 v) (h : DataW.Trod enc Try.prog w base spare held 25 v d p) :
    ∃ (e : Int) (A : Option Addr) (n c : Nat) (es : List Int), v = .agg #[.int .u64 e, .slice A n c] ∧ U64 e ∧ n ≤ c ∧ c ≤ 9223372036854775807 ∧ es.length = n ∧ Rd w w.heap.size 1 A n (Cs encW es) ∧ (∀ s ∈ es, U64 s) := by
  obtain ⟨cs, rfl, hsz⟩ := okWide_struct Try.underlying25 hv
  obtain ⟨fuel, hf⟩ := h
  have hl : (Value.agg cs).cells.toList.length = 2 := by
    have : Try.prog.cellsOf 25 = 2 := by kernel_rfl
    simp [Value.cells]; omega
  obtain ⟨e, he, we⟩ := dec_field_int Try.underlying25 (by kernel_rfl) hl (by simpa [Value.cells] using hf) 0 _ rfl Try.underlying22
  obtain ⟨v, y', n', hv0, ht⟩ := dec_fields Try.underlying25 (by kernel_rfl) hl (by simpa [Value.cells] using hf) 1 _ rfl
  obtain ⟨A, n, c, es, e1, hn, hm, hx, hr, hw⟩ := open_rd Try.underlying23 (by kernel_rfl) (by omega) decW ht
  simp at e1
  subst e1
  refine ⟨e, A, n, c, es, ?_, u64_bounds we, hn, by unfold maxLen at hm; omega, hx, hr, hw⟩
  obtain ⟨l⟩ := cs
  match l, hl with
  | [u, v], _ => simp [Value.cells] at hv0 he; rw [hv0, he]
theorem open_ops {v : Value} {d : DataW H} {p : List MemPlace} {b0 : Nat} (hv : Value.okWide Try.prog w .any b0 26 v) (h : DataW.Trod enc Try.prog w base spare held 26 v d p) :
    ∃ (A : Option Addr) (n c : Nat) (es : List (Int × Int × Int)), v = .slice A n c ∧ n ≤ c ∧ c ≤ 9223372036854775807 ∧ es.length = n ∧ Rd w w.heap.size 3 A n (Cs encO es) ∧ (∀ e ∈ es, 0 ≤ e.2.2) := by
  obtain ⟨a2, l2, k2, rfl⟩ := okWide_slice Try.underlying26 hv
  obtain ⟨f2, h2⟩ := h
  obtain ⟨A2, n2, c2, xs2, e2, hn2, hm2, hx2, hr2, hw2⟩ := open_rd Try.underlying26 (by kernel_rfl) (by omega) decO h2
  simp only [Value.cells, List.cons.injEq, Value.slice.injEq, and_true] at e2
  obtain ⟨rfl, rfl, rfl⟩ := e2
  exact ⟨_, _, _, xs2, rfl, hn2, by unfold maxLen at hm2; omega, hx2, hr2, hw2⟩
theorem open_u64s {v : Value} {d : DataW H} {p : List MemPlace} {b0 : Nat} (hv : Value.okWide Try.prog w .any b0 23 v) (h : DataW.Trod enc Try.prog w base spare held 23 v d p) :
    ∃ (A : Option Addr) (n c : Nat) (es : List Int), v = .slice A n c ∧ n ≤ c ∧ c ≤ 9223372036854775807 ∧ es.length = n ∧ Rd w w.heap.size 1 A n (Cs encW es) ∧ (∀ e ∈ es, U64 e) := by
  obtain ⟨a2, l2, k2, rfl⟩ := okWide_slice Try.underlying23 hv
  obtain ⟨f2, h2⟩ := h
  obtain ⟨A2, n2, c2, xs2, e2, hn2, hm2, hx2, hr2, hw2⟩ := open_rd Try.underlying23 (by kernel_rfl) (by omega) decW h2
  simp only [Value.cells, List.cons.injEq, Value.slice.injEq, and_true] at e2
  obtain ⟨rfl, rfl, rfl⟩ := e2
  exact ⟨_, _, _, xs2, rfl, hn2, by unfold maxLen at hm2; omega, hx2, hr2, hw2⟩
theorem open_num {v : Value} {d : DataW H} {p : List MemPlace} {b0 : Nat} (hv : Value.okWide Try.prog w .any b0 3 v) (h : DataW.Trod enc Try.prog w base spare held 3 v d p) : ∃ x : Int, v = .int .i64 x ∧ I64 x := by
  obtain ⟨x, rfl, _, _, wx⟩ := open_int Try.underlying3 hv h
  exact ⟨x, rfl, i64_bounds wx⟩
theorem open_nat {v : Value} {d : DataW H} {p : List MemPlace} {b0 : Nat} (hv : Value.okWide Try.prog w .any b0 22 v) (h : DataW.Trod enc Try.prog w base spare held 22 v d p) : ∃ x : Int, v = .int .u64 x ∧ U64 x := by
  obtain ⟨x, rfl, _, _, wx⟩ := open_int Try.underlying22 hv h
  exact ⟨x, rfl, u64_bounds wx⟩
end
end Go.Proofs.Ytopaopfebgonjaa
