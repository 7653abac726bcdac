/-
  Arguments opened: rows of numbers, of turns, of rows; two numbers.
-/
import Derived.Test.YtogjokoaghpjiaaOpen
import Derived.Test.YtogjokoaghpjiaaPkt
set_option linter.unusedVariables false
set_option linter.unusedSimpArgs false
namespace Go.Proofs.Ytogjokoaghpjiaa
open Go Go.RowKit Go.WideShapes Go.ChangeShapes Go.ChangeAt Go.Joins

/-- A row of ints in memory. -/
structure Rw where
  A : Option Addr
  c : Nat
  xs : List Int
def encR (r : Rw) : List Value := [.slice r.A r.xs.length r.c]
theorem encR_len : ∀ x, (encR x).length = 1 := fun _ => rfl

section
variable {H : Type} {enc : TypeId × Value → H} {w : World} {base : Nat} {spare : Nat → Bool} {held : Bool}
theorem decI (n : Nat) (cs' : List Value) (y : DataW H × List MemPlace) (hl : cs'.length = 1) (h : DataW.trod enc Try.prog w base spare held n 3 cs' = some y) : ∃ z : Int, cs' = encI z ∧ I64 z := by
  obtain ⟨x, hx, hw⟩ := dec_int Try.underlying3 hl h
  exact ⟨x, by simpa [encI] using hx, i64_bounds hw⟩
def RwOk (w : World) (z : Rw) : Prop := Rd w w.heap.size 1 z.A z.xs.length (Cs encI z.xs) ∧ z.xs.length ≤ z.c ∧ z.c ≤ 9223372036854775807 ∧ ∀ g ∈ z.xs, I64 g
theorem decR (n : Nat) (cs' : List Value) (y : DataW H × List MemPlace) (hl : cs'.length = 1) (h : DataW.trod enc Try.prog w base spare held n 22 cs' = some y) : ∃ z : Rw, cs' = encR z ∧ RwOk w z := by
  obtain ⟨A2, n2, c2, xs2, e2, hn2, hm2, hx2, hr2, hw2⟩ := open_rd Try.underlying22 (by kernel_rfl) (by omega) decI h
  subst hx2
  exact ⟨⟨A2, c2, xs2⟩, e2, hr2, hn2, by unfold maxLen at hm2; exact hm2, hw2⟩
def TmOk (w : World) (z : Tm) : Prop := Rd w w.heap.size 1 z.A z.can.length (Cs encI z.can) ∧ z.can.length ≤ z.c ∧ z.c ≤ 9223372036854775807
theorem decT (n : Nat) (cs' : List Value) (y : DataW H × List MemPlace) (hl : cs'.length = 2) (h : DataW.trod enc Try.prog w base spare held n 37 cs' = some y) : ∃ z : Tm, cs' = encT z ∧ TmOk w z := by
  obtain ⟨v, y', n', hv, ht⟩ := dec_fields Try.underlying37 (by kernel_rfl) hl h 0 _ rfl
  obtain ⟨b, hb, wb⟩ := dec_field_int Try.underlying37 (by kernel_rfl) hl h 1 _ rfl Try.underlying3
  obtain ⟨z, hz, h1, h2, h3, h4⟩ := decR n' [v] y' rfl ht
  simp only [encR, List.cons.injEq, and_true] at hz
  subst hz
  match cs', hl with
  | [u, x], _ =>
    simp at hv hb
    subst hv hb
    exact ⟨⟨z.A, z.c, z.xs, b⟩, rfl, h1, h2, h3⟩
theorem open_ints {v : Value} {d : DataW H} {p : List MemPlace} {b0 : Nat} (hv : Value.okWide Try.prog w .any b0 22 v) (h : DataW.Trod enc Try.prog w base spare held 22 v d p) :
    ∃ (A : Option Addr) (n c : Nat) (es : List Int), v = .slice A n c ∧ n ≤ c ∧ c ≤ 9223372036854775807 ∧ es.length = n ∧ Rd w w.heap.size 1 A n (Cs encI es) ∧ (∀ e ∈ es, I64 e) := by
  obtain ⟨a2, l2, k2, rfl⟩ := okWide_slice Try.underlying22 hv
  obtain ⟨f2, h2⟩ := h
  obtain ⟨A2, n2, c2, xs2, e2, hn2, hm2, hx2, hr2, hw2⟩ := open_rd Try.underlying22 (by kernel_rfl) (by omega) decI h2
  simp only [Value.cells, List.cons.injEq, Value.slice.injEq, and_true] at e2
  obtain ⟨rfl, rfl, rfl⟩ := e2
  exact ⟨_, _, _, xs2, rfl, hn2, by unfold maxLen at hm2; omega, hx2, hr2, hw2⟩
theorem open_turns {v : Value} {d : DataW H} {p : List MemPlace} {b0 : Nat} (hv : Value.okWide Try.prog w .any b0 34 v) (h : DataW.Trod enc Try.prog w base spare held 34 v d p) :
    ∃ (A : Option Addr) (n c : Nat) (ts : List Tm), v = .slice A n c ∧ n ≤ c ∧ c ≤ 9223372036854775807 ∧ RT w w.heap.size A n ts ∧ CapT ts := by
  obtain ⟨a2, l2, k2, rfl⟩ := okWide_slice Try.underlying34 hv
  obtain ⟨f2, h2⟩ := h
  obtain ⟨A2, n2, c2, xs2, e2, hn2, hm2, hx2, hr2, hw2⟩ := open_rd (en := encT) (wf := TmOk w) Try.underlying34 (by kernel_rfl) (by omega) decT h2
  simp only [Value.cells, List.cons.injEq, Value.slice.injEq, and_true] at e2
  obtain ⟨rfl, rfl, rfl⟩ := e2
  exact ⟨_, _, _, xs2, rfl, hn2, by unfold maxLen at hm2; omega, ⟨hr2, hx2, fun t ht => (hw2 t ht).1⟩, fun t ht => (hw2 t ht).2⟩
theorem open_rows {v : Value} {d : DataW H} {p : List MemPlace} {b0 : Nat} (hv : Value.okWide Try.prog w .any b0 32 v) (h : DataW.Trod enc Try.prog w base spare held 32 v d p) :
    ∃ (A : Option Addr) (n c : Nat) (ts : List Rw), v = .slice A n c ∧ n ≤ c ∧ c ≤ 9223372036854775807 ∧ ts.length = n ∧ Rd w w.heap.size 1 A n (Cs encR ts) ∧ (∀ t ∈ ts, RwOk w t) := by
  obtain ⟨a2, l2, k2, rfl⟩ := okWide_slice Try.underlying32 hv
  obtain ⟨f2, h2⟩ := h
  obtain ⟨A2, n2, c2, xs2, e2, hn2, hm2, hx2, hr2, hw2⟩ := open_rd (en := encR) (wf := RwOk w) Try.underlying32 (by kernel_rfl) (by omega) decR h2
  simp only [Value.cells, List.cons.injEq, Value.slice.injEq, and_true] at e2
  obtain ⟨rfl, rfl, rfl⟩ := e2
  exact ⟨_, _, _, xs2, rfl, hn2, by unfold maxLen at hm2; omega, hx2, hr2, hw2⟩
theorem open_pair {v : Value} {d : DataW H} {p : List MemPlace} {b0 : Nat} (hv : Value.okWide Try.prog w .any b0 42 v) (h : DataW.Trod enc Try.prog w base spare held 42 v d p) :
    ∃ a b : Int, v = .agg #[.int .i64 a, .int .i64 b] ∧ I64 a ∧ I64 b := by
  have hu : Try.prog.underlying 42 = some (.array 2 3) := by kernel_rfl
  simp only [Value.okWide, hu] at hv
  obtain ⟨cs, rfl, hsz, _⟩ := hv
  obtain ⟨fuel, hf⟩ := h
  have hl : (Value.agg cs).cells.toList.length = 2 := by
    have : Try.prog.cellsOf 42 = 2 := by kernel_rfl
    simp [Value.cells]; omega
  obtain ⟨a, ha, wa⟩ := dec_array_int hu (by kernel_rfl) Try.underlying3 hl (by simpa [Value.cells] using hf) 0 (by omega)
  obtain ⟨b, hb, wb⟩ := dec_array_int hu (by kernel_rfl) Try.underlying3 hl (by simpa [Value.cells] using hf) 1 (by omega)
  refine ⟨a, b, ?_, i64_bounds wa, i64_bounds wb⟩
  obtain ⟨l⟩ := cs
  match l, hl with
  | [u, x], _ =>
    simp [Value.cells] at ha hb
    rw [ha, hb]
theorem open_num {v : Value} {d : DataW H} {p : List MemPlace} {b0 : Nat} (hv : Value.okWide Try.prog w .any b0 3 v) (h : DataW.Trod enc Try.prog w base spare held 3 v d p) : ∃ x : Int, v = .int .i64 x ∧ I64 x := by
  obtain ⟨x, rfl, _, _, wx⟩ := open_int Try.underlying3 hv h
  exact ⟨x, rfl, i64_bounds wx⟩
end
end Go.Proofs.Ytogjokoaghpjiaa
