/-
  Arguments opened: numbers, rows of numbers, of mutexes, of deeds.
-/
import Derived.Test.YtlelpnahillioaaOpen
import Derived.Test.YtlelpnahillioaaRow
import Derived.Test.YtlelpnahillioaaMuo
set_option linter.unusedVariables false
set_option linter.unusedSimpArgs false
namespace Go.Proofs.Ytlelpnahillioaa
open Go Go.RowKit Go.WideShapes Go.ChangeShapes Go.ChangeAt Go.Joins

/-- A row of ints in memory. -/
structure Rw where
  A : Option Addr
  c : Nat
  xs : List Int
def encR (r : Rw) : List Value := [.slice r.A r.xs.length r.c]
theorem encR_len : ∀ x, (encR x).length = 1 := fun _ => rfl

section
variable {H : Type} {enc : TypeId × Value → H} {w : World} {base : Nat} {spare : Nat → Bool} {held : Bool}
theorem decI (n : Nat) (cs' : List Value) (y : DataW H × List MemPlace) (hl : cs'.length = 1) (h : DataW.trod enc Try.prog w base spare held n 3 cs' = some y) : ∃ z : Int, cs' = encI z ∧ I64 z := by
  obtain ⟨x, hx, hw⟩ := dec_int Try.underlying3 hl h
  exact ⟨x, by simpa [encI] using hx, i64_bounds hw⟩
def RwOk (w : World) (z : Rw) : Prop := Rd w w.heap.size 1 z.A z.xs.length (Cs encI z.xs) ∧ z.xs.length ≤ z.c ∧ z.c ≤ 9223372036854775807 ∧ ∀ g ∈ z.xs, I64 g
theorem decR (n : Nat) (cs' : List Value) (y : DataW H × List MemPlace) (hl : cs'.length = 1) (h : DataW.trod enc Try.prog w base spare held n 40 cs' = some y) : ∃ z : Rw, cs' = encR z ∧ RwOk w z := by
  obtain ⟨A2, n2, c2, xs2, e2, hn2, hm2, hx2, hr2, hw2⟩ := open_rd Try.underlying40 (by kernel_rfl) (by omega) decI h
  subst hx2
  exact ⟨⟨A2, c2, xs2⟩, e2, hr2, hn2, by unfold maxLen at hm2; exact hm2, hw2⟩
def MmOk (w : World) (z : Mm) : Prop := Rd w w.heap.size 1 z.A z.q.length (Cs encI z.q) ∧ z.q.length ≤ z.c ∧ z.c ≤ 9223372036854775807
def CapM (ts : List Mm) : Prop := ∀ t ∈ ts, t.q.length ≤ t.c ∧ t.c ≤ 9223372036854775807
theorem decM (n : Nat) (cs' : List Value) (y : DataW H × List MemPlace) (hl : cs'.length = 2) (h : DataW.trod enc Try.prog w base spare held n 47 cs' = some y) : ∃ z : Mm, cs' = encM z ∧ MmOk w z := by
  obtain ⟨v, y', n', hv, ht⟩ := dec_fields Try.underlying47 (by kernel_rfl) hl h 1 _ rfl
  obtain ⟨b, hb, wb⟩ := dec_field_int Try.underlying47 (by kernel_rfl) hl h 0 _ rfl Try.underlying3
  obtain ⟨z, hz, h1, h2, h3, h4⟩ := decR n' [v] y' rfl ht
  simp only [encR, List.cons.injEq, and_true] at hz
  subst hz
  match cs', hl with
  | [u, x], _ =>
    simp at hv hb
    subst hv hb
    exact ⟨⟨b, z.A, z.c, z.xs⟩, rfl, h1, h2, h3⟩
theorem decD (n : Nat) (cs' : List Value) (y : DataW H × List MemPlace) (hl : cs'.length = 3) (h : DataW.trod enc Try.prog w base spare held n 29 cs' = some y) : ∃ z : Dd, cs' = encD z ∧ I64 z.2.1 ∧ I64 z.2.2 := by
  obtain ⟨v, y', n', hv, ht⟩ := dec_fields Try.underlying29 (by kernel_rfl) hl h 0 _ rfl
  obtain ⟨a, ha, wa⟩ := dec_field_int Try.underlying29 (by kernel_rfl) hl h 1 _ rfl Try.underlying3
  obtain ⟨b, hb, wb⟩ := dec_field_int Try.underlying29 (by kernel_rfl) hl h 2 _ rfl Try.underlying3
  obtain ⟨x, hx, _⟩ := DataW.trod_bool Try.underlying4 ht
  simp at hx
  subst hx
  match cs', hl with
  | [u1, u2, u3], _ =>
    simp at hv ha hb
    subst hv ha hb
    exact ⟨(x, a, b), rfl, i64_bounds wa, i64_bounds wb⟩
theorem open_ints {v : Value} {d : DataW H} {p : List MemPlace} {b0 : Nat} (hv : Value.okWide Try.prog w .any b0 40 v) (h : DataW.Trod enc Try.prog w base spare held 40 v d p) :
    ∃ (A : Option Addr) (n c : Nat) (es : List Int), v = .slice A n c ∧ n ≤ c ∧ c ≤ 9223372036854775807 ∧ es.length = n ∧ Rd w w.heap.size 1 A n (Cs encI es) ∧ (∀ e ∈ es, I64 e) := by
  obtain ⟨a2, l2, k2, rfl⟩ := okWide_slice Try.underlying40 hv
  obtain ⟨f2, h2⟩ := h
  obtain ⟨A2, n2, c2, xs2, e2, hn2, hm2, hx2, hr2, hw2⟩ := open_rd Try.underlying40 (by kernel_rfl) (by omega) decI h2
  simp only [Value.cells, List.cons.injEq, Value.slice.injEq, and_true] at e2
  obtain ⟨rfl, rfl, rfl⟩ := e2
  exact ⟨_, _, _, xs2, rfl, hn2, by unfold maxLen at hm2; omega, hx2, hr2, hw2⟩
theorem open_muts {v : Value} {d : DataW H} {p : List MemPlace} {b0 : Nat} (hv : Value.okWide Try.prog w .any b0 22 v) (h : DataW.Trod enc Try.prog w base spare held 22 v d p) :
    ∃ (A : Option Addr) (n c : Nat) (ts : List Mm), v = .slice A n c ∧ n ≤ c ∧ c ≤ 9223372036854775807 ∧ RM w w.heap.size A n ts ∧ CapM ts := by
  obtain ⟨a2, l2, k2, rfl⟩ := okWide_slice Try.underlying22 hv
  obtain ⟨f2, h2⟩ := h
  obtain ⟨A2, n2, c2, xs2, e2, hn2, hm2, hx2, hr2, hw2⟩ := open_rd (en := encM) (wf := MmOk w) Try.underlying22 (by kernel_rfl) (by omega) decM h2
  simp only [Value.cells, List.cons.injEq, Value.slice.injEq, and_true] at e2
  obtain ⟨rfl, rfl, rfl⟩ := e2
  exact ⟨_, _, _, xs2, rfl, hn2, by unfold maxLen at hm2; omega, ⟨hr2, hx2, fun t ht => (hw2 t ht).1⟩, fun t ht => (hw2 t ht).2⟩
theorem open_deeds {v : Value} {d : DataW H} {p : List MemPlace} {b0 : Nat} (hv : Value.okWide Try.prog w .any b0 23 v) (h : DataW.Trod enc Try.prog w base spare held 23 v d p) :
    ∃ (A : Option Addr) (n c : Nat) (es : List Dd), v = .slice A n c ∧ n ≤ c ∧ c ≤ 9223372036854775807 ∧ es.length = n ∧ Rd w w.heap.size 3 A n (Cs encD es) ∧ (∀ e ∈ es, I64 e.2.1 ∧ I64 e.2.2) := by
  obtain ⟨a2, l2, k2, rfl⟩ := okWide_slice Try.underlying23 hv
  obtain ⟨f2, h2⟩ := h
  obtain ⟨A2, n2, c2, xs2, e2, hn2, hm2, hx2, hr2, hw2⟩ := open_rd (en := encD) (wf := fun z => I64 z.2.1 ∧ I64 z.2.2) Try.underlying23 (by kernel_rfl) (by omega) decD h2
  simp only [Value.cells, List.cons.injEq, Value.slice.injEq, and_true] at e2
  obtain ⟨rfl, rfl, rfl⟩ := e2
  exact ⟨_, _, _, xs2, rfl, hn2, by unfold maxLen at hm2; omega, hx2, hr2, hw2⟩
theorem open_num {v : Value} {d : DataW H} {p : List MemPlace} {b0 : Nat} (hv : Value.okWide Try.prog w .any b0 3 v) (h : DataW.Trod enc Try.prog w base spare held 3 v d p) : ∃ x : Int, v = .int .i64 x ∧ I64 x := by
  obtain ⟨x, rfl, _, _, wx⟩ := open_int Try.underlying3 hv h
  exact ⟨x, rfl, i64_bounds wx⟩
end
end Go.Proofs.Ytlelpnahillioaa
