/-
  Arguments opened: words, accesses, marks, numbers.
-/
import Derived.Test.YtadgihmokmfejaaOpen
import Derived.Test.YtadgihmokmfejaaCep
set_option linter.unusedVariables false
set_option linter.unusedSimpArgs false
namespace Go.Proofs.Ytadgihmokmfejaa
open Go Go.RowKit Go.WideShapes Go.ChangeShapes Go.ChangeAt Go.Joins

section
variable {H : Type} {enc : TypeId × Value → H} {w : World} {base : Nat} {spare : Nat → Bool} {held : Bool}
theorem decW (n : Nat) (cs' : List Value) (y : DataW H × List MemPlace) (hl : cs'.length = 1) (h : DataW.trod enc Try.prog w base spare held n 31 cs' = some y) : ∃ z : Int, cs' = encW z ∧ U64 z := by
  obtain ⟨x, hx, hw⟩ := dec_int Try.underlying31 hl h
  exact ⟨x, by simpa [encW] using hx, u64_bounds hw⟩
theorem decI (n : Nat) (cs' : List Value) (y : DataW H × List MemPlace) (hl : cs'.length = 1) (h : DataW.trod enc Try.prog w base spare held n 3 cs' = some y) : ∃ z : Int, cs' = encI z ∧ I64 z := by
  obtain ⟨x, hx, hw⟩ := dec_int Try.underlying3 hl h
  exact ⟨x, by simpa [encI] using hx, i64_bounds hw⟩
theorem decA (n : Nat) (cs' : List Value) (y : DataW H × List MemPlace) (hl : cs'.length = 5) (h : DataW.trod enc Try.prog w base spare held n 37 cs' = some y) : ∃ z : Acc, cs' = encA z ∧ U64 z.2.2.2.2 := by
  obtain ⟨a, ha, wa⟩ := dec_field_int Try.underlying37 (by kernel_rfl) hl h 0 _ rfl Try.underlying3
  obtain ⟨b, hb, wb⟩ := dec_field_int Try.underlying37 (by kernel_rfl) hl h 1 _ rfl Try.underlying3
  obtain ⟨c, hc, wc⟩ := dec_field_int Try.underlying37 (by kernel_rfl) hl h 2 _ rfl Try.underlying3
  obtain ⟨d, hd, wd⟩ := dec_field_int Try.underlying37 (by kernel_rfl) hl h 3 _ rfl Try.underlying31
  obtain ⟨e, he, we⟩ := dec_field_int Try.underlying37 (by kernel_rfl) hl h 4 _ rfl Try.underlying31
  match cs', hl with
  | [u, v, x, p, q], _ =>
    simp at ha hb hc hd he
    subst ha hb hc hd he
    exact ⟨(a, b, c, d, e), rfl, u64_bounds we⟩
theorem decM (n : Nat) (cs' : List Value) (y : DataW H × List MemPlace) (hl : cs'.length = 4) (h : DataW.trod enc Try.prog w base spare held n 57 cs' = some y) : ∃ z : Mk, cs' = encM z ∧ True := by
  obtain ⟨a, ha, wa⟩ := dec_field_int Try.underlying57 (by kernel_rfl) hl h 0 _ rfl Try.underlying3
  obtain ⟨b, hb, wb⟩ := dec_field_int Try.underlying57 (by kernel_rfl) hl h 1 _ rfl Try.underlying3
  obtain ⟨c, hc, wc⟩ := dec_field_int Try.underlying57 (by kernel_rfl) hl h 2 _ rfl Try.underlying31
  obtain ⟨d, hd, wd⟩ := dec_field_int Try.underlying57 (by kernel_rfl) hl h 3 _ rfl Try.underlying31
  match cs', hl with
  | [u, v, x, p], _ =>
    simp at ha hb hc hd
    subst ha hb hc hd
    exact ⟨(a, b, c, d), rfl, trivial⟩
theorem open_words {v : Value} {d : DataW H} {p : List MemPlace} {b0 : Nat} (hv : Value.okWide Try.prog w .any b0 22 v) (h : DataW.Trod enc Try.prog w base spare held 22 v d p) :
    ∃ (A : Option Addr) (n c : Nat) (es : List Int), v = .slice A n c ∧ n ≤ c ∧ c ≤ 9223372036854775807 ∧ es.length = n ∧ Rd w w.heap.size 1 A n (Cs encW es) ∧ (∀ e ∈ es, U64 e) := by
  obtain ⟨a2, l2, k2, rfl⟩ := okWide_slice Try.underlying22 hv
  obtain ⟨f2, h2⟩ := h
  obtain ⟨A2, n2, c2, xs2, e2, hn2, hm2, hx2, hr2, hw2⟩ := open_rd Try.underlying22 (by kernel_rfl) (by omega) decW h2
  simp only [Value.cells, List.cons.injEq, Value.slice.injEq, and_true] at e2
  obtain ⟨rfl, rfl, rfl⟩ := e2
  exact ⟨_, _, _, xs2, rfl, hn2, by unfold maxLen at hm2; omega, hx2, hr2, hw2⟩
theorem open_ints {v : Value} {d : DataW H} {p : List MemPlace} {b0 : Nat} (hv : Value.okWide Try.prog w .any b0 58 v) (h : DataW.Trod enc Try.prog w base spare held 58 v d p) :
    ∃ (A : Option Addr) (n c : Nat) (es : List Int), v = .slice A n c ∧ n ≤ c ∧ c ≤ 9223372036854775807 ∧ es.length = n ∧ Rd w w.heap.size 1 A n (Cs encI es) ∧ (∀ e ∈ es, I64 e) := by
  obtain ⟨a2, l2, k2, rfl⟩ := okWide_slice Try.underlying58 hv
  obtain ⟨f2, h2⟩ := h
  obtain ⟨A2, n2, c2, xs2, e2, hn2, hm2, hx2, hr2, hw2⟩ := open_rd Try.underlying58 (by kernel_rfl) (by omega) decI h2
  simp only [Value.cells, List.cons.injEq, Value.slice.injEq, and_true] at e2
  obtain ⟨rfl, rfl, rfl⟩ := e2
  exact ⟨_, _, _, xs2, rfl, hn2, by unfold maxLen at hm2; omega, hx2, hr2, hw2⟩
theorem open_accs {v : Value} {d : DataW H} {p : List MemPlace} {b0 : Nat} (hv : Value.okWide Try.prog w .any b0 23 v) (h : DataW.Trod enc Try.prog w base spare held 23 v d p) :
    ∃ (A : Option Addr) (n c : Nat) (es : List Acc), v = .slice A n c ∧ n ≤ c ∧ c ≤ 9223372036854775807 ∧ es.length = n ∧ Rd w w.heap.size 5 A n (Cs encA es) ∧ (∀ e ∈ es, U64 e.2.2.2.2) := by
  obtain ⟨a2, l2, k2, rfl⟩ := okWide_slice Try.underlying23 hv
  obtain ⟨f2, h2⟩ := h
  obtain ⟨A2, n2, c2, xs2, e2, hn2, hm2, hx2, hr2, hw2⟩ := open_rd Try.underlying23 (by kernel_rfl) (by omega) decA h2
  simp only [Value.cells, List.cons.injEq, Value.slice.injEq, and_true] at e2
  obtain ⟨rfl, rfl, rfl⟩ := e2
  exact ⟨_, _, _, xs2, rfl, hn2, by unfold maxLen at hm2; omega, hx2, hr2, hw2⟩
theorem open_marks {v : Value} {d : DataW H} {p : List MemPlace} {b0 : Nat} (hv : Value.okWide Try.prog w .any b0 46 v) (h : DataW.Trod enc Try.prog w base spare held 46 v d p) :
    ∃ (A : Option Addr) (n c : Nat) (es : List Mk), v = .slice A n c ∧ n ≤ c ∧ c ≤ 9223372036854775807 ∧ es.length = n ∧ Rd w w.heap.size 4 A n (Cs encM es) ∧ (∀ e ∈ es, True) := by
  obtain ⟨a2, l2, k2, rfl⟩ := okWide_slice Try.underlying46 hv
  obtain ⟨f2, h2⟩ := h
  obtain ⟨A2, n2, c2, xs2, e2, hn2, hm2, hx2, hr2, hw2⟩ := open_rd Try.underlying46 (by kernel_rfl) (by omega) decM h2
  simp only [Value.cells, List.cons.injEq, Value.slice.injEq, and_true] at e2
  obtain ⟨rfl, rfl, rfl⟩ := e2
  exact ⟨_, _, _, xs2, rfl, hn2, by unfold maxLen at hm2; omega, hx2, hr2, hw2⟩
theorem open_num {v : Value} {d : DataW H} {p : List MemPlace} {b0 : Nat} (hv : Value.okWide Try.prog w .any b0 3 v) (h : DataW.Trod enc Try.prog w base spare held 3 v d p) : ∃ x : Int, v = .int .i64 x ∧ I64 x := by
  obtain ⟨x, rfl, _, _, wx⟩ := open_int Try.underlying3 hv h
  exact ⟨x, rfl, i64_bounds wx⟩
end
end Go.Proofs.Ytadgihmokmfejaa
