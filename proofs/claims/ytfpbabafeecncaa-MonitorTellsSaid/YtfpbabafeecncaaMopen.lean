/-
  Arguments opened: numbers, monitors, rows of what is watched.
-/
import Derived.Test.YtfpbabafeecncaaOpen
import Derived.Test.YtfpbabafeecncaaRow
import Derived.Test.YtfpbabafeecncaaMov
set_option linter.unusedVariables false
set_option linter.constructorNameAsVariable false
set_option maxRecDepth 100000
set_option linter.unusedSimpArgs false
namespace Go.Proofs.Ytfpbabafeecncaa
open Go Go.RowKit Go.WideShapes Go.ChangeShapes Go.ChangeAt Go.Joins

section
variable {H : Type} {enc : TypeId × Value → H} {w : World} {base : Nat} {spare : Nat → Bool} {held : Bool}
/-- A field of a struct, of as many cells as it has. -/
theorem dec_at {fs : Array Field} {e : TypeId} (hs : Try.prog.underlying e = some (.struct fs)) {n : Nat} {cs' : List Value} {y : DataW H × List MemPlace} (h : DataW.trod enc Try.prog w base spare held n e cs' = some y)
    (j : Nat) (f : Field) (hj : fs[j]? = some f) (o k : Nat) (ho : f.offset = o) (hk : Try.prog.cellsOf f.type = k) : ∃ (y' : DataW H × List MemPlace) (n' : Nat), DataW.trod enc Try.prog w base spare held n' f.type ((cs'.drop o).take k) = some y' := by
  obtain ⟨ys, n', hn', hy, hlen, hyl, hf⟩ := DataW.trod_struct hs h
  have hjl : j < fs.size := (Array.getElem?_eq_some_iff.1 hj).1
  have h1 := hf j f hj
  rw [ho, hk] at h1
  have hys : ys[j]? = some (ys[j]'(by omega)) := List.getElem?_eq_getElem (by omega)
  exact ⟨_, n', h1.trans hys⟩
theorem decSl (n : Nat) (cs' : List Value) (y : DataW H × List MemPlace) (hl : cs'.length = 2) (h : DataW.trod enc Try.prog w base spare held n 47 cs' = some y) : ∃ z : Int × Int, cs' = encE z ∧ U64 z.2 := by
  obtain ⟨a, ha, wa⟩ := dec_field_int Try.underlying47 (by kernel_rfl) hl h 0 _ rfl Try.underlying3
  obtain ⟨b, hb, wb⟩ := dec_field_int Try.underlying47 (by kernel_rfl) hl h 1 _ rfl Try.underlying41
  match cs', hl with
  | [u, v], _ =>
    simp at ha hb
    subst ha hb
    exact ⟨(a, b), rfl, u64_bounds wb⟩
theorem decEn (n : Nat) (cs' : List Value) (y : DataW H × List MemPlace) (hl : cs'.length = 2) (h : DataW.trod enc Try.prog w base spare held n 43 cs' = some y) : ∃ z : Int × Int, cs' = encE z ∧ U64 z.2 := by
  obtain ⟨a, ha, wa⟩ := dec_field_int Try.underlying43 (by kernel_rfl) hl h 0 _ rfl Try.underlying3
  obtain ⟨b, hb, wb⟩ := dec_field_int Try.underlying43 (by kernel_rfl) hl h 1 _ rfl Try.underlying41
  match cs', hl with
  | [u, v], _ =>
    simp at ha hb
    subst ha hb
    exact ⟨(a, b), rfl, u64_bounds wb⟩
theorem decBo (n : Nat) (cs' : List Value) (y : DataW H × List MemPlace) (hl : cs'.length = 1) (h : DataW.trod enc Try.prog w base spare held n 4 cs' = some y) : ∃ z : Bool, cs' = encB z ∧ True := by
  match cs', hl with
  | [v], _ =>
    obtain ⟨x, hx, _⟩ := DataW.trod_bool Try.underlying4 h
    simp at hx
    subst hx
    exact ⟨x, rfl, trivial⟩
theorem decWa (n : Nat) (cs' : List Value) (y : DataW H × List MemPlace) (hl : cs'.length = 4) (h : DataW.trod enc Try.prog w base spare held n 45 cs' = some y) : ∃ z : Wt, cs' = encX z ∧ U64 z.2.2.2 ∧ I64 z.1 ∧ I64 z.2.1 ∧ I64 z.2.2.1 := by
  match cs', hl with
  | [u0, u1, u2, u3], _ =>
    obtain ⟨y0, m0, h0⟩ := dec_at Try.underlying45 h 0 _ rfl 0 1 (by kernel_rfl) (by kernel_rfl)
    obtain ⟨y1, m1, h1⟩ := dec_at Try.underlying45 h 1 _ rfl 1 1 (by kernel_rfl) (by kernel_rfl)
    obtain ⟨y2, m2, h2⟩ := dec_at Try.underlying45 h 2 _ rfl 2 2 (by kernel_rfl) (by kernel_rfl)
    obtain ⟨a, ha, wa⟩ := dec_int Try.underlying3 (cs' := [u0]) rfl h0
    obtain ⟨b, hb, wb⟩ := dec_int Try.underlying3 (cs' := [u1]) rfl h1
    have h2 : DataW.trod enc Try.prog w base spare held m2 43 [u2, u3] = some y2 := h2
    obtain ⟨c, hc, wc⟩ := dec_field_int Try.underlying43 (by kernel_rfl) (cs' := [u2, u3]) rfl h2 0 _ rfl Try.underlying3
    obtain ⟨d, hd, wd⟩ := dec_field_int Try.underlying43 (by kernel_rfl) (cs' := [u2, u3]) rfl h2 1 _ rfl Try.underlying41
    simp at ha hb hc hd
    subst ha hb hc hd
    exact ⟨(a, b, c, d), rfl, u64_bounds wd, i64_bounds wa, i64_bounds wb, i64_bounds wc⟩
def HmOk (w : World) (z : Hm) : Prop := Rd w w.heap.size 2 z.A z.q.length (Cs encE z.q) ∧ z.q.length ≤ z.c ∧ z.c ≤ 9223372036854775807
theorem decHm (n : Nat) (cs' : List Value) (y : DataW H × List MemPlace) (hl : cs'.length = 1) (h : DataW.trod enc Try.prog w base spare held n 54 cs' = some y) : ∃ z : Hm, cs' = encH z ∧ HmOk w z := by
  obtain ⟨A2, n2, c2, xs2, e2, hn2, hm2, hx2, hr2, hw2⟩ := open_rd Try.underlying54 (by kernel_rfl) (by omega) decEn h
  subst hx2
  exact ⟨⟨A2, c2, xs2⟩, e2, hr2, hn2, by unfold maxLen at hm2; exact hm2⟩
theorem open_watches {v : Value} {d : DataW H} {p : List MemPlace} {b0 : Nat} (hv : Value.okWide Try.prog w .any b0 30 v) (h : DataW.Trod enc Try.prog w base spare held 30 v d p) :
    ∃ (A : Option Addr) (n c : Nat) (es : List Wt), v = .slice A n c ∧ n ≤ c ∧ c ≤ 9223372036854775807 ∧ es.length = n ∧ Rd w w.heap.size 4 A n (Cs encX es) ∧ (∀ e ∈ es, U64 e.2.2.2 ∧ I64 e.1 ∧ I64 e.2.1 ∧ I64 e.2.2.1) := by
  obtain ⟨a2, l2, k2, rfl⟩ := okWide_slice Try.underlying30 hv
  obtain ⟨f2, h2⟩ := h
  obtain ⟨A2, n2, c2, xs2, e2, hn2, hm2, hx2, hr2, hw2⟩ := open_rd (en := encX) (wf := fun e => U64 e.2.2.2 ∧ I64 e.1 ∧ I64 e.2.1 ∧ I64 e.2.2.1) Try.underlying30 (by kernel_rfl) (by omega) decWa h2
  simp only [Value.cells, List.cons.injEq, Value.slice.injEq, and_true] at e2
  obtain ⟨rfl, rfl, rfl⟩ := e2
  exact ⟨_, _, _, xs2, rfl, hn2, by unfold maxLen at hm2; omega, hx2, hr2, hw2⟩
theorem open_mon {v : Value} {d : DataW H} {p : List MemPlace} {b0 : Nat} (hv : Value.okWide Try.prog w .any b0 32 v) (h : DataW.Trod enc Try.prog w base spare held 32 v d p) :
    ∃ (a0 a1 a2 a3 : Option Addr) (n0 n1 n2 n3 c0 c1 c2 c3 : Nat) (ts : List Hm) (m : Mon), v = .agg (moC a0 a1 a2 a3 n0 n1 n2 n3 c0 c1 c2 c3) ∧ MonX w w.heap.size a0 a1 a2 a3 n0 n1 n2 n3 ts m ∧ (n0 ≤ c0 ∧ c0 ≤ 9223372036854775807) ∧ (n1 ≤ c1 ∧ c1 ≤ 9223372036854775807) ∧ (n2 ≤ c2 ∧ c2 ≤ 9223372036854775807) ∧ (n3 ≤ c3 ∧ c3 ≤ 9223372036854775807) ∧ ∀ t ∈ ts, t.q.length ≤ t.c ∧ t.c ≤ 9223372036854775807 := by
  obtain ⟨cs, rfl, hsz⟩ := okWide_struct Try.underlying32 hv
  obtain ⟨fuel, hf⟩ := h
  have hl : (Value.agg cs).cells.toList.length = 4 := by
    have : Try.prog.cellsOf 32 = 4 := by kernel_rfl
    simp [Value.cells]; omega
  have hf : DataW.trod enc Try.prog w base spare held fuel 32 cs.toList = some (d, p) := by simpa [Value.cells] using hf
  have hl : cs.toList.length = 4 := by simpa [Value.cells] using hl
  obtain ⟨l⟩ := cs
  match l, hl, hf with
  | [u0, u1, u2, u3], _, hf =>
    obtain ⟨y0, m0, h0⟩ := dec_at Try.underlying32 hf 0 _ rfl 0 1 (by kernel_rfl) (by kernel_rfl)
    obtain ⟨y1, m1, h1⟩ := dec_at Try.underlying32 hf 1 _ rfl 1 1 (by kernel_rfl) (by kernel_rfl)
    obtain ⟨y2, m2, h2⟩ := dec_at Try.underlying32 hf 2 _ rfl 2 1 (by kernel_rfl) (by kernel_rfl)
    obtain ⟨y3, m3, h3⟩ := dec_at Try.underlying32 hf 3 _ rfl 3 1 (by kernel_rfl) (by kernel_rfl)
    have h0 : DataW.trod enc Try.prog w base spare held m0 27 [u0] = some y0 := h0
    have h1 : DataW.trod enc Try.prog w base spare held m1 28 [u1] = some y1 := h1
    have h2 : DataW.trod enc Try.prog w base spare held m2 29 [u2] = some y2 := h2
    have h3 : DataW.trod enc Try.prog w base spare held m3 30 [u3] = some y3 := h3
    obtain ⟨v0, z0, k0, hv0, ht0⟩ := dec_fields Try.underlying27 (by kernel_rfl) (cs' := [u0]) rfl h0 0 _ rfl
    obtain ⟨A0, n0, c0, x0, e0, hn0, hm0, hx0, hr0, hw0⟩ := open_rd Try.underlying25 (by kernel_rfl) (by omega) decSl ht0
    obtain ⟨A1, n1, c1, x1, e1, hn1, hm1, hx1, hr1, hw1⟩ := open_rd Try.underlying28 (by kernel_rfl) (by omega) decBo h1
    obtain ⟨A2, n2, c2, x2, e2, hn2, hm2, hx2, hr2, hw2⟩ := open_rd Try.underlying29 (by kernel_rfl) (by omega) decHm h2
    obtain ⟨A3, n3, c3, x3, e3, hn3, hm3, hx3, hr3, hw3⟩ := open_rd Try.underlying30 (by kernel_rfl) (by omega) decWa h3
    simp at e0 e1 e2 e3 hv0
    subst hv0
    subst e0 e1 e2 e3
    unfold maxLen at hm0 hm1 hm2 hm3
    exact ⟨A0, A1, A2, A3, n0, n1, n2, n3, c0, c1, c2, c3, x2, ⟨x0, x1, rowsQ x2, x3⟩, rfl, ⟨hr0, hx0, hr1, hx1, ⟨hr2, hx2, fun t ht => (hw2 t ht).1⟩, rfl, hr3, hx3⟩, ⟨hn0, hm0⟩, ⟨hn1, hm1⟩, ⟨hn2, hm2⟩, ⟨hn3, hm3⟩, fun t ht => (hw2 t ht).2⟩
theorem open_num {v : Value} {d : DataW H} {p : List MemPlace} {b0 : Nat} (hv : Value.okWide Try.prog w .any b0 3 v) (h : DataW.Trod enc Try.prog w base spare held 3 v d p) : ∃ x : Int, v = .int .i64 x ∧ I64 x := by
  obtain ⟨x, rfl, _, _, wx⟩ := open_int Try.underlying3 hv h
  exact ⟨x, rfl, i64_bounds wx⟩
end
end Go.Proofs.Ytfpbabafeecncaa
