/-
  Rows of three entries, opened.
-/
import Derived.Test.YtjlbnegdiabglaaDjopen
set_option linter.unusedVariables false
set_option linter.unusedSimpArgs false
namespace Go.Proofs.Ytjlbnegdiabglaa
open Go Go.RowKit Go.WideShapes Go.ChangeShapes Go.ChangeAt Go.Joins

/-- Three entries. -/
abbrev Tri := (Int × Int) × (Int × Int) × (Int × Int)
def encT (t : Tri) : List Value := [.int .i64 t.1.1, .int .u64 t.1.2, .int .i64 t.2.1.1, .int .u64 t.2.1.2, .int .i64 t.2.2.1, .int .u64 t.2.2.2]
theorem encT_len : ∀ t : Tri, (encT t).length = 6 := fun _ => rfl
/-- Their numbers fit. -/
def TriU (t : Tri) : Prop := U64 t.1.2 ∧ U64 t.2.1.2 ∧ U64 t.2.2.2
section
variable {H : Type} {enc : TypeId × Value → H} {w : World} {base : Nat} {spare : Nat → Bool} {held : Bool}
theorem decTri (n : Nat) (cs' : List Value) (y : DataW H × List MemPlace) (hl : cs'.length = 6) (h : DataW.trod enc Try.prog w base spare held n 52 cs' = some y) : ∃ z : Tri, cs' = encT z ∧ TriU z := by
  have hs : Try.prog.underlying 52 = some (.array 3 31) := by kernel_rfl
  have hC : Try.prog.cellsOf 31 = 2 := by kernel_rfl
  obtain ⟨ys, m, _, _, _, hyl, hf⟩ := DataW.trod_array hs h
  rw [hC] at hf
  have key : ∀ j, j < 3 → ∃ z : Int × Int, (cs'.drop (j * 2)).take 2 = encE z ∧ U64 z.2 := fun j hj => by
    have h1 := hf j hj
    have hys : ys[j]? = some (ys[j]'(by omega)) := List.getElem?_eq_getElem (by omega)
    rw [hys] at h1
    exact decEd m _ _ (by simp; omega) h1
  obtain ⟨a, ha, ua⟩ := key 0 (by omega)
  obtain ⟨b, hb, ub⟩ := key 1 (by omega)
  obtain ⟨c, hc, uc⟩ := key 2 (by omega)
  refine ⟨(a, b, c), ?_, ua, ub, uc⟩
  match cs', hl with
  | [v0, v1, v2, v3, v4, v5], _ =>
    simp [encE] at ha hb hc
    simp [encT, ha, hb, hc]
theorem open_tris {v : Value} {d : DataW H} {p : List MemPlace} {b0 : Nat} (hv : Value.okWide Try.prog w .any b0 51 v) (h : DataW.Trod enc Try.prog w base spare held 51 v d p) :
    ∃ (A : Option Addr) (n c : Nat) (ts : List Tri), v = .slice A n c ∧ n ≤ c ∧ c ≤ 9223372036854775807 ∧ ts.length = n ∧ Rd w w.heap.size 6 A n (Cs encT ts) ∧ (∀ t ∈ ts, TriU t) := by
  obtain ⟨a2, l2, k2, rfl⟩ := okWide_slice Try.underlying51 hv
  obtain ⟨f2, h2⟩ := h
  obtain ⟨A2, n2, c2, xs2, e2, hn2, hm2, hx2, hr2, hw2⟩ := open_rd Try.underlying51 (by kernel_rfl) (by omega) decTri h2
  simp only [Value.cells, List.cons.injEq, Value.slice.injEq, and_true] at e2
  obtain ⟨rfl, rfl, rfl⟩ := e2
  exact ⟨_, _, _, xs2, rfl, hn2, by unfold maxLen at hm2; omega, hx2, hr2, hw2⟩
end
end Go.Proofs.Ytjlbnegdiabglaa
