/-
  Arguments opened: limbos, rows of entries, of numbers; what the row says of the package's variable; the door's own heap.
-/
import Derived.Test.YthnpcmigphpolaaDoorOpen
import Derived.Test.YthnpcmigphpolaaDoorLje
import Derived.LaidMore
import Derived.OpenShut
import Derived.Stop.Joined
import Derived.Laws.IdiomArrays
set_option linter.unusedVariables false
set_option linter.unusedSimpArgs false
namespace Go.Proofs.YthnpcmigphpolaaDoor
open Go Go.RowKit Go.WideShapes Go.ChangeShapes Go.ChangeAt Go.Joins Go.Deep

def encI (x : Int) : List Value := [.int .i64 x]
section
variable {H : Type} {enc : TypeId × Value → H} {w : World} {base : Nat} {spare : Nat → Bool} {held : Bool}
theorem decI (n : Nat) (cs' : List Value) (y : DataW H × List MemPlace) (hl : cs'.length = 1) (h : DataW.trod enc Tryd.prog w base spare held n 3 cs' = some y) : ∃ z : Int, cs' = encI z ∧ I64 z := by
  obtain ⟨x, hx, hw⟩ := dec_int Tryd.underlying3 hl h
  exact ⟨x, by simpa [encI] using hx, i64_bounds hw⟩
theorem decEn (n : Nat) (cs' : List Value) (y : DataW H × List MemPlace) (hl : cs'.length = 2) (h : DataW.trod enc Tryd.prog w base spare held n 34 cs' = some y) : ∃ z : Ent, cs' = encE z ∧ (0 ≤ z.2 ∧ z.2 < 18446744073709551616) := by
  obtain ⟨a, ha, wa⟩ := dec_field_int Tryd.underlying34 (by kernel_rfl) hl h 0 _ rfl Tryd.underlying3
  obtain ⟨b, hb, wb⟩ := dec_field_int Tryd.underlying34 (by kernel_rfl) hl h 1 _ rfl Tryd.underlying22
  match cs', hl with
  | [u, v], _ =>
    simp at ha hb
    subst ha hb
    exact ⟨(a, b), rfl, u64_bounds wb⟩
theorem open_ints {v : Value} {d : DataW H} {p : List MemPlace} {b0 : Nat} (hv : Value.okWide Tryd.prog w .any b0 50 v) (h : DataW.Trod enc Tryd.prog w base spare held 50 v d p) :
    ∃ (A : Option Addr) (n c : Nat) (es : List Int), v = .slice A n c ∧ n ≤ c ∧ c ≤ 9223372036854775807 ∧ es.length = n ∧ Rd w w.heap.size 1 A n (Cs encI es) ∧ (∀ e ∈ es, I64 e) := by
  obtain ⟨a2, l2, k2, rfl⟩ := okWide_slice Tryd.underlying50 hv
  obtain ⟨f2, h2⟩ := h
  obtain ⟨A2, n2, c2, xs2, e2, hn2, hm2, hx2, hr2, hw2⟩ := open_rd Tryd.underlying50 (by kernel_rfl) (by omega) decI h2
  simp only [Value.cells, List.cons.injEq, Value.slice.injEq, and_true] at e2
  obtain ⟨rfl, rfl, rfl⟩ := e2
  exact ⟨_, _, _, xs2, rfl, hn2, by unfold maxLen at hm2; omega, hx2, hr2, hw2⟩
theorem open_ents {v : Value} {d : DataW H} {p : List MemPlace} {b0 : Nat} (hv : Value.okWide Tryd.prog w .any b0 23 v) (h : DataW.Trod enc Tryd.prog w base spare held 23 v d p) :
    ∃ (A : Option Addr) (n c : Nat) (es : List Ent), v = .slice A n c ∧ n ≤ c ∧ c ≤ 9223372036854775807 ∧ es.length = n ∧ Rd w w.heap.size 2 A n (Cs encE es) ∧ (∀ e ∈ es, 0 ≤ e.2 ∧ e.2 < 18446744073709551616) := by
  obtain ⟨a2, l2, k2, rfl⟩ := okWide_slice Tryd.underlying23 hv
  obtain ⟨f2, h2⟩ := h
  obtain ⟨A2, n2, c2, xs2, e2, hn2, hm2, hx2, hr2, hw2⟩ := open_rd Tryd.underlying23 (by kernel_rfl) (by omega) decEn h2
  simp only [Value.cells, List.cons.injEq, Value.slice.injEq, and_true] at e2
  obtain ⟨rfl, rfl, rfl⟩ := e2
  exact ⟨_, _, _, xs2, rfl, hn2, by unfold maxLen at hm2; omega, hx2, hr2, hw2⟩
/-- A function of three places. -/
def of3 {α : Type} (a b c : α) (k : Nat) : α := if k = 0 then a else if k = 1 then b else c
theorem open_limbo {v : Value} {d : DataW H} {p : List MemPlace} {b0 : Nat} (hv : Value.okWide Tryd.prog w .any b0 26 v) (h : DataW.Trod enc Tryd.prog w base spare held 26 v d p) :
    ∃ (l : Lim) (A : Nat → Option Addr) (n c : Nat → Nat), v = .agg (limC l.E A n c) ∧ (∀ k, k < 3 → (n k : Int) ≤ (c k : Int) ∧ (c k : Int) ≤ 9223372036854775807) ∧ LimRd w w.heap.size A n l.r ∧ l.E < 18446744073709551616 ∧ GenOk l := by
  obtain ⟨cs, rfl, hsz⟩ := okWide_struct Tryd.underlying26 hv
  obtain ⟨fuel, hf⟩ := h
  have hl : (Value.agg cs).cells.toList.length = 4 := by
    have : Tryd.prog.cellsOf 26 = 4 := by kernel_rfl
    simp [Value.cells]; omega
  obtain ⟨l⟩ := cs
  have hl4 : l.length = 4 := by simpa [Value.cells] using hl
  match l, hl4 with
  | [u0, u1, u2, u3], _ =>
    obtain ⟨y0, y1, n', hx, _, h0, h1⟩ := trod_struct2 Tryd.underlying26 hf
    have c1 : Tryd.prog.cellsOf 22 = 1 := by kernel_rfl
    have c3 : Tryd.prog.cellsOf 24 = 3 := by kernel_rfl
    simp only [Value.cells, c1, c3] at h0 h1
    have h0' : DataW.trod enc Tryd.prog w base spare held n' 22 [u0] = some y0 := by simpa [c1] using h0
    have h1' : DataW.trod enc Tryd.prog w base spare held n' 24 [u1, u2, u3] = some y1 := by simpa [c1, c3] using h1
    obtain ⟨z, hz, hw⟩ := dec_int (k := .u64) Tryd.underlying22 (cs' := [u0]) rfl h0'
    simp at hz
    subst hz
    obtain ⟨z0, z1⟩ := u64_bounds hw
    obtain ⟨E, rfl⟩ : ∃ E : Nat, z = (E : Int) := ⟨z.toNat, by omega⟩
    obtain ⟨q0, q1, q2, m, _, t0, t1, t2⟩ := trod_array3 Tryd.underlying24 (by kernel_rfl) h1'
    obtain ⟨A0, n0, k0, x0, e0, hn0, hm0, hx0, hr0, hw0⟩ := open_rd Tryd.underlying23 (by kernel_rfl) (by omega) decEn t0
    obtain ⟨A1, n1, k1, x1, e1, hn1, hm1, hx1, hr1, hw1⟩ := open_rd Tryd.underlying23 (by kernel_rfl) (by omega) decEn t1
    obtain ⟨A2, n2, k2, x2, e2, hn2, hm2, hx2, hr2, hw2⟩ := open_rd Tryd.underlying23 (by kernel_rfl) (by omega) decEn t2
    simp only [List.cons.injEq, and_true] at e0 e1 e2
    subst e0 e1 e2
    unfold maxLen at hm0 hm1 hm2
    have three : ∀ {C : Nat → Prop}, C 0 → C 1 → C 2 → ∀ k, k < 3 → C k := fun a b c k hk => by
      match k, hk with
      | 0, _ => exact a
      | 1, _ => exact b
      | 2, _ => exact c
    refine ⟨⟨E, of3 x0 x1 x2⟩, of3 A0 A1 A2, of3 n0 n1 n2, of3 k0 k1 k2, rfl, three ⟨?_, ?_⟩ ⟨?_, ?_⟩ ⟨?_, ?_⟩, ⟨three hr0 hr1 hr2, three hx0 hx1 hx2⟩, by show E < _; omega, three hw0 hw1 hw2⟩
    all_goals (simp only [of3]; first | (simp; omega) | omega)
/-- An entry of the datum. -/
theorem datE {n : Nat} {cs' : List Value} {a b : Int} {pl : List MemPlace} (hl : cs'.length = 2) (h : DataW.trod enc Tryd.prog w base spare held n 34 cs' = some (.agg [.lit (.int .i64 a), .lit (.int .u64 b)], pl)) : cs' = encE (a, b) := by
  obtain ⟨y0, y1, n', hx, _, h0, h1⟩ := trod_struct2 Tryd.underlying34 h
  obtain ⟨x, e0, d0, _⟩ := DataW.trod_int (k := .i64) Tryd.underlying3 h0
  obtain ⟨y, e1, d1, _⟩ := DataW.trod_int (k := .u64) Tryd.underlying22 h1
  subst d0
  subst d1
  simp only [Prod.mk.injEq, DataW.agg.injEq, List.cons.injEq, DataW.lit.injEq, Lit.int.injEq, true_and, and_true] at hx
  obtain ⟨⟨rfl, rfl⟩, _⟩ := hx
  match cs', hl with
  | [u, v], _ =>
    have c1 : Tryd.prog.cellsOf 3 = 1 := by kernel_rfl
    have c2 : Tryd.prog.cellsOf 22 = 1 := by kernel_rfl
    simp only [c1, c2] at e0 e1
    simp at e0 e1
    subst e0
    subst e1
    rfl
end
abbrev laid1 : List (String × DataW Unit) := [("honeycomb/honeycomblaw14.on", Rows.laid_honeycomb_honeycomblaw14_on)]
theorem gOn : Tryd.prog.globalNamed "honeycomb/honeycomblaw14.on" = some 0 := by kernel_rfl
theorem tOn : (Tryd.prog.globals[0]?).map (·.type) = some 34 := by kernel_rfl
/-- The door's own heap meets the condition. -/
theorem door_met (os : Os) (args : Array Value) : laidMetH Tryd.prog laid1 ((World.doorLaid Tryd.prog 400 os).forCall (fun _ _ => 0) ⟨#[], args, []⟩).memory :=
  laidMetH_of_parts3 (fuel := 8) (laidMet_of_run' 8 (by kernel_rfl) (by kernel_rfl)) (by kernel_rfl) (by kernel_rfl)
/-- What the condition gives the walks. -/
theorem of_laid {W : World} (h : laidMetH Tryd.prog laid1 W) : OnAt W W.heap.size := by
  rw [MakeChecks.laidMetH_plain _ _ _ (by kernel_rfl)] at h
  obtain ⟨ps, ⟨g0, t0, cs0, f0, p0, q0, hg0, ht0, hv0, hd0, _⟩, _, _⟩ := h
  obtain rfl := Option.some.inj (gOn.symm.trans hg0)
  obtain rfl := Option.some.inj (tOn.symm.trans ht0)
  have hl : cs0.toList.length = 2 := by
    obtain ⟨_, _, _, _, hh, _⟩ := trod_struct2 Tryd.underlying34 hd0
    have c2 : Tryd.prog.cellsOf 34 = 2 := by kernel_rfl
    rw [c2] at hh
    exact hh
  have he := datE hl hd0
  have a0 : W.cell? ⟨0, 0, none⟩ = some (.int .i64 (-1)) := by
    have := World.var?_cell hg0 hv0 0
    rw [this, ← Array.getElem?_toList, he]; rfl
  have a1 : W.cell? ⟨0, 1, none⟩ = some (.int .u64 0) := by
    have := World.var?_cell hg0 hv0 1
    rw [this, ← Array.getElem?_toList, he]; rfl
  exact ⟨a0, a1, cell_lt a0⟩
end Go.Proofs.YthnpcmigphpolaaDoor
