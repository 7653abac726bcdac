/-
  Arguments opened: sections, looks, rows of numbers; what the row says of the package's variable; the door's own heap.
-/
import Derived.Test.YtegnppmmcchmgaaDoorOpen
import Derived.Test.YtegnppmmcchmgaaDoorGum
import Derived.LaidMore
import Derived.OpenShut
import Derived.Stop.Joined
set_option linter.unusedVariables false
set_option linter.unusedSimpArgs false
namespace Go.Proofs.YtegnppmmcchmgaaDoor
open Go Go.RowKit Go.WideShapes Go.ChangeShapes Go.ChangeAt Go.Joins Go.Deep

section
variable {H : Type} {enc : TypeId × Value → H} {w : World} {base : Nat} {spare : Nat → Bool} {held : Bool}
theorem decI (n : Nat) (cs' : List Value) (y : DataW H × List MemPlace) (hl : cs'.length = 1) (h : DataW.trod enc Tryd.prog w base spare held n 3 cs' = some y) : ∃ z : Int, cs' = encI z ∧ I64 z := by
  obtain ⟨x, hx, hw⟩ := dec_int Tryd.underlying3 hl h
  exact ⟨x, by simpa [encI] using hx, i64_bounds hw⟩
theorem decW (n : Nat) (cs' : List Value) (y : DataW H × List MemPlace) (hl : cs'.length = 1) (h : DataW.trod enc Tryd.prog w base spare held n 27 cs' = some y) : ∃ z : Int, cs' = encW z ∧ U64 z := by
  obtain ⟨x, hx, hw⟩ := dec_int Tryd.underlying27 hl h
  exact ⟨x, by simpa [encW] using hx, u64_bounds hw⟩
theorem decS (n : Nat) (cs' : List Value) (y : DataW H × List MemPlace) (hl : cs'.length = 2) (h : DataW.trod enc Tryd.prog w base spare held n 33 cs' = some y) : ∃ z : Int × Int, cs' = encS z ∧ (I64 z.1 ∧ I64 z.2) := by
  obtain ⟨a, ha, wa⟩ := dec_field_int Tryd.underlying33 (by kernel_rfl) hl h 0 _ rfl Tryd.underlying3
  obtain ⟨b, hb, wb⟩ := dec_field_int Tryd.underlying33 (by kernel_rfl) hl h 1 _ rfl Tryd.underlying3
  match cs', hl with
  | [u, v], _ =>
    simp at ha hb
    subst ha hb
    exact ⟨(a, b), rfl, i64_bounds wa, i64_bounds wb⟩
theorem decL (n : Nat) (cs' : List Value) (y : DataW H × List MemPlace) (hl : cs'.length = 2) (h : DataW.trod enc Tryd.prog w base spare held n 23 cs' = some y) : ∃ z : Int × Int, cs' = encS z ∧ (I64 z.1 ∧ I64 z.2) := by
  obtain ⟨a, ha, wa⟩ := dec_field_int Tryd.underlying23 (by kernel_rfl) hl h 0 _ rfl Tryd.underlying3
  obtain ⟨b, hb, wb⟩ := dec_field_int Tryd.underlying23 (by kernel_rfl) hl h 1 _ rfl Tryd.underlying3
  match cs', hl with
  | [u, v], _ =>
    simp at ha hb
    subst ha hb
    exact ⟨(a, b), rfl, i64_bounds wa, i64_bounds wb⟩
theorem open_ints {v : Value} {d : DataW H} {p : List MemPlace} {b0 : Nat} (hv : Value.okWide Tryd.prog w .any b0 42 v) (h : DataW.Trod enc Tryd.prog w base spare held 42 v d p) :
    ∃ (A : Option Addr) (n c : Nat) (es : List Int), v = .slice A n c ∧ n ≤ c ∧ c ≤ 9223372036854775807 ∧ es.length = n ∧ Rd w w.heap.size 1 A n (Cs encI es) ∧ (∀ e ∈ es, I64 e) := by
  obtain ⟨a2, l2, k2, rfl⟩ := okWide_slice Tryd.underlying42 hv
  obtain ⟨f2, h2⟩ := h
  obtain ⟨A2, n2, c2, xs2, e2, hn2, hm2, hx2, hr2, hw2⟩ := open_rd Tryd.underlying42 (by kernel_rfl) (by omega) decI h2
  simp only [Value.cells, List.cons.injEq, Value.slice.injEq, and_true] at e2
  obtain ⟨rfl, rfl, rfl⟩ := e2
  exact ⟨_, _, _, xs2, rfl, hn2, by unfold maxLen at hm2; omega, hx2, hr2, hw2⟩
theorem open_words {v : Value} {d : DataW H} {p : List MemPlace} {b0 : Nat} (hv : Value.okWide Tryd.prog w .any b0 41 v) (h : DataW.Trod enc Tryd.prog w base spare held 41 v d p) :
    ∃ (A : Option Addr) (n c : Nat) (es : List Int), v = .slice A n c ∧ n ≤ c ∧ c ≤ 9223372036854775807 ∧ es.length = n ∧ Rd w w.heap.size 1 A n (Cs encW es) ∧ (∀ e ∈ es, U64 e) := by
  obtain ⟨a2, l2, k2, rfl⟩ := okWide_slice Tryd.underlying41 hv
  obtain ⟨f2, h2⟩ := h
  obtain ⟨A2, n2, c2, xs2, e2, hn2, hm2, hx2, hr2, hw2⟩ := open_rd Tryd.underlying41 (by kernel_rfl) (by omega) decW h2
  simp only [Value.cells, List.cons.injEq, Value.slice.injEq, and_true] at e2
  obtain ⟨rfl, rfl, rfl⟩ := e2
  exact ⟨_, _, _, xs2, rfl, hn2, by unfold maxLen at hm2; omega, hx2, hr2, hw2⟩
theorem open_secs {v : Value} {d : DataW H} {p : List MemPlace} {b0 : Nat} (hv : Value.okWide Tryd.prog w .any b0 26 v) (h : DataW.Trod enc Tryd.prog w base spare held 26 v d p) :
    ∃ (A : Option Addr) (n c : Nat) (es : List (Int × Int)), v = .slice A n c ∧ n ≤ c ∧ c ≤ 9223372036854775807 ∧ es.length = n ∧ Rd w w.heap.size 2 A n (Cs encS es) ∧ (∀ e ∈ es, I64 e.1 ∧ I64 e.2) := by
  obtain ⟨a2, l2, k2, rfl⟩ := okWide_slice Tryd.underlying26 hv
  obtain ⟨f2, h2⟩ := h
  obtain ⟨A2, n2, c2, xs2, e2, hn2, hm2, hx2, hr2, hw2⟩ := open_rd Tryd.underlying26 (by kernel_rfl) (by omega) decS h2
  simp only [Value.cells, List.cons.injEq, Value.slice.injEq, and_true] at e2
  obtain ⟨rfl, rfl, rfl⟩ := e2
  exact ⟨_, _, _, xs2, rfl, hn2, by unfold maxLen at hm2; omega, hx2, hr2, hw2⟩
theorem open_looks {v : Value} {d : DataW H} {p : List MemPlace} {b0 : Nat} (hv : Value.okWide Tryd.prog w .any b0 50 v) (h : DataW.Trod enc Tryd.prog w base spare held 50 v d p) :
    ∃ (A : Option Addr) (n c : Nat) (es : List (Int × Int)), v = .slice A n c ∧ n ≤ c ∧ c ≤ 9223372036854775807 ∧ es.length = n ∧ Rd w w.heap.size 2 A n (Cs encS es) ∧ (∀ e ∈ es, I64 e.1 ∧ I64 e.2) := by
  obtain ⟨a2, l2, k2, rfl⟩ := okWide_slice Tryd.underlying50 hv
  obtain ⟨f2, h2⟩ := h
  obtain ⟨A2, n2, c2, xs2, e2, hn2, hm2, hx2, hr2, hw2⟩ := open_rd Tryd.underlying50 (by kernel_rfl) (by omega) decL h2
  simp only [Value.cells, List.cons.injEq, Value.slice.injEq, and_true] at e2
  obtain ⟨rfl, rfl, rfl⟩ := e2
  exact ⟨_, _, _, xs2, rfl, hn2, by unfold maxLen at hm2; omega, hx2, hr2, hw2⟩
theorem open_num {v : Value} {d : DataW H} {p : List MemPlace} {b0 : Nat} (hv : Value.okWide Tryd.prog w .any b0 3 v) (h : DataW.Trod enc Tryd.prog w base spare held 3 v d p) : ∃ x : Int, v = .int .i64 x ∧ I64 x := by
  obtain ⟨x, rfl, _, _, wx⟩ := open_int Tryd.underlying3 hv h
  exact ⟨x, rfl, i64_bounds wx⟩
theorem open_look {v : Value} {d : DataW H} {p : List MemPlace} {b0 : Nat} (hv : Value.okWide Tryd.prog w .any b0 23 v) (h : DataW.Trod enc Tryd.prog w base spare held 23 v d p) : ∃ k : Int × Int, v = .agg #[.int .i64 k.1, .int .i64 k.2] ∧ I64 k.1 ∧ I64 k.2 := by
  obtain ⟨cs, rfl, hsz⟩ := okWide_struct Tryd.underlying23 hv
  obtain ⟨fuel, hf⟩ := h
  have hl : (Value.agg cs).cells.toList.length = 2 := by
    have : Tryd.prog.cellsOf 23 = 2 := by kernel_rfl
    simp [Value.cells]; omega
  obtain ⟨z, hz, h1, h2⟩ := decL _ _ _ hl (by simpa [Value.cells] using hf)
  refine ⟨z, ?_, h1, h2⟩
  obtain ⟨l⟩ := cs
  simp [Value.cells, encS] at hz
  rw [hz]
/-- A pair of the datum. -/
theorem datS {n : Nat} {cs' : List Value} {a b : Int} {pl : List MemPlace} (hl : cs'.length = 2) (h : DataW.trod enc Tryd.prog w base spare held n 33 cs' = some (.agg [.lit (.int .i64 a), .lit (.int .i64 b)], pl)) : cs' = encS (a, b) := by
  obtain ⟨y0, y1, n', hx, _, h0, h1⟩ := trod_struct2 Tryd.underlying33 h
  obtain ⟨x, e0, d0, _⟩ := DataW.trod_int (k := .i64) Tryd.underlying3 h0
  obtain ⟨y, e1, d1, _⟩ := DataW.trod_int (k := .i64) Tryd.underlying3 h1
  subst d0
  subst d1
  simp only [Prod.mk.injEq, DataW.agg.injEq, List.cons.injEq, DataW.lit.injEq, Lit.int.injEq, true_and, and_true] at hx
  obtain ⟨⟨rfl, rfl⟩, _⟩ := hx
  match cs', hl with
  | [u, v], _ =>
    have c1 : Tryd.prog.cellsOf 3 = 1 := by kernel_rfl
    simp only [c1] at e0 e1
    simp at e0 e1
    subst e0
    subst e1
    rfl
end
abbrev laid1 : List (String × DataW Unit) := [("honeycomb/honeycomblaw06.two", Rows.laid_honeycomb_honeycomblaw06_two)]
theorem gTwo : Tryd.prog.globalNamed "honeycomb/honeycomblaw06.two" = some 0 := by kernel_rfl
theorem tTwo : (Tryd.prog.globals[0]?).map (·.type) = some 26 := by kernel_rfl
/-- The door's own heap meets the condition. -/
theorem door_met (os : Os) (args : Array Value) : laidMetH Tryd.prog laid1 ((World.doorLaid Tryd.prog 400 os).forCall (fun _ _ => 0) ⟨#[], args, []⟩).memory :=
  laidMetH_of_parts3 (fuel := 8) (laidMet_of_run' 8 (by kernel_rfl) (by kernel_rfl)) (by kernel_rfl) (by kernel_rfl)
/-- What the condition gives the walks. -/
theorem of_laid {W : World} (h : laidMetH Tryd.prog laid1 W) : TwoAt W W.heap.size := by
  rw [MakeChecks.laidMetH_plain _ _ _ (by kernel_rfl)] at h
  obtain ⟨ps, ⟨g0, t0, cs0, f0, p0, q0, hg0, ht0, hv0, hd0, _⟩, _, _⟩ := h
  obtain rfl := Option.some.inj (gTwo.symm.trans hg0)
  obtain rfl := Option.some.inj (tTwo.symm.trans ht0)
  obtain ⟨A, n, c, xs, e0, hn, hm, hx, hr, _⟩ := open_rd (en := encS) (sz := 2) (wf := fun _ => True) Tryd.underlying26 (by kernel_rfl) (by omega) (fun n cs y hl h => by
    obtain ⟨z, hz, _⟩ := decS n cs y hl h
    exact ⟨z, hz, trivial⟩) hd0
  have hcell : W.cell? ⟨0, 0, none⟩ = some (.slice A n c) := by
    have := World.var?_cell hg0 hv0 0
    rw [Array.eq_one_of_toList e0] at this
    simpa using this
  have hlt : 0 < W.heap.size := cell_lt hcell
  rcases open_slice Tryd.underlying26 hd0 with ⟨_, hx0⟩ | ⟨a, len, cap, m, n', D, Pl, e1, _, _, _, hmm, hxe, hi⟩
  · cases hx0
  · rw [e0] at e1
    simp only [List.cons.injEq, Value.slice.injEq, and_true] at e1
    obtain ⟨rfl, rfl, rfl⟩ := e1
    have hD := congrArg Prod.fst hxe
    simp only [Rows.laid_honeycomb_honeycomblaw06_two, DataW.slice.injEq] at hD
    have hlen : n = 2 := by
      have := congrArg List.length hD.1
      simpa using this.symm
    subst hlen
    have hm2 : 2 ≤ m := by rw [hmm]; split <;> omega
    have hD0 : D 0 = .agg [.lit (.int .i64 3), .lit (.int .i64 5)] := by
      have := hD.1
      simp [List.range_succ] at this
      exact this.1.symm
    have hD1 : D 1 = .agg [.lit (.int .i64 8), .lit (.int .i64 0)] := by
      have := hD.1
      simp [List.range_succ] at this
      exact this.2.symm
    have c2 : Tryd.prog.cellsOf 33 = 2 := by kernel_rfl
    have each : ∀ i (hi2 : i < 2) (u v : Int), D i = .agg [.lit (.int .i64 u), .lit (.int .i64 v)] → xs[i]'(by omega) = (u, v) := fun i hi2 u v hDi => by
      obtain ⟨cs', hc, ht⟩ := hi i (by omega)
      rw [hDi] at ht
      obtain ⟨_, hcl, hat⟩ := World.cells?_some hc
      rw [c2] at hcl hat
      have hcs := datS hcl ht
      subst hcs
      have hr' : Rd W W.heap.size 2 (some a) xs.length (Cs encS xs) := by rw [hx]; exact hr
      obtain ⟨b, o, hA, _, d0, d1⟩ := hr'.sec (k := i) (by omega)
      injection hA with hA
      subst hA
      have a0 := hat 0 (by omega)
      have a1 := hat 1 (by omega)
      simp only [Addr.add_lit, encS, List.getElem?_cons_zero, List.getElem?_cons_succ, Nat.add_zero] at a0 a1
      rw [d0] at a0
      rw [d1] at a1
      simp only [Option.some.injEq, Value.int.injEq, true_and] at a0 a1
      rw [← a0, ← a1]
    have hxs : xs = [(3, 5), (8, 0)] := by
      have e0 := each 0 (by omega) 3 5 hD0
      have e1 := each 1 (by omega) 8 0 hD1
      clear each hr
      match xs, hx, e0, e1 with
      | [x, y], _, e0, e1 =>
        simp only [List.getElem_cons_zero, List.getElem_cons_succ] at e0 e1
        rw [e0, e1]
    subst hxs
    exact ⟨⟨_, c, hcell, hr⟩, hlt⟩
end Go.Proofs.YtegnppmmcchmgaaDoor
