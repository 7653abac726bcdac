/-
  LayoutWords answers true for every table, directory, and row of words, and leaves its arguments as they were. No condition.
-/
import Derived.Test.YtndlfofpldbldaaTablesRow
import Derived.Test.YtndlfofpldbldaaWords
namespace Go.Proofs.Ytndlfofpldbldaa
open Go Go.RowKit Go.WideShapes Go.ChangeShapes Go.ChangeAt Go.Joins
set_option linter.unusedVariables false
set_option linter.unusedSimpArgs false

section
variable {H : Type} {enc : TypeId × Value → H} {w : World} {base : Nat} {spare : Nat → Bool} {held : Bool}
theorem decEd (n : Nat) (cs' : List Value) (y : DataW H × List MemPlace) (hl : cs'.length = 2) (h : DataW.trod enc Try.prog w base spare held n 36 cs' = some y) : ∃ z : Int × Int, cs' = encE z ∧ U64 z.2 := by
  obtain ⟨a, ha, wa⟩ := dec_field_int Try.underlying36 (by kernel_rfl) hl h 0 _ rfl Try.underlying3
  obtain ⟨b, hb, wb⟩ := dec_field_int Try.underlying36 (by kernel_rfl) hl h 1 _ rfl Try.underlying34
  match cs', hl with
  | [u, v], _ =>
    simp at ha hb
    subst ha hb
    exact ⟨(a, b), rfl, u64_bounds wb⟩
set_option maxRecDepth 100000 in
/-- A directory that came in: its depth, and its entries as a row that reads as a list. -/
theorem open_dir {v : Value} {d : DataW H} {p : List MemPlace} {b0 : Nat} (hv : Value.okWide Try.prog w .any b0 49 v) (h : DataW.Trod enc Try.prog w base spare held 49 v d p) :
    ∃ (dep : Int) (A : Option Addr) (n c : Nat) (es : List (Int × Int)), v = .agg #[.int .i64 dep, .slice A n c] ∧ n ≤ c ∧ c ≤ maxLen ∧ es.length = n ∧ Rd w w.heap.size 2 A n (Cs encE es) ∧ (∀ e ∈ es, U64 e.2) ∧ I64 dep := by
  obtain ⟨c0, c1, y0, y1, m, rfl, _, _, hy0, hy1⟩ := open_agg2 (P := Try.prog) (w := w) (r := .any) (b0 := b0) (t := 49) (v := v) Try.underlying49 (by kernel_rfl) (by kernel_rfl) hv h
  obtain ⟨s, e0, _, ws⟩ := DataW.trod_int Try.underlying3 hy0
  obtain ⟨A, n, c, es, e1, hn, hm, hx, hr, hw⟩ := open_rd Try.underlying23 (by kernel_rfl) (by omega) decEd hy1
  simp at e0 e1
  subst e0 e1
  exact ⟨s, A, n, c, es, rfl, hn, hm, hx, hr, hw, i64_bounds ws⟩
end

set_option maxRecDepth 100000 in
theorem words_lifted (os : Os) (started : os.Started) (H : Type) (enc : TypeId × Value → H) :
    ReturnsInHanded {} Try.checked os 8 .any (Rows.layoutWordsSpec.pre6 enc Try.prog Try.f8 Rows.layoutWordsRow.domain false) (Rows.layoutWordsSpec.post enc Try.prog Try.f8 false true false false) := by
  refine returnsInHanded_of_change (C := Try.checked) own_knob started (by kernel_rfl) Try.func8
    (ChangeSpec.witness6 (enc := enc) (C := Try.checked) false ⟨#[], #[.agg zeroT.toArray, .agg #[.int .i64 0, .slice none 0 0], .slice none 0 0], []⟩ 8 (by kernel_rfl) (by kernel_rfl) (by kernel_rfl) (by kernel_rfl)) ?_
  intro W base args ds gs before hval0 hW hcnd _
  have hval : ∀ (j : Nat) t v, Try.f8.params[j]? = some t → args[j]? = some v → Value.okWide Try.prog W .any base t v := hval0
  have hW' := hW
  obtain ⟨p, q, hA0, hV, rfl, hfz, hnd⟩ := hW
  have hA : DataW.TrodAll enc Try.prog W 0 (fun _ => true) true Try.f8.params.toList args.toList ds p := hA0
  rw [Try.params8] at hA hval
  obtain ⟨v0, v1, v2, d0, d1, d2, p0, p1, p2, rfl, rfl, rfl, h0, h1, h2⟩ := trodAll_three hA
  obtain ⟨X, n, dd, pp, c, l, ys, rfl, hT⟩ := open_tab (hval 0 55 v0 rfl rfl) h0
  obtain ⟨dep, A1, n1, c1, es, rfl, hn1, hm1, hx1, hr1, hw1, _⟩ := open_dir (hval 1 49 v1 rfl rfl) h1
  obtain ⟨a2, l2, k2, rfl⟩ := okWide_slice Try.underlying24 (hval 2 24 v2 rfl rfl)
  obtain ⟨f2, h2⟩ := h2
  obtain ⟨A2, n2, c2, xs2, e2, hn2, hm2, hx2, hr2, hw2⟩ := open_rd Try.underlying24 (by kernel_rfl) (by omega) decWt h2
  simp only [Value.cells, List.cons.injEq, Value.slice.injEq, and_true] at e2
  obtain ⟨rfl, rfl, rfl⟩ := e2
  subst hx1 hx2
  clear hA0 hval0
  unfold maxLen at hm1 hm2
  refine (Words_walk X n dd pp c l ys hT A1 a2 c1 k2 dep es xs2 W hr1 hr2 hw1 hw2 hn1 hn2 (by omega) (by omega)).mono fun e W' ⟨he, hb⟩ => ?_
  subst he
  exact ⟨_, rfl, law_done laid_out hW' rfl (fun ds' h => by match ds', h with | [x, y, z], _ => rfl) rfl (by rw [Try.params8]; decide +kernel) hb (fun _ _ _ => trodAll_mk1 (shut_bool Try.underlying4 true)) (ok_one (by kernel_rfl) rfl (okWide_bool_mk Try.underlying4 true))⟩

theorem layoutWords_holds : Rows.LayoutWordsSaid :=
  OpenClaim.holds_of_wide 8 Try.f8 rfl rfl rfl rfl rfl rfl rfl ⟨rfl, rfl, rfl, rfl, rfl⟩ rfl rfl rfl rfl rfl (by kernel_rfl) Try.func8 (by kernel_rfl)
    (of_decide_eq_true (by kernel_rfl)) (by unfold Func.isWrapper; first | (rw [if_pos (by decide +kernel)]; kernel_rfl) | (rw [if_neg (by decide +kernel)]; exact ⟨rfl, rfl⟩))
    (fun os started H enc _ => words_lifted os started H enc)
end Go.Proofs.Ytndlfofpldbldaa
