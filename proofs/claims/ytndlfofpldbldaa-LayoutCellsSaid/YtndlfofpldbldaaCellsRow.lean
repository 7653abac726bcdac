/-
  LayoutCells answers true for every row of pairs of numbers, of entries and of words, and leaves its arguments as they were. No condition.
-/
import Derived.Test.YtndlfofpldbldaaOpen
import Derived.Test.YtndlfofpldbldaaCells
namespace Go.Proofs.Ytndlfofpldbldaa
open Go Go.RowKit Go.WideShapes Go.ChangeShapes Go.ChangeAt Go.Joins
set_option linter.unusedVariables false

section
variable {H : Type} {enc : TypeId × Value → H} {w : World} {base : Nat} {spare : Nat → Bool} {held : Bool}
theorem decII (n : Nat) (cs' : List Value) (y : DataW H × List MemPlace) (hl : cs'.length = 2) (h : DataW.trod enc Try.prog w base spare held n 26 cs' = some y) : ∃ z : Int × Int, cs' = encII z ∧ (I64 z.1 ∧ I64 z.2) := by
  obtain ⟨a, ha, wa⟩ := dec_array_int Try.underlying26 (by kernel_rfl) Try.underlying3 hl h 0 (by omega)
  obtain ⟨b, hb, wb⟩ := dec_array_int Try.underlying26 (by kernel_rfl) Try.underlying3 hl h 1 (by omega)
  match cs', hl with
  | [u, v], _ =>
    simp at ha hb
    subst ha hb
    exact ⟨(a, b), rfl, i64_bounds wa, i64_bounds wb⟩
theorem decE (n : Nat) (cs' : List Value) (y : DataW H × List MemPlace) (hl : cs'.length = 2) (h : DataW.trod enc Try.prog w base spare held n 36 cs' = some y) : ∃ z : Int × Int, cs' = encE z ∧ (I64 z.1 ∧ U64 z.2) := by
  obtain ⟨a, ha, wa⟩ := dec_field_int Try.underlying36 (by kernel_rfl) hl h 0 _ rfl Try.underlying3
  obtain ⟨b, hb, wb⟩ := dec_field_int Try.underlying36 (by kernel_rfl) hl h 1 _ rfl Try.underlying34
  match cs', hl with
  | [u, v], _ =>
    simp at ha hb
    subst ha hb
    exact ⟨(a, b), rfl, i64_bounds wa, u64_bounds wb⟩
theorem decW (n : Nat) (cs' : List Value) (y : DataW H × List MemPlace) (hl : cs'.length = 1) (h : DataW.trod enc Try.prog w base spare held n 34 cs' = some y) : ∃ z : Int, cs' = encW z ∧ U64 z := by
  obtain ⟨a, ha, wa⟩ := dec_int Try.underlying34 hl h
  exact ⟨a, ha, u64_bounds wa⟩
end

set_option maxRecDepth 100000 in
theorem cells_lifted (os : Os) (started : os.Started) (H : Type) (enc : TypeId × Value → H) :
    ReturnsInHanded {} Try.checked os 3 .any (Rows.layoutCellsSpec.pre6 enc Try.prog Try.f3 Rows.layoutCellsRow.domain false) (Rows.layoutCellsSpec.post enc Try.prog Try.f3 false true false false) := by
  refine returnsInHanded_of_change (C := Try.checked) own_knob started (by kernel_rfl) Try.func3
    (ChangeSpec.witness6 (enc := enc) (C := Try.checked) false ⟨#[], #[.slice none 0 0, .slice none 0 0, .slice none 0 0], []⟩ 8 (by kernel_rfl) (by kernel_rfl) (by kernel_rfl) (by kernel_rfl)) ?_
  intro W base args ds gs before hval0 hW hcnd _
  have hval : ∀ (j : Nat) t v, Try.f3.params[j]? = some t → args[j]? = some v → Value.okWide Try.prog W .any base t v := hval0
  have hW' := hW
  obtain ⟨p, q, hA0, hV, rfl, hfz, hnd⟩ := hW
  have hA : DataW.TrodAll enc Try.prog W 0 (fun _ => true) true Try.f3.params.toList args.toList ds p := hA0
  rw [Try.params3] at hA hval
  obtain ⟨v0, v1, v2, d0, d1, d2, p0, p1, p2, rfl, rfl, rfl, h0, h1, h2⟩ := trodAll_three hA
  obtain ⟨a0, l0, k0, rfl⟩ := okWide_slice Try.underlying22 (hval 0 22 v0 rfl rfl)
  obtain ⟨a1, l1, k1, rfl⟩ := okWide_slice Try.underlying23 (hval 1 23 v1 rfl rfl)
  obtain ⟨a2, l2, k2, rfl⟩ := okWide_slice Try.underlying24 (hval 2 24 v2 rfl rfl)
  obtain ⟨f0, h0⟩ := h0
  obtain ⟨f1, h1⟩ := h1
  obtain ⟨f2, h2⟩ := h2
  obtain ⟨A0, n0, c0, xs0, e0, hn0, hm0, hx0, hr0, hw0⟩ := open_rd Try.underlying22 (by kernel_rfl) (by omega) decII h0
  obtain ⟨A1, n1, c1, xs1, e1, hn1, hm1, hx1, hr1, hw1⟩ := open_rd Try.underlying23 (by kernel_rfl) (by omega) decE h1
  obtain ⟨A2, n2, c2, xs2, e2, hn2, hm2, hx2, hr2, hw2⟩ := open_rd Try.underlying24 (by kernel_rfl) (by omega) decW h2
  simp only [Value.cells, List.cons.injEq, Value.slice.injEq, and_true] at e0 e1 e2
  obtain ⟨rfl, rfl, rfl⟩ := e0
  obtain ⟨rfl, rfl, rfl⟩ := e1
  obtain ⟨rfl, rfl, rfl⟩ := e2
  subst hx0 hx1 hx2
  clear hA0 hval0
  refine (Cells_walk a0 a1 a2 k0 k1 k2 xs0 xs1 xs2 W hr0 hr1 hr2 hw0 hw1 hw2 (by omega) (by omega) (by omega)).mono fun e W' ⟨he, hb⟩ => ?_
  subst he
  exact ⟨_, rfl, law_done laid_out hW' rfl (fun ds' h => by match ds', h with | [x, y, z], _ => rfl) rfl (by rw [Try.params3]; decide +kernel) hb (fun _ _ _ => trodAll_mk1 (shut_bool Try.underlying4 true)) (ok_one (by kernel_rfl) rfl (okWide_bool_mk Try.underlying4 true))⟩

theorem layoutCells_holds : Rows.LayoutCellsSaid :=
  OpenClaim.holds_of_wide 3 Try.f3 rfl rfl rfl rfl rfl rfl rfl ⟨rfl, rfl, rfl, rfl, rfl⟩ rfl rfl rfl rfl rfl (by kernel_rfl) Try.func3 (by kernel_rfl)
    (of_decide_eq_true (by kernel_rfl)) (by unfold Func.isWrapper; first | (rw [if_pos (by decide +kernel)]; kernel_rfl) | (rw [if_neg (by decide +kernel)]; exact ⟨rfl, rfl⟩))
    (fun os started H enc _ => cells_lifted os started H enc)
end Go.Proofs.Ytndlfofpldbldaa
