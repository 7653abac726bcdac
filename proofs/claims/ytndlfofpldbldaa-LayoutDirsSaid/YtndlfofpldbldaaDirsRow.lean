/-
  LayoutDirs answers true for every two directories, and row of words, and leaves its arguments as they were. No condition.
-/
import Derived.Test.YtndlfofpldbldaaWordsRow
import Derived.Test.YtndlfofpldbldaaDirs
namespace Go.Proofs.Ytndlfofpldbldaa
open Go Go.RowKit Go.WideShapes Go.ChangeShapes Go.ChangeAt Go.Joins
set_option linter.unusedVariables false
set_option linter.unusedSimpArgs false

set_option maxRecDepth 100000 in
theorem dirs_lifted (os : Os) (started : os.Started) (H : Type) (enc : TypeId × Value → H) :
    ReturnsInHanded {} Try.checked os 7 .any (Rows.layoutDirsSpec.pre6 enc Try.prog Try.f7 Rows.layoutDirsRow.domain false) (Rows.layoutDirsSpec.post enc Try.prog Try.f7 false true false false) := by
  refine returnsInHanded_of_change (C := Try.checked) own_knob started (by kernel_rfl) Try.func7
    (ChangeSpec.witness6 (enc := enc) (C := Try.checked) false ⟨#[], #[.agg #[.int .i64 0, .slice none 0 0], .agg #[.int .i64 0, .slice none 0 0], .slice none 0 0], []⟩ 8 (by kernel_rfl) (by kernel_rfl) (by kernel_rfl) (by kernel_rfl)) ?_
  intro W base args ds gs before hval0 hW hcnd _
  have hval : ∀ (j : Nat) t v, Try.f7.params[j]? = some t → args[j]? = some v → Value.okWide Try.prog W .any base t v := hval0
  have hW' := hW
  obtain ⟨p, q, hA0, hV, rfl, hfz, hnd⟩ := hW
  have hA : DataW.TrodAll enc Try.prog W 0 (fun _ => true) true Try.f7.params.toList args.toList ds p := hA0
  rw [Try.params7] at hA hval
  obtain ⟨v0, v1, v2, d0, d1, d2, p0, p1, p2, rfl, rfl, rfl, h0, h1, h2⟩ := trodAll_three hA
  obtain ⟨dep0, A0, n0, c0, es0, rfl, hn0, hm0, hx0, hr0, hw0, _⟩ := open_dir (hval 0 49 v0 rfl rfl) h0
  obtain ⟨dep, A1, n1, c1, es, rfl, hn1, hm1, hx1, hr1, hw1, _⟩ := open_dir (hval 1 49 v1 rfl rfl) h1
  obtain ⟨a2, l2, k2, rfl⟩ := okWide_slice Try.underlying24 (hval 2 24 v2 rfl rfl)
  obtain ⟨f2, h2⟩ := h2
  obtain ⟨A2, n2, c2, xs2, e2, hn2, hm2, hx2, hr2, hw2⟩ := open_rd Try.underlying24 (by kernel_rfl) (by omega) decWt h2
  simp only [Value.cells, List.cons.injEq, Value.slice.injEq, and_true] at e2
  obtain ⟨rfl, rfl, rfl⟩ := e2
  subst hx0 hx1 hx2
  clear hA0 hval0
  unfold maxLen at hm0 hm1 hm2
  refine (Dirs_walk A0 A1 a2 c0 c1 k2 dep0 dep es0 es xs2 W hr0 hr1 hr2 hw0 hw1 hw2 hn0 hn1 hn2 (by omega) (by omega) (by omega)).mono fun e W' ⟨he, hb⟩ => ?_
  subst he
  exact ⟨_, rfl, law_done laid_out hW' rfl (fun ds' h => by match ds', h with | [x, y, z], _ => rfl) rfl (by rw [Try.params7]; decide +kernel) hb (fun _ _ _ => trodAll_mk1 (shut_bool Try.underlying4 true)) (ok_one (by kernel_rfl) rfl (okWide_bool_mk Try.underlying4 true))⟩

theorem layoutDirs_holds : Rows.LayoutDirsSaid :=
  OpenClaim.holds_of_wide 7 Try.f7 rfl rfl rfl rfl rfl rfl rfl ⟨rfl, rfl, rfl, rfl, rfl⟩ rfl rfl rfl rfl rfl (by kernel_rfl) Try.func7 (by kernel_rfl)
    (of_decide_eq_true (by kernel_rfl)) (by unfold Func.isWrapper; first | (rw [if_pos (by decide +kernel)]; kernel_rfl) | (rw [if_neg (by decide +kernel)]; exact ⟨rfl, rfl⟩))
    (fun os started H enc _ => dirs_lifted os started H enc)
end Go.Proofs.Ytndlfofpldbldaa
