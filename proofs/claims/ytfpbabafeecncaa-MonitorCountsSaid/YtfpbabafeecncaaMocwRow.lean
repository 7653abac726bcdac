/-
  MonitorCounts answers true for every monitor, and row of what is watched, and leaves its arguments as they were. No condition.
-/
import Derived.Test.YtfpbabafeecncaaMopen
import Derived.Test.YtfpbabafeecncaaMocw
namespace Go.Proofs.Ytfpbabafeecncaa
open Go Go.RowKit Go.WideShapes Go.ChangeShapes Go.ChangeAt Go.Joins
set_option linter.unusedVariables false
set_option linter.unusedSimpArgs false

set_option maxRecDepth 100000 in
theorem monitorCounts_lifted (os : Os) (started : os.Started) (H : Type) (enc : TypeId × Value → H) :
    ReturnsInHanded {} Try.checked os 6 .any (Rows.monitorCountsSpec.pre6 enc Try.prog Try.f6 Rows.monitorCountsRow.domain false) (Rows.monitorCountsSpec.post enc Try.prog Try.f6 false true false false) := by
  refine returnsInHanded_of_change (C := Try.checked) own_knob started (by kernel_rfl) Try.func6
    (ChangeSpec.witness6 (enc := enc) (C := Try.checked) false ⟨#[], #[.agg #[.slice none 0 0, .slice none 0 0, .slice none 0 0, .slice none 0 0], .slice none 0 0], []⟩ 8 (by kernel_rfl) (by kernel_rfl) (by kernel_rfl) (by kernel_rfl)) ?_
  intro W base args ds gs before hval0 hW hcnd _
  have hval : ∀ (j : Nat) t v, Try.f6.params[j]? = some t → args[j]? = some v → Value.okWide Try.prog W .any base t v := hval0
  have hW' := hW
  obtain ⟨p, q, hA0, hV, rfl, hfz, hnd⟩ := hW
  have hA : DataW.TrodAll enc Try.prog W 0 (fun _ => true) true Try.f6.params.toList args.toList ds p := hA0
  rw [Try.params6] at hA hval
  obtain ⟨v0, v1, d0, d1, p0, p1, rfl, rfl, rfl, h0, h1⟩ := trodAll_two hA
  obtain ⟨a0, a1, a2, a3, na0, na1, na2, na3, ca0, ca1, ca2, ca3, ts0, m0, rfl, hx0, ha0, ha1, ha2, ha3, hcap0⟩ := open_mon (hval 0 32 v0 rfl rfl) h0
  obtain ⟨A1, n1, c1, xs1, rfl, hn1, hm1, hl1, hr1, hu1⟩ := open_watches (hval 1 30 v1 rfl rfl) h1
  clear hA0 hval0
  refine (Counts_walk a0 a1 a2 a3 na0 na1 na2 na3 ca0 ca1 ca2 ca3 ts0 m0 A1 c1 n1 xs1 W hx0 ha0 ha1 ha2 ha3 hcap0 hr1 hl1 (Nat.le_trans hn1 hm1) (fun e h => (hu1 e h).1)).mono fun e W' ⟨he, hb⟩ => ?_
  subst he
  exact ⟨_, rfl, law_done laid_out hW' rfl (fun ds' h => by match ds', h with | [x, y], _ => rfl) rfl (by rw [Try.params6]; decide +kernel) hb (fun _ _ _ => trodAll_mk1 (shut_bool Try.underlying4 true)) (ok_one (by kernel_rfl) rfl (okWide_bool_mk Try.underlying4 true))⟩

theorem monitorCounts_holds : Rows.MonitorCountsSaid :=
  OpenClaim.holds_of_wide 6 Try.f6 rfl rfl rfl rfl rfl rfl rfl ⟨rfl, rfl, rfl, rfl, rfl⟩ rfl rfl rfl rfl rfl (by kernel_rfl) Try.func6 (by kernel_rfl)
    (of_decide_eq_true (by kernel_rfl)) (by unfold Func.isWrapper; first | (rw [if_pos (by decide +kernel)]; kernel_rfl) | (rw [if_neg (by decide +kernel)]; exact ⟨rfl, rfl⟩))
    (fun os started H enc _ => monitorCounts_lifted os started H enc)
end Go.Proofs.Ytfpbabafeecncaa
