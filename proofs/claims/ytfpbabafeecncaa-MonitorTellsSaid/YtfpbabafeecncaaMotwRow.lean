/-
  MonitorTells answers true for every two monitors, and row of what is watched, and leaves its arguments as they were. No condition.
-/
import Derived.Test.YtfpbabafeecncaaMopen
import Derived.Test.YtfpbabafeecncaaMotw
namespace Go.Proofs.Ytfpbabafeecncaa
open Go Go.RowKit Go.WideShapes Go.ChangeShapes Go.ChangeAt Go.Joins
set_option linter.unusedVariables false
set_option linter.unusedSimpArgs false

set_option maxRecDepth 100000 in
theorem monitorTells_lifted (os : Os) (started : os.Started) (H : Type) (enc : TypeId × Value → H) :
    ReturnsInHanded {} Try.checked os 5 .any (Rows.monitorTellsSpec.pre6 enc Try.prog Try.f5 Rows.monitorTellsRow.domain false) (Rows.monitorTellsSpec.post enc Try.prog Try.f5 false true false false) := by
  refine returnsInHanded_of_change (C := Try.checked) own_knob started (by kernel_rfl) Try.func5
    (ChangeSpec.witness6 (enc := enc) (C := Try.checked) false ⟨#[], #[.agg #[.slice none 0 0, .slice none 0 0, .slice none 0 0, .slice none 0 0], .agg #[.slice none 0 0, .slice none 0 0, .slice none 0 0, .slice none 0 0], .slice none 0 0], []⟩ 8 (by kernel_rfl) (by kernel_rfl) (by kernel_rfl) (by kernel_rfl)) ?_
  intro W base args ds gs before hval0 hW hcnd _
  have hval : ∀ (j : Nat) t v, Try.f5.params[j]? = some t → args[j]? = some v → Value.okWide Try.prog W .any base t v := hval0
  have hW' := hW
  obtain ⟨p, q, hA0, hV, rfl, hfz, hnd⟩ := hW
  have hA : DataW.TrodAll enc Try.prog W 0 (fun _ => true) true Try.f5.params.toList args.toList ds p := hA0
  rw [Try.params5] at hA hval
  obtain ⟨v0, v1, v2, d0, d1, d2, p0, p1, p2, rfl, rfl, rfl, h0, h1, h2⟩ := trodAll_three hA
  obtain ⟨a0, a1, a2, a3, na0, na1, na2, na3, ca0, ca1, ca2, ca3, ts0, m0, rfl, hx0, ha0, ha1, ha2, ha3, hcap0⟩ := open_mon (hval 0 32 v0 rfl rfl) h0
  obtain ⟨b0, b1, b2, b3, nb0, nb1, nb2, nb3, cb0, cb1, cb2, cb3, ts1, m1, rfl, hx1, hb0, hb1, hb2, hb3, hcap1⟩ := open_mon (hval 1 32 v1 rfl rfl) h1
  obtain ⟨A2, n2, c2, xs2, rfl, hn2, hm2, hl2, hr2, hu2⟩ := open_watches (hval 2 30 v2 rfl rfl) h2
  clear hA0 hval0
  refine (Tells_walk a0 a1 a2 a3 na0 na1 na2 na3 ca0 ca1 ca2 ca3 ts0 m0 b0 b1 b2 b3 nb0 nb1 nb2 nb3 cb0 cb1 cb2 cb3 ts1 m1 A2 c2 n2 xs2 W hx0 ha0 ha1 ha2 ha3 hcap0 hx1 hb0 hb1 hb2 hb3 hcap1 hr2 hl2 (Nat.le_trans hn2 hm2) (fun e h => (hu2 e h).1)).mono fun e W' ⟨he, hb⟩ => ?_
  subst he
  exact ⟨_, rfl, law_done laid_out hW' rfl (fun ds' h => by match ds', h with | [x, y, z], _ => rfl) rfl (by rw [Try.params5]; decide +kernel) hb (fun _ _ _ => trodAll_mk1 (shut_bool Try.underlying4 true)) (ok_one (by kernel_rfl) rfl (okWide_bool_mk Try.underlying4 true))⟩

theorem monitorTells_holds : Rows.MonitorTellsSaid :=
  OpenClaim.holds_of_wide 5 Try.f5 rfl rfl rfl rfl rfl rfl rfl ⟨rfl, rfl, rfl, rfl, rfl⟩ rfl rfl rfl rfl rfl (by kernel_rfl) Try.func5 (by kernel_rfl)
    (of_decide_eq_true (by kernel_rfl)) (by unfold Func.isWrapper; first | (rw [if_pos (by decide +kernel)]; kernel_rfl) | (rw [if_neg (by decide +kernel)]; exact ⟨rfl, rfl⟩))
    (fun os started H enc _ => monitorTells_lifted os started H enc)
end Go.Proofs.Ytfpbabafeecncaa
