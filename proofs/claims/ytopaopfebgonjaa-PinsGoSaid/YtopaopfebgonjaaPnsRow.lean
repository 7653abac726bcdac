/-
  PinsGo answers true for every pins, and number, and leaves its arguments as they were. No condition.
-/
import Derived.Test.YtopaopfebgonjaaPnopen
import Derived.Test.YtopaopfebgonjaaPns
namespace Go.Proofs.Ytopaopfebgonjaa
open Go Go.RowKit Go.WideShapes Go.ChangeShapes Go.ChangeAt Go.Joins
set_option linter.unusedVariables false
set_option linter.unusedSimpArgs false

set_option maxRecDepth 100000 in
theorem pinsGo_lifted (os : Os) (started : os.Started) (H : Type) (enc : TypeId × Value → H) :
    ReturnsInHanded {} Try.checked os 6 .any (Rows.pinsGoSpec.pre6 enc Try.prog Try.f6 Rows.pinsGoRow.domain false) (Rows.pinsGoSpec.post enc Try.prog Try.f6 false true false false) := by
  refine returnsInHanded_of_change (C := Try.checked) own_knob started (by kernel_rfl) Try.func6
    (ChangeSpec.witness6 (enc := enc) (C := Try.checked) false ⟨#[], #[.agg #[.int .u64 0, .slice none 0 0], .int .i64 0], []⟩ 8 (by kernel_rfl) (by kernel_rfl) (by kernel_rfl) (by kernel_rfl)) ?_
  intro W base args ds gs before hval0 hW hcnd _
  have hval : ∀ (j : Nat) t v, Try.f6.params[j]? = some t → args[j]? = some v → Value.okWide Try.prog W .any base t v := hval0
  have hW' := hW
  obtain ⟨p, q, hA0, hV, rfl, hfz, hnd⟩ := hW
  have hA : DataW.TrodAll enc Try.prog W 0 (fun _ => true) true Try.f6.params.toList args.toList ds p := hA0
  rw [Try.params6] at hA hval
  obtain ⟨v0, v1, d0, d1, p0, p1, rfl, rfl, rfl, h0, h1⟩ := trodAll_two hA
  obtain ⟨e0, A0, n0, c0, xs0, rfl, he0, hn0, hm0, hx0, hr0, hu0⟩ := open_pins (hval 0 25 v0 rfl rfl) h0
  obtain ⟨g1, rfl, hg1⟩ := open_num (hval 1 3 v1 rfl rfl) h1
  clear hA0 hval0
  refine (Go_walk A0 c0 n0 e0 g1 xs0 W hr0 hx0 hu0 hn0 hm0 he0 hg1).mono fun e W' ⟨he, hb⟩ => ?_
  subst he
  exact ⟨_, rfl, law_done laid_out hW' rfl (fun ds' h => by match ds', h with | [x, y], _ => rfl) rfl (by rw [Try.params6]; decide +kernel) hb (fun _ _ _ => trodAll_mk1 (shut_bool Try.underlying4 true)) (ok_one (by kernel_rfl) rfl (okWide_bool_mk Try.underlying4 true))⟩

theorem pinsGo_holds : Rows.PinsGoSaid :=
  OpenClaim.holds_of_wide 6 Try.f6 rfl rfl rfl rfl rfl rfl rfl ⟨rfl, rfl, rfl, rfl, rfl⟩ rfl rfl rfl rfl rfl (by kernel_rfl) Try.func6 (by kernel_rfl)
    (of_decide_eq_true (by kernel_rfl)) (by unfold Func.isWrapper; first | (rw [if_pos (by decide +kernel)]; kernel_rfl) | (rw [if_neg (by decide +kernel)]; exact ⟨rfl, rfl⟩))
    (fun os started H enc _ => pinsGo_lifted os started H enc)
end Go.Proofs.Ytopaopfebgonjaa
