/-
  ArenaOnce answers true for every arena and row of moves, and leaves its arguments as they were. No condition.
-/
import Derived.Test.YtejhknboiacgeaaAropen
import Derived.Test.YtejhknboiacgeaaArv
namespace Go.Proofs.Ytejhknboiacgeaa
open Go Go.RowKit Go.WideShapes Go.ChangeShapes Go.ChangeAt Go.Joins
set_option linter.unusedVariables false
set_option linter.unusedSimpArgs false
section
variable {H : Type} {enc : TypeId × Value → H} {w : World} {base : Nat} {spare : Nat → Bool} {held : Bool}
theorem decMv (n : Nat) (cs' : List Value) (y : DataW H × List MemPlace) (hl : cs'.length = 2) (h : DataW.trod enc Try.prog w base spare held n 50 cs' = some y) : ∃ z : Int × Int, cs' = encM z ∧ True := by
  obtain ⟨a, ha, wa⟩ := dec_field_int Try.underlying50 (by kernel_rfl) hl h 0 _ rfl Try.underlying3
  obtain ⟨b, hb, wb⟩ := dec_field_int Try.underlying50 (by kernel_rfl) hl h 1 _ rfl Try.underlying3
  match cs', hl with
  | [u, v], _ =>
    simp at ha hb
    subst ha hb
    exact ⟨(a, b), rfl, trivial⟩
theorem open_moves {v : Value} {d : DataW H} {p : List MemPlace} {b0 : Nat} (hv : Value.okWide Try.prog w .any b0 46 v) (h : DataW.Trod enc Try.prog w base spare held 46 v d p) :
    ∃ (A : Option Addr) (n c : Nat) (es : List (Int × Int)), v = .slice A n c ∧ n ≤ c ∧ c ≤ 9223372036854775807 ∧ es.length = n ∧ Rd w w.heap.size 2 A n (Cs encM es) := by
  obtain ⟨a2, l2, k2, rfl⟩ := okWide_slice Try.underlying46 hv
  obtain ⟨f2, h2⟩ := h
  obtain ⟨A2, n2, c2, xs2, e2, hn2, hm2, hx2, hr2, hw2⟩ := open_rd Try.underlying46 (by kernel_rfl) (by omega) decMv h2
  simp only [Value.cells, List.cons.injEq, Value.slice.injEq, and_true] at e2
  obtain ⟨rfl, rfl, rfl⟩ := e2
  exact ⟨_, _, _, xs2, rfl, hn2, by unfold maxLen at hm2; omega, hx2, hr2⟩
end

set_option maxRecDepth 100000 in
theorem arenaOnce_lifted (os : Os) (started : os.Started) (H : Type) (enc : TypeId × Value → H) :
    ReturnsInHanded {} Try.checked os 5 .any (Rows.arenaOnceSpec.pre6 enc Try.prog Try.f5 Rows.arenaOnceRow.domain false) (Rows.arenaOnceSpec.post enc Try.prog Try.f5 false true false false) := by
  refine returnsInHanded_of_change (C := Try.checked) own_knob started (by kernel_rfl) Try.func5
    (ChangeSpec.witness6 (enc := enc) (C := Try.checked) false ⟨#[], #[.agg #[.slice none 0 0], .slice none 0 0], []⟩ 8 (by kernel_rfl) (by kernel_rfl) (by kernel_rfl) (by kernel_rfl)) ?_
  intro W base args ds gs before hval0 hW hcnd _
  have hval : ∀ (j : Nat) t v, Try.f5.params[j]? = some t → args[j]? = some v → Value.okWide Try.prog W .any base t v := hval0
  have hW' := hW
  obtain ⟨p, q, hA0, hV, rfl, hfz, hnd⟩ := hW
  have hA : DataW.TrodAll enc Try.prog W 0 (fun _ => true) true Try.f5.params.toList args.toList ds p := hA0
  rw [Try.params5] at hA hval
  obtain ⟨v0, v1, d0, d1, p0, p1, rfl, rfl, rfl, h0, h1⟩ := trodAll_two hA
  obtain ⟨A0, n0, c0, xs, rfl, hn0, hm0, hx0, hr0, hu0⟩ := open_arena (hval 0 24 v0 rfl rfl) h0
  obtain ⟨A1, n1, c1, ms, rfl, hn1, hm1, hx1, hr1⟩ := open_moves (hval 1 46 v1 rfl rfl) h1
  clear hA0 hval0
  refine (Once_walk A0 c0 n0 xs A1 c1 n1 ms W hr0 hx0 hu0 hn0 hm0 hr1 hx1 hn1 hm1).mono fun e W' ⟨he, hb⟩ => ?_
  subst he
  exact ⟨_, rfl, law_done laid_out hW' rfl (fun ds' h => by match ds', h with | [x, y], _ => rfl) rfl (by rw [Try.params5]; decide +kernel) hb (fun _ _ _ => trodAll_mk1 (shut_bool Try.underlying4 true)) (ok_one (by kernel_rfl) rfl (okWide_bool_mk Try.underlying4 true))⟩

theorem arenaOnce_holds : Rows.ArenaOnceSaid :=
  OpenClaim.holds_of_wide 5 Try.f5 rfl rfl rfl rfl rfl rfl rfl ⟨rfl, rfl, rfl, rfl, rfl⟩ rfl rfl rfl rfl rfl (by kernel_rfl) Try.func5 (by kernel_rfl)
    (of_decide_eq_true (by kernel_rfl)) (by unfold Func.isWrapper; first | (rw [if_pos (by decide +kernel)]; kernel_rfl) | (rw [if_neg (by decide +kernel)]; exact ⟨rfl, rfl⟩))
    (fun os started H enc _ => arenaOnce_lifted os started H enc)
end Go.Proofs.Ytejhknboiacgeaa
