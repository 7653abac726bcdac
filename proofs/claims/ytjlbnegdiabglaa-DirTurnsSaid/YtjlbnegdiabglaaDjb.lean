/-
  What the statements' first lines come to, plainly.
-/
import Derived.Test.YtjlbnegdiabglaaDja
set_option linter.unusedSimpArgs false
set_option linter.unusedVariables false
namespace Go.Proofs.Ytjlbnegdiabglaa
open Go Go.RowKit

abbrev wE0 : List En := [(0, 0)]
abbrev wE1 : List En := [(1, 0), (2, 0)]
abbrev wE2 : List En := [(1, 0), (1, 0), (3, 0), (4, 0)]
abbrev wE3 : List En := [(1, 0), (1, 0), (1, 0), (1, 0), (3, 0), (3, 0), (4, 0), (4, 0)]
theorem wk0 : (if okEnt 0 0 then .ok (0, [(0, 0)]) else .error 2 : Except Int (Int × List En)) = .ok (0, wE0) := by kernel_rfl
theorem wk1 : (if mayB 0 wE0 then splitO 0 wE0 (0, 0) (1, 0) (2, 0) else .error 310 : Except Int (Int × List En)) = .ok (1, wE1) := by kernel_rfl
theorem wk2 : (if mayB 1 wE1 then splitO 1 wE1 (2, 0) (3, 0) (4, 0) else .error 310 : Except Int (Int × List En)) = .ok (2, wE2) := by kernel_rfl
theorem wk3 : ofX 2 9223372036854775808 wE2 = some ⟨(3, 0), 2, 2, 2, 1⟩ := by kernel_rfl
theorem wk4 : (if mayB 2 wE2 then halveO 2 wE2 else .error 310 : Except Int (Int × List En)) = .error 4 := by kernel_rfl
theorem wk5 : (if mayB 2 wE2 then doubleO 2 wE2 else .error 310 : Except Int (Int × List En)) = .ok (3, wE3) := by kernel_rfl
theorem wk6 : (if mayB 3 wE3 then halveO 3 wE3 else .error 310 : Except Int (Int × List En)) = .ok (2, wE2) := by kernel_rfl
theorem wk7 : (if mayB 2 wE2 then splitO 2 wE2 (1, 0) (3, 0) (0, 0) else .error 310 : Except Int (Int × List En)) = .error 5 := by kernel_rfl
abbrev wS : List Rc := [⟨(1, 0), 1, 0, 0, 2⟩, ⟨(3, 0), 2, 2, 2, 1⟩, ⟨(4, 0), 2, 3, 3, 1⟩]
theorem wk8 : spansX 2 wE2 = wS := by kernel_rfl
theorem rd_whole {w : World} {g n : Nat} {t : TypeId} {cs : Array Value} {es : List En} (h : RowAt w g t cs) (he : cs = (Cs encE es).toArray := by rfl) (hn : es.length = n := by rfl) : Rd w w.heap.size 2 (some ⟨g, 0, none⟩) n (Cs encE es) := by
  subst he
  refine ⟨by rw [Cs_length encE_len, hn], fun _ => ⟨g, 0, rfl, h.lt, fun j u hu => ?_⟩⟩
  rw [Nat.zero_add, h.cell]
  simpa using hu
theorem u0 : U64 0 := ⟨by omega, by omega⟩
theorem uw {es : List En} (h : es.all (fun e => decide (e.2 = 0)) = true) : ∀ e ∈ es, U64 e.2 := by
  intro e he
  have := List.all_eq_true.1 h e he
  rw [of_decide_eq_true this]
  exact u0
theorem uh : U64 9223372036854775808 := ⟨by omega, by omega⟩
end Go.Proofs.Ytjlbnegdiabglaa
