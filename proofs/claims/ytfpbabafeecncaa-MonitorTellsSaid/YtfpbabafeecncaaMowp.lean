/-
  What a monitor's layer does, in plain Lean: one example.
-/
import Derived.Test.YtfpbabafeecncaaMou
set_option linter.unusedSimpArgs false
set_option linter.unusedVariables false
namespace Go.Proofs.Ytfpbabafeecncaa
open Go Go.RowKit

def wk1 : Mon := ⟨[(1, 0), (0, 0)], [true, true], [[(0, 0)], [(0, 0)]], []⟩
def wk2 : Mon := ⟨[(1, 1), (0, 0)], [true, true], [[(0, 0), (0, 1)], [(0, 0)]], [(4, 1, 0, 0)]⟩
def wk3 : Mon := ⟨[(2, 0), (0, 0)], [true, true], [[(0, 0)], [(0, 0)]], []⟩
def wk4 : Mon := ⟨[(1, 1), (0, 0)], [true, false], [[(0, 0), (0, 1)], []], [(4, 1, 0, 0)]⟩
abbrev wl1 : List Wt := [(1, 0, 0, 0), (6, 0, 0, 0), (1, 1, 0, 0), (3, 1, 0, 0)]
abbrev wl2 : List Wt := [(7, 0, 0, 0), (8, 0, 0, 0), (6, 0, 0, 0), (4, 1, 0, 0)]
set_option maxRecDepth 100000
theorem wkR1 : RunM (newM 2 2) wl1 = .ok (wk1, [(0, 0)]) := by rfl
theorem wkR2 : RunM wk1 wl2 = .ok (wk2, [(0, 1)]) := by rfl
theorem wkR3 : DoM wk1 (7, 0, 0, 0) = .ok (wk3, []) := by rfl
theorem wkR4 : DoM wk2 (2, 1, 0, 0) = .ok (wk4, []) := by rfl
theorem wkR5 : DoM wk4 (2, 1, 0, 0) = .error 4 := by rfl
theorem wkH : HoldM wk1 (0, 0) = [0, 1] := by rfl
theorem wkS : SafeM wk1 (0, 0) = false := by rfl
theorem wkG1 : GoodM wk1 (4, 1, 0, 0) = true := by rfl
theorem wkG2 : GoodM wk3 (5, 1, 0, 0) = false := by rfl
theorem wkG3 : GoodM wk3 (4, 1, 0, 0) = true := by rfl
end Go.Proofs.Ytfpbabafeecncaa
