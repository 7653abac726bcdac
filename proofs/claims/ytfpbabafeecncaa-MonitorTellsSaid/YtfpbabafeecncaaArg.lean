/-
  Arenas: all entries of a tag gathered (the program's).
-/
import Derived.Test.YtfpbabafeecncaaArf
set_option linter.unusedSimpArgs false
set_option linter.unusedVariables false
namespace Go.Proofs.Ytfpbabafeecncaa
open Go Go.RowKit
attribute [local go_sem] Oper.semAt_some

/-- A box that gathers what an iterator yields. -/
def BoxSt (ko base : Nat) (pre : List (Int × Int)) (W : World) : Prop := ∃ v, RowAt W ko 54 #[v] ∧ W.ownsRow base 43 2 v pre.length (Cs encE pre)
theorem BoxSt.stays (ko base : Nat) : Stays (BoxSt ko base) := fun _ _ _ ⟨v, h1, h2⟩ hl => ⟨v, h1.lie hl, own_lie h2 hl⟩

end Go.Proofs.Ytfpbabafeecncaa
