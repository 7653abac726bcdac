/-
  Arenas: one slab turned (the reference's), entries of a tag (the reference's), an entry's tag, counts.
-/
import Derived.Test.YtfpbabafeecncaaArc
set_option linter.unusedSimpArgs false
set_option linter.unusedVariables false
namespace Go.Proofs.Ytfpbabafeecncaa
open Go Go.RowKit
attribute [local go_sem] via_cell via_frozen

end Go.Proofs.Ytfpbabafeecncaa
