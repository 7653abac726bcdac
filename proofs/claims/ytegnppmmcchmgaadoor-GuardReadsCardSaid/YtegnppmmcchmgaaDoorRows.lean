/-
  NARROWER THAN 'FOR EVERY INPUT', by the rows' own cells (each row's printed sentence says how): GuardWrites: laid · GuardCounts: laid · GuardReads: laid · GuardTells: laid · GuardParts: laid.
  DERIVED. THE GIVEN ROWS OF THIS SEAT. 5 by the template 'for every input the law returns true; each argument reads behind the call as it read before'; 0 by the template 'total and deterministic' (their statements: YtegnppmmcchmgaaDoorTotals.lean).
  GIVEN WITH THE SEED: the statements are not yours to turn. If you find one false, say at which input.
  Laid BY PROGRAM, IN A SANDBOX (cutbox-rows.mjs): the forced cells as the released guide's own fill.sh prints them over the translation 94f8b1225bccfcdc… (all of the seat's roots in one cut). By AI agents, Wed Nov 11 2026. No macro, syntax, notation, axiom, sorry.
-/
import Derived.Test.YtegnppmmcchmgaaDoorChecked
import GoSem.Claim
import GoSem.ClaimJoined
import GoSem.ClaimMapViews
import Derived.JoinedTies
import Derived.KernelRfl
namespace Go.Proofs.YtegnppmmcchmgaaDoor
/- THE CELL 'sum', in the pinned program and in every row, IS THE sha256 OF THE DUMP (.gsa) THAT YtegnppmmcchmgaaDoorProg.lean LOADS. Nothing in Lean hashes anything: it is a label: what it is worth is what the hold of that sum in a sandbox is worth. -/
noncomputable def Tryd.pinned : Pinned := { name := "ytegnppmmcchmgaadoor", sum := "94f8b1225bccfcdcfc009ceac43f53cc866f52c8c4592ac61fbe22d9e60f6bbb", checked := Tryd.checked }
namespace Rows
def none {H : Type} : Left H := { results := [], args := [] }

/- WHAT THE LISTED PACKAGE-LEVEL VARIABLES READ AS WHEN THE CALL BEGINS. Each datum BY PROGRAM (the guide's laid-datum.mjs) off the statement by which the dump's own 'gosem.cut.vars' lays the variable. In a bare row this is a premise. The card (YtegnppmmcchmgaaDoorCards.lean) ties it to the program's text. -/
def laid_honeycomb_honeycomblaw06_two {H : Type} : DataW H := .slice [.agg [.lit (.int .i64 3), .lit (.int .i64 5)], .agg [.lit (.int .i64 8), .lit (.int .i64 0)]] []

/-- 'honeycomblaw06.GuardWrites': WHATEVER THE INPUT: true; the input reads as it did. -/
def guardWritesSpec : ChangeSpec := { name := "guardWrites", fn := fun _ => fun
  | [d1, d2] => { results := [.lit (.bool true)], args := [d1, d2] }
  | _ => none }
def guardWritesRow : OpenClaim := { program := "ytegnppmmcchmgaadoor", sum := "94f8b1225bccfcdcfc009ceac43f53cc866f52c8c4592ac61fbe22d9e60f6bbb", func := "honeycomb/honeycomblaw06.GuardWrites", spec := "guardWrites", unfollowed := true, recurses := true, named := ["honeycomb/honeycomblaw06.two"], apart := false, laid := [("honeycomb/honeycomblaw06.two", laid_honeycomb_honeycomblaw06_two)] }
def GuardWritesSaid : Prop := guardWritesRow.holds Tryd.pinned (OpenSpec.ofChange guardWritesSpec)

/-- ITS FALSE NEIGHBOUR: 'it returns false'. Refute it at one input. -/
def guardWritesWrong : ChangeSpec := { name := "guardWrites", fn := fun _ => fun
  | [d1, d2] => { results := [.lit (.bool false)], args := [d1, d2] }
  | _ => none }
def GuardWritesWrongFalsely : Prop := guardWritesRow.holds Tryd.pinned (OpenSpec.ofChange guardWritesWrong)

/-- 'honeycomblaw06.GuardCounts': WHATEVER THE INPUT: true; the input reads as it did. -/
def guardCountsSpec : ChangeSpec := { name := "guardCounts", fn := fun _ => fun
  | [d1, d2, d3] => { results := [.lit (.bool true)], args := [d1, d2, d3] }
  | _ => none }
def guardCountsRow : OpenClaim := { program := "ytegnppmmcchmgaadoor", sum := "94f8b1225bccfcdcfc009ceac43f53cc866f52c8c4592ac61fbe22d9e60f6bbb", func := "honeycomb/honeycomblaw06.GuardCounts", spec := "guardCounts", unfollowed := true, recurses := true, named := ["honeycomb/honeycomblaw06.two"], apart := false, laid := [("honeycomb/honeycomblaw06.two", laid_honeycomb_honeycomblaw06_two)] }
def GuardCountsSaid : Prop := guardCountsRow.holds Tryd.pinned (OpenSpec.ofChange guardCountsSpec)

/-- ITS FALSE NEIGHBOUR: 'it returns false'. Refute it at one input. -/
def guardCountsWrong : ChangeSpec := { name := "guardCounts", fn := fun _ => fun
  | [d1, d2, d3] => { results := [.lit (.bool false)], args := [d1, d2, d3] }
  | _ => none }
def GuardCountsWrongFalsely : Prop := guardCountsRow.holds Tryd.pinned (OpenSpec.ofChange guardCountsWrong)

/-- 'honeycomblaw06.GuardReads': WHATEVER THE INPUT: true; the input reads as it did. -/
def guardReadsSpec : ChangeSpec := { name := "guardReads", fn := fun _ => fun
  | [d1, d2] => { results := [.lit (.bool true)], args := [d1, d2] }
  | _ => none }
def guardReadsRow : OpenClaim := { program := "ytegnppmmcchmgaadoor", sum := "94f8b1225bccfcdcfc009ceac43f53cc866f52c8c4592ac61fbe22d9e60f6bbb", func := "honeycomb/honeycomblaw06.GuardReads", spec := "guardReads", unfollowed := true, recurses := true, named := ["honeycomb/honeycomblaw06.two"], apart := false, laid := [("honeycomb/honeycomblaw06.two", laid_honeycomb_honeycomblaw06_two)] }
def GuardReadsSaid : Prop := guardReadsRow.holds Tryd.pinned (OpenSpec.ofChange guardReadsSpec)

/-- ITS FALSE NEIGHBOUR: 'it returns false'. Refute it at one input. -/
def guardReadsWrong : ChangeSpec := { name := "guardReads", fn := fun _ => fun
  | [d1, d2] => { results := [.lit (.bool false)], args := [d1, d2] }
  | _ => none }
def GuardReadsWrongFalsely : Prop := guardReadsRow.holds Tryd.pinned (OpenSpec.ofChange guardReadsWrong)

/-- 'honeycomblaw06.GuardTells': WHATEVER THE INPUT: true; the input reads as it did. -/
def guardTellsSpec : ChangeSpec := { name := "guardTells", fn := fun _ => fun
  | [d1, d2] => { results := [.lit (.bool true)], args := [d1, d2] }
  | _ => none }
def guardTellsRow : OpenClaim := { program := "ytegnppmmcchmgaadoor", sum := "94f8b1225bccfcdcfc009ceac43f53cc866f52c8c4592ac61fbe22d9e60f6bbb", func := "honeycomb/honeycomblaw06.GuardTells", spec := "guardTells", unfollowed := true, recurses := true, named := ["honeycomb/honeycomblaw06.two"], apart := false, laid := [("honeycomb/honeycomblaw06.two", laid_honeycomb_honeycomblaw06_two)] }
def GuardTellsSaid : Prop := guardTellsRow.holds Tryd.pinned (OpenSpec.ofChange guardTellsSpec)

/-- ITS FALSE NEIGHBOUR: 'it returns false'. Refute it at one input. -/
def guardTellsWrong : ChangeSpec := { name := "guardTells", fn := fun _ => fun
  | [d1, d2] => { results := [.lit (.bool false)], args := [d1, d2] }
  | _ => none }
def GuardTellsWrongFalsely : Prop := guardTellsRow.holds Tryd.pinned (OpenSpec.ofChange guardTellsWrong)

/-- 'honeycomblaw06.GuardParts': WHATEVER THE INPUT: true; the input reads as it did. -/
def guardPartsSpec : ChangeSpec := { name := "guardParts", fn := fun _ => fun
  | [d1, d2, d3] => { results := [.lit (.bool true)], args := [d1, d2, d3] }
  | _ => none }
def guardPartsRow : OpenClaim := { program := "ytegnppmmcchmgaadoor", sum := "94f8b1225bccfcdcfc009ceac43f53cc866f52c8c4592ac61fbe22d9e60f6bbb", func := "honeycomb/honeycomblaw06.GuardParts", spec := "guardParts", unfollowed := true, recurses := true, named := ["honeycomb/honeycomblaw06.two"], apart := false, laid := [("honeycomb/honeycomblaw06.two", laid_honeycomb_honeycomblaw06_two)] }
def GuardPartsSaid : Prop := guardPartsRow.holds Tryd.pinned (OpenSpec.ofChange guardPartsSpec)

/-- ITS FALSE NEIGHBOUR: 'it returns false'. Refute it at one input. -/
def guardPartsWrong : ChangeSpec := { name := "guardParts", fn := fun _ => fun
  | [d1, d2, d3] => { results := [.lit (.bool false)], args := [d1, d2, d3] }
  | _ => none }
def GuardPartsWrongFalsely : Prop := guardPartsRow.holds Tryd.pinned (OpenSpec.ofChange guardPartsWrong)

/- THE SECOND FORM. 'bulk': how many values and letters a reading holds, each counted each time it is reached (what is shared counts as often as it is met; a slice's spare places count too). A statement '..UptoSaid' is the law's where the arguments, and the package variables that the reading takes, are together of bulk at most 1048576: NARROWER than '..Said'. Prove '..Said' where nothing that the law and all that it calls make is longer than what came in: it says more and counts as full. Else prove '..UptoSaid'. A law counts once. -/
mutual
def uptoBulk {H : Type} : DataW H → Nat
  | .lit (.string bytes) => bytes.length + 1
  | .lit _ => 1
  | .nil => 1
  | .ptr d => uptoBulk d + 1
  | .slice elems spare => uptoBulkAll elems + uptoBulkAll spare + 1
  | .agg parts => uptoBulkAll parts + 1
  | .iface _ d => uptoBulk d + 1
  | .map entries => uptoBulkEntries entries + 1
  | .held _ => 1
def uptoBulkAll {H : Type} : List (DataW H) → Nat
  | [] => 0
  | d :: r => uptoBulk d + uptoBulkAll r
def uptoBulkEntries {H : Type} : List (Lit × DataW H) → Nat
  | [] => 0
  | x :: r => uptoBulkEntry x + uptoBulkEntries r
def uptoBulkEntry {H : Type} : Lit × DataW H → Nat
  | (.string bytes, d) => bytes.length + uptoBulk d + 1
  | (_, d) => uptoBulk d + 1
 end
def uptoSmall : (H : Type) → List (DataW H) → Bool := fun _ ds => decide (uptoBulkAll ds ≤ 1048576)
def OpenSpec.upto (s : _root_.Go.ChangeSpec) : _root_.Go.OpenSpec := { _root_.Go.OpenSpec.ofChange s with cond := some uptoSmall }

/-- 'honeycomblaw06.GuardWrites', WHERE WHAT IT READS IS OF BULK AT MOST 1048576: true; the input reads as it did. -/
def guardWritesUptoRow : OpenClaim := { program := "ytegnppmmcchmgaadoor", sum := "94f8b1225bccfcdcfc009ceac43f53cc866f52c8c4592ac61fbe22d9e60f6bbb", func := "honeycomb/honeycomblaw06.GuardWrites", spec := "guardWrites", unfollowed := true, recurses := true, named := ["honeycomb/honeycomblaw06.two"], apart := false, laid := [("honeycomb/honeycomblaw06.two", laid_honeycomb_honeycomblaw06_two)], narrowed := true }
def GuardWritesUptoSaid : Prop := guardWritesUptoRow.holds Tryd.pinned (OpenSpec.upto guardWritesSpec)

/-- 'honeycomblaw06.GuardCounts', WHERE WHAT IT READS IS OF BULK AT MOST 1048576: true; the input reads as it did. -/
def guardCountsUptoRow : OpenClaim := { program := "ytegnppmmcchmgaadoor", sum := "94f8b1225bccfcdcfc009ceac43f53cc866f52c8c4592ac61fbe22d9e60f6bbb", func := "honeycomb/honeycomblaw06.GuardCounts", spec := "guardCounts", unfollowed := true, recurses := true, named := ["honeycomb/honeycomblaw06.two"], apart := false, laid := [("honeycomb/honeycomblaw06.two", laid_honeycomb_honeycomblaw06_two)], narrowed := true }
def GuardCountsUptoSaid : Prop := guardCountsUptoRow.holds Tryd.pinned (OpenSpec.upto guardCountsSpec)

/-- 'honeycomblaw06.GuardReads', WHERE WHAT IT READS IS OF BULK AT MOST 1048576: true; the input reads as it did. -/
def guardReadsUptoRow : OpenClaim := { program := "ytegnppmmcchmgaadoor", sum := "94f8b1225bccfcdcfc009ceac43f53cc866f52c8c4592ac61fbe22d9e60f6bbb", func := "honeycomb/honeycomblaw06.GuardReads", spec := "guardReads", unfollowed := true, recurses := true, named := ["honeycomb/honeycomblaw06.two"], apart := false, laid := [("honeycomb/honeycomblaw06.two", laid_honeycomb_honeycomblaw06_two)], narrowed := true }
def GuardReadsUptoSaid : Prop := guardReadsUptoRow.holds Tryd.pinned (OpenSpec.upto guardReadsSpec)

/-- 'honeycomblaw06.GuardTells', WHERE WHAT IT READS IS OF BULK AT MOST 1048576: true; the input reads as it did. -/
def guardTellsUptoRow : OpenClaim := { program := "ytegnppmmcchmgaadoor", sum := "94f8b1225bccfcdcfc009ceac43f53cc866f52c8c4592ac61fbe22d9e60f6bbb", func := "honeycomb/honeycomblaw06.GuardTells", spec := "guardTells", unfollowed := true, recurses := true, named := ["honeycomb/honeycomblaw06.two"], apart := false, laid := [("honeycomb/honeycomblaw06.two", laid_honeycomb_honeycomblaw06_two)], narrowed := true }
def GuardTellsUptoSaid : Prop := guardTellsUptoRow.holds Tryd.pinned (OpenSpec.upto guardTellsSpec)

/-- 'honeycomblaw06.GuardParts', WHERE WHAT IT READS IS OF BULK AT MOST 1048576: true; the input reads as it did. -/
def guardPartsUptoRow : OpenClaim := { program := "ytegnppmmcchmgaadoor", sum := "94f8b1225bccfcdcfc009ceac43f53cc866f52c8c4592ac61fbe22d9e60f6bbb", func := "honeycomb/honeycomblaw06.GuardParts", spec := "guardParts", unfollowed := true, recurses := true, named := ["honeycomb/honeycomblaw06.two"], apart := false, laid := [("honeycomb/honeycomblaw06.two", laid_honeycomb_honeycomblaw06_two)], narrowed := true }
def GuardPartsUptoSaid : Prop := guardPartsUptoRow.holds Tryd.pinned (OpenSpec.upto guardPartsSpec)

end Rows
end Go.Proofs.YtegnppmmcchmgaaDoor
