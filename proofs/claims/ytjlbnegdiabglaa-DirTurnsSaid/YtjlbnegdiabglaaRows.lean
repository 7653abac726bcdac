/-
  No cell of these rows narrows 'for every input' (looked for: loops, veiled, ifaces, maps, wideKeys, modest, calm, conditions, laid).
  DERIVED. THE GIVEN ROWS OF THIS SEAT. 5 by the template 'for every input the law returns true; each argument reads behind the call as it read before'; 0 by the template 'total and deterministic' (their statements: YtjlbnegdiabglaaTotals.lean).
  GIVEN WITH THE SEED: the statements are not yours to turn. If you find one false, say at which input.
  Laid BY PROGRAM, IN A SANDBOX (cutbox-rows.mjs): the forced cells as the released guide's own fill.sh prints them over the translation 064dc7cf278ccdaa… (all of the seat's roots in one cut). By AI agents, Wed Nov 11 2026. No macro, syntax, notation, axiom, sorry.
-/
import Derived.Test.YtjlbnegdiabglaaChecked
import GoSem.Claim
import GoSem.ClaimJoined
import GoSem.ClaimMapViews
import Derived.JoinedTies
import Derived.KernelRfl
namespace Go.Proofs.Ytjlbnegdiabglaa
/- THE CELL 'sum', in the pinned program and in every row, IS THE sha256 OF THE DUMP (.gsa) THAT YtjlbnegdiabglaaProg.lean LOADS. Nothing in Lean hashes anything: it is a label: what it is worth is what the hold of that sum in a sandbox is worth. -/
noncomputable def Try.pinned : Pinned := { name := "ytjlbnegdiabglaa", sum := "064dc7cf278ccdaab0417ef9dd35dd02fec6880ca772a19ba12735bb788d8a01", checked := Try.checked }
namespace Rows
def none {H : Type} : Left H := { results := [], args := [] }

/-- 'honeycomblaw21.DirWhole': WHATEVER THE INPUT: true; the input reads as it did. -/
def dirWholeSpec : ChangeSpec := { name := "dirWhole", fn := fun _ => fun
  | [d1, d2] => { results := [.lit (.bool true)], args := [d1, d2] }
  | _ => none }
def dirWholeRow : OpenClaim := { program := "ytjlbnegdiabglaa", sum := "064dc7cf278ccdaab0417ef9dd35dd02fec6880ca772a19ba12735bb788d8a01", func := "honeycomb/honeycomblaw21.DirWhole", spec := "dirWhole", unfollowed := true, recurses := true, apart := false }
def DirWholeSaid : Prop := dirWholeRow.holds Try.pinned (OpenSpec.ofChange dirWholeSpec)

/-- ITS FALSE NEIGHBOUR: 'it returns false'. Refute it at one input. -/
def dirWholeWrong : ChangeSpec := { name := "dirWhole", fn := fun _ => fun
  | [d1, d2] => { results := [.lit (.bool false)], args := [d1, d2] }
  | _ => none }
def DirWholeWrongFalsely : Prop := dirWholeRow.holds Try.pinned (OpenSpec.ofChange dirWholeWrong)

/-- 'honeycomblaw21.DirMay': WHATEVER THE INPUT: true; the input reads as it did. -/
def dirMaySpec : ChangeSpec := { name := "dirMay", fn := fun _ => fun
  | [d1, d2, d3] => { results := [.lit (.bool true)], args := [d1, d2, d3] }
  | _ => none }
def dirMayRow : OpenClaim := { program := "ytjlbnegdiabglaa", sum := "064dc7cf278ccdaab0417ef9dd35dd02fec6880ca772a19ba12735bb788d8a01", func := "honeycomb/honeycomblaw21.DirMay", spec := "dirMay", unfollowed := true, recurses := true, apart := false }
def DirMaySaid : Prop := dirMayRow.holds Try.pinned (OpenSpec.ofChange dirMaySpec)

/-- ITS FALSE NEIGHBOUR: 'it returns false'. Refute it at one input. -/
def dirMayWrong : ChangeSpec := { name := "dirMay", fn := fun _ => fun
  | [d1, d2, d3] => { results := [.lit (.bool false)], args := [d1, d2, d3] }
  | _ => none }
def DirMayWrongFalsely : Prop := dirMayRow.holds Try.pinned (OpenSpec.ofChange dirMayWrong)

/-- 'honeycomblaw21.DirSplits': WHATEVER THE INPUT: true; the input reads as it did. -/
def dirSplitsSpec : ChangeSpec := { name := "dirSplits", fn := fun _ => fun
  | [d1, d2] => { results := [.lit (.bool true)], args := [d1, d2] }
  | _ => none }
def dirSplitsRow : OpenClaim := { program := "ytjlbnegdiabglaa", sum := "064dc7cf278ccdaab0417ef9dd35dd02fec6880ca772a19ba12735bb788d8a01", func := "honeycomb/honeycomblaw21.DirSplits", spec := "dirSplits", unfollowed := true, recurses := true, apart := false }
def DirSplitsSaid : Prop := dirSplitsRow.holds Try.pinned (OpenSpec.ofChange dirSplitsSpec)

/-- ITS FALSE NEIGHBOUR: 'it returns false'. Refute it at one input. -/
def dirSplitsWrong : ChangeSpec := { name := "dirSplits", fn := fun _ => fun
  | [d1, d2] => { results := [.lit (.bool false)], args := [d1, d2] }
  | _ => none }
def DirSplitsWrongFalsely : Prop := dirSplitsRow.holds Try.pinned (OpenSpec.ofChange dirSplitsWrong)

/-- 'honeycomblaw21.DirBack': WHATEVER THE INPUT: true; the input reads as it did. -/
def dirBackSpec : ChangeSpec := { name := "dirBack", fn := fun _ => fun
  | [d] => { results := [.lit (.bool true)], args := [d] }
  | _ => none }
def dirBackRow : OpenClaim := { program := "ytjlbnegdiabglaa", sum := "064dc7cf278ccdaab0417ef9dd35dd02fec6880ca772a19ba12735bb788d8a01", func := "honeycomb/honeycomblaw21.DirBack", spec := "dirBack", unfollowed := true, recurses := true, apart := false }
def DirBackSaid : Prop := dirBackRow.holds Try.pinned (OpenSpec.ofChange dirBackSpec)

/-- ITS FALSE NEIGHBOUR: 'it returns false'. Refute it at one input. -/
def dirBackWrong : ChangeSpec := { name := "dirBack", fn := fun _ => fun
  | [d] => { results := [.lit (.bool false)], args := [d] }
  | _ => none }
def DirBackWrongFalsely : Prop := dirBackRow.holds Try.pinned (OpenSpec.ofChange dirBackWrong)

/-- 'honeycomblaw21.DirTurns': WHATEVER THE INPUT: true; the input reads as it did. -/
def dirTurnsSpec : ChangeSpec := { name := "dirTurns", fn := fun _ => fun
  | [d1, d2] => { results := [.lit (.bool true)], args := [d1, d2] }
  | _ => none }
def dirTurnsRow : OpenClaim := { program := "ytjlbnegdiabglaa", sum := "064dc7cf278ccdaab0417ef9dd35dd02fec6880ca772a19ba12735bb788d8a01", func := "honeycomb/honeycomblaw21.DirTurns", spec := "dirTurns", unfollowed := true, recurses := true, apart := false }
def DirTurnsSaid : Prop := dirTurnsRow.holds Try.pinned (OpenSpec.ofChange dirTurnsSpec)

/-- ITS FALSE NEIGHBOUR: 'it returns false'. Refute it at one input. -/
def dirTurnsWrong : ChangeSpec := { name := "dirTurns", fn := fun _ => fun
  | [d1, d2] => { results := [.lit (.bool false)], args := [d1, d2] }
  | _ => none }
def DirTurnsWrongFalsely : Prop := dirTurnsRow.holds Try.pinned (OpenSpec.ofChange dirTurnsWrong)

/- THE SECOND FORM. 'bulk': how many values and letters a reading holds, each counted each time it is reached (what is shared counts as often as it is met; a slice's spare places count too). A statement '..UptoSaid' is the law's where the arguments, and the package variables that the reading takes, are together of bulk at most 1048576: NARROWER than '..Said'. Prove '..Said' where nothing that the law and all that it calls make is longer than what came in: it says more and counts as full. Else prove '..UptoSaid'. A law counts once. -/
mutual
def uptoBulk {H : Type} : DataW H → Nat
  | .lit (.string bytes) => bytes.length + 1
  | .lit _ => 1
  | .nil => 1
  | .ptr d => uptoBulk d + 1
  | .slice elems spare => uptoBulkAll elems + uptoBulkAll spare + 1
  | .agg parts => uptoBulkAll parts + 1
  | .iface _ d => uptoBulk d + 1
  | .map entries => uptoBulkEntries entries + 1
  | .held _ => 1
def uptoBulkAll {H : Type} : List (DataW H) → Nat
  | [] => 0
  | d :: r => uptoBulk d + uptoBulkAll r
def uptoBulkEntries {H : Type} : List (Lit × DataW H) → Nat
  | [] => 0
  | x :: r => uptoBulkEntry x + uptoBulkEntries r
def uptoBulkEntry {H : Type} : Lit × DataW H → Nat
  | (.string bytes, d) => bytes.length + uptoBulk d + 1
  | (_, d) => uptoBulk d + 1
 end
def uptoSmall : (H : Type) → List (DataW H) → Bool := fun _ ds => decide (uptoBulkAll ds ≤ 1048576)
def OpenSpec.upto (s : _root_.Go.ChangeSpec) : _root_.Go.OpenSpec := { _root_.Go.OpenSpec.ofChange s with cond := some uptoSmall }

/-- 'honeycomblaw21.DirWhole', WHERE WHAT IT READS IS OF BULK AT MOST 1048576: true; the input reads as it did. -/
def dirWholeUptoRow : OpenClaim := { program := "ytjlbnegdiabglaa", sum := "064dc7cf278ccdaab0417ef9dd35dd02fec6880ca772a19ba12735bb788d8a01", func := "honeycomb/honeycomblaw21.DirWhole", spec := "dirWhole", unfollowed := true, recurses := true, apart := false, narrowed := true }
def DirWholeUptoSaid : Prop := dirWholeUptoRow.holds Try.pinned (OpenSpec.upto dirWholeSpec)

/-- 'honeycomblaw21.DirMay', WHERE WHAT IT READS IS OF BULK AT MOST 1048576: true; the input reads as it did. -/
def dirMayUptoRow : OpenClaim := { program := "ytjlbnegdiabglaa", sum := "064dc7cf278ccdaab0417ef9dd35dd02fec6880ca772a19ba12735bb788d8a01", func := "honeycomb/honeycomblaw21.DirMay", spec := "dirMay", unfollowed := true, recurses := true, apart := false, narrowed := true }
def DirMayUptoSaid : Prop := dirMayUptoRow.holds Try.pinned (OpenSpec.upto dirMaySpec)

/-- 'honeycomblaw21.DirSplits', WHERE WHAT IT READS IS OF BULK AT MOST 1048576: true; the input reads as it did. -/
def dirSplitsUptoRow : OpenClaim := { program := "ytjlbnegdiabglaa", sum := "064dc7cf278ccdaab0417ef9dd35dd02fec6880ca772a19ba12735bb788d8a01", func := "honeycomb/honeycomblaw21.DirSplits", spec := "dirSplits", unfollowed := true, recurses := true, apart := false, narrowed := true }
def DirSplitsUptoSaid : Prop := dirSplitsUptoRow.holds Try.pinned (OpenSpec.upto dirSplitsSpec)

/-- 'honeycomblaw21.DirBack', WHERE WHAT IT READS IS OF BULK AT MOST 1048576: true; the input reads as it did. -/
def dirBackUptoRow : OpenClaim := { program := "ytjlbnegdiabglaa", sum := "064dc7cf278ccdaab0417ef9dd35dd02fec6880ca772a19ba12735bb788d8a01", func := "honeycomb/honeycomblaw21.DirBack", spec := "dirBack", unfollowed := true, recurses := true, apart := false, narrowed := true }
def DirBackUptoSaid : Prop := dirBackUptoRow.holds Try.pinned (OpenSpec.upto dirBackSpec)

/-- 'honeycomblaw21.DirTurns', WHERE WHAT IT READS IS OF BULK AT MOST 1048576: true; the input reads as it did. -/
def dirTurnsUptoRow : OpenClaim := { program := "ytjlbnegdiabglaa", sum := "064dc7cf278ccdaab0417ef9dd35dd02fec6880ca772a19ba12735bb788d8a01", func := "honeycomb/honeycomblaw21.DirTurns", spec := "dirTurns", unfollowed := true, recurses := true, apart := false, narrowed := true }
def DirTurnsUptoSaid : Prop := dirTurnsUptoRow.holds Try.pinned (OpenSpec.upto dirTurnsSpec)

end Rows
end Go.Proofs.Ytjlbnegdiabglaa
