/-
  No cell of these rows narrows 'for every input' (looked for: loops, veiled, ifaces, maps, wideKeys, modest, calm, conditions, laid).
  DERIVED. THE GIVEN ROWS OF THIS SEAT. 6 by the template 'for every input the law returns true; each argument reads behind the call as it read before'; 0 by the template 'total and deterministic' (their statements: YtadgihmokmfejaaTotals.lean).
  GIVEN WITH THE SEED: the statements are not yours to turn. If you find one false, say at which input.
  Laid BY PROGRAM, IN A SANDBOX (cutbox-rows.mjs): the forced cells as the released guide's own fill.sh prints them over the translation 684f2721d96e867f… (all of the seat's roots in one cut). By AI agents, Wed Nov 11 2026. No macro, syntax, notation, axiom, sorry.
-/
import Derived.Test.YtadgihmokmfejaaChecked
import GoSem.Claim
import GoSem.ClaimJoined
import GoSem.ClaimMapViews
import Derived.JoinedTies
import Derived.KernelRfl
namespace Go.Proofs.Ytadgihmokmfejaa
/- THE CELL 'sum', in the pinned program and in every row, IS THE sha256 OF THE DUMP (.gsa) THAT YtadgihmokmfejaaProg.lean LOADS. Nothing in Lean hashes anything: it is a label: what it is worth is what the hold of that sum in a sandbox is worth. -/
noncomputable def Try.pinned : Pinned := { name := "ytadgihmokmfejaa", sum := "684f2721d96e867f9a044e875841e0d70e524df72a7badfd3c8bb4b0d32eaa1f", checked := Try.checked }
namespace Rows
def none {H : Type} : Left H := { results := [], args := [] }

/-- 'honeycomblaw02.CellsShare': WHATEVER THE INPUT: true; the input reads as it did. -/
def cellsShareSpec : ChangeSpec := { name := "cellsShare", fn := fun _ => fun
  | [d1, d2] => { results := [.lit (.bool true)], args := [d1, d2] }
  | _ => none }
def cellsShareRow : OpenClaim := { program := "ytadgihmokmfejaa", sum := "684f2721d96e867f9a044e875841e0d70e524df72a7badfd3c8bb4b0d32eaa1f", func := "honeycomb/honeycomblaw02.CellsShare", spec := "cellsShare", inPlace := ["sync/atomic.StoreUint64", "sync/atomic.LoadUint64"], unfollowed := true, recurses := true, apart := false }
def CellsShareSaid : Prop := cellsShareRow.holds Try.pinned (OpenSpec.ofChange cellsShareSpec)

/-- ITS FALSE NEIGHBOUR: 'it returns false'. Refute it at one input. -/
def cellsShareWrong : ChangeSpec := { name := "cellsShare", fn := fun _ => fun
  | [d1, d2] => { results := [.lit (.bool false)], args := [d1, d2] }
  | _ => none }
def CellsShareWrongFalsely : Prop := cellsShareRow.holds Try.pinned (OpenSpec.ofChange cellsShareWrong)

/-- 'honeycomblaw02.CellsAdds': WHATEVER THE INPUT: true; the input reads as it did. -/
def cellsAddsSpec : ChangeSpec := { name := "cellsAdds", fn := fun _ => fun
  | [d1, d2, d3] => { results := [.lit (.bool true)], args := [d1, d2, d3] }
  | _ => none }
def cellsAddsRow : OpenClaim := { program := "ytadgihmokmfejaa", sum := "684f2721d96e867f9a044e875841e0d70e524df72a7badfd3c8bb4b0d32eaa1f", func := "honeycomb/honeycomblaw02.CellsAdds", spec := "cellsAdds", inPlace := ["sync/atomic.StoreUint64", "sync/atomic.LoadUint64"], unfollowed := true, recurses := true, apart := false }
def CellsAddsSaid : Prop := cellsAddsRow.holds Try.pinned (OpenSpec.ofChange cellsAddsSpec)

/-- ITS FALSE NEIGHBOUR: 'it returns false'. Refute it at one input. -/
def cellsAddsWrong : ChangeSpec := { name := "cellsAdds", fn := fun _ => fun
  | [d1, d2, d3] => { results := [.lit (.bool false)], args := [d1, d2, d3] }
  | _ => none }
def CellsAddsWrongFalsely : Prop := cellsAddsRow.holds Try.pinned (OpenSpec.ofChange cellsAddsWrong)

/-- 'honeycomblaw02.CellsAlike': WHATEVER THE INPUT: true; the input reads as it did. -/
def cellsAlikeSpec : ChangeSpec := { name := "cellsAlike", fn := fun _ => fun
  | [d1, d2] => { results := [.lit (.bool true)], args := [d1, d2] }
  | _ => none }
def cellsAlikeRow : OpenClaim := { program := "ytadgihmokmfejaa", sum := "684f2721d96e867f9a044e875841e0d70e524df72a7badfd3c8bb4b0d32eaa1f", func := "honeycomb/honeycomblaw02.CellsAlike", spec := "cellsAlike", inPlace := ["sync/atomic.StoreUint64", "sync/atomic.LoadUint64"], unfollowed := true, recurses := true, apart := false }
def CellsAlikeSaid : Prop := cellsAlikeRow.holds Try.pinned (OpenSpec.ofChange cellsAlikeSpec)

/-- ITS FALSE NEIGHBOUR: 'it returns false'. Refute it at one input. -/
def cellsAlikeWrong : ChangeSpec := { name := "cellsAlike", fn := fun _ => fun
  | [d1, d2] => { results := [.lit (.bool false)], args := [d1, d2] }
  | _ => none }
def CellsAlikeWrongFalsely : Prop := cellsAlikeRow.holds Try.pinned (OpenSpec.ofChange cellsAlikeWrong)

/-- 'honeycomblaw02.CellsDo': WHATEVER THE INPUT: true; the input reads as it did. -/
def cellsDoSpec : ChangeSpec := { name := "cellsDo", fn := fun _ => fun
  | [d1, d2] => { results := [.lit (.bool true)], args := [d1, d2] }
  | _ => none }
def cellsDoRow : OpenClaim := { program := "ytadgihmokmfejaa", sum := "684f2721d96e867f9a044e875841e0d70e524df72a7badfd3c8bb4b0d32eaa1f", func := "honeycomb/honeycomblaw02.CellsDo", spec := "cellsDo", inPlace := ["sync/atomic.StoreUint64", "sync/atomic.LoadUint64"], unfollowed := true, recurses := true, apart := false }
def CellsDoSaid : Prop := cellsDoRow.holds Try.pinned (OpenSpec.ofChange cellsDoSpec)

/-- ITS FALSE NEIGHBOUR: 'it returns false'. Refute it at one input. -/
def cellsDoWrong : ChangeSpec := { name := "cellsDo", fn := fun _ => fun
  | [d1, d2] => { results := [.lit (.bool false)], args := [d1, d2] }
  | _ => none }
def CellsDoWrongFalsely : Prop := cellsDoRow.holds Try.pinned (OpenSpec.ofChange cellsDoWrong)

/-- 'honeycomblaw02.CellsMarks': WHATEVER THE INPUT: true; the input reads as it did. -/
def cellsMarksSpec : ChangeSpec := { name := "cellsMarks", fn := fun _ => fun
  | [d1, d2, d3] => { results := [.lit (.bool true)], args := [d1, d2, d3] }
  | _ => none }
def cellsMarksRow : OpenClaim := { program := "ytadgihmokmfejaa", sum := "684f2721d96e867f9a044e875841e0d70e524df72a7badfd3c8bb4b0d32eaa1f", func := "honeycomb/honeycomblaw02.CellsMarks", spec := "cellsMarks", inPlace := ["sync/atomic.StoreUint64", "sync/atomic.LoadUint64"], unfollowed := true, recurses := true, apart := false }
def CellsMarksSaid : Prop := cellsMarksRow.holds Try.pinned (OpenSpec.ofChange cellsMarksSpec)

/-- ITS FALSE NEIGHBOUR: 'it returns false'. Refute it at one input. -/
def cellsMarksWrong : ChangeSpec := { name := "cellsMarks", fn := fun _ => fun
  | [d1, d2, d3] => { results := [.lit (.bool false)], args := [d1, d2, d3] }
  | _ => none }
def CellsMarksWrongFalsely : Prop := cellsMarksRow.holds Try.pinned (OpenSpec.ofChange cellsMarksWrong)

/-- 'honeycomblaw02.CellsBack': WHATEVER THE INPUT: true; the input reads as it did. -/
def cellsBackSpec : ChangeSpec := { name := "cellsBack", fn := fun _ => fun
  | [d1, d2] => { results := [.lit (.bool true)], args := [d1, d2] }
  | _ => none }
def cellsBackRow : OpenClaim := { program := "ytadgihmokmfejaa", sum := "684f2721d96e867f9a044e875841e0d70e524df72a7badfd3c8bb4b0d32eaa1f", func := "honeycomb/honeycomblaw02.CellsBack", spec := "cellsBack", inPlace := ["sync/atomic.StoreUint64", "sync/atomic.LoadUint64"], unfollowed := true, recurses := true, apart := false }
def CellsBackSaid : Prop := cellsBackRow.holds Try.pinned (OpenSpec.ofChange cellsBackSpec)

/-- ITS FALSE NEIGHBOUR: 'it returns false'. Refute it at one input. -/
def cellsBackWrong : ChangeSpec := { name := "cellsBack", fn := fun _ => fun
  | [d1, d2] => { results := [.lit (.bool false)], args := [d1, d2] }
  | _ => none }
def CellsBackWrongFalsely : Prop := cellsBackRow.holds Try.pinned (OpenSpec.ofChange cellsBackWrong)

/- THE SECOND FORM. 'bulk': how many values and letters a reading holds, each counted each time it is reached (what is shared counts as often as it is met; a slice's spare places count too). A statement '..UptoSaid' is the law's where the arguments, and the package variables that the reading takes, are together of bulk at most 1048576: NARROWER than '..Said'. Prove '..Said' where nothing that the law and all that it calls make is longer than what came in: it says more and counts as full. Else prove '..UptoSaid'. A law counts once. -/
mutual
def uptoBulk {H : Type} : DataW H → Nat
  | .lit (.string bytes) => bytes.length + 1
  | .lit _ => 1
  | .nil => 1
  | .ptr d => uptoBulk d + 1
  | .slice elems spare => uptoBulkAll elems + uptoBulkAll spare + 1
  | .agg parts => uptoBulkAll parts + 1
  | .iface _ d => uptoBulk d + 1
  | .map entries => uptoBulkEntries entries + 1
  | .held _ => 1
def uptoBulkAll {H : Type} : List (DataW H) → Nat
  | [] => 0
  | d :: r => uptoBulk d + uptoBulkAll r
def uptoBulkEntries {H : Type} : List (Lit × DataW H) → Nat
  | [] => 0
  | x :: r => uptoBulkEntry x + uptoBulkEntries r
def uptoBulkEntry {H : Type} : Lit × DataW H → Nat
  | (.string bytes, d) => bytes.length + uptoBulk d + 1
  | (_, d) => uptoBulk d + 1
 end
def uptoSmall : (H : Type) → List (DataW H) → Bool := fun _ ds => decide (uptoBulkAll ds ≤ 1048576)
def OpenSpec.upto (s : _root_.Go.ChangeSpec) : _root_.Go.OpenSpec := { _root_.Go.OpenSpec.ofChange s with cond := some uptoSmall }

/-- 'honeycomblaw02.CellsShare', WHERE WHAT IT READS IS OF BULK AT MOST 1048576: true; the input reads as it did. -/
def cellsShareUptoRow : OpenClaim := { program := "ytadgihmokmfejaa", sum := "684f2721d96e867f9a044e875841e0d70e524df72a7badfd3c8bb4b0d32eaa1f", func := "honeycomb/honeycomblaw02.CellsShare", spec := "cellsShare", inPlace := ["sync/atomic.StoreUint64", "sync/atomic.LoadUint64"], unfollowed := true, recurses := true, apart := false, narrowed := true }
def CellsShareUptoSaid : Prop := cellsShareUptoRow.holds Try.pinned (OpenSpec.upto cellsShareSpec)

/-- 'honeycomblaw02.CellsAdds', WHERE WHAT IT READS IS OF BULK AT MOST 1048576: true; the input reads as it did. -/
def cellsAddsUptoRow : OpenClaim := { program := "ytadgihmokmfejaa", sum := "684f2721d96e867f9a044e875841e0d70e524df72a7badfd3c8bb4b0d32eaa1f", func := "honeycomb/honeycomblaw02.CellsAdds", spec := "cellsAdds", inPlace := ["sync/atomic.StoreUint64", "sync/atomic.LoadUint64"], unfollowed := true, recurses := true, apart := false, narrowed := true }
def CellsAddsUptoSaid : Prop := cellsAddsUptoRow.holds Try.pinned (OpenSpec.upto cellsAddsSpec)

/-- 'honeycomblaw02.CellsAlike', WHERE WHAT IT READS IS OF BULK AT MOST 1048576: true; the input reads as it did. -/
def cellsAlikeUptoRow : OpenClaim := { program := "ytadgihmokmfejaa", sum := "684f2721d96e867f9a044e875841e0d70e524df72a7badfd3c8bb4b0d32eaa1f", func := "honeycomb/honeycomblaw02.CellsAlike", spec := "cellsAlike", inPlace := ["sync/atomic.StoreUint64", "sync/atomic.LoadUint64"], unfollowed := true, recurses := true, apart := false, narrowed := true }
def CellsAlikeUptoSaid : Prop := cellsAlikeUptoRow.holds Try.pinned (OpenSpec.upto cellsAlikeSpec)

/-- 'honeycomblaw02.CellsDo', WHERE WHAT IT READS IS OF BULK AT MOST 1048576: true; the input reads as it did. -/
def cellsDoUptoRow : OpenClaim := { program := "ytadgihmokmfejaa", sum := "684f2721d96e867f9a044e875841e0d70e524df72a7badfd3c8bb4b0d32eaa1f", func := "honeycomb/honeycomblaw02.CellsDo", spec := "cellsDo", inPlace := ["sync/atomic.StoreUint64", "sync/atomic.LoadUint64"], unfollowed := true, recurses := true, apart := false, narrowed := true }
def CellsDoUptoSaid : Prop := cellsDoUptoRow.holds Try.pinned (OpenSpec.upto cellsDoSpec)

/-- 'honeycomblaw02.CellsMarks', WHERE WHAT IT READS IS OF BULK AT MOST 1048576: true; the input reads as it did. -/
def cellsMarksUptoRow : OpenClaim := { program := "ytadgihmokmfejaa", sum := "684f2721d96e867f9a044e875841e0d70e524df72a7badfd3c8bb4b0d32eaa1f", func := "honeycomb/honeycomblaw02.CellsMarks", spec := "cellsMarks", inPlace := ["sync/atomic.StoreUint64", "sync/atomic.LoadUint64"], unfollowed := true, recurses := true, apart := false, narrowed := true }
def CellsMarksUptoSaid : Prop := cellsMarksUptoRow.holds Try.pinned (OpenSpec.upto cellsMarksSpec)

/-- 'honeycomblaw02.CellsBack', WHERE WHAT IT READS IS OF BULK AT MOST 1048576: true; the input reads as it did. -/
def cellsBackUptoRow : OpenClaim := { program := "ytadgihmokmfejaa", sum := "684f2721d96e867f9a044e875841e0d70e524df72a7badfd3c8bb4b0d32eaa1f", func := "honeycomb/honeycomblaw02.CellsBack", spec := "cellsBack", inPlace := ["sync/atomic.StoreUint64", "sync/atomic.LoadUint64"], unfollowed := true, recurses := true, apart := false, narrowed := true }
def CellsBackUptoSaid : Prop := cellsBackUptoRow.holds Try.pinned (OpenSpec.upto cellsBackSpec)

end Rows
end Go.Proofs.Ytadgihmokmfejaa
