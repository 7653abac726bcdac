/-
  No cell of these rows narrows 'for every input' (looked for: loops, veiled, ifaces, maps, wideKeys, modest, calm, conditions, laid).
  DERIVED. THE GIVEN ROWS OF THIS SEAT. 6 by the template 'for every input the law returns true; each argument reads behind the call as it read before'; 0 by the template 'total and deterministic' (their statements: YtogjokoaghpjiaaTotals.lean).
  GIVEN WITH THE SEED: the statements are not yours to turn. If you find one false, say at which input.
  Laid BY PROGRAM, IN A SANDBOX (cutbox-rows.mjs): the forced cells as the released guide's own fill.sh prints them over the translation caa001779de0cc98… (all of the seat's roots in one cut). By AI agents, Wed Nov 11 2026. No macro, syntax, notation, axiom, sorry.
-/
import Derived.Test.YtogjokoaghpjiaaChecked
import GoSem.Claim
import GoSem.ClaimJoined
import GoSem.ClaimMapViews
import Derived.JoinedTies
import Derived.KernelRfl
namespace Go.Proofs.Ytogjokoaghpjiaa
/- THE CELL 'sum', in the pinned program and in every row, IS THE sha256 OF THE DUMP (.gsa) THAT YtogjokoaghpjiaaProg.lean LOADS. Nothing in Lean hashes anything: it is a label: what it is worth is what the hold of that sum in a sandbox is worth. -/
noncomputable def Try.pinned : Pinned := { name := "ytogjokoaghpjiaa", sum := "caa001779de0cc986ddd5c020d3eee784efc6cefdf54cd583f8455997129c775", checked := Try.checked }
namespace Rows
def none {H : Type} : Left H := { results := [], args := [] }

/-- 'honeycomblaw04.PicksChoose': WHATEVER THE INPUT: true; the input reads as it did. -/
def picksChooseSpec : ChangeSpec := { name := "picksChoose", fn := fun _ => fun
  | [d1, d2] => { results := [.lit (.bool true)], args := [d1, d2] }
  | _ => none }
def picksChooseRow : OpenClaim := { program := "ytogjokoaghpjiaa", sum := "caa001779de0cc986ddd5c020d3eee784efc6cefdf54cd583f8455997129c775", func := "honeycomb/honeycomblaw04.PicksChoose", spec := "picksChoose", unfollowed := true, recurses := true, apart := false }
def PicksChooseSaid : Prop := picksChooseRow.holds Try.pinned (OpenSpec.ofChange picksChooseSpec)

/-- ITS FALSE NEIGHBOUR: 'it returns false'. Refute it at one input. -/
def picksChooseWrong : ChangeSpec := { name := "picksChoose", fn := fun _ => fun
  | [d1, d2] => { results := [.lit (.bool false)], args := [d1, d2] }
  | _ => none }
def PicksChooseWrongFalsely : Prop := picksChooseRow.holds Try.pinned (OpenSpec.ofChange picksChooseWrong)

/-- 'honeycomblaw04.PicksLongest': WHATEVER THE INPUT: true; the input reads as it did. -/
def picksLongestSpec : ChangeSpec := { name := "picksLongest", fn := fun _ => fun
  | [d1, d2] => { results := [.lit (.bool true)], args := [d1, d2] }
  | _ => none }
def picksLongestRow : OpenClaim := { program := "ytogjokoaghpjiaa", sum := "caa001779de0cc986ddd5c020d3eee784efc6cefdf54cd583f8455997129c775", func := "honeycomb/honeycomblaw04.PicksLongest", spec := "picksLongest", unfollowed := true, recurses := true, apart := false }
def PicksLongestSaid : Prop := picksLongestRow.holds Try.pinned (OpenSpec.ofChange picksLongestSpec)

/-- ITS FALSE NEIGHBOUR: 'it returns false'. Refute it at one input. -/
def picksLongestWrong : ChangeSpec := { name := "picksLongest", fn := fun _ => fun
  | [d1, d2] => { results := [.lit (.bool false)], args := [d1, d2] }
  | _ => none }
def PicksLongestWrongFalsely : Prop := picksLongestRow.holds Try.pinned (OpenSpec.ofChange picksLongestWrong)

/-- 'honeycomblaw04.PicksParts': WHATEVER THE INPUT: true; the input reads as it did. -/
def picksPartsSpec : ChangeSpec := { name := "picksParts", fn := fun _ => fun
  | [d1, d2, d3] => { results := [.lit (.bool true)], args := [d1, d2, d3] }
  | _ => none }
def picksPartsRow : OpenClaim := { program := "ytogjokoaghpjiaa", sum := "caa001779de0cc986ddd5c020d3eee784efc6cefdf54cd583f8455997129c775", func := "honeycomb/honeycomblaw04.PicksParts", spec := "picksParts", unfollowed := true, recurses := true, apart := false }
def PicksPartsSaid : Prop := picksPartsRow.holds Try.pinned (OpenSpec.ofChange picksPartsSpec)

/-- ITS FALSE NEIGHBOUR: 'it returns false'. Refute it at one input. -/
def picksPartsWrong : ChangeSpec := { name := "picksParts", fn := fun _ => fun
  | [d1, d2, d3] => { results := [.lit (.bool false)], args := [d1, d2, d3] }
  | _ => none }
def PicksPartsWrongFalsely : Prop := picksPartsRow.holds Try.pinned (OpenSpec.ofChange picksPartsWrong)

/-- 'honeycomblaw04.PicksSteers': WHATEVER THE INPUT: true; the input reads as it did. -/
def picksSteersSpec : ChangeSpec := { name := "picksSteers", fn := fun _ => fun
  | [d1, d2, d3] => { results := [.lit (.bool true)], args := [d1, d2, d3] }
  | _ => none }
def picksSteersRow : OpenClaim := { program := "ytogjokoaghpjiaa", sum := "caa001779de0cc986ddd5c020d3eee784efc6cefdf54cd583f8455997129c775", func := "honeycomb/honeycomblaw04.PicksSteers", spec := "picksSteers", unfollowed := true, recurses := true, apart := false }
def PicksSteersSaid : Prop := picksSteersRow.holds Try.pinned (OpenSpec.ofChange picksSteersSpec)

/-- ITS FALSE NEIGHBOUR: 'it returns false'. Refute it at one input. -/
def picksSteersWrong : ChangeSpec := { name := "picksSteers", fn := fun _ => fun
  | [d1, d2, d3] => { results := [.lit (.bool false)], args := [d1, d2, d3] }
  | _ => none }
def PicksSteersWrongFalsely : Prop := picksSteersRow.holds Try.pinned (OpenSpec.ofChange picksSteersWrong)

/-- 'honeycomblaw04.PicksTurns': WHATEVER THE INPUT: true; the input reads as it did. -/
def picksTurnsSpec : ChangeSpec := { name := "picksTurns", fn := fun _ => fun
  | [d1, d2, d3] => { results := [.lit (.bool true)], args := [d1, d2, d3] }
  | _ => none }
def picksTurnsRow : OpenClaim := { program := "ytogjokoaghpjiaa", sum := "caa001779de0cc986ddd5c020d3eee784efc6cefdf54cd583f8455997129c775", func := "honeycomb/honeycomblaw04.PicksTurns", spec := "picksTurns", unfollowed := true, recurses := true, apart := false }
def PicksTurnsSaid : Prop := picksTurnsRow.holds Try.pinned (OpenSpec.ofChange picksTurnsSpec)

/-- ITS FALSE NEIGHBOUR: 'it returns false'. Refute it at one input. -/
def picksTurnsWrong : ChangeSpec := { name := "picksTurns", fn := fun _ => fun
  | [d1, d2, d3] => { results := [.lit (.bool false)], args := [d1, d2, d3] }
  | _ => none }
def PicksTurnsWrongFalsely : Prop := picksTurnsRow.holds Try.pinned (OpenSpec.ofChange picksTurnsWrong)

/-- 'honeycomblaw04.PicksNext': WHATEVER THE INPUT: true; the input reads as it did. -/
def picksNextSpec : ChangeSpec := { name := "picksNext", fn := fun _ => fun
  | [d1, d2, d3] => { results := [.lit (.bool true)], args := [d1, d2, d3] }
  | _ => none }
def picksNextRow : OpenClaim := { program := "ytogjokoaghpjiaa", sum := "caa001779de0cc986ddd5c020d3eee784efc6cefdf54cd583f8455997129c775", func := "honeycomb/honeycomblaw04.PicksNext", spec := "picksNext", unfollowed := true, recurses := true, apart := false }
def PicksNextSaid : Prop := picksNextRow.holds Try.pinned (OpenSpec.ofChange picksNextSpec)

/-- ITS FALSE NEIGHBOUR: 'it returns false'. Refute it at one input. -/
def picksNextWrong : ChangeSpec := { name := "picksNext", fn := fun _ => fun
  | [d1, d2, d3] => { results := [.lit (.bool false)], args := [d1, d2, d3] }
  | _ => none }
def PicksNextWrongFalsely : Prop := picksNextRow.holds Try.pinned (OpenSpec.ofChange picksNextWrong)

/- THE SECOND FORM. 'bulk': how many values and letters a reading holds, each counted each time it is reached (what is shared counts as often as it is met; a slice's spare places count too). A statement '..UptoSaid' is the law's where the arguments, and the package variables that the reading takes, are together of bulk at most 1048576: NARROWER than '..Said'. Prove '..Said' where nothing that the law and all that it calls make is longer than what came in: it says more and counts as full. Else prove '..UptoSaid'. A law counts once. -/
mutual
def uptoBulk {H : Type} : DataW H → Nat
  | .lit (.string bytes) => bytes.length + 1
  | .lit _ => 1
  | .nil => 1
  | .ptr d => uptoBulk d + 1
  | .slice elems spare => uptoBulkAll elems + uptoBulkAll spare + 1
  | .agg parts => uptoBulkAll parts + 1
  | .iface _ d => uptoBulk d + 1
  | .map entries => uptoBulkEntries entries + 1
  | .held _ => 1
def uptoBulkAll {H : Type} : List (DataW H) → Nat
  | [] => 0
  | d :: r => uptoBulk d + uptoBulkAll r
def uptoBulkEntries {H : Type} : List (Lit × DataW H) → Nat
  | [] => 0
  | x :: r => uptoBulkEntry x + uptoBulkEntries r
def uptoBulkEntry {H : Type} : Lit × DataW H → Nat
  | (.string bytes, d) => bytes.length + uptoBulk d + 1
  | (_, d) => uptoBulk d + 1
 end
def uptoSmall : (H : Type) → List (DataW H) → Bool := fun _ ds => decide (uptoBulkAll ds ≤ 1048576)
def OpenSpec.upto (s : _root_.Go.ChangeSpec) : _root_.Go.OpenSpec := { _root_.Go.OpenSpec.ofChange s with cond := some uptoSmall }

/-- 'honeycomblaw04.PicksChoose', WHERE WHAT IT READS IS OF BULK AT MOST 1048576: true; the input reads as it did. -/
def picksChooseUptoRow : OpenClaim := { program := "ytogjokoaghpjiaa", sum := "caa001779de0cc986ddd5c020d3eee784efc6cefdf54cd583f8455997129c775", func := "honeycomb/honeycomblaw04.PicksChoose", spec := "picksChoose", unfollowed := true, recurses := true, apart := false, narrowed := true }
def PicksChooseUptoSaid : Prop := picksChooseUptoRow.holds Try.pinned (OpenSpec.upto picksChooseSpec)

/-- 'honeycomblaw04.PicksLongest', WHERE WHAT IT READS IS OF BULK AT MOST 1048576: true; the input reads as it did. -/
def picksLongestUptoRow : OpenClaim := { program := "ytogjokoaghpjiaa", sum := "caa001779de0cc986ddd5c020d3eee784efc6cefdf54cd583f8455997129c775", func := "honeycomb/honeycomblaw04.PicksLongest", spec := "picksLongest", unfollowed := true, recurses := true, apart := false, narrowed := true }
def PicksLongestUptoSaid : Prop := picksLongestUptoRow.holds Try.pinned (OpenSpec.upto picksLongestSpec)

/-- 'honeycomblaw04.PicksParts', WHERE WHAT IT READS IS OF BULK AT MOST 1048576: true; the input reads as it did. -/
def picksPartsUptoRow : OpenClaim := { program := "ytogjokoaghpjiaa", sum := "caa001779de0cc986ddd5c020d3eee784efc6cefdf54cd583f8455997129c775", func := "honeycomb/honeycomblaw04.PicksParts", spec := "picksParts", unfollowed := true, recurses := true, apart := false, narrowed := true }
def PicksPartsUptoSaid : Prop := picksPartsUptoRow.holds Try.pinned (OpenSpec.upto picksPartsSpec)

/-- 'honeycomblaw04.PicksSteers', WHERE WHAT IT READS IS OF BULK AT MOST 1048576: true; the input reads as it did. -/
def picksSteersUptoRow : OpenClaim := { program := "ytogjokoaghpjiaa", sum := "caa001779de0cc986ddd5c020d3eee784efc6cefdf54cd583f8455997129c775", func := "honeycomb/honeycomblaw04.PicksSteers", spec := "picksSteers", unfollowed := true, recurses := true, apart := false, narrowed := true }
def PicksSteersUptoSaid : Prop := picksSteersUptoRow.holds Try.pinned (OpenSpec.upto picksSteersSpec)

/-- 'honeycomblaw04.PicksTurns', WHERE WHAT IT READS IS OF BULK AT MOST 1048576: true; the input reads as it did. -/
def picksTurnsUptoRow : OpenClaim := { program := "ytogjokoaghpjiaa", sum := "caa001779de0cc986ddd5c020d3eee784efc6cefdf54cd583f8455997129c775", func := "honeycomb/honeycomblaw04.PicksTurns", spec := "picksTurns", unfollowed := true, recurses := true, apart := false, narrowed := true }
def PicksTurnsUptoSaid : Prop := picksTurnsUptoRow.holds Try.pinned (OpenSpec.upto picksTurnsSpec)

/-- 'honeycomblaw04.PicksNext', WHERE WHAT IT READS IS OF BULK AT MOST 1048576: true; the input reads as it did. -/
def picksNextUptoRow : OpenClaim := { program := "ytogjokoaghpjiaa", sum := "caa001779de0cc986ddd5c020d3eee784efc6cefdf54cd583f8455997129c775", func := "honeycomb/honeycomblaw04.PicksNext", spec := "picksNext", unfollowed := true, recurses := true, apart := false, narrowed := true }
def PicksNextUptoSaid : Prop := picksNextUptoRow.holds Try.pinned (OpenSpec.upto picksNextSpec)

end Rows
end Go.Proofs.Ytogjokoaghpjiaa
