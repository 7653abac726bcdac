/-
  No cell of these rows narrows 'for every input' (looked for: loops, veiled, ifaces, maps, wideKeys, modest, calm, conditions, laid).
  DERIVED. THE GIVEN ROWS OF THIS SEAT. 6 by the template 'for every input the law returns true; each argument reads behind the call as it read before'; 0 by the template 'total and deterministic' (their statements: YtkicidopjihjmaaGreatTotals.lean).
  GIVEN WITH THE SEED: the statements are not yours to turn. If you find one false, say at which input.
  Laid BY PROGRAM, IN A SANDBOX (cutbox-rows.mjs): the forced cells as the released guide's own fill.sh prints them over the translation dc4b8b691a23e9db… (all of the seat's roots in one cut). By AI agents, Wed Nov 11 2026. No macro, syntax, notation, axiom, sorry.
-/
import Derived.Test.YtkicidopjihjmaaGreatChecked
import GoSem.Claim
import GoSem.ClaimJoined
import GoSem.ClaimMapViews
import Derived.JoinedTies
import Derived.KernelRfl
namespace Go.Proofs.YtkicidopjihjmaaGreat
/- THE CELL 'sum', in the pinned program and in every row, IS THE sha256 OF THE DUMP (.gsa) THAT YtkicidopjihjmaaGreatProg.lean LOADS. Nothing in Lean hashes anything: it is a label: what it is worth is what the hold of that sum in a sandbox is worth. -/
noncomputable def Tryz.pinned : Pinned := { name := "ytkicidopjihjmaagreat", sum := "dc4b8b691a23e9dbcf6974ffcf1761cb1baf665354c6f7099a726367fd5a5909", checked := Tryz.checked }
namespace Rows
def none {H : Type} : Left H := { results := [], args := [] }

/-- 'honeycomblaw15.EpochOps': WHATEVER THE INPUT: true; the input reads as it did. -/
def epochOpsSpec : ChangeSpec := { name := "epochOps", fn := fun _ => fun
  | [d1, d2] => { results := [.lit (.bool true)], args := [d1, d2] }
  | _ => none }
def epochOpsRow : OpenClaim := { program := "ytkicidopjihjmaagreat", sum := "dc4b8b691a23e9dbcf6974ffcf1761cb1baf665354c6f7099a726367fd5a5909", func := "honeycomb/honeycomblaw15.EpochOps", spec := "epochOps", unfollowed := true, recurses := true, apart := false }
def EpochOpsSaid : Prop := epochOpsRow.holds Tryz.pinned (OpenSpec.ofChange epochOpsSpec)

/-- ITS FALSE NEIGHBOUR: 'it returns false'. Refute it at one input. -/
def epochOpsWrong : ChangeSpec := { name := "epochOps", fn := fun _ => fun
  | [d1, d2] => { results := [.lit (.bool false)], args := [d1, d2] }
  | _ => none }
def EpochOpsWrongFalsely : Prop := epochOpsRow.holds Tryz.pinned (OpenSpec.ofChange epochOpsWrong)

/-- 'honeycomblaw15.EpochAll': WHATEVER THE INPUT: true; the input reads as it did. -/
def epochAllSpec : ChangeSpec := { name := "epochAll", fn := fun _ => fun
  | [d] => { results := [.lit (.bool true)], args := [d] }
  | _ => none }
def epochAllRow : OpenClaim := { program := "ytkicidopjihjmaagreat", sum := "dc4b8b691a23e9dbcf6974ffcf1761cb1baf665354c6f7099a726367fd5a5909", func := "honeycomb/honeycomblaw15.EpochAll", spec := "epochAll", unfollowed := true, recurses := true, apart := false }
def EpochAllSaid : Prop := epochAllRow.holds Tryz.pinned (OpenSpec.ofChange epochAllSpec)

/-- ITS FALSE NEIGHBOUR: 'it returns false'. Refute it at one input. -/
def epochAllWrong : ChangeSpec := { name := "epochAll", fn := fun _ => fun
  | [d] => { results := [.lit (.bool false)], args := [d] }
  | _ => none }
def EpochAllWrongFalsely : Prop := epochAllRow.holds Tryz.pinned (OpenSpec.ofChange epochAllWrong)

/-- 'honeycomblaw15.EpochHolds': WHATEVER THE INPUT: true; the input reads as it did. -/
def epochHoldsSpec : ChangeSpec := { name := "epochHolds", fn := fun _ => fun
  | [d1, d2, d3] => { results := [.lit (.bool true)], args := [d1, d2, d3] }
  | _ => none }
def epochHoldsRow : OpenClaim := { program := "ytkicidopjihjmaagreat", sum := "dc4b8b691a23e9dbcf6974ffcf1761cb1baf665354c6f7099a726367fd5a5909", func := "honeycomb/honeycomblaw15.EpochHolds", spec := "epochHolds", unfollowed := true, recurses := true, apart := false }
def EpochHoldsSaid : Prop := epochHoldsRow.holds Tryz.pinned (OpenSpec.ofChange epochHoldsSpec)

/-- ITS FALSE NEIGHBOUR: 'it returns false'. Refute it at one input. -/
def epochHoldsWrong : ChangeSpec := { name := "epochHolds", fn := fun _ => fun
  | [d1, d2, d3] => { results := [.lit (.bool false)], args := [d1, d2, d3] }
  | _ => none }
def EpochHoldsWrongFalsely : Prop := epochHoldsRow.holds Tryz.pinned (OpenSpec.ofChange epochHoldsWrong)

/-- 'honeycomblaw15.EpochGoes': WHATEVER THE INPUT: true; the input reads as it did. -/
def epochGoesSpec : ChangeSpec := { name := "epochGoes", fn := fun _ => fun
  | [d] => { results := [.lit (.bool true)], args := [d] }
  | _ => none }
def epochGoesRow : OpenClaim := { program := "ytkicidopjihjmaagreat", sum := "dc4b8b691a23e9dbcf6974ffcf1761cb1baf665354c6f7099a726367fd5a5909", func := "honeycomb/honeycomblaw15.EpochGoes", spec := "epochGoes", unfollowed := true, recurses := true, apart := false }
def EpochGoesSaid : Prop := epochGoesRow.holds Tryz.pinned (OpenSpec.ofChange epochGoesSpec)

/-- ITS FALSE NEIGHBOUR: 'it returns false'. Refute it at one input. -/
def epochGoesWrong : ChangeSpec := { name := "epochGoes", fn := fun _ => fun
  | [d] => { results := [.lit (.bool false)], args := [d] }
  | _ => none }
def EpochGoesWrongFalsely : Prop := epochGoesRow.holds Tryz.pinned (OpenSpec.ofChange epochGoesWrong)

/-- 'honeycomblaw15.EpochMay': WHATEVER THE INPUT: true; the input reads as it did. -/
def epochMaySpec : ChangeSpec := { name := "epochMay", fn := fun _ => fun
  | [d1, d2, d3] => { results := [.lit (.bool true)], args := [d1, d2, d3] }
  | _ => none }
def epochMayRow : OpenClaim := { program := "ytkicidopjihjmaagreat", sum := "dc4b8b691a23e9dbcf6974ffcf1761cb1baf665354c6f7099a726367fd5a5909", func := "honeycomb/honeycomblaw15.EpochMay", spec := "epochMay", unfollowed := true, recurses := true, apart := false }
def EpochMaySaid : Prop := epochMayRow.holds Tryz.pinned (OpenSpec.ofChange epochMaySpec)

/-- ITS FALSE NEIGHBOUR: 'it returns false'. Refute it at one input. -/
def epochMayWrong : ChangeSpec := { name := "epochMay", fn := fun _ => fun
  | [d1, d2, d3] => { results := [.lit (.bool false)], args := [d1, d2, d3] }
  | _ => none }
def EpochMayWrongFalsely : Prop := epochMayRow.holds Tryz.pinned (OpenSpec.ofChange epochMayWrong)

/-- 'honeycomblaw15.EpochTries': WHATEVER THE INPUT: true; the input reads as it did. -/
def epochTriesSpec : ChangeSpec := { name := "epochTries", fn := fun _ => fun
  | [d] => { results := [.lit (.bool true)], args := [d] }
  | _ => none }
def epochTriesRow : OpenClaim := { program := "ytkicidopjihjmaagreat", sum := "dc4b8b691a23e9dbcf6974ffcf1761cb1baf665354c6f7099a726367fd5a5909", func := "honeycomb/honeycomblaw15.EpochTries", spec := "epochTries", unfollowed := true, recurses := true, apart := false }
def EpochTriesSaid : Prop := epochTriesRow.holds Tryz.pinned (OpenSpec.ofChange epochTriesSpec)

/-- ITS FALSE NEIGHBOUR: 'it returns false'. Refute it at one input. -/
def epochTriesWrong : ChangeSpec := { name := "epochTries", fn := fun _ => fun
  | [d] => { results := [.lit (.bool false)], args := [d] }
  | _ => none }
def EpochTriesWrongFalsely : Prop := epochTriesRow.holds Tryz.pinned (OpenSpec.ofChange epochTriesWrong)

/- THE SECOND FORM. 'bulk': how many values and letters a reading holds, each counted each time it is reached (what is shared counts as often as it is met; a slice's spare places count too). A statement '..UptoSaid' is the law's where the arguments, and the package variables that the reading takes, are together of bulk at most 1048576: NARROWER than '..Said'. Prove '..Said' where nothing that the law and all that it calls make is longer than what came in: it says more and counts as full. Else prove '..UptoSaid'. A law counts once. -/
mutual
def uptoBulk {H : Type} : DataW H → Nat
  | .lit (.string bytes) => bytes.length + 1
  | .lit _ => 1
  | .nil => 1
  | .ptr d => uptoBulk d + 1
  | .slice elems spare => uptoBulkAll elems + uptoBulkAll spare + 1
  | .agg parts => uptoBulkAll parts + 1
  | .iface _ d => uptoBulk d + 1
  | .map entries => uptoBulkEntries entries + 1
  | .held _ => 1
def uptoBulkAll {H : Type} : List (DataW H) → Nat
  | [] => 0
  | d :: r => uptoBulk d + uptoBulkAll r
def uptoBulkEntries {H : Type} : List (Lit × DataW H) → Nat
  | [] => 0
  | x :: r => uptoBulkEntry x + uptoBulkEntries r
def uptoBulkEntry {H : Type} : Lit × DataW H → Nat
  | (.string bytes, d) => bytes.length + uptoBulk d + 1
  | (_, d) => uptoBulk d + 1
 end
def uptoSmall : (H : Type) → List (DataW H) → Bool := fun _ ds => decide (uptoBulkAll ds ≤ 1048576)
def OpenSpec.upto (s : _root_.Go.ChangeSpec) : _root_.Go.OpenSpec := { _root_.Go.OpenSpec.ofChange s with cond := some uptoSmall }

/-- 'honeycomblaw15.EpochOps', WHERE WHAT IT READS IS OF BULK AT MOST 1048576: true; the input reads as it did. -/
def epochOpsUptoRow : OpenClaim := { program := "ytkicidopjihjmaagreat", sum := "dc4b8b691a23e9dbcf6974ffcf1761cb1baf665354c6f7099a726367fd5a5909", func := "honeycomb/honeycomblaw15.EpochOps", spec := "epochOps", unfollowed := true, recurses := true, apart := false, narrowed := true }
def EpochOpsUptoSaid : Prop := epochOpsUptoRow.holds Tryz.pinned (OpenSpec.upto epochOpsSpec)

/-- 'honeycomblaw15.EpochAll', WHERE WHAT IT READS IS OF BULK AT MOST 1048576: true; the input reads as it did. -/
def epochAllUptoRow : OpenClaim := { program := "ytkicidopjihjmaagreat", sum := "dc4b8b691a23e9dbcf6974ffcf1761cb1baf665354c6f7099a726367fd5a5909", func := "honeycomb/honeycomblaw15.EpochAll", spec := "epochAll", unfollowed := true, recurses := true, apart := false, narrowed := true }
def EpochAllUptoSaid : Prop := epochAllUptoRow.holds Tryz.pinned (OpenSpec.upto epochAllSpec)

/-- 'honeycomblaw15.EpochHolds', WHERE WHAT IT READS IS OF BULK AT MOST 1048576: true; the input reads as it did. -/
def epochHoldsUptoRow : OpenClaim := { program := "ytkicidopjihjmaagreat", sum := "dc4b8b691a23e9dbcf6974ffcf1761cb1baf665354c6f7099a726367fd5a5909", func := "honeycomb/honeycomblaw15.EpochHolds", spec := "epochHolds", unfollowed := true, recurses := true, apart := false, narrowed := true }
def EpochHoldsUptoSaid : Prop := epochHoldsUptoRow.holds Tryz.pinned (OpenSpec.upto epochHoldsSpec)

/-- 'honeycomblaw15.EpochGoes', WHERE WHAT IT READS IS OF BULK AT MOST 1048576: true; the input reads as it did. -/
def epochGoesUptoRow : OpenClaim := { program := "ytkicidopjihjmaagreat", sum := "dc4b8b691a23e9dbcf6974ffcf1761cb1baf665354c6f7099a726367fd5a5909", func := "honeycomb/honeycomblaw15.EpochGoes", spec := "epochGoes", unfollowed := true, recurses := true, apart := false, narrowed := true }
def EpochGoesUptoSaid : Prop := epochGoesUptoRow.holds Tryz.pinned (OpenSpec.upto epochGoesSpec)

/-- 'honeycomblaw15.EpochMay', WHERE WHAT IT READS IS OF BULK AT MOST 1048576: true; the input reads as it did. -/
def epochMayUptoRow : OpenClaim := { program := "ytkicidopjihjmaagreat", sum := "dc4b8b691a23e9dbcf6974ffcf1761cb1baf665354c6f7099a726367fd5a5909", func := "honeycomb/honeycomblaw15.EpochMay", spec := "epochMay", unfollowed := true, recurses := true, apart := false, narrowed := true }
def EpochMayUptoSaid : Prop := epochMayUptoRow.holds Tryz.pinned (OpenSpec.upto epochMaySpec)

/-- 'honeycomblaw15.EpochTries', WHERE WHAT IT READS IS OF BULK AT MOST 1048576: true; the input reads as it did. -/
def epochTriesUptoRow : OpenClaim := { program := "ytkicidopjihjmaagreat", sum := "dc4b8b691a23e9dbcf6974ffcf1761cb1baf665354c6f7099a726367fd5a5909", func := "honeycomb/honeycomblaw15.EpochTries", spec := "epochTries", unfollowed := true, recurses := true, apart := false, narrowed := true }
def EpochTriesUptoSaid : Prop := epochTriesUptoRow.holds Tryz.pinned (OpenSpec.upto epochTriesSpec)

end Rows
end Go.Proofs.YtkicidopjihjmaaGreat
