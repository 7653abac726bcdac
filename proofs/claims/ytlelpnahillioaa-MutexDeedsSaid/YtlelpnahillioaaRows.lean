/-
  No cell of these rows narrows 'for every input' (looked for: loops, veiled, ifaces, maps, wideKeys, modest, calm, conditions, laid).
  DERIVED. THE GIVEN ROWS OF THIS SEAT. 5 by the template 'for every input the law returns true; each argument reads behind the call as it read before'; 0 by the template 'total and deterministic' (their statements: YtlelpnahillioaaTotals.lean).
  GIVEN WITH THE SEED: the statements are not yours to turn. If you find one false, say at which input.
  Laid BY PROGRAM, IN A SANDBOX (cutbox-rows.mjs): the forced cells as the released guide's own fill.sh prints them over the translation ff61c8c0f410648e… (all of the seat's roots in one cut). By AI agents, Wed Nov 11 2026. No macro, syntax, notation, axiom, sorry.
-/
import Derived.Test.YtlelpnahillioaaChecked
import GoSem.Claim
import GoSem.ClaimJoined
import GoSem.ClaimMapViews
import Derived.JoinedTies
import Derived.KernelRfl
namespace Go.Proofs.Ytlelpnahillioaa
/- THE CELL 'sum', in the pinned program and in every row, IS THE sha256 OF THE DUMP (.gsa) THAT YtlelpnahillioaaProg.lean LOADS. Nothing in Lean hashes anything: it is a label: what it is worth is what the hold of that sum in a sandbox is worth. -/
noncomputable def Try.pinned : Pinned := { name := "ytlelpnahillioaa", sum := "ff61c8c0f410648ea4bac6c4afc88330fd27b602b34392881858377bd375f749", checked := Try.checked }
namespace Rows
def none {H : Type} : Left H := { results := [], args := [] }

/-- 'honeycomblaw05.MutexDeeds': WHATEVER THE INPUT: true; the input reads as it did. -/
def mutexDeedsSpec : ChangeSpec := { name := "mutexDeeds", fn := fun _ => fun
  | [d1, d2] => { results := [.lit (.bool true)], args := [d1, d2] }
  | _ => none }
def mutexDeedsRow : OpenClaim := { program := "ytlelpnahillioaa", sum := "ff61c8c0f410648ea4bac6c4afc88330fd27b602b34392881858377bd375f749", func := "honeycomb/honeycomblaw05.MutexDeeds", spec := "mutexDeeds", unfollowed := true, recurses := true, apart := false }
def MutexDeedsSaid : Prop := mutexDeedsRow.holds Try.pinned (OpenSpec.ofChange mutexDeedsSpec)

/-- ITS FALSE NEIGHBOUR: 'it returns false'. Refute it at one input. -/
def mutexDeedsWrong : ChangeSpec := { name := "mutexDeeds", fn := fun _ => fun
  | [d1, d2] => { results := [.lit (.bool false)], args := [d1, d2] }
  | _ => none }
def MutexDeedsWrongFalsely : Prop := mutexDeedsRow.holds Try.pinned (OpenSpec.ofChange mutexDeedsWrong)

/-- 'honeycomblaw05.MutexTurns': WHATEVER THE INPUT: true; the input reads as it did. -/
def mutexTurnsSpec : ChangeSpec := { name := "mutexTurns", fn := fun _ => fun
  | [d] => { results := [.lit (.bool true)], args := [d] }
  | _ => none }
def mutexTurnsRow : OpenClaim := { program := "ytlelpnahillioaa", sum := "ff61c8c0f410648ea4bac6c4afc88330fd27b602b34392881858377bd375f749", func := "honeycomb/honeycomblaw05.MutexTurns", spec := "mutexTurns", unfollowed := true, recurses := true, apart := false }
def MutexTurnsSaid : Prop := mutexTurnsRow.holds Try.pinned (OpenSpec.ofChange mutexTurnsSpec)

/-- ITS FALSE NEIGHBOUR: 'it returns false'. Refute it at one input. -/
def mutexTurnsWrong : ChangeSpec := { name := "mutexTurns", fn := fun _ => fun
  | [d] => { results := [.lit (.bool false)], args := [d] }
  | _ => none }
def MutexTurnsWrongFalsely : Prop := mutexTurnsRow.holds Try.pinned (OpenSpec.ofChange mutexTurnsWrong)

/-- 'honeycomblaw05.MutexOrder': WHATEVER THE INPUT: true; the input reads as it did. -/
def mutexOrderSpec : ChangeSpec := { name := "mutexOrder", fn := fun _ => fun
  | [d1, d2] => { results := [.lit (.bool true)], args := [d1, d2] }
  | _ => none }
def mutexOrderRow : OpenClaim := { program := "ytlelpnahillioaa", sum := "ff61c8c0f410648ea4bac6c4afc88330fd27b602b34392881858377bd375f749", func := "honeycomb/honeycomblaw05.MutexOrder", spec := "mutexOrder", unfollowed := true, recurses := true, apart := false }
def MutexOrderSaid : Prop := mutexOrderRow.holds Try.pinned (OpenSpec.ofChange mutexOrderSpec)

/-- ITS FALSE NEIGHBOUR: 'it returns false'. Refute it at one input. -/
def mutexOrderWrong : ChangeSpec := { name := "mutexOrder", fn := fun _ => fun
  | [d1, d2] => { results := [.lit (.bool false)], args := [d1, d2] }
  | _ => none }
def MutexOrderWrongFalsely : Prop := mutexOrderRow.holds Try.pinned (OpenSpec.ofChange mutexOrderWrong)

/-- 'honeycomblaw05.MutexMay': WHATEVER THE INPUT: true; the input reads as it did. -/
def mutexMaySpec : ChangeSpec := { name := "mutexMay", fn := fun _ => fun
  | [d1, d2, d3] => { results := [.lit (.bool true)], args := [d1, d2, d3] }
  | _ => none }
def mutexMayRow : OpenClaim := { program := "ytlelpnahillioaa", sum := "ff61c8c0f410648ea4bac6c4afc88330fd27b602b34392881858377bd375f749", func := "honeycomb/honeycomblaw05.MutexMay", spec := "mutexMay", unfollowed := true, recurses := true, apart := false }
def MutexMaySaid : Prop := mutexMayRow.holds Try.pinned (OpenSpec.ofChange mutexMaySpec)

/-- ITS FALSE NEIGHBOUR: 'it returns false'. Refute it at one input. -/
def mutexMayWrong : ChangeSpec := { name := "mutexMay", fn := fun _ => fun
  | [d1, d2, d3] => { results := [.lit (.bool false)], args := [d1, d2, d3] }
  | _ => none }
def MutexMayWrongFalsely : Prop := mutexMayRow.holds Try.pinned (OpenSpec.ofChange mutexMayWrong)

/-- 'honeycomblaw05.MutexBack': WHATEVER THE INPUT: true; the input reads as it did. -/
def mutexBackSpec : ChangeSpec := { name := "mutexBack", fn := fun _ => fun
  | [d1, d2, d3] => { results := [.lit (.bool true)], args := [d1, d2, d3] }
  | _ => none }
def mutexBackRow : OpenClaim := { program := "ytlelpnahillioaa", sum := "ff61c8c0f410648ea4bac6c4afc88330fd27b602b34392881858377bd375f749", func := "honeycomb/honeycomblaw05.MutexBack", spec := "mutexBack", unfollowed := true, recurses := true, apart := false }
def MutexBackSaid : Prop := mutexBackRow.holds Try.pinned (OpenSpec.ofChange mutexBackSpec)

/-- ITS FALSE NEIGHBOUR: 'it returns false'. Refute it at one input. -/
def mutexBackWrong : ChangeSpec := { name := "mutexBack", fn := fun _ => fun
  | [d1, d2, d3] => { results := [.lit (.bool false)], args := [d1, d2, d3] }
  | _ => none }
def MutexBackWrongFalsely : Prop := mutexBackRow.holds Try.pinned (OpenSpec.ofChange mutexBackWrong)

/- THE SECOND FORM. 'bulk': how many values and letters a reading holds, each counted each time it is reached (what is shared counts as often as it is met; a slice's spare places count too). A statement '..UptoSaid' is the law's where the arguments, and the package variables that the reading takes, are together of bulk at most 1048576: NARROWER than '..Said'. Prove '..Said' where nothing that the law and all that it calls make is longer than what came in: it says more and counts as full. Else prove '..UptoSaid'. A law counts once. -/
mutual
def uptoBulk {H : Type} : DataW H → Nat
  | .lit (.string bytes) => bytes.length + 1
  | .lit _ => 1
  | .nil => 1
  | .ptr d => uptoBulk d + 1
  | .slice elems spare => uptoBulkAll elems + uptoBulkAll spare + 1
  | .agg parts => uptoBulkAll parts + 1
  | .iface _ d => uptoBulk d + 1
  | .map entries => uptoBulkEntries entries + 1
  | .held _ => 1
def uptoBulkAll {H : Type} : List (DataW H) → Nat
  | [] => 0
  | d :: r => uptoBulk d + uptoBulkAll r
def uptoBulkEntries {H : Type} : List (Lit × DataW H) → Nat
  | [] => 0
  | x :: r => uptoBulkEntry x + uptoBulkEntries r
def uptoBulkEntry {H : Type} : Lit × DataW H → Nat
  | (.string bytes, d) => bytes.length + uptoBulk d + 1
  | (_, d) => uptoBulk d + 1
 end
def uptoSmall : (H : Type) → List (DataW H) → Bool := fun _ ds => decide (uptoBulkAll ds ≤ 1048576)
def OpenSpec.upto (s : _root_.Go.ChangeSpec) : _root_.Go.OpenSpec := { _root_.Go.OpenSpec.ofChange s with cond := some uptoSmall }

/-- 'honeycomblaw05.MutexDeeds', WHERE WHAT IT READS IS OF BULK AT MOST 1048576: true; the input reads as it did. -/
def mutexDeedsUptoRow : OpenClaim := { program := "ytlelpnahillioaa", sum := "ff61c8c0f410648ea4bac6c4afc88330fd27b602b34392881858377bd375f749", func := "honeycomb/honeycomblaw05.MutexDeeds", spec := "mutexDeeds", unfollowed := true, recurses := true, apart := false, narrowed := true }
def MutexDeedsUptoSaid : Prop := mutexDeedsUptoRow.holds Try.pinned (OpenSpec.upto mutexDeedsSpec)

/-- 'honeycomblaw05.MutexTurns', WHERE WHAT IT READS IS OF BULK AT MOST 1048576: true; the input reads as it did. -/
def mutexTurnsUptoRow : OpenClaim := { program := "ytlelpnahillioaa", sum := "ff61c8c0f410648ea4bac6c4afc88330fd27b602b34392881858377bd375f749", func := "honeycomb/honeycomblaw05.MutexTurns", spec := "mutexTurns", unfollowed := true, recurses := true, apart := false, narrowed := true }
def MutexTurnsUptoSaid : Prop := mutexTurnsUptoRow.holds Try.pinned (OpenSpec.upto mutexTurnsSpec)

/-- 'honeycomblaw05.MutexOrder', WHERE WHAT IT READS IS OF BULK AT MOST 1048576: true; the input reads as it did. -/
def mutexOrderUptoRow : OpenClaim := { program := "ytlelpnahillioaa", sum := "ff61c8c0f410648ea4bac6c4afc88330fd27b602b34392881858377bd375f749", func := "honeycomb/honeycomblaw05.MutexOrder", spec := "mutexOrder", unfollowed := true, recurses := true, apart := false, narrowed := true }
def MutexOrderUptoSaid : Prop := mutexOrderUptoRow.holds Try.pinned (OpenSpec.upto mutexOrderSpec)

/-- 'honeycomblaw05.MutexMay', WHERE WHAT IT READS IS OF BULK AT MOST 1048576: true; the input reads as it did. -/
def mutexMayUptoRow : OpenClaim := { program := "ytlelpnahillioaa", sum := "ff61c8c0f410648ea4bac6c4afc88330fd27b602b34392881858377bd375f749", func := "honeycomb/honeycomblaw05.MutexMay", spec := "mutexMay", unfollowed := true, recurses := true, apart := false, narrowed := true }
def MutexMayUptoSaid : Prop := mutexMayUptoRow.holds Try.pinned (OpenSpec.upto mutexMaySpec)

/-- 'honeycomblaw05.MutexBack', WHERE WHAT IT READS IS OF BULK AT MOST 1048576: true; the input reads as it did. -/
def mutexBackUptoRow : OpenClaim := { program := "ytlelpnahillioaa", sum := "ff61c8c0f410648ea4bac6c4afc88330fd27b602b34392881858377bd375f749", func := "honeycomb/honeycomblaw05.MutexBack", spec := "mutexBack", unfollowed := true, recurses := true, apart := false, narrowed := true }
def MutexBackUptoSaid : Prop := mutexBackUptoRow.holds Try.pinned (OpenSpec.upto mutexBackSpec)

end Rows
end Go.Proofs.Ytlelpnahillioaa
