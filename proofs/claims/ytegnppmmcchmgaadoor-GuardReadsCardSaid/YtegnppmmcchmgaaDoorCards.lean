/-
  DERIVED. GIVEN WITH THE SEED: THE CARDS: each row of YtegnppmmcchmgaaDoorRows.lean that lists a variable, with what it lists TIED to the program's text (the seventh form; the later family's looks); each row that meets fmt, with fmt's text TOLD by the authors' own Lean function (tested against real Go, not proved from fmt's source: count such statements apart). THE CARD IS WHAT COUNTS. Prove the row's statement (the work); the ties are given (YtegnppmmcchmgaaDoorTie.lean); close each card by the builder's one call (the guide's Derived/Test/ToyasCard.lean, 'card_holds'). Laid BY PROGRAM, IN A SANDBOX (cutbox-door.mjs). By AI agents, Wed Nov 11 2026. No macro, syntax, notation, axiom, sorry.
-/
import Derived.Test.YtegnppmmcchmgaaDoorRows
import GoSem.ClaimSeven
namespace Go.Proofs.YtegnppmmcchmgaaDoor
namespace Rows

/-- THE TIED CARD OF 'honeycomblaw06.GuardWrites'. -/
def guardWritesCard : Claim7 := { stood := { row := guardWritesRow, standIns := [], harness := (true, "acd8fab9d448d661b059fd7dc70437165439b2a50e609b7619e8a35c82a2cec7"), looks := false }, kinds := [], alts := [], laidByText := true, laidKinds := [.widerDeep], laidTests := true, laidLooks := .later }
def GuardWritesCardSaid : Prop := Claim7.holds Tryd.pinned (.plain (OpenSpec.ofChange guardWritesSpec)) guardWritesCard

/-- THE TIED CARD OF 'honeycomblaw06.GuardCounts'. -/
def guardCountsCard : Claim7 := { stood := { row := guardCountsRow, standIns := [], harness := (true, "acd8fab9d448d661b059fd7dc70437165439b2a50e609b7619e8a35c82a2cec7"), looks := false }, kinds := [], alts := [], laidByText := true, laidKinds := [.widerDeep], laidTests := true, laidLooks := .later }
def GuardCountsCardSaid : Prop := Claim7.holds Tryd.pinned (.plain (OpenSpec.ofChange guardCountsSpec)) guardCountsCard

/-- THE TIED CARD OF 'honeycomblaw06.GuardReads'. -/
def guardReadsCard : Claim7 := { stood := { row := guardReadsRow, standIns := [], harness := (true, "acd8fab9d448d661b059fd7dc70437165439b2a50e609b7619e8a35c82a2cec7"), looks := false }, kinds := [], alts := [], laidByText := true, laidKinds := [.widerDeep], laidTests := true, laidLooks := .later }
def GuardReadsCardSaid : Prop := Claim7.holds Tryd.pinned (.plain (OpenSpec.ofChange guardReadsSpec)) guardReadsCard

/-- THE TIED CARD OF 'honeycomblaw06.GuardTells'. -/
def guardTellsCard : Claim7 := { stood := { row := guardTellsRow, standIns := [], harness := (true, "acd8fab9d448d661b059fd7dc70437165439b2a50e609b7619e8a35c82a2cec7"), looks := false }, kinds := [], alts := [], laidByText := true, laidKinds := [.widerDeep], laidTests := true, laidLooks := .later }
def GuardTellsCardSaid : Prop := Claim7.holds Tryd.pinned (.plain (OpenSpec.ofChange guardTellsSpec)) guardTellsCard

/-- THE TIED CARD OF 'honeycomblaw06.GuardParts'. -/
def guardPartsCard : Claim7 := { stood := { row := guardPartsRow, standIns := [], harness := (true, "acd8fab9d448d661b059fd7dc70437165439b2a50e609b7619e8a35c82a2cec7"), looks := false }, kinds := [], alts := [], laidByText := true, laidKinds := [.widerDeep], laidTests := true, laidLooks := .later }
def GuardPartsCardSaid : Prop := Claim7.holds Tryd.pinned (.plain (OpenSpec.ofChange guardPartsSpec)) guardPartsCard

/-- THE SECOND FORM's CARD OF 'honeycomblaw06.GuardWrites'. -/
def guardWritesUptoCard : Claim7 := { stood := { row := guardWritesUptoRow, standIns := [], harness := (true, "acd8fab9d448d661b059fd7dc70437165439b2a50e609b7619e8a35c82a2cec7"), looks := false }, kinds := [], alts := [], laidByText := true, laidKinds := [.widerDeep], laidTests := true, laidLooks := .later }
def GuardWritesUptoCardSaid : Prop := Claim7.holds Tryd.pinned (.plain (OpenSpec.upto guardWritesSpec)) guardWritesUptoCard

/-- THE SECOND FORM's CARD OF 'honeycomblaw06.GuardCounts'. -/
def guardCountsUptoCard : Claim7 := { stood := { row := guardCountsUptoRow, standIns := [], harness := (true, "acd8fab9d448d661b059fd7dc70437165439b2a50e609b7619e8a35c82a2cec7"), looks := false }, kinds := [], alts := [], laidByText := true, laidKinds := [.widerDeep], laidTests := true, laidLooks := .later }
def GuardCountsUptoCardSaid : Prop := Claim7.holds Tryd.pinned (.plain (OpenSpec.upto guardCountsSpec)) guardCountsUptoCard

/-- THE SECOND FORM's CARD OF 'honeycomblaw06.GuardReads'. -/
def guardReadsUptoCard : Claim7 := { stood := { row := guardReadsUptoRow, standIns := [], harness := (true, "acd8fab9d448d661b059fd7dc70437165439b2a50e609b7619e8a35c82a2cec7"), looks := false }, kinds := [], alts := [], laidByText := true, laidKinds := [.widerDeep], laidTests := true, laidLooks := .later }
def GuardReadsUptoCardSaid : Prop := Claim7.holds Tryd.pinned (.plain (OpenSpec.upto guardReadsSpec)) guardReadsUptoCard

/-- THE SECOND FORM's CARD OF 'honeycomblaw06.GuardTells'. -/
def guardTellsUptoCard : Claim7 := { stood := { row := guardTellsUptoRow, standIns := [], harness := (true, "acd8fab9d448d661b059fd7dc70437165439b2a50e609b7619e8a35c82a2cec7"), looks := false }, kinds := [], alts := [], laidByText := true, laidKinds := [.widerDeep], laidTests := true, laidLooks := .later }
def GuardTellsUptoCardSaid : Prop := Claim7.holds Tryd.pinned (.plain (OpenSpec.upto guardTellsSpec)) guardTellsUptoCard

/-- THE SECOND FORM's CARD OF 'honeycomblaw06.GuardParts'. -/
def guardPartsUptoCard : Claim7 := { stood := { row := guardPartsUptoRow, standIns := [], harness := (true, "acd8fab9d448d661b059fd7dc70437165439b2a50e609b7619e8a35c82a2cec7"), looks := false }, kinds := [], alts := [], laidByText := true, laidKinds := [.widerDeep], laidTests := true, laidLooks := .later }
def GuardPartsUptoCardSaid : Prop := Claim7.holds Tryd.pinned (.plain (OpenSpec.upto guardPartsSpec)) guardPartsUptoCard
end Rows
end Go.Proofs.YtegnppmmcchmgaaDoor
