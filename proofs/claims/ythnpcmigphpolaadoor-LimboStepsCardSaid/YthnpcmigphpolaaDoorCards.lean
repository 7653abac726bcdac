/-
  DERIVED. GIVEN WITH THE SEED: THE CARDS: each row of YthnpcmigphpolaaDoorRows.lean that lists a variable, with what it lists TIED to the program's text (the seventh form; the later family's looks); each row that meets fmt, with fmt's text TOLD by the authors' own Lean function (tested against real Go, not proved from fmt's source: count such statements apart). THE CARD IS WHAT COUNTS. Prove the row's statement (the work); the ties are given (YthnpcmigphpolaaDoorTie.lean); close each card by the builder's one call (the guide's Derived/Test/ToyasCard.lean, 'card_holds'). Laid BY PROGRAM, IN A SANDBOX (cutbox-door.mjs). By AI agents, Wed Nov 11 2026. No macro, syntax, notation, axiom, sorry.
-/
import Derived.Test.YthnpcmigphpolaaDoorRows
import GoSem.ClaimSeven
namespace Go.Proofs.YthnpcmigphpolaaDoor
namespace Rows

/-- THE TIED CARD OF 'honeycomblaw14.LimboEnds'. -/
def limboEndsCard : Claim7 := { stood := { row := limboEndsRow, standIns := [], harness := (true, "770f2bc03c363b0d224d4701d53df3321225796002a96304dbb11704c8cf9d26"), looks := true }, kinds := [], alts := [], laidByText := true, laidKinds := [.data], laidTests := true, laidLooks := .later }
def LimboEndsCardSaid : Prop := Claim7.holds Tryd.pinned (.plain (OpenSpec.ofChange limboEndsSpec)) limboEndsCard

/-- THE TIED CARD OF 'honeycomblaw14.LimboSteps'. -/
def limboStepsCard : Claim7 := { stood := { row := limboStepsRow, standIns := [], harness := (true, "770f2bc03c363b0d224d4701d53df3321225796002a96304dbb11704c8cf9d26"), looks := true }, kinds := [], alts := [], laidByText := true, laidKinds := [.data], laidTests := true, laidLooks := .later }
def LimboStepsCardSaid : Prop := Claim7.holds Tryd.pinned (.plain (OpenSpec.ofChange limboStepsSpec)) limboStepsCard

/-- THE TIED CARD OF 'honeycomblaw14.LimboWaits'. -/
def limboWaitsCard : Claim7 := { stood := { row := limboWaitsRow, standIns := [], harness := (true, "770f2bc03c363b0d224d4701d53df3321225796002a96304dbb11704c8cf9d26"), looks := true }, kinds := [], alts := [], laidByText := true, laidKinds := [.data], laidTests := true, laidLooks := .later }
def LimboWaitsCardSaid : Prop := Claim7.holds Tryd.pinned (.plain (OpenSpec.ofChange limboWaitsSpec)) limboWaitsCard

/-- THE TIED CARD OF 'honeycomblaw14.LimboTells'. -/
def limboTellsCard : Claim7 := { stood := { row := limboTellsRow, standIns := [], harness := (true, "770f2bc03c363b0d224d4701d53df3321225796002a96304dbb11704c8cf9d26"), looks := true }, kinds := [], alts := [], laidByText := true, laidKinds := [.data], laidTests := true, laidLooks := .later }
def LimboTellsCardSaid : Prop := Claim7.holds Tryd.pinned (.plain (OpenSpec.ofChange limboTellsSpec)) limboTellsCard

/-- THE SECOND FORM's CARD OF 'honeycomblaw14.LimboEnds'. -/
def limboEndsUptoCard : Claim7 := { stood := { row := limboEndsUptoRow, standIns := [], harness := (true, "770f2bc03c363b0d224d4701d53df3321225796002a96304dbb11704c8cf9d26"), looks := true }, kinds := [], alts := [], laidByText := true, laidKinds := [.data], laidTests := true, laidLooks := .later }
def LimboEndsUptoCardSaid : Prop := Claim7.holds Tryd.pinned (.plain (OpenSpec.upto limboEndsSpec)) limboEndsUptoCard

/-- THE SECOND FORM's CARD OF 'honeycomblaw14.LimboSteps'. -/
def limboStepsUptoCard : Claim7 := { stood := { row := limboStepsUptoRow, standIns := [], harness := (true, "770f2bc03c363b0d224d4701d53df3321225796002a96304dbb11704c8cf9d26"), looks := true }, kinds := [], alts := [], laidByText := true, laidKinds := [.data], laidTests := true, laidLooks := .later }
def LimboStepsUptoCardSaid : Prop := Claim7.holds Tryd.pinned (.plain (OpenSpec.upto limboStepsSpec)) limboStepsUptoCard

/-- THE SECOND FORM's CARD OF 'honeycomblaw14.LimboWaits'. -/
def limboWaitsUptoCard : Claim7 := { stood := { row := limboWaitsUptoRow, standIns := [], harness := (true, "770f2bc03c363b0d224d4701d53df3321225796002a96304dbb11704c8cf9d26"), looks := true }, kinds := [], alts := [], laidByText := true, laidKinds := [.data], laidTests := true, laidLooks := .later }
def LimboWaitsUptoCardSaid : Prop := Claim7.holds Tryd.pinned (.plain (OpenSpec.upto limboWaitsSpec)) limboWaitsUptoCard

/-- THE SECOND FORM's CARD OF 'honeycomblaw14.LimboTells'. -/
def limboTellsUptoCard : Claim7 := { stood := { row := limboTellsUptoRow, standIns := [], harness := (true, "770f2bc03c363b0d224d4701d53df3321225796002a96304dbb11704c8cf9d26"), looks := true }, kinds := [], alts := [], laidByText := true, laidKinds := [.data], laidTests := true, laidLooks := .later }
def LimboTellsUptoCardSaid : Prop := Claim7.holds Tryd.pinned (.plain (OpenSpec.upto limboTellsSpec)) limboTellsUptoCard
end Rows
end Go.Proofs.YthnpcmigphpolaaDoor
