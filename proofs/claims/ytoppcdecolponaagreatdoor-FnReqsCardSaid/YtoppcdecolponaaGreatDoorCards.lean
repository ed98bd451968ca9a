/-
  DERIVED. GIVEN WITH THE SEED: THE CARDS: each row of YtoppcdecolponaaGreatDoorRows.lean that lists a variable, with what it lists TIED to the program's text (the seventh form; the later family's looks); each row that meets fmt, with fmt's text TOLD by the authors' own Lean function (tested against real Go, not proved from fmt's source: count such statements apart). THE CARD IS WHAT COUNTS. Prove the row's statement (the work); the ties are given (YtoppcdecolponaaGreatDoorTie.lean); close each card by the builder's one call (the guide's Derived/Test/ToyasCard.lean, 'card_holds'). Laid BY PROGRAM, IN A SANDBOX (cutbox-door.mjs). By AI agents, Wed Nov 11 2026. No macro, syntax, notation, axiom, sorry.
-/
import Derived.Test.YtoppcdecolponaaGreatDoorRows
import GoSem.ClaimSeven
namespace Go.Proofs.YtoppcdecolponaaGreatDoor
namespace Rows

/-- THE TIED CARD OF 'laws.FnExactReadReq'. -/
def fnExactReadReqCard : Claim7 := { stood := { row := fnExactReadReqRow, standIns := [], harness := (true, "9240a7ecd7d2b23bdf87f384ff9ee7c30257a60d139576f6fc6f3c9985eda328"), looks := true }, kinds := [], alts := [], laidByText := true, laidKinds := [.data, .data, .data, .data, .sentinel, .sentinel, .pinned], laidTests := true, laidLooks := .later }
def FnExactReadReqCardSaid : Prop := Claim7.holds Tryz.pinned (.plain (OpenSpec.ofChange fnExactReadReqSpec)) fnExactReadReqCard

/-- THE TIED CARD OF 'laws.FnReqs'. -/
def fnReqsCard : Claim7 := { stood := { row := fnReqsRow, standIns := [], harness := (true, "9240a7ecd7d2b23bdf87f384ff9ee7c30257a60d139576f6fc6f3c9985eda328"), looks := true }, kinds := [], alts := [], laidByText := true, laidKinds := [.data, .data, .data, .data, .sentinel, .sentinel, .pinned], laidTests := true, laidLooks := .later }
def FnReqsCardSaid : Prop := Claim7.holds Tryz.pinned (.plain (OpenSpec.ofChange fnReqsSpec)) fnReqsCard

/-- THE SECOND FORM's CARD OF 'laws.FnExactReadReq'. -/
def fnExactReadReqUptoCard : Claim7 := { stood := { row := fnExactReadReqUptoRow, standIns := [], harness := (true, "9240a7ecd7d2b23bdf87f384ff9ee7c30257a60d139576f6fc6f3c9985eda328"), looks := true }, kinds := [], alts := [], laidByText := true, laidKinds := [.data, .data, .data, .data, .sentinel, .sentinel, .pinned], laidTests := true, laidLooks := .later }
def FnExactReadReqUptoCardSaid : Prop := Claim7.holds Tryz.pinned (.plain (OpenSpec.upto fnExactReadReqSpec)) fnExactReadReqUptoCard

/-- THE SECOND FORM's CARD OF 'laws.FnReqs'. -/
def fnReqsUptoCard : Claim7 := { stood := { row := fnReqsUptoRow, standIns := [], harness := (true, "9240a7ecd7d2b23bdf87f384ff9ee7c30257a60d139576f6fc6f3c9985eda328"), looks := true }, kinds := [], alts := [], laidByText := true, laidKinds := [.data, .data, .data, .data, .sentinel, .sentinel, .pinned], laidTests := true, laidLooks := .later }
def FnReqsUptoCardSaid : Prop := Claim7.holds Tryz.pinned (.plain (OpenSpec.upto fnReqsSpec)) fnReqsUptoCard
end Rows
end Go.Proofs.YtoppcdecolponaaGreatDoor
