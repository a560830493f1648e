/-
  DERIVED. GIVEN WITH THE SEED: THE CARDS: each row of YthampfkicnakgaaGreatDoorRows.lean that lists a variable, with what it lists TIED to the program's text (the seventh form; the later family's looks); each row that meets fmt, with fmt's text TOLD by the authors' own Lean function (tested against real Go, not proved from fmt's source: count such statements apart). THE CARD IS WHAT COUNTS. Prove the row's statement (the work); the ties are given (YthampfkicnakgaaGreatDoorTie.lean); close each card by the builder's one call (the guide's Derived/Test/ToyasCard.lean, 'card_holds'). Laid BY PROGRAM, IN A SANDBOX (cutbox-door.mjs). By AI agents, Wed Nov 11 2026. No macro, syntax, notation, axiom, sorry.
-/
import Derived.Test.YthampfkicnakgaaGreatDoorRows
import GoSem.ClaimSeven
namespace Go.Proofs.YthampfkicnakgaaGreatDoor
namespace Rows

/-- THE TIED CARD OF 'laws.FnRowFrom'. -/
def fnRowFromCard : Claim7 := { stood := { row := fnRowFromRow, standIns := [], harness := (true, "4c1776fc930ef3e05fee2cb6fd4a1253c7e93f93ec86b4da0d25a62963efe962"), looks := true }, kinds := [], alts := [], laidByText := true, laidKinds := [.data, .data, .data, .data, .handle, .sentinel, .sentinel, .pinned], laidTests := true, laidLooks := .later }
def FnRowFromCardSaid : Prop := Claim7.holds Tryz.pinned (.plain (OpenSpec.ofChange fnRowFromSpec)) fnRowFromCard

/-- THE TIED CARD OF 'laws.FnPlanTextPart'. -/
def fnPlanTextPartCard : Claim7 := { stood := { row := fnPlanTextPartRow, standIns := [], harness := (true, "4c1776fc930ef3e05fee2cb6fd4a1253c7e93f93ec86b4da0d25a62963efe962"), looks := true }, kinds := [], alts := [], laidByText := true, laidKinds := [.data, .data, .data, .data], laidTests := true, laidLooks := .later }
def FnPlanTextPartCardSaid : Prop := Claim7.holds Tryz.pinned (.plain (OpenSpec.ofChange fnPlanTextPartSpec)) fnPlanTextPartCard

/-- THE TIED CARD OF 'laws.FnPlanText'. -/
def fnPlanTextCard : Claim7 := { stood := { row := fnPlanTextRow, standIns := [], harness := (true, "4c1776fc930ef3e05fee2cb6fd4a1253c7e93f93ec86b4da0d25a62963efe962"), looks := true }, kinds := [], alts := [], laidByText := true, laidKinds := [.data, .data, .data, .data], laidTests := true, laidLooks := .later }
def FnPlanTextCardSaid : Prop := Claim7.holds Tryz.pinned (.plain (OpenSpec.ofChange fnPlanTextSpec)) fnPlanTextCard

/-- THE TIED CARD OF 'laws.FnExactPlanText'. -/
def fnExactPlanTextCard : Claim7 := { stood := { row := fnExactPlanTextRow, standIns := [], harness := (true, "4c1776fc930ef3e05fee2cb6fd4a1253c7e93f93ec86b4da0d25a62963efe962"), looks := true }, kinds := [], alts := [], laidByText := true, laidKinds := [.data, .data, .data, .data], laidTests := true, laidLooks := .later }
def FnExactPlanTextCardSaid : Prop := Claim7.holds Tryz.pinned (.plain (OpenSpec.ofChange fnExactPlanTextSpec)) fnExactPlanTextCard

/-- THE SECOND FORM's CARD OF 'laws.FnRowFrom'. -/
def fnRowFromUptoCard : Claim7 := { stood := { row := fnRowFromUptoRow, standIns := [], harness := (true, "4c1776fc930ef3e05fee2cb6fd4a1253c7e93f93ec86b4da0d25a62963efe962"), looks := true }, kinds := [], alts := [], laidByText := true, laidKinds := [.data, .data, .data, .data, .handle, .sentinel, .sentinel, .pinned], laidTests := true, laidLooks := .later }
def FnRowFromUptoCardSaid : Prop := Claim7.holds Tryz.pinned (.plain (OpenSpec.upto fnRowFromSpec)) fnRowFromUptoCard

/-- THE SECOND FORM's CARD OF 'laws.FnPlanTextPart'. -/
def fnPlanTextPartUptoCard : Claim7 := { stood := { row := fnPlanTextPartUptoRow, standIns := [], harness := (true, "4c1776fc930ef3e05fee2cb6fd4a1253c7e93f93ec86b4da0d25a62963efe962"), looks := true }, kinds := [], alts := [], laidByText := true, laidKinds := [.data, .data, .data, .data], laidTests := true, laidLooks := .later }
def FnPlanTextPartUptoCardSaid : Prop := Claim7.holds Tryz.pinned (.plain (OpenSpec.upto fnPlanTextPartSpec)) fnPlanTextPartUptoCard

/-- THE SECOND FORM's CARD OF 'laws.FnPlanText'. -/
def fnPlanTextUptoCard : Claim7 := { stood := { row := fnPlanTextUptoRow, standIns := [], harness := (true, "4c1776fc930ef3e05fee2cb6fd4a1253c7e93f93ec86b4da0d25a62963efe962"), looks := true }, kinds := [], alts := [], laidByText := true, laidKinds := [.data, .data, .data, .data], laidTests := true, laidLooks := .later }
def FnPlanTextUptoCardSaid : Prop := Claim7.holds Tryz.pinned (.plain (OpenSpec.upto fnPlanTextSpec)) fnPlanTextUptoCard

/-- THE SECOND FORM's CARD OF 'laws.FnExactPlanText'. -/
def fnExactPlanTextUptoCard : Claim7 := { stood := { row := fnExactPlanTextUptoRow, standIns := [], harness := (true, "4c1776fc930ef3e05fee2cb6fd4a1253c7e93f93ec86b4da0d25a62963efe962"), looks := true }, kinds := [], alts := [], laidByText := true, laidKinds := [.data, .data, .data, .data], laidTests := true, laidLooks := .later }
def FnExactPlanTextUptoCardSaid : Prop := Claim7.holds Tryz.pinned (.plain (OpenSpec.upto fnExactPlanTextSpec)) fnExactPlanTextUptoCard
end Rows
end Go.Proofs.YthampfkicnakgaaGreatDoor
