/-
  DERIVED. GIVEN WITH THE SEED: THE CARDS: each row of YtihobnheficpjaaGreatDoorRows.lean that lists a variable, with what it lists TIED to the program's text (the seventh form; the later family's looks); each row that meets fmt, with fmt's text TOLD by the authors' own Lean function (tested against real Go, not proved from fmt's source: count such statements apart). THE CARD IS WHAT COUNTS. Prove the row's statement (the work); the ties are given (YtihobnheficpjaaGreatDoorTie.lean); close each card by the builder's one call (the guide's Derived/Test/ToyasCard.lean, 'card_holds'). Laid BY PROGRAM, IN A SANDBOX (cutbox-door.mjs). By AI agents, Wed Nov 11 2026. No macro, syntax, notation, axiom, sorry.
-/
import Derived.Test.YtihobnheficpjaaGreatDoorRows
import GoSem.ClaimSeven
namespace Go.Proofs.YtihobnheficpjaaGreatDoor
namespace Rows

/-- THE TIED CARD OF 'laws.FnTurnRun'. -/
def fnTurnRunCard : Claim7 := { stood := { row := fnTurnRunRow, standIns := [], harness := (true, "0d90c99abfb32a4e810919afa1bf20ff1a2d7f8e6abd7651e848955a4a70599e"), looks := true }, kinds := [], alts := [], laidByText := true, laidKinds := [.sentinel], laidTests := true, laidLooks := .later }
def FnTurnRunCardSaid : Prop := Claim7.holds Tryz.pinned (.plain (OpenSpec.ofChange fnTurnRunSpec)) fnTurnRunCard

/-- THE TIED CARD OF 'laws.FnTurnRunReady'. -/
def fnTurnRunReadyCard : Claim7 := { stood := { row := fnTurnRunReadyRow, standIns := [], harness := (true, "0d90c99abfb32a4e810919afa1bf20ff1a2d7f8e6abd7651e848955a4a70599e"), looks := true }, kinds := [], alts := [], laidByText := true, laidKinds := [.sentinel], laidTests := true, laidLooks := .later }
def FnTurnRunReadyCardSaid : Prop := Claim7.holds Tryz.pinned (.plain (OpenSpec.ofChange fnTurnRunReadySpec)) fnTurnRunReadyCard

/-- THE TIED CARD OF 'laws.FnTurnRunRow'. -/
def fnTurnRunRowCard : Claim7 := { stood := { row := fnTurnRunRowRow, standIns := [], harness := (true, "0d90c99abfb32a4e810919afa1bf20ff1a2d7f8e6abd7651e848955a4a70599e"), looks := true }, kinds := [], alts := [], laidByText := true, laidKinds := [.sentinel], laidTests := true, laidLooks := .later }
def FnTurnRunRowCardSaid : Prop := Claim7.holds Tryz.pinned (.plain (OpenSpec.ofChange fnTurnRunRowSpec)) fnTurnRunRowCard

/-- THE TIED CARD OF 'laws.FnTurnSteal'. -/
def fnTurnStealCard : Claim7 := { stood := { row := fnTurnStealRow, standIns := [], harness := (true, "0d90c99abfb32a4e810919afa1bf20ff1a2d7f8e6abd7651e848955a4a70599e"), looks := true }, kinds := [], alts := [], laidByText := true, laidKinds := [.sentinel], laidTests := true, laidLooks := .later }
def FnTurnStealCardSaid : Prop := Claim7.holds Tryz.pinned (.plain (OpenSpec.ofChange fnTurnStealSpec)) fnTurnStealCard

/-- THE TIED CARD OF 'laws.FnTurnStealDeques'. -/
def fnTurnStealDequesCard : Claim7 := { stood := { row := fnTurnStealDequesRow, standIns := [], harness := (true, "0d90c99abfb32a4e810919afa1bf20ff1a2d7f8e6abd7651e848955a4a70599e"), looks := true }, kinds := [], alts := [], laidByText := true, laidKinds := [.sentinel], laidTests := true, laidLooks := .later }
def FnTurnStealDequesCardSaid : Prop := Claim7.holds Tryz.pinned (.plain (OpenSpec.ofChange fnTurnStealDequesSpec)) fnTurnStealDequesCard

/-- THE TIED CARD OF 'laws.FnExactTurnRun'. -/
def fnExactTurnRunCard : Claim7 := { stood := { row := fnExactTurnRunRow, standIns := [], harness := (true, "0d90c99abfb32a4e810919afa1bf20ff1a2d7f8e6abd7651e848955a4a70599e"), looks := true }, kinds := [], alts := [], laidByText := true, laidKinds := [.sentinel], laidTests := true, laidLooks := .later }
def FnExactTurnRunCardSaid : Prop := Claim7.holds Tryz.pinned (.plain (OpenSpec.ofChange fnExactTurnRunSpec)) fnExactTurnRunCard

/-- THE TIED CARD OF 'laws.FnExactTurnSteal'. -/
def fnExactTurnStealCard : Claim7 := { stood := { row := fnExactTurnStealRow, standIns := [], harness := (true, "0d90c99abfb32a4e810919afa1bf20ff1a2d7f8e6abd7651e848955a4a70599e"), looks := true }, kinds := [], alts := [], laidByText := true, laidKinds := [.sentinel], laidTests := true, laidLooks := .later }
def FnExactTurnStealCardSaid : Prop := Claim7.holds Tryz.pinned (.plain (OpenSpec.ofChange fnExactTurnStealSpec)) fnExactTurnStealCard

/-- THE TIED CARD OF 'laws.FnTurnNextRows'. -/
def fnTurnNextRowsCard : Claim7 := { stood := { row := fnTurnNextRowsRow, standIns := [], harness := (true, "0d90c99abfb32a4e810919afa1bf20ff1a2d7f8e6abd7651e848955a4a70599e"), looks := true }, kinds := [], alts := [], laidByText := true, laidKinds := [.sentinel], laidTests := true, laidLooks := .later }
def FnTurnNextRowsCardSaid : Prop := Claim7.holds Tryz.pinned (.plain (OpenSpec.ofChange fnTurnNextRowsSpec)) fnTurnNextRowsCard

/-- THE TIED CARD OF 'laws.FnTurnNextSame'. -/
def fnTurnNextSameCard : Claim7 := { stood := { row := fnTurnNextSameRow, standIns := [], harness := (true, "0d90c99abfb32a4e810919afa1bf20ff1a2d7f8e6abd7651e848955a4a70599e"), looks := true }, kinds := [], alts := [], laidByText := true, laidKinds := [.sentinel], laidTests := true, laidLooks := .later }
def FnTurnNextSameCardSaid : Prop := Claim7.holds Tryz.pinned (.plain (OpenSpec.ofChange fnTurnNextSameSpec)) fnTurnNextSameCard

/-- THE TIED CARD OF 'laws.FnTurnNext'. -/
def fnTurnNextCard : Claim7 := { stood := { row := fnTurnNextRow, standIns := [], harness := (true, "0d90c99abfb32a4e810919afa1bf20ff1a2d7f8e6abd7651e848955a4a70599e"), looks := true }, kinds := [], alts := [], laidByText := true, laidKinds := [.sentinel], laidTests := true, laidLooks := .later }
def FnTurnNextCardSaid : Prop := Claim7.holds Tryz.pinned (.plain (OpenSpec.ofChange fnTurnNextSpec)) fnTurnNextCard

/-- THE TIED CARD OF 'laws.FnTurnNextAll'. -/
def fnTurnNextAllCard : Claim7 := { stood := { row := fnTurnNextAllRow, standIns := [], harness := (true, "0d90c99abfb32a4e810919afa1bf20ff1a2d7f8e6abd7651e848955a4a70599e"), looks := true }, kinds := [], alts := [], laidByText := true, laidKinds := [.sentinel], laidTests := true, laidLooks := .later }
def FnTurnNextAllCardSaid : Prop := Claim7.holds Tryz.pinned (.plain (OpenSpec.ofChange fnTurnNextAllSpec)) fnTurnNextAllCard

/-- THE TIED CARD OF 'laws.FnLoseWorkerAll'. -/
def fnLoseWorkerAllCard : Claim7 := { stood := { row := fnLoseWorkerAllRow, standIns := [], harness := (true, "0d90c99abfb32a4e810919afa1bf20ff1a2d7f8e6abd7651e848955a4a70599e"), looks := true }, kinds := [], alts := [], laidByText := true, laidKinds := [.sentinel], laidTests := true, laidLooks := .later }
def FnLoseWorkerAllCardSaid : Prop := Claim7.holds Tryz.pinned (.plain (OpenSpec.ofChange fnLoseWorkerAllSpec)) fnLoseWorkerAllCard

/-- THE TIED CARD OF 'laws.FnExactTurnNext'. -/
def fnExactTurnNextCard : Claim7 := { stood := { row := fnExactTurnNextRow, standIns := [], harness := (true, "0d90c99abfb32a4e810919afa1bf20ff1a2d7f8e6abd7651e848955a4a70599e"), looks := true }, kinds := [], alts := [], laidByText := true, laidKinds := [.sentinel], laidTests := true, laidLooks := .later }
def FnExactTurnNextCardSaid : Prop := Claim7.holds Tryz.pinned (.plain (OpenSpec.ofChange fnExactTurnNextSpec)) fnExactTurnNextCard

/-- THE SECOND FORM's CARD OF 'laws.FnTurnRun'. -/
def fnTurnRunUptoCard : Claim7 := { stood := { row := fnTurnRunUptoRow, standIns := [], harness := (true, "0d90c99abfb32a4e810919afa1bf20ff1a2d7f8e6abd7651e848955a4a70599e"), looks := true }, kinds := [], alts := [], laidByText := true, laidKinds := [.sentinel], laidTests := true, laidLooks := .later }
def FnTurnRunUptoCardSaid : Prop := Claim7.holds Tryz.pinned (.plain (OpenSpec.upto fnTurnRunSpec)) fnTurnRunUptoCard

/-- THE SECOND FORM's CARD OF 'laws.FnTurnRunReady'. -/
def fnTurnRunReadyUptoCard : Claim7 := { stood := { row := fnTurnRunReadyUptoRow, standIns := [], harness := (true, "0d90c99abfb32a4e810919afa1bf20ff1a2d7f8e6abd7651e848955a4a70599e"), looks := true }, kinds := [], alts := [], laidByText := true, laidKinds := [.sentinel], laidTests := true, laidLooks := .later }
def FnTurnRunReadyUptoCardSaid : Prop := Claim7.holds Tryz.pinned (.plain (OpenSpec.upto fnTurnRunReadySpec)) fnTurnRunReadyUptoCard

/-- THE SECOND FORM's CARD OF 'laws.FnTurnRunRow'. -/
def fnTurnRunRowUptoCard : Claim7 := { stood := { row := fnTurnRunRowUptoRow, standIns := [], harness := (true, "0d90c99abfb32a4e810919afa1bf20ff1a2d7f8e6abd7651e848955a4a70599e"), looks := true }, kinds := [], alts := [], laidByText := true, laidKinds := [.sentinel], laidTests := true, laidLooks := .later }
def FnTurnRunRowUptoCardSaid : Prop := Claim7.holds Tryz.pinned (.plain (OpenSpec.upto fnTurnRunRowSpec)) fnTurnRunRowUptoCard

/-- THE SECOND FORM's CARD OF 'laws.FnTurnSteal'. -/
def fnTurnStealUptoCard : Claim7 := { stood := { row := fnTurnStealUptoRow, standIns := [], harness := (true, "0d90c99abfb32a4e810919afa1bf20ff1a2d7f8e6abd7651e848955a4a70599e"), looks := true }, kinds := [], alts := [], laidByText := true, laidKinds := [.sentinel], laidTests := true, laidLooks := .later }
def FnTurnStealUptoCardSaid : Prop := Claim7.holds Tryz.pinned (.plain (OpenSpec.upto fnTurnStealSpec)) fnTurnStealUptoCard

/-- THE SECOND FORM's CARD OF 'laws.FnTurnStealDeques'. -/
def fnTurnStealDequesUptoCard : Claim7 := { stood := { row := fnTurnStealDequesUptoRow, standIns := [], harness := (true, "0d90c99abfb32a4e810919afa1bf20ff1a2d7f8e6abd7651e848955a4a70599e"), looks := true }, kinds := [], alts := [], laidByText := true, laidKinds := [.sentinel], laidTests := true, laidLooks := .later }
def FnTurnStealDequesUptoCardSaid : Prop := Claim7.holds Tryz.pinned (.plain (OpenSpec.upto fnTurnStealDequesSpec)) fnTurnStealDequesUptoCard

/-- THE SECOND FORM's CARD OF 'laws.FnExactTurnRun'. -/
def fnExactTurnRunUptoCard : Claim7 := { stood := { row := fnExactTurnRunUptoRow, standIns := [], harness := (true, "0d90c99abfb32a4e810919afa1bf20ff1a2d7f8e6abd7651e848955a4a70599e"), looks := true }, kinds := [], alts := [], laidByText := true, laidKinds := [.sentinel], laidTests := true, laidLooks := .later }
def FnExactTurnRunUptoCardSaid : Prop := Claim7.holds Tryz.pinned (.plain (OpenSpec.upto fnExactTurnRunSpec)) fnExactTurnRunUptoCard

/-- THE SECOND FORM's CARD OF 'laws.FnExactTurnSteal'. -/
def fnExactTurnStealUptoCard : Claim7 := { stood := { row := fnExactTurnStealUptoRow, standIns := [], harness := (true, "0d90c99abfb32a4e810919afa1bf20ff1a2d7f8e6abd7651e848955a4a70599e"), looks := true }, kinds := [], alts := [], laidByText := true, laidKinds := [.sentinel], laidTests := true, laidLooks := .later }
def FnExactTurnStealUptoCardSaid : Prop := Claim7.holds Tryz.pinned (.plain (OpenSpec.upto fnExactTurnStealSpec)) fnExactTurnStealUptoCard

/-- THE SECOND FORM's CARD OF 'laws.FnTurnNextRows'. -/
def fnTurnNextRowsUptoCard : Claim7 := { stood := { row := fnTurnNextRowsUptoRow, standIns := [], harness := (true, "0d90c99abfb32a4e810919afa1bf20ff1a2d7f8e6abd7651e848955a4a70599e"), looks := true }, kinds := [], alts := [], laidByText := true, laidKinds := [.sentinel], laidTests := true, laidLooks := .later }
def FnTurnNextRowsUptoCardSaid : Prop := Claim7.holds Tryz.pinned (.plain (OpenSpec.upto fnTurnNextRowsSpec)) fnTurnNextRowsUptoCard

/-- THE SECOND FORM's CARD OF 'laws.FnTurnNextSame'. -/
def fnTurnNextSameUptoCard : Claim7 := { stood := { row := fnTurnNextSameUptoRow, standIns := [], harness := (true, "0d90c99abfb32a4e810919afa1bf20ff1a2d7f8e6abd7651e848955a4a70599e"), looks := true }, kinds := [], alts := [], laidByText := true, laidKinds := [.sentinel], laidTests := true, laidLooks := .later }
def FnTurnNextSameUptoCardSaid : Prop := Claim7.holds Tryz.pinned (.plain (OpenSpec.upto fnTurnNextSameSpec)) fnTurnNextSameUptoCard

/-- THE SECOND FORM's CARD OF 'laws.FnTurnNext'. -/
def fnTurnNextUptoCard : Claim7 := { stood := { row := fnTurnNextUptoRow, standIns := [], harness := (true, "0d90c99abfb32a4e810919afa1bf20ff1a2d7f8e6abd7651e848955a4a70599e"), looks := true }, kinds := [], alts := [], laidByText := true, laidKinds := [.sentinel], laidTests := true, laidLooks := .later }
def FnTurnNextUptoCardSaid : Prop := Claim7.holds Tryz.pinned (.plain (OpenSpec.upto fnTurnNextSpec)) fnTurnNextUptoCard

/-- THE SECOND FORM's CARD OF 'laws.FnTurnNextAll'. -/
def fnTurnNextAllUptoCard : Claim7 := { stood := { row := fnTurnNextAllUptoRow, standIns := [], harness := (true, "0d90c99abfb32a4e810919afa1bf20ff1a2d7f8e6abd7651e848955a4a70599e"), looks := true }, kinds := [], alts := [], laidByText := true, laidKinds := [.sentinel], laidTests := true, laidLooks := .later }
def FnTurnNextAllUptoCardSaid : Prop := Claim7.holds Tryz.pinned (.plain (OpenSpec.upto fnTurnNextAllSpec)) fnTurnNextAllUptoCard

/-- THE SECOND FORM's CARD OF 'laws.FnLoseWorkerAll'. -/
def fnLoseWorkerAllUptoCard : Claim7 := { stood := { row := fnLoseWorkerAllUptoRow, standIns := [], harness := (true, "0d90c99abfb32a4e810919afa1bf20ff1a2d7f8e6abd7651e848955a4a70599e"), looks := true }, kinds := [], alts := [], laidByText := true, laidKinds := [.sentinel], laidTests := true, laidLooks := .later }
def FnLoseWorkerAllUptoCardSaid : Prop := Claim7.holds Tryz.pinned (.plain (OpenSpec.upto fnLoseWorkerAllSpec)) fnLoseWorkerAllUptoCard

/-- THE SECOND FORM's CARD OF 'laws.FnExactTurnNext'. -/
def fnExactTurnNextUptoCard : Claim7 := { stood := { row := fnExactTurnNextUptoRow, standIns := [], harness := (true, "0d90c99abfb32a4e810919afa1bf20ff1a2d7f8e6abd7651e848955a4a70599e"), looks := true }, kinds := [], alts := [], laidByText := true, laidKinds := [.sentinel], laidTests := true, laidLooks := .later }
def FnExactTurnNextUptoCardSaid : Prop := Claim7.holds Tryz.pinned (.plain (OpenSpec.upto fnExactTurnNextSpec)) fnExactTurnNextUptoCard
end Rows
end Go.Proofs.YtihobnheficpjaaGreatDoor
