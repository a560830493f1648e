/-
  DERIVED. GIVEN WITH THE SEED: THE CARDS: each row of YtacemdoejblgaaaGreatDoorRows.lean that lists a variable, with what it lists TIED to the program's text (the seventh form; the later family's looks); each row that meets fmt, with fmt's text TOLD by the authors' own Lean function (tested against real Go, not proved from fmt's source: count such statements apart). THE CARD IS WHAT COUNTS. Prove the row's statement (the work); the ties are given (YtacemdoejblgaaaGreatDoorTie.lean); close each card by the builder's one call (the guide's Derived/Test/ToyasCard.lean, 'card_holds'). Laid BY PROGRAM, IN A SANDBOX (cutbox-door.mjs). By AI agents, Wed Nov 11 2026. No macro, syntax, notation, axiom, sorry.
-/
import Derived.Test.YtacemdoejblgaaaGreatDoorRows
import GoSem.ClaimSeven
namespace Go.Proofs.YtacemdoejblgaaaGreatDoor
namespace Rows

/-- THE TIED CARD OF 'laws.FnScheduleRest'. -/
def fnScheduleRestCard : Claim7 := { stood := { row := fnScheduleRestRow, standIns := [], harness := (true, "2a8094fcbe675e1e261d198ff96ef597639d129593f817a51adadeef78474551"), looks := true }, kinds := [], alts := [], goes := true, laidByText := true, laidKinds := [.sentinel], laidTests := true, laidLooks := .later }
def FnScheduleRestCardSaid : Prop := Claim7.holds Tryz.pinned (.plain (OpenSpec.ofChange fnScheduleRestSpec)) fnScheduleRestCard

/-- THE TIED CARD OF 'laws.FnScheduleRun'. -/
def fnScheduleRunCard : Claim7 := { stood := { row := fnScheduleRunRow, standIns := [], harness := (true, "2a8094fcbe675e1e261d198ff96ef597639d129593f817a51adadeef78474551"), looks := true }, kinds := [], alts := [], goes := true, laidByText := true, laidKinds := [.sentinel], laidTests := true, laidLooks := .later }
def FnScheduleRunCardSaid : Prop := Claim7.holds Tryz.pinned (.plain (OpenSpec.ofChange fnScheduleRunSpec)) fnScheduleRunCard

/-- THE TIED CARD OF 'laws.FnScheduleRunPart'. -/
def fnScheduleRunPartCard : Claim7 := { stood := { row := fnScheduleRunPartRow, standIns := [], harness := (true, "2a8094fcbe675e1e261d198ff96ef597639d129593f817a51adadeef78474551"), looks := true }, kinds := [], alts := [], goes := true, laidByText := true, laidKinds := [.sentinel], laidTests := true, laidLooks := .later }
def FnScheduleRunPartCardSaid : Prop := Claim7.holds Tryz.pinned (.plain (OpenSpec.ofChange fnScheduleRunPartSpec)) fnScheduleRunPartCard

/-- THE TIED CARD OF 'laws.FnScheduleAll'. -/
def fnScheduleAllCard : Claim7 := { stood := { row := fnScheduleAllRow, standIns := [], harness := (true, "2a8094fcbe675e1e261d198ff96ef597639d129593f817a51adadeef78474551"), looks := true }, kinds := [], alts := [], goes := true, laidByText := true, laidKinds := [.sentinel], laidTests := true, laidLooks := .later }
def FnScheduleAllCardSaid : Prop := Claim7.holds Tryz.pinned (.plain (OpenSpec.ofChange fnScheduleAllSpec)) fnScheduleAllCard

/-- THE TIED CARD OF 'laws.FnScheduleBegin'. -/
def fnScheduleBeginCard : Claim7 := { stood := { row := fnScheduleBeginRow, standIns := [], harness := (true, "2a8094fcbe675e1e261d198ff96ef597639d129593f817a51adadeef78474551"), looks := true }, kinds := [], alts := [], goes := true, laidByText := true, laidKinds := [.sentinel], laidTests := true, laidLooks := .later }
def FnScheduleBeginCardSaid : Prop := Claim7.holds Tryz.pinned (.plain (OpenSpec.ofChange fnScheduleBeginSpec)) fnScheduleBeginCard

/-- THE TIED CARD OF 'laws.FnScheduleOrder'. -/
def fnScheduleOrderCard : Claim7 := { stood := { row := fnScheduleOrderRow, standIns := [], harness := (true, "2a8094fcbe675e1e261d198ff96ef597639d129593f817a51adadeef78474551"), looks := true }, kinds := [], alts := [], goes := true, laidByText := true, laidKinds := [.sentinel], laidTests := true, laidLooks := .later }
def FnScheduleOrderCardSaid : Prop := Claim7.holds Tryz.pinned (.plain (OpenSpec.ofChange fnScheduleOrderSpec)) fnScheduleOrderCard

/-- THE TIED CARD OF 'laws.FnScheduleOther'. -/
def fnScheduleOtherCard : Claim7 := { stood := { row := fnScheduleOtherRow, standIns := [], harness := (true, "2a8094fcbe675e1e261d198ff96ef597639d129593f817a51adadeef78474551"), looks := true }, kinds := [], alts := [], goes := true, laidByText := true, laidKinds := [.sentinel], laidTests := true, laidLooks := .later }
def FnScheduleOtherCardSaid : Prop := Claim7.holds Tryz.pinned (.plain (OpenSpec.ofChange fnScheduleOtherSpec)) fnScheduleOtherCard

/-- THE TIED CARD OF 'laws.FnExactScheduleAll'. -/
def fnExactScheduleAllCard : Claim7 := { stood := { row := fnExactScheduleAllRow, standIns := [], harness := (true, "2a8094fcbe675e1e261d198ff96ef597639d129593f817a51adadeef78474551"), looks := true }, kinds := [], alts := [], goes := true, laidByText := true, laidKinds := [.sentinel], laidTests := true, laidLooks := .later }
def FnExactScheduleAllCardSaid : Prop := Claim7.holds Tryz.pinned (.plain (OpenSpec.ofChange fnExactScheduleAllSpec)) fnExactScheduleAllCard

/-- THE TIED CARD OF 'laws.FnExactScheduleRun'. -/
def fnExactScheduleRunCard : Claim7 := { stood := { row := fnExactScheduleRunRow, standIns := [], harness := (true, "2a8094fcbe675e1e261d198ff96ef597639d129593f817a51adadeef78474551"), looks := true }, kinds := [], alts := [], goes := true, laidByText := true, laidKinds := [.sentinel], laidTests := true, laidLooks := .later }
def FnExactScheduleRunCardSaid : Prop := Claim7.holds Tryz.pinned (.plain (OpenSpec.ofChange fnExactScheduleRunSpec)) fnExactScheduleRunCard
end Rows
end Go.Proofs.YtacemdoejblgaaaGreatDoor
