/-
  DERIVED. GIVEN WITH THE SEED: THE CARDS: each row of YthampfkicnakgaaDoorRows.lean that lists a variable, with what it lists TIED to the program's text (the seventh form; the later family's looks); each row that meets fmt, with fmt's text TOLD by the authors' own Lean function (tested against real Go, not proved from fmt's source: count such statements apart). THE CARD IS WHAT COUNTS. Prove the row's statement (the work); the ties are given (YthampfkicnakgaaDoorTie.lean); close each card by the builder's one call (the guide's Derived/Test/ToyasCard.lean, 'card_holds'). Laid BY PROGRAM, IN A SANDBOX (cutbox-door.mjs). By AI agents, Wed Nov 11 2026. No macro, syntax, notation, axiom, sorry.
-/
import Derived.Test.YthampfkicnakgaaDoorRows
import GoSem.ClaimSeven
namespace Go.Proofs.YthampfkicnakgaaDoor
namespace Rows

/-- THE TIED CARD OF 'laws.FnExactRowText'. -/
def fnExactRowTextCard : Claim7 := { stood := { row := fnExactRowTextRow, standIns := [], harness := (true, "e561e5b231c4e81acaaba9bd439667e9b4a9af24ca09be60a8c5a60b477914e1"), looks := true }, kinds := [], alts := [], laidByText := true, laidKinds := [.data, .data, .data], laidTests := true, laidLooks := .later }
def FnExactRowTextCardSaid : Prop := Claim7.holds Tryd.pinned (.plain (OpenSpec.ofChange fnExactRowTextSpec)) fnExactRowTextCard

/-- THE TIED CARD OF 'laws.FnRowTextMore'. -/
def fnRowTextMoreCard : Claim7 := { stood := { row := fnRowTextMoreRow, standIns := [], harness := (true, "e561e5b231c4e81acaaba9bd439667e9b4a9af24ca09be60a8c5a60b477914e1"), looks := true }, kinds := [], alts := [], laidByText := true, laidKinds := [.data, .data, .data], laidTests := true, laidLooks := .later }
def FnRowTextMoreCardSaid : Prop := Claim7.holds Tryd.pinned (.plain (OpenSpec.ofChange fnRowTextMoreSpec)) fnRowTextMoreCard

/-- THE TIED CARD OF 'laws.FnNodeText'. -/
def fnNodeTextCard : Claim7 := { stood := { row := fnNodeTextRow, standIns := [], harness := (true, "e561e5b231c4e81acaaba9bd439667e9b4a9af24ca09be60a8c5a60b477914e1"), looks := true }, kinds := [], alts := [], laidByText := true, laidKinds := [.data, .data, .data, .data], laidTests := true, laidLooks := .later }
def FnNodeTextCardSaid : Prop := Claim7.holds Tryd.pinned (.plain (OpenSpec.ofChange fnNodeTextSpec)) fnNodeTextCard

/-- THE TIED CARD OF 'laws.FnNodeTextRow'. -/
def fnNodeTextRowCard : Claim7 := { stood := { row := fnNodeTextRowRow, standIns := [], harness := (true, "e561e5b231c4e81acaaba9bd439667e9b4a9af24ca09be60a8c5a60b477914e1"), looks := true }, kinds := [], alts := [], laidByText := true, laidKinds := [.data, .data, .data, .data], laidTests := true, laidLooks := .later }
def FnNodeTextRowCardSaid : Prop := Claim7.holds Tryd.pinned (.plain (OpenSpec.ofChange fnNodeTextRowSpec)) fnNodeTextRowCard

/-- THE TIED CARD OF 'laws.FnExactNodeText'. -/
def fnExactNodeTextCard : Claim7 := { stood := { row := fnExactNodeTextRow, standIns := [], harness := (true, "e561e5b231c4e81acaaba9bd439667e9b4a9af24ca09be60a8c5a60b477914e1"), looks := true }, kinds := [], alts := [], laidByText := true, laidKinds := [.data, .data, .data, .data], laidTests := true, laidLooks := .later }
def FnExactNodeTextCardSaid : Prop := Claim7.holds Tryd.pinned (.plain (OpenSpec.ofChange fnExactNodeTextSpec)) fnExactNodeTextCard

/-- THE TIED CARD OF 'laws.FnExactRowFrom'. -/
def fnExactRowFromCard : Claim7 := { stood := { row := fnExactRowFromRow, standIns := [], harness := (true, "e561e5b231c4e81acaaba9bd439667e9b4a9af24ca09be60a8c5a60b477914e1"), looks := true }, kinds := [], alts := [], laidByText := true, laidKinds := [.data, .data, .data, .data, .handle, .sentinel, .sentinel, .pinned], laidTests := true, laidLooks := .later }
def FnExactRowFromCardSaid : Prop := Claim7.holds Tryd.pinned (.plain (OpenSpec.ofChange fnExactRowFromSpec)) fnExactRowFromCard

/-- THE TIED CARD OF 'laws.FnRowFromNot'. -/
def fnRowFromNotCard : Claim7 := { stood := { row := fnRowFromNotRow, standIns := [], harness := (true, "e561e5b231c4e81acaaba9bd439667e9b4a9af24ca09be60a8c5a60b477914e1"), looks := true }, kinds := [], alts := [], laidByText := true, laidKinds := [.data, .data, .data, .data, .handle, .sentinel, .sentinel, .pinned], laidTests := true, laidLooks := .later }
def FnRowFromNotCardSaid : Prop := Claim7.holds Tryd.pinned (.plain (OpenSpec.ofChange fnRowFromNotSpec)) fnRowFromNotCard

/-- THE TIED CARD OF 'laws.FnRowText'. -/
def fnRowTextCard : Claim7 := { stood := { row := fnRowTextRow, standIns := [], harness := (true, "e561e5b231c4e81acaaba9bd439667e9b4a9af24ca09be60a8c5a60b477914e1"), looks := true }, kinds := [], alts := [], laidByText := true, laidKinds := [.data, .data, .data, .data, .handle, .sentinel, .sentinel, .pinned], laidTests := true, laidLooks := .later }
def FnRowTextCardSaid : Prop := Claim7.holds Tryd.pinned (.plain (OpenSpec.ofChange fnRowTextSpec)) fnRowTextCard

/-- THE SECOND FORM's CARD OF 'laws.FnExactRowText'. -/
def fnExactRowTextUptoCard : Claim7 := { stood := { row := fnExactRowTextUptoRow, standIns := [], harness := (true, "e561e5b231c4e81acaaba9bd439667e9b4a9af24ca09be60a8c5a60b477914e1"), looks := true }, kinds := [], alts := [], laidByText := true, laidKinds := [.data, .data, .data], laidTests := true, laidLooks := .later }
def FnExactRowTextUptoCardSaid : Prop := Claim7.holds Tryd.pinned (.plain (OpenSpec.upto fnExactRowTextSpec)) fnExactRowTextUptoCard

/-- THE SECOND FORM's CARD OF 'laws.FnRowTextMore'. -/
def fnRowTextMoreUptoCard : Claim7 := { stood := { row := fnRowTextMoreUptoRow, standIns := [], harness := (true, "e561e5b231c4e81acaaba9bd439667e9b4a9af24ca09be60a8c5a60b477914e1"), looks := true }, kinds := [], alts := [], laidByText := true, laidKinds := [.data, .data, .data], laidTests := true, laidLooks := .later }
def FnRowTextMoreUptoCardSaid : Prop := Claim7.holds Tryd.pinned (.plain (OpenSpec.upto fnRowTextMoreSpec)) fnRowTextMoreUptoCard

/-- THE SECOND FORM's CARD OF 'laws.FnNodeText'. -/
def fnNodeTextUptoCard : Claim7 := { stood := { row := fnNodeTextUptoRow, standIns := [], harness := (true, "e561e5b231c4e81acaaba9bd439667e9b4a9af24ca09be60a8c5a60b477914e1"), looks := true }, kinds := [], alts := [], laidByText := true, laidKinds := [.data, .data, .data, .data], laidTests := true, laidLooks := .later }
def FnNodeTextUptoCardSaid : Prop := Claim7.holds Tryd.pinned (.plain (OpenSpec.upto fnNodeTextSpec)) fnNodeTextUptoCard

/-- THE SECOND FORM's CARD OF 'laws.FnNodeTextRow'. -/
def fnNodeTextRowUptoCard : Claim7 := { stood := { row := fnNodeTextRowUptoRow, standIns := [], harness := (true, "e561e5b231c4e81acaaba9bd439667e9b4a9af24ca09be60a8c5a60b477914e1"), looks := true }, kinds := [], alts := [], laidByText := true, laidKinds := [.data, .data, .data, .data], laidTests := true, laidLooks := .later }
def FnNodeTextRowUptoCardSaid : Prop := Claim7.holds Tryd.pinned (.plain (OpenSpec.upto fnNodeTextRowSpec)) fnNodeTextRowUptoCard

/-- THE SECOND FORM's CARD OF 'laws.FnExactNodeText'. -/
def fnExactNodeTextUptoCard : Claim7 := { stood := { row := fnExactNodeTextUptoRow, standIns := [], harness := (true, "e561e5b231c4e81acaaba9bd439667e9b4a9af24ca09be60a8c5a60b477914e1"), looks := true }, kinds := [], alts := [], laidByText := true, laidKinds := [.data, .data, .data, .data], laidTests := true, laidLooks := .later }
def FnExactNodeTextUptoCardSaid : Prop := Claim7.holds Tryd.pinned (.plain (OpenSpec.upto fnExactNodeTextSpec)) fnExactNodeTextUptoCard

/-- THE SECOND FORM's CARD OF 'laws.FnExactRowFrom'. -/
def fnExactRowFromUptoCard : Claim7 := { stood := { row := fnExactRowFromUptoRow, standIns := [], harness := (true, "e561e5b231c4e81acaaba9bd439667e9b4a9af24ca09be60a8c5a60b477914e1"), looks := true }, kinds := [], alts := [], laidByText := true, laidKinds := [.data, .data, .data, .data, .handle, .sentinel, .sentinel, .pinned], laidTests := true, laidLooks := .later }
def FnExactRowFromUptoCardSaid : Prop := Claim7.holds Tryd.pinned (.plain (OpenSpec.upto fnExactRowFromSpec)) fnExactRowFromUptoCard

/-- THE SECOND FORM's CARD OF 'laws.FnRowFromNot'. -/
def fnRowFromNotUptoCard : Claim7 := { stood := { row := fnRowFromNotUptoRow, standIns := [], harness := (true, "e561e5b231c4e81acaaba9bd439667e9b4a9af24ca09be60a8c5a60b477914e1"), looks := true }, kinds := [], alts := [], laidByText := true, laidKinds := [.data, .data, .data, .data, .handle, .sentinel, .sentinel, .pinned], laidTests := true, laidLooks := .later }
def FnRowFromNotUptoCardSaid : Prop := Claim7.holds Tryd.pinned (.plain (OpenSpec.upto fnRowFromNotSpec)) fnRowFromNotUptoCard

/-- THE SECOND FORM's CARD OF 'laws.FnRowText'. -/
def fnRowTextUptoCard : Claim7 := { stood := { row := fnRowTextUptoRow, standIns := [], harness := (true, "e561e5b231c4e81acaaba9bd439667e9b4a9af24ca09be60a8c5a60b477914e1"), looks := true }, kinds := [], alts := [], laidByText := true, laidKinds := [.data, .data, .data, .data, .handle, .sentinel, .sentinel, .pinned], laidTests := true, laidLooks := .later }
def FnRowTextUptoCardSaid : Prop := Claim7.holds Tryd.pinned (.plain (OpenSpec.upto fnRowTextSpec)) fnRowTextUptoCard
end Rows
end Go.Proofs.YthampfkicnakgaaDoor
