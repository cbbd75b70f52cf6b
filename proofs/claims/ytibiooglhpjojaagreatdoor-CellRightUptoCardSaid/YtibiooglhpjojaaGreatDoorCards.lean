/-
  DERIVED. GIVEN WITH THE SEED: THE CARDS: each row of YtibiooglhpjojaaGreatDoorRows.lean that lists a variable, with what it lists TIED to the program's text (the seventh form; the later family's looks); each row that meets fmt, with fmt's text TOLD by the authors' own Lean function (tested against real Go, not proved from fmt's source: count such statements apart). THE CARD IS WHAT COUNTS. Prove the row's statement (the work); the ties are given (YtibiooglhpjojaaGreatDoorTie.lean); close each card by the builder's one call (the guide's Derived/Test/ToyasCard.lean, 'card_holds'). Laid BY PROGRAM, IN A SANDBOX (cutbox-door.mjs). By AI agents, Wed Nov 11 2026. No macro, syntax, notation, axiom, sorry.
-/
import Derived.Test.YtibiooglhpjojaaGreatDoorRows
import GoSem.ClaimSeven
namespace Go.Proofs.YtibiooglhpjojaaGreatDoor
namespace Rows

/-- THE TIED CARD OF 'matinslaw34.CellStands'. -/
def cellStandsCard : Claim7 := { stood := { row := cellStandsRow, standIns := [], harness := (true, "0b90385b8d306b9e526cc26064d5626ec2a77828c761094f66a1f7ef5636acad"), looks := false }, kinds := [], alts := [], laidByText := true, laidKinds := [.data, .data, .data], laidTests := true, laidLooks := .later }
def CellStandsCardSaid : Prop := Claim7.holds Tryz.pinned (.plain (OpenSpec.ofChange cellStandsSpec)) cellStandsCard

/-- THE TIED CARD OF 'matinslaw34.CellOne'. -/
def cellOneCard : Claim7 := { stood := { row := cellOneRow, standIns := [], harness := (true, "0b90385b8d306b9e526cc26064d5626ec2a77828c761094f66a1f7ef5636acad"), looks := false }, kinds := [], alts := [], laidByText := true, laidKinds := [.data, .data, .data], laidTests := true, laidLooks := .later }
def CellOneCardSaid : Prop := Claim7.holds Tryz.pinned (.plain (OpenSpec.ofChange cellOneSpec)) cellOneCard

/-- THE TIED CARD OF 'matinslaw34.CellStop'. -/
def cellStopCard : Claim7 := { stood := { row := cellStopRow, standIns := [], harness := (true, "0b90385b8d306b9e526cc26064d5626ec2a77828c761094f66a1f7ef5636acad"), looks := false }, kinds := [], alts := [], laidByText := true, laidKinds := [.data, .data, .data], laidTests := true, laidLooks := .later }
def CellStopCardSaid : Prop := Claim7.holds Tryz.pinned (.plain (OpenSpec.ofChange cellStopSpec)) cellStopCard

/-- THE TIED CARD OF 'matinslaw34.CellAll'. -/
def cellAllCard : Claim7 := { stood := { row := cellAllRow, standIns := [], harness := (true, "0b90385b8d306b9e526cc26064d5626ec2a77828c761094f66a1f7ef5636acad"), looks := false }, kinds := [], alts := [], laidByText := true, laidKinds := [.data, .data, .data], laidTests := true, laidLooks := .later }
def CellAllCardSaid : Prop := Claim7.holds Tryz.pinned (.plain (OpenSpec.ofChange cellAllSpec)) cellAllCard

/-- THE TIED CARD OF 'matinslaw34.CellRight'. -/
def cellRightCard : Claim7 := { stood := { row := cellRightRow, standIns := [], harness := (true, "0b90385b8d306b9e526cc26064d5626ec2a77828c761094f66a1f7ef5636acad"), looks := false }, kinds := [], alts := [], laidByText := true, laidKinds := [.data, .data, .data], laidTests := true, laidLooks := .later }
def CellRightCardSaid : Prop := Claim7.holds Tryz.pinned (.plain (OpenSpec.ofChange cellRightSpec)) cellRightCard

/-- THE SECOND FORM's CARD OF 'matinslaw34.CellStands'. -/
def cellStandsUptoCard : Claim7 := { stood := { row := cellStandsUptoRow, standIns := [], harness := (true, "0b90385b8d306b9e526cc26064d5626ec2a77828c761094f66a1f7ef5636acad"), looks := false }, kinds := [], alts := [], laidByText := true, laidKinds := [.data, .data, .data], laidTests := true, laidLooks := .later }
def CellStandsUptoCardSaid : Prop := Claim7.holds Tryz.pinned (.plain (OpenSpec.upto cellStandsSpec)) cellStandsUptoCard

/-- THE SECOND FORM's CARD OF 'matinslaw34.CellOne'. -/
def cellOneUptoCard : Claim7 := { stood := { row := cellOneUptoRow, standIns := [], harness := (true, "0b90385b8d306b9e526cc26064d5626ec2a77828c761094f66a1f7ef5636acad"), looks := false }, kinds := [], alts := [], laidByText := true, laidKinds := [.data, .data, .data], laidTests := true, laidLooks := .later }
def CellOneUptoCardSaid : Prop := Claim7.holds Tryz.pinned (.plain (OpenSpec.upto cellOneSpec)) cellOneUptoCard

/-- THE SECOND FORM's CARD OF 'matinslaw34.CellStop'. -/
def cellStopUptoCard : Claim7 := { stood := { row := cellStopUptoRow, standIns := [], harness := (true, "0b90385b8d306b9e526cc26064d5626ec2a77828c761094f66a1f7ef5636acad"), looks := false }, kinds := [], alts := [], laidByText := true, laidKinds := [.data, .data, .data], laidTests := true, laidLooks := .later }
def CellStopUptoCardSaid : Prop := Claim7.holds Tryz.pinned (.plain (OpenSpec.upto cellStopSpec)) cellStopUptoCard

/-- THE SECOND FORM's CARD OF 'matinslaw34.CellAll'. -/
def cellAllUptoCard : Claim7 := { stood := { row := cellAllUptoRow, standIns := [], harness := (true, "0b90385b8d306b9e526cc26064d5626ec2a77828c761094f66a1f7ef5636acad"), looks := false }, kinds := [], alts := [], laidByText := true, laidKinds := [.data, .data, .data], laidTests := true, laidLooks := .later }
def CellAllUptoCardSaid : Prop := Claim7.holds Tryz.pinned (.plain (OpenSpec.upto cellAllSpec)) cellAllUptoCard

/-- THE SECOND FORM's CARD OF 'matinslaw34.CellRight'. -/
def cellRightUptoCard : Claim7 := { stood := { row := cellRightUptoRow, standIns := [], harness := (true, "0b90385b8d306b9e526cc26064d5626ec2a77828c761094f66a1f7ef5636acad"), looks := false }, kinds := [], alts := [], laidByText := true, laidKinds := [.data, .data, .data], laidTests := true, laidLooks := .later }
def CellRightUptoCardSaid : Prop := Claim7.holds Tryz.pinned (.plain (OpenSpec.upto cellRightSpec)) cellRightUptoCard
end Rows
end Go.Proofs.YtibiooglhpjojaaGreatDoor
