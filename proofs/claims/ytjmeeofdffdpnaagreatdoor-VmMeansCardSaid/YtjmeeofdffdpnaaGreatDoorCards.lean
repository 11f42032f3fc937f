/-
  DERIVED. GIVEN WITH THE SEED: THE CARDS: each row of YtjmeeofdffdpnaaGreatDoorRows.lean that lists a variable, with what it lists TIED to the program's text (the seventh form; the later family's looks); each row that meets fmt, with fmt's text TOLD by the authors' own Lean function (tested against real Go, not proved from fmt's source: count such statements apart). THE CARD IS WHAT COUNTS. Prove the row's statement (the work); the ties are given (YtjmeeofdffdpnaaGreatDoorTie.lean); close each card by the builder's one call (the guide's Derived/Test/ToyasCard.lean, 'card_holds'). Laid BY PROGRAM, IN A SANDBOX (cutbox-door.mjs). By AI agents, Wed Nov 11 2026. No macro, syntax, notation, axiom, sorry.
-/
import Derived.Test.YtjmeeofdffdpnaaGreatDoorRows
import GoSem.ClaimSeven
namespace Go.Proofs.YtjmeeofdffdpnaaGreatDoor
namespace Rows

/-- THE TIED CARD OF 'bournelaw32.VmTells'. -/
def vmTellsCard : Claim7 := { stood := { row := vmTellsRow, standIns := [], harness := (true, "3a9b298cca656080979561d3b9ee382d91a255c9b9c7bea6958a82c465f77d92"), looks := true }, kinds := [], alts := [], laidByText := true, laidKinds := [.data, .data, .data], laidTests := true, laidLooks := .later }
def VmTellsCardSaid : Prop := Claim7.holds Tryz.pinned (.plain (OpenSpec.ofChange vmTellsSpec)) vmTellsCard

/-- THE TIED CARD OF 'bournelaw32.VmShape'. -/
def vmShapeCard : Claim7 := { stood := { row := vmShapeRow, standIns := [], harness := (true, "3a9b298cca656080979561d3b9ee382d91a255c9b9c7bea6958a82c465f77d92"), looks := true }, kinds := [], alts := [], laidByText := true, laidKinds := [.data, .data, .data], laidTests := true, laidLooks := .later }
def VmShapeCardSaid : Prop := Claim7.holds Tryz.pinned (.plain (OpenSpec.ofChange vmShapeSpec)) vmShapeCard

/-- THE TIED CARD OF 'bournelaw32.VmNames'. -/
def vmNamesCard : Claim7 := { stood := { row := vmNamesRow, standIns := [], harness := (true, "3a9b298cca656080979561d3b9ee382d91a255c9b9c7bea6958a82c465f77d92"), looks := true }, kinds := [], alts := [], laidByText := true, laidKinds := [.data, .data, .data], laidTests := true, laidLooks := .later }
def VmNamesCardSaid : Prop := Claim7.holds Tryz.pinned (.plain (OpenSpec.ofChange vmNamesSpec)) vmNamesCard

/-- THE TIED CARD OF 'bournelaw32.VmRefuses'. -/
def vmRefusesCard : Claim7 := { stood := { row := vmRefusesRow, standIns := [], harness := (true, "3a9b298cca656080979561d3b9ee382d91a255c9b9c7bea6958a82c465f77d92"), looks := true }, kinds := [], alts := [], laidByText := true, laidKinds := [.data, .data, .data], laidTests := true, laidLooks := .later }
def VmRefusesCardSaid : Prop := Claim7.holds Tryz.pinned (.plain (OpenSpec.ofChange vmRefusesSpec)) vmRefusesCard

/-- THE TIED CARD OF 'bournelaw32.VmMeans'. -/
def vmMeansCard : Claim7 := { stood := { row := vmMeansRow, standIns := [], harness := (true, "3a9b298cca656080979561d3b9ee382d91a255c9b9c7bea6958a82c465f77d92"), looks := true }, kinds := [], alts := [], laidByText := true, laidKinds := [.data, .data, .data], laidTests := true, laidLooks := .later }
def VmMeansCardSaid : Prop := Claim7.holds Tryz.pinned (.plain (OpenSpec.ofChange vmMeansSpec)) vmMeansCard

/-- THE TIED CARD OF 'bournelaw32.VmSource'. -/
def vmSourceCard : Claim7 := { stood := { row := vmSourceRow, standIns := [], harness := (true, "3a9b298cca656080979561d3b9ee382d91a255c9b9c7bea6958a82c465f77d92"), looks := true }, kinds := [], alts := [], laidByText := true, laidKinds := [.data, .data, .data, .data, .data, .data], laidTests := true, laidLooks := .later }
def VmSourceCardSaid : Prop := Claim7.holds Tryz.pinned (.plain (OpenSpec.ofChange vmSourceSpec)) vmSourceCard

/-- THE SECOND FORM's CARD OF 'bournelaw32.VmTells'. -/
def vmTellsUptoCard : Claim7 := { stood := { row := vmTellsUptoRow, standIns := [], harness := (true, "3a9b298cca656080979561d3b9ee382d91a255c9b9c7bea6958a82c465f77d92"), looks := true }, kinds := [], alts := [], laidByText := true, laidKinds := [.data, .data, .data], laidTests := true, laidLooks := .later }
def VmTellsUptoCardSaid : Prop := Claim7.holds Tryz.pinned (.plain (OpenSpec.upto vmTellsSpec)) vmTellsUptoCard

/-- THE SECOND FORM's CARD OF 'bournelaw32.VmShape'. -/
def vmShapeUptoCard : Claim7 := { stood := { row := vmShapeUptoRow, standIns := [], harness := (true, "3a9b298cca656080979561d3b9ee382d91a255c9b9c7bea6958a82c465f77d92"), looks := true }, kinds := [], alts := [], laidByText := true, laidKinds := [.data, .data, .data], laidTests := true, laidLooks := .later }
def VmShapeUptoCardSaid : Prop := Claim7.holds Tryz.pinned (.plain (OpenSpec.upto vmShapeSpec)) vmShapeUptoCard

/-- THE SECOND FORM's CARD OF 'bournelaw32.VmNames'. -/
def vmNamesUptoCard : Claim7 := { stood := { row := vmNamesUptoRow, standIns := [], harness := (true, "3a9b298cca656080979561d3b9ee382d91a255c9b9c7bea6958a82c465f77d92"), looks := true }, kinds := [], alts := [], laidByText := true, laidKinds := [.data, .data, .data], laidTests := true, laidLooks := .later }
def VmNamesUptoCardSaid : Prop := Claim7.holds Tryz.pinned (.plain (OpenSpec.upto vmNamesSpec)) vmNamesUptoCard

/-- THE SECOND FORM's CARD OF 'bournelaw32.VmRefuses'. -/
def vmRefusesUptoCard : Claim7 := { stood := { row := vmRefusesUptoRow, standIns := [], harness := (true, "3a9b298cca656080979561d3b9ee382d91a255c9b9c7bea6958a82c465f77d92"), looks := true }, kinds := [], alts := [], laidByText := true, laidKinds := [.data, .data, .data], laidTests := true, laidLooks := .later }
def VmRefusesUptoCardSaid : Prop := Claim7.holds Tryz.pinned (.plain (OpenSpec.upto vmRefusesSpec)) vmRefusesUptoCard

/-- THE SECOND FORM's CARD OF 'bournelaw32.VmMeans'. -/
def vmMeansUptoCard : Claim7 := { stood := { row := vmMeansUptoRow, standIns := [], harness := (true, "3a9b298cca656080979561d3b9ee382d91a255c9b9c7bea6958a82c465f77d92"), looks := true }, kinds := [], alts := [], laidByText := true, laidKinds := [.data, .data, .data], laidTests := true, laidLooks := .later }
def VmMeansUptoCardSaid : Prop := Claim7.holds Tryz.pinned (.plain (OpenSpec.upto vmMeansSpec)) vmMeansUptoCard

/-- THE SECOND FORM's CARD OF 'bournelaw32.VmSource'. -/
def vmSourceUptoCard : Claim7 := { stood := { row := vmSourceUptoRow, standIns := [], harness := (true, "3a9b298cca656080979561d3b9ee382d91a255c9b9c7bea6958a82c465f77d92"), looks := true }, kinds := [], alts := [], laidByText := true, laidKinds := [.data, .data, .data, .data, .data, .data], laidTests := true, laidLooks := .later }
def VmSourceUptoCardSaid : Prop := Claim7.holds Tryz.pinned (.plain (OpenSpec.upto vmSourceSpec)) vmSourceUptoCard
end Rows
end Go.Proofs.YtjmeeofdffdpnaaGreatDoor
