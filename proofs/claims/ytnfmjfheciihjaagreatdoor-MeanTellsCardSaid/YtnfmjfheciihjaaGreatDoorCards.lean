/-
  DERIVED. GIVEN WITH THE SEED: THE CARDS: each row of YtnfmjfheciihjaaGreatDoorRows.lean that lists a variable, with what it lists TIED to the program's text (the seventh form; the later family's looks); each row that meets fmt, with fmt's text TOLD by the authors' own Lean function (tested against real Go, not proved from fmt's source: count such statements apart). THE CARD IS WHAT COUNTS. Prove the row's statement (the work); the ties are given (YtnfmjfheciihjaaGreatDoorTie.lean); close each card by the builder's one call (the guide's Derived/Test/ToyasCard.lean, 'card_holds'). Laid BY PROGRAM, IN A SANDBOX (cutbox-door.mjs). By AI agents, Wed Nov 11 2026. No macro, syntax, notation, axiom, sorry.
-/
import Derived.Test.YtnfmjfheciihjaaGreatDoorRows
import GoSem.ClaimSeven
namespace Go.Proofs.YtnfmjfheciihjaaGreatDoor
namespace Rows

/-- THE TIED CARD OF 'bournelaw31.MeanTells'. -/
def meanTellsCard : Claim7 := { stood := { row := meanTellsRow, standIns := [], harness := (true, "13a6d7aeeb2ce5d7a3f61a9715f5372cbcd479e13682dfdbc8685b8cdf9fafb3"), looks := true }, kinds := [], alts := [], laidByText := true, laidKinds := [.data, .data, .data], laidTests := true, laidLooks := .later }
def MeanTellsCardSaid : Prop := Claim7.holds Tryz.pinned (.plain (OpenSpec.ofChange meanTellsSpec)) meanTellsCard

/-- THE TIED CARD OF 'bournelaw31.MeanClauses'. -/
def meanClausesCard : Claim7 := { stood := { row := meanClausesRow, standIns := [], harness := (true, "13a6d7aeeb2ce5d7a3f61a9715f5372cbcd479e13682dfdbc8685b8cdf9fafb3"), looks := true }, kinds := [], alts := [], laidByText := true, laidKinds := [.data, .data, .data], laidTests := true, laidLooks := .later }
def MeanClausesCardSaid : Prop := Claim7.holds Tryz.pinned (.plain (OpenSpec.ofChange meanClausesSpec)) meanClausesCard

/-- THE TIED CARD OF 'bournelaw31.MeanSums'. -/
def meanSumsCard : Claim7 := { stood := { row := meanSumsRow, standIns := [], harness := (true, "13a6d7aeeb2ce5d7a3f61a9715f5372cbcd479e13682dfdbc8685b8cdf9fafb3"), looks := true }, kinds := [], alts := [], laidByText := true, laidKinds := [.data, .data, .data], laidTests := true, laidLooks := .later }
def MeanSumsCardSaid : Prop := Claim7.holds Tryz.pinned (.plain (OpenSpec.ofChange meanSumsSpec)) meanSumsCard

/-- THE TIED CARD OF 'bournelaw31.MeanCalls'. -/
def meanCallsCard : Claim7 := { stood := { row := meanCallsRow, standIns := [], harness := (true, "13a6d7aeeb2ce5d7a3f61a9715f5372cbcd479e13682dfdbc8685b8cdf9fafb3"), looks := true }, kinds := [], alts := [], laidByText := true, laidKinds := [.data, .data, .data], laidTests := true, laidLooks := .later }
def MeanCallsCardSaid : Prop := Claim7.holds Tryz.pinned (.plain (OpenSpec.ofChange meanCallsSpec)) meanCallsCard

/-- THE TIED CARD OF 'bournelaw31.MeanOnly'. -/
def meanOnlyCard : Claim7 := { stood := { row := meanOnlyRow, standIns := [], harness := (true, "13a6d7aeeb2ce5d7a3f61a9715f5372cbcd479e13682dfdbc8685b8cdf9fafb3"), looks := true }, kinds := [], alts := [], laidByText := true, laidKinds := [.data, .data, .data], laidTests := true, laidLooks := .later }
def MeanOnlyCardSaid : Prop := Claim7.holds Tryz.pinned (.plain (OpenSpec.ofChange meanOnlySpec)) meanOnlyCard

/-- THE SECOND FORM's CARD OF 'bournelaw31.MeanTells'. -/
def meanTellsUptoCard : Claim7 := { stood := { row := meanTellsUptoRow, standIns := [], harness := (true, "13a6d7aeeb2ce5d7a3f61a9715f5372cbcd479e13682dfdbc8685b8cdf9fafb3"), looks := true }, kinds := [], alts := [], laidByText := true, laidKinds := [.data, .data, .data], laidTests := true, laidLooks := .later }
def MeanTellsUptoCardSaid : Prop := Claim7.holds Tryz.pinned (.plain (OpenSpec.upto meanTellsSpec)) meanTellsUptoCard

/-- THE SECOND FORM's CARD OF 'bournelaw31.MeanClauses'. -/
def meanClausesUptoCard : Claim7 := { stood := { row := meanClausesUptoRow, standIns := [], harness := (true, "13a6d7aeeb2ce5d7a3f61a9715f5372cbcd479e13682dfdbc8685b8cdf9fafb3"), looks := true }, kinds := [], alts := [], laidByText := true, laidKinds := [.data, .data, .data], laidTests := true, laidLooks := .later }
def MeanClausesUptoCardSaid : Prop := Claim7.holds Tryz.pinned (.plain (OpenSpec.upto meanClausesSpec)) meanClausesUptoCard

/-- THE SECOND FORM's CARD OF 'bournelaw31.MeanSums'. -/
def meanSumsUptoCard : Claim7 := { stood := { row := meanSumsUptoRow, standIns := [], harness := (true, "13a6d7aeeb2ce5d7a3f61a9715f5372cbcd479e13682dfdbc8685b8cdf9fafb3"), looks := true }, kinds := [], alts := [], laidByText := true, laidKinds := [.data, .data, .data], laidTests := true, laidLooks := .later }
def MeanSumsUptoCardSaid : Prop := Claim7.holds Tryz.pinned (.plain (OpenSpec.upto meanSumsSpec)) meanSumsUptoCard

/-- THE SECOND FORM's CARD OF 'bournelaw31.MeanCalls'. -/
def meanCallsUptoCard : Claim7 := { stood := { row := meanCallsUptoRow, standIns := [], harness := (true, "13a6d7aeeb2ce5d7a3f61a9715f5372cbcd479e13682dfdbc8685b8cdf9fafb3"), looks := true }, kinds := [], alts := [], laidByText := true, laidKinds := [.data, .data, .data], laidTests := true, laidLooks := .later }
def MeanCallsUptoCardSaid : Prop := Claim7.holds Tryz.pinned (.plain (OpenSpec.upto meanCallsSpec)) meanCallsUptoCard

/-- THE SECOND FORM's CARD OF 'bournelaw31.MeanOnly'. -/
def meanOnlyUptoCard : Claim7 := { stood := { row := meanOnlyUptoRow, standIns := [], harness := (true, "13a6d7aeeb2ce5d7a3f61a9715f5372cbcd479e13682dfdbc8685b8cdf9fafb3"), looks := true }, kinds := [], alts := [], laidByText := true, laidKinds := [.data, .data, .data], laidTests := true, laidLooks := .later }
def MeanOnlyUptoCardSaid : Prop := Claim7.holds Tryz.pinned (.plain (OpenSpec.upto meanOnlySpec)) meanOnlyUptoCard
end Rows
end Go.Proofs.YtnfmjfheciihjaaGreatDoor
