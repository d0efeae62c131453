/-
  DERIVED. GIVEN WITH THE SEED: THE CARDS: each row of YtoahfegeeimomaaDoorRows.lean that lists a variable, with what it lists TIED to the program's text (the seventh form; the later family's looks); each row that meets fmt, with fmt's text TOLD by the authors' own Lean function (tested against real Go, not proved from fmt's source: count such statements apart). THE CARD IS WHAT COUNTS. Prove the row's statement (the work); the ties are given (YtoahfegeeimomaaDoorTie.lean); close each card by the builder's one call (the guide's Derived/Test/ToyasCard.lean, 'card_holds'). Laid BY PROGRAM, IN A SANDBOX (cutbox-door.mjs). By AI agents, Wed Nov 11 2026. No macro, syntax, notation, axiom, sorry.
-/
import Derived.Test.YtoahfegeeimomaaDoorRows
import GoSem.ClaimSeven
namespace Go.Proofs.YtoahfegeeimomaaDoor
namespace Rows

/-- THE TIED CARD OF 'muleteerlaw39.ReportWords'. -/
def reportWordsCard : Claim7 := { stood := { row := reportWordsRow, standIns := [], harness := (true, "08f903789aff309e4bc20c7f296256fd4c151abfc8b675dbe3d6a0c9a3d749ec"), looks := true }, kinds := [], alts := [], laidByText := true, laidKinds := [.data, .data, .data], laidTests := true, laidLooks := .later }
def ReportWordsCardSaid : Prop := Claim7.holds Tryd.pinned (.plain (OpenSpec.ofChange reportWordsSpec)) reportWordsCard

/-- THE TIED CARD OF 'muleteerlaw15.StepLines'. -/
def stepLinesCard : Claim7 := { stood := { row := stepLinesRow, standIns := [], harness := (true, "08f903789aff309e4bc20c7f296256fd4c151abfc8b675dbe3d6a0c9a3d749ec"), looks := true }, kinds := [], alts := [], laidByText := true, laidKinds := [.data, .data, .data, .data, .sentinel, .sentinel, .pinned], laidTests := true, laidLooks := .later }
def StepLinesCardSaid : Prop := Claim7.holds Tryd.pinned (.plain (OpenSpec.ofChange stepLinesSpec)) stepLinesCard

/-- THE SECOND FORM's CARD OF 'muleteerlaw39.ReportWords'. -/
def reportWordsUptoCard : Claim7 := { stood := { row := reportWordsUptoRow, standIns := [], harness := (true, "08f903789aff309e4bc20c7f296256fd4c151abfc8b675dbe3d6a0c9a3d749ec"), looks := true }, kinds := [], alts := [], laidByText := true, laidKinds := [.data, .data, .data], laidTests := true, laidLooks := .later }
def ReportWordsUptoCardSaid : Prop := Claim7.holds Tryd.pinned (.plain (OpenSpec.upto reportWordsSpec)) reportWordsUptoCard

/-- THE SECOND FORM's CARD OF 'muleteerlaw15.StepLines'. -/
def stepLinesUptoCard : Claim7 := { stood := { row := stepLinesUptoRow, standIns := [], harness := (true, "08f903789aff309e4bc20c7f296256fd4c151abfc8b675dbe3d6a0c9a3d749ec"), looks := true }, kinds := [], alts := [], laidByText := true, laidKinds := [.data, .data, .data, .data, .sentinel, .sentinel, .pinned], laidTests := true, laidLooks := .later }
def StepLinesUptoCardSaid : Prop := Claim7.holds Tryd.pinned (.plain (OpenSpec.upto stepLinesSpec)) stepLinesUptoCard
end Rows
end Go.Proofs.YtoahfegeeimomaaDoor
