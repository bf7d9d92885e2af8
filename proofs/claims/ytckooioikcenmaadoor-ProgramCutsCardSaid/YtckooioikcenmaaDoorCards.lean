/-
  DERIVED. GIVEN WITH THE SEED: THE CARDS: each row of YtckooioikcenmaaDoorRows.lean that lists a variable, with what it lists TIED to the program's text (the seventh form; the later family's looks); each row that meets fmt, with fmt's text TOLD by the authors' own Lean function (tested against real Go, not proved from fmt's source: count such statements apart). THE CARD IS WHAT COUNTS. Prove the row's statement (the work); the ties are given (YtckooioikcenmaaDoorTie.lean); close each card by the builder's one call (the guide's Derived/Test/ToyasCard.lean, 'card_holds'). Laid BY PROGRAM, IN A SANDBOX (cutbox-door.mjs). By AI agents, Wed Nov 11 2026. No macro, syntax, notation, axiom, sorry.
-/
import Derived.Test.YtckooioikcenmaaDoorRows
import GoSem.ClaimSeven
namespace Go.Proofs.YtckooioikcenmaaDoor
namespace Rows

/-- THE TIED CARD OF 'millwheellaw09.ProgramEnds'. -/
def programEndsCard : Claim7 := { stood := { row := programEndsRow, standIns := [], harness := (true, "b9166f50f7326e1967a9811a846eb31f6dd07020c9b3d3a822335514a9fa7c6a"), looks := true }, kinds := [], alts := [], laidByText := true, laidKinds := [.data, .data, .data, .listed, .data], laidTests := true, laidLooks := .later }
def ProgramEndsCardSaid : Prop := Claim7.holds Tryd.pinned (.plain (OpenSpec.ofChange programEndsSpec)) programEndsCard

/-- THE TIED CARD OF 'millwheellaw09.ProgramPolicies'. -/
def programPoliciesCard : Claim7 := { stood := { row := programPoliciesRow, standIns := [], harness := (true, "b9166f50f7326e1967a9811a846eb31f6dd07020c9b3d3a822335514a9fa7c6a"), looks := true }, kinds := [], alts := [], laidByText := true, laidKinds := [.data, .data, .data, .listed, .data], laidTests := true, laidLooks := .later }
def ProgramPoliciesCardSaid : Prop := Claim7.holds Tryd.pinned (.plain (OpenSpec.ofChange programPoliciesSpec)) programPoliciesCard

/-- THE TIED CARD OF 'millwheellaw09.ProgramBack'. -/
def programBackCard : Claim7 := { stood := { row := programBackRow, standIns := [], harness := (true, "b9166f50f7326e1967a9811a846eb31f6dd07020c9b3d3a822335514a9fa7c6a"), looks := true }, kinds := [], alts := [], laidByText := true, laidKinds := [.data, .data, .data, .listed, .data], laidTests := true, laidLooks := .later }
def ProgramBackCardSaid : Prop := Claim7.holds Tryd.pinned (.plain (OpenSpec.ofChange programBackSpec)) programBackCard

/-- THE TIED CARD OF 'millwheellaw09.ProgramCuts'. -/
def programCutsCard : Claim7 := { stood := { row := programCutsRow, standIns := [], harness := (true, "b9166f50f7326e1967a9811a846eb31f6dd07020c9b3d3a822335514a9fa7c6a"), looks := true }, kinds := [], alts := [], laidByText := true, laidKinds := [.data, .data, .data, .listed, .data], laidTests := true, laidLooks := .later }
def ProgramCutsCardSaid : Prop := Claim7.holds Tryd.pinned (.plain (OpenSpec.ofChange programCutsSpec)) programCutsCard

/-- THE TIED CARD OF 'millwheellaw20.TokenTells'. -/
def tokenTellsCard : Claim7 := { stood := { row := tokenTellsRow, standIns := [], harness := (true, "b9166f50f7326e1967a9811a846eb31f6dd07020c9b3d3a822335514a9fa7c6a"), looks := true }, kinds := [], alts := [], laidByText := true, laidKinds := [.data, .data, .data, .sentinel, .sentinel], laidTests := true, laidLooks := .later }
def TokenTellsCardSaid : Prop := Claim7.holds Tryd.pinned (.plain (OpenSpec.ofChange tokenTellsSpec)) tokenTellsCard

/-- THE TIED CARD OF 'millwheellaw20.TokenBack'. -/
def tokenBackCard : Claim7 := { stood := { row := tokenBackRow, standIns := [], harness := (true, "b9166f50f7326e1967a9811a846eb31f6dd07020c9b3d3a822335514a9fa7c6a"), looks := true }, kinds := [], alts := [], laidByText := true, laidKinds := [.data, .data, .data, .sentinel, .sentinel], laidTests := true, laidLooks := .later }
def TokenBackCardSaid : Prop := Claim7.holds Tryd.pinned (.plain (OpenSpec.ofChange tokenBackSpec)) tokenBackCard

/-- THE TIED CARD OF 'millwheellaw20.TokenOdd'. -/
def tokenOddCard : Claim7 := { stood := { row := tokenOddRow, standIns := [], harness := (true, "b9166f50f7326e1967a9811a846eb31f6dd07020c9b3d3a822335514a9fa7c6a"), looks := true }, kinds := [], alts := [], laidByText := true, laidKinds := [.data, .data, .data, .sentinel, .sentinel], laidTests := true, laidLooks := .later }
def TokenOddCardSaid : Prop := Claim7.holds Tryd.pinned (.plain (OpenSpec.ofChange tokenOddSpec)) tokenOddCard

/-- THE SECOND FORM's CARD OF 'millwheellaw09.ProgramEnds'. -/
def programEndsUptoCard : Claim7 := { stood := { row := programEndsUptoRow, standIns := [], harness := (true, "b9166f50f7326e1967a9811a846eb31f6dd07020c9b3d3a822335514a9fa7c6a"), looks := true }, kinds := [], alts := [], laidByText := true, laidKinds := [.data, .data, .data, .listed, .data], laidTests := true, laidLooks := .later }
def ProgramEndsUptoCardSaid : Prop := Claim7.holds Tryd.pinned (.plain (OpenSpec.upto programEndsSpec)) programEndsUptoCard

/-- THE SECOND FORM's CARD OF 'millwheellaw09.ProgramPolicies'. -/
def programPoliciesUptoCard : Claim7 := { stood := { row := programPoliciesUptoRow, standIns := [], harness := (true, "b9166f50f7326e1967a9811a846eb31f6dd07020c9b3d3a822335514a9fa7c6a"), looks := true }, kinds := [], alts := [], laidByText := true, laidKinds := [.data, .data, .data, .listed, .data], laidTests := true, laidLooks := .later }
def ProgramPoliciesUptoCardSaid : Prop := Claim7.holds Tryd.pinned (.plain (OpenSpec.upto programPoliciesSpec)) programPoliciesUptoCard

/-- THE SECOND FORM's CARD OF 'millwheellaw09.ProgramBack'. -/
def programBackUptoCard : Claim7 := { stood := { row := programBackUptoRow, standIns := [], harness := (true, "b9166f50f7326e1967a9811a846eb31f6dd07020c9b3d3a822335514a9fa7c6a"), looks := true }, kinds := [], alts := [], laidByText := true, laidKinds := [.data, .data, .data, .listed, .data], laidTests := true, laidLooks := .later }
def ProgramBackUptoCardSaid : Prop := Claim7.holds Tryd.pinned (.plain (OpenSpec.upto programBackSpec)) programBackUptoCard

/-- THE SECOND FORM's CARD OF 'millwheellaw09.ProgramCuts'. -/
def programCutsUptoCard : Claim7 := { stood := { row := programCutsUptoRow, standIns := [], harness := (true, "b9166f50f7326e1967a9811a846eb31f6dd07020c9b3d3a822335514a9fa7c6a"), looks := true }, kinds := [], alts := [], laidByText := true, laidKinds := [.data, .data, .data, .listed, .data], laidTests := true, laidLooks := .later }
def ProgramCutsUptoCardSaid : Prop := Claim7.holds Tryd.pinned (.plain (OpenSpec.upto programCutsSpec)) programCutsUptoCard

/-- THE SECOND FORM's CARD OF 'millwheellaw20.TokenTells'. -/
def tokenTellsUptoCard : Claim7 := { stood := { row := tokenTellsUptoRow, standIns := [], harness := (true, "b9166f50f7326e1967a9811a846eb31f6dd07020c9b3d3a822335514a9fa7c6a"), looks := true }, kinds := [], alts := [], laidByText := true, laidKinds := [.data, .data, .data, .sentinel, .sentinel], laidTests := true, laidLooks := .later }
def TokenTellsUptoCardSaid : Prop := Claim7.holds Tryd.pinned (.plain (OpenSpec.upto tokenTellsSpec)) tokenTellsUptoCard

/-- THE SECOND FORM's CARD OF 'millwheellaw20.TokenBack'. -/
def tokenBackUptoCard : Claim7 := { stood := { row := tokenBackUptoRow, standIns := [], harness := (true, "b9166f50f7326e1967a9811a846eb31f6dd07020c9b3d3a822335514a9fa7c6a"), looks := true }, kinds := [], alts := [], laidByText := true, laidKinds := [.data, .data, .data, .sentinel, .sentinel], laidTests := true, laidLooks := .later }
def TokenBackUptoCardSaid : Prop := Claim7.holds Tryd.pinned (.plain (OpenSpec.upto tokenBackSpec)) tokenBackUptoCard

/-- THE SECOND FORM's CARD OF 'millwheellaw20.TokenOdd'. -/
def tokenOddUptoCard : Claim7 := { stood := { row := tokenOddUptoRow, standIns := [], harness := (true, "b9166f50f7326e1967a9811a846eb31f6dd07020c9b3d3a822335514a9fa7c6a"), looks := true }, kinds := [], alts := [], laidByText := true, laidKinds := [.data, .data, .data, .sentinel, .sentinel], laidTests := true, laidLooks := .later }
def TokenOddUptoCardSaid : Prop := Claim7.holds Tryd.pinned (.plain (OpenSpec.upto tokenOddSpec)) tokenOddUptoCard
end Rows
end Go.Proofs.YtckooioikcenmaaDoor
