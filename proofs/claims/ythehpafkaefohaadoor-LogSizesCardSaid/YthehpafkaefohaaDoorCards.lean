/-
  DERIVED. GIVEN WITH THE SEED: THE CARDS: each row of YthehpafkaefohaaDoorRows.lean that lists a variable, with what it lists TIED to the program's text (the seventh form; the later family's looks); each row that meets fmt, with fmt's text TOLD by the authors' own Lean function (tested against real Go, not proved from fmt's source: count such statements apart). THE CARD IS WHAT COUNTS. Prove the row's statement (the work); the ties are given (YthehpafkaefohaaDoorTie.lean); close each card by the builder's one call (the guide's Derived/Test/ToyasCard.lean, 'card_holds'). Laid BY PROGRAM, IN A SANDBOX (cutbox-door.mjs). By AI agents, Wed Nov 11 2026. No macro, syntax, notation, axiom, sorry.
-/
import Derived.Test.YthehpafkaefohaaDoorRows
import GoSem.ClaimSeven
namespace Go.Proofs.YthehpafkaefohaaDoor
namespace Rows

/-- THE TIED CARD OF 'millwheellaw04.LogSizes'. -/
def logSizesCard : Claim7 := { stood := { row := logSizesRow, standIns := [], harness := (true, "9934561bf4a4fe2ae4d70c6213066e3959dd0f41cc42fe8625fbca7c55ba8f5c"), looks := true }, kinds := [], alts := [], laidByText := true, laidKinds := [.data, .data, .data, .sentinel, .sentinel], laidTests := true, laidLooks := .later }
def LogSizesCardSaid : Prop := Claim7.holds Tryd.pinned (.plain (OpenSpec.ofChange logSizesSpec)) logSizesCard

/-- THE SECOND FORM's CARD OF 'millwheellaw04.LogSizes'. -/
def logSizesUptoCard : Claim7 := { stood := { row := logSizesUptoRow, standIns := [], harness := (true, "9934561bf4a4fe2ae4d70c6213066e3959dd0f41cc42fe8625fbca7c55ba8f5c"), looks := true }, kinds := [], alts := [], laidByText := true, laidKinds := [.data, .data, .data, .sentinel, .sentinel], laidTests := true, laidLooks := .later }
def LogSizesUptoCardSaid : Prop := Claim7.holds Tryd.pinned (.plain (OpenSpec.upto logSizesSpec)) logSizesUptoCard
end Rows
end Go.Proofs.YthehpafkaefohaaDoor
