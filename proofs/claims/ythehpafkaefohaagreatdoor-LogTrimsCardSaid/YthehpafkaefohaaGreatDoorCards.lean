/-
  DERIVED. GIVEN WITH THE SEED: THE CARDS: each row of YthehpafkaefohaaGreatDoorRows.lean that lists a variable, with what it lists TIED to the program's text (the seventh form; the later family's looks); each row that meets fmt, with fmt's text TOLD by the authors' own Lean function (tested against real Go, not proved from fmt's source: count such statements apart). THE CARD IS WHAT COUNTS. Prove the row's statement (the work); the ties are given (YthehpafkaefohaaGreatDoorTie.lean); close each card by the builder's one call (the guide's Derived/Test/ToyasCard.lean, 'card_holds'). Laid BY PROGRAM, IN A SANDBOX (cutbox-door.mjs). By AI agents, Wed Nov 11 2026. No macro, syntax, notation, axiom, sorry.
-/
import Derived.Test.YthehpafkaefohaaGreatDoorRows
import GoSem.ClaimSeven
namespace Go.Proofs.YthehpafkaefohaaGreatDoor
namespace Rows

/-- THE TIED CARD OF 'millwheellaw04.LogNone'. -/
def logNoneCard : Claim7 := { stood := { row := logNoneRow, standIns := [], harness := (true, "2b97f6555f9d44021ec738aa62248dcb8ad3ad849793fd0d84c8906d44535e82"), looks := true }, kinds := [], alts := [], laidByText := true, laidKinds := [.data, .data, .data, .sentinel, .sentinel], laidTests := true, laidLooks := .later }
def LogNoneCardSaid : Prop := Claim7.holds Tryz.pinned (.plain (OpenSpec.ofChange logNoneSpec)) logNoneCard

/-- THE TIED CARD OF 'millwheellaw04.LogEnded'. -/
def logEndedCard : Claim7 := { stood := { row := logEndedRow, standIns := [], harness := (true, "2b97f6555f9d44021ec738aa62248dcb8ad3ad849793fd0d84c8906d44535e82"), looks := true }, kinds := [], alts := [], laidByText := true, laidKinds := [.data, .data, .data, .sentinel, .sentinel], laidTests := true, laidLooks := .later }
def LogEndedCardSaid : Prop := Claim7.holds Tryz.pinned (.plain (OpenSpec.ofChange logEndedSpec)) logEndedCard

/-- THE TIED CARD OF 'millwheellaw04.LogForms'. -/
def logFormsCard : Claim7 := { stood := { row := logFormsRow, standIns := [], harness := (true, "2b97f6555f9d44021ec738aa62248dcb8ad3ad849793fd0d84c8906d44535e82"), looks := true }, kinds := [], alts := [], laidByText := true, laidKinds := [.data, .data, .data, .sentinel, .sentinel], laidTests := true, laidLooks := .later }
def LogFormsCardSaid : Prop := Claim7.holds Tryz.pinned (.plain (OpenSpec.ofChange logFormsSpec)) logFormsCard

/-- THE TIED CARD OF 'millwheellaw04.LogTells'. -/
def logTellsCard : Claim7 := { stood := { row := logTellsRow, standIns := [], harness := (true, "2b97f6555f9d44021ec738aa62248dcb8ad3ad849793fd0d84c8906d44535e82"), looks := true }, kinds := [], alts := [], laidByText := true, laidKinds := [.data, .data, .data, .sentinel, .sentinel], laidTests := true, laidLooks := .later }
def LogTellsCardSaid : Prop := Claim7.holds Tryz.pinned (.plain (OpenSpec.ofChange logTellsSpec)) logTellsCard

/-- THE TIED CARD OF 'millwheellaw04.LogBack'. -/
def logBackCard : Claim7 := { stood := { row := logBackRow, standIns := [], harness := (true, "2b97f6555f9d44021ec738aa62248dcb8ad3ad849793fd0d84c8906d44535e82"), looks := true }, kinds := [], alts := [], laidByText := true, laidKinds := [.data, .data, .data, .sentinel, .sentinel], laidTests := true, laidLooks := .later }
def LogBackCardSaid : Prop := Claim7.holds Tryz.pinned (.plain (OpenSpec.ofChange logBackSpec)) logBackCard

/-- THE TIED CARD OF 'millwheellaw04.LogTrims'. -/
def logTrimsCard : Claim7 := { stood := { row := logTrimsRow, standIns := [], harness := (true, "2b97f6555f9d44021ec738aa62248dcb8ad3ad849793fd0d84c8906d44535e82"), looks := true }, kinds := [], alts := [], laidByText := true, laidKinds := [.data, .data, .data, .sentinel, .sentinel], laidTests := true, laidLooks := .later }
def LogTrimsCardSaid : Prop := Claim7.holds Tryz.pinned (.plain (OpenSpec.ofChange logTrimsSpec)) logTrimsCard

/-- THE TIED CARD OF 'millwheellaw04.LogNumbers'. -/
def logNumbersCard : Claim7 := { stood := { row := logNumbersRow, standIns := [], harness := (true, "2b97f6555f9d44021ec738aa62248dcb8ad3ad849793fd0d84c8906d44535e82"), looks := true }, kinds := [], alts := [], laidByText := true, laidKinds := [.data, .data, .data, .sentinel, .sentinel], laidTests := true, laidLooks := .later }
def LogNumbersCardSaid : Prop := Claim7.holds Tryz.pinned (.plain (OpenSpec.ofChange logNumbersSpec)) logNumbersCard

/-- THE TIED CARD OF 'millwheellaw05.ScanNone'. -/
def scanNoneCard : Claim7 := { stood := { row := scanNoneRow, standIns := [], harness := (true, "2b97f6555f9d44021ec738aa62248dcb8ad3ad849793fd0d84c8906d44535e82"), looks := true }, kinds := [], alts := [], laidByText := true, laidKinds := [.data, .data, .data, .sentinel, .sentinel], laidTests := true, laidLooks := .later }
def ScanNoneCardSaid : Prop := Claim7.holds Tryz.pinned (.plain (OpenSpec.ofChange scanNoneSpec)) scanNoneCard

/-- THE TIED CARD OF 'millwheellaw05.ScanLess'. -/
def scanLessCard : Claim7 := { stood := { row := scanLessRow, standIns := [], harness := (true, "2b97f6555f9d44021ec738aa62248dcb8ad3ad849793fd0d84c8906d44535e82"), looks := true }, kinds := [], alts := [], laidByText := true, laidKinds := [.data, .data, .data, .sentinel, .sentinel], laidTests := true, laidLooks := .later }
def ScanLessCardSaid : Prop := Claim7.holds Tryz.pinned (.plain (OpenSpec.ofChange scanLessSpec)) scanLessCard

/-- THE TIED CARD OF 'millwheellaw05.ScanGone'. -/
def scanGoneCard : Claim7 := { stood := { row := scanGoneRow, standIns := [], harness := (true, "2b97f6555f9d44021ec738aa62248dcb8ad3ad849793fd0d84c8906d44535e82"), looks := true }, kinds := [], alts := [], laidByText := true, laidKinds := [.data, .data, .data, .sentinel, .sentinel], laidTests := true, laidLooks := .later }
def ScanGoneCardSaid : Prop := Claim7.holds Tryz.pinned (.plain (OpenSpec.ofChange scanGoneSpec)) scanGoneCard

/-- THE TIED CARD OF 'millwheellaw05.ScanTwice'. -/
def scanTwiceCard : Claim7 := { stood := { row := scanTwiceRow, standIns := [], harness := (true, "2b97f6555f9d44021ec738aa62248dcb8ad3ad849793fd0d84c8906d44535e82"), looks := true }, kinds := [], alts := [], laidByText := true, laidKinds := [.data, .data, .data, .sentinel, .sentinel], laidTests := true, laidLooks := .later }
def ScanTwiceCardSaid : Prop := Claim7.holds Tryz.pinned (.plain (OpenSpec.ofChange scanTwiceSpec)) scanTwiceCard

/-- THE SECOND FORM's CARD OF 'millwheellaw04.LogNone'. -/
def logNoneUptoCard : Claim7 := { stood := { row := logNoneUptoRow, standIns := [], harness := (true, "2b97f6555f9d44021ec738aa62248dcb8ad3ad849793fd0d84c8906d44535e82"), looks := true }, kinds := [], alts := [], laidByText := true, laidKinds := [.data, .data, .data, .sentinel, .sentinel], laidTests := true, laidLooks := .later }
def LogNoneUptoCardSaid : Prop := Claim7.holds Tryz.pinned (.plain (OpenSpec.upto logNoneSpec)) logNoneUptoCard

/-- THE SECOND FORM's CARD OF 'millwheellaw04.LogEnded'. -/
def logEndedUptoCard : Claim7 := { stood := { row := logEndedUptoRow, standIns := [], harness := (true, "2b97f6555f9d44021ec738aa62248dcb8ad3ad849793fd0d84c8906d44535e82"), looks := true }, kinds := [], alts := [], laidByText := true, laidKinds := [.data, .data, .data, .sentinel, .sentinel], laidTests := true, laidLooks := .later }
def LogEndedUptoCardSaid : Prop := Claim7.holds Tryz.pinned (.plain (OpenSpec.upto logEndedSpec)) logEndedUptoCard

/-- THE SECOND FORM's CARD OF 'millwheellaw04.LogForms'. -/
def logFormsUptoCard : Claim7 := { stood := { row := logFormsUptoRow, standIns := [], harness := (true, "2b97f6555f9d44021ec738aa62248dcb8ad3ad849793fd0d84c8906d44535e82"), looks := true }, kinds := [], alts := [], laidByText := true, laidKinds := [.data, .data, .data, .sentinel, .sentinel], laidTests := true, laidLooks := .later }
def LogFormsUptoCardSaid : Prop := Claim7.holds Tryz.pinned (.plain (OpenSpec.upto logFormsSpec)) logFormsUptoCard

/-- THE SECOND FORM's CARD OF 'millwheellaw04.LogTells'. -/
def logTellsUptoCard : Claim7 := { stood := { row := logTellsUptoRow, standIns := [], harness := (true, "2b97f6555f9d44021ec738aa62248dcb8ad3ad849793fd0d84c8906d44535e82"), looks := true }, kinds := [], alts := [], laidByText := true, laidKinds := [.data, .data, .data, .sentinel, .sentinel], laidTests := true, laidLooks := .later }
def LogTellsUptoCardSaid : Prop := Claim7.holds Tryz.pinned (.plain (OpenSpec.upto logTellsSpec)) logTellsUptoCard

/-- THE SECOND FORM's CARD OF 'millwheellaw04.LogBack'. -/
def logBackUptoCard : Claim7 := { stood := { row := logBackUptoRow, standIns := [], harness := (true, "2b97f6555f9d44021ec738aa62248dcb8ad3ad849793fd0d84c8906d44535e82"), looks := true }, kinds := [], alts := [], laidByText := true, laidKinds := [.data, .data, .data, .sentinel, .sentinel], laidTests := true, laidLooks := .later }
def LogBackUptoCardSaid : Prop := Claim7.holds Tryz.pinned (.plain (OpenSpec.upto logBackSpec)) logBackUptoCard

/-- THE SECOND FORM's CARD OF 'millwheellaw04.LogTrims'. -/
def logTrimsUptoCard : Claim7 := { stood := { row := logTrimsUptoRow, standIns := [], harness := (true, "2b97f6555f9d44021ec738aa62248dcb8ad3ad849793fd0d84c8906d44535e82"), looks := true }, kinds := [], alts := [], laidByText := true, laidKinds := [.data, .data, .data, .sentinel, .sentinel], laidTests := true, laidLooks := .later }
def LogTrimsUptoCardSaid : Prop := Claim7.holds Tryz.pinned (.plain (OpenSpec.upto logTrimsSpec)) logTrimsUptoCard

/-- THE SECOND FORM's CARD OF 'millwheellaw04.LogNumbers'. -/
def logNumbersUptoCard : Claim7 := { stood := { row := logNumbersUptoRow, standIns := [], harness := (true, "2b97f6555f9d44021ec738aa62248dcb8ad3ad849793fd0d84c8906d44535e82"), looks := true }, kinds := [], alts := [], laidByText := true, laidKinds := [.data, .data, .data, .sentinel, .sentinel], laidTests := true, laidLooks := .later }
def LogNumbersUptoCardSaid : Prop := Claim7.holds Tryz.pinned (.plain (OpenSpec.upto logNumbersSpec)) logNumbersUptoCard

/-- THE SECOND FORM's CARD OF 'millwheellaw05.ScanNone'. -/
def scanNoneUptoCard : Claim7 := { stood := { row := scanNoneUptoRow, standIns := [], harness := (true, "2b97f6555f9d44021ec738aa62248dcb8ad3ad849793fd0d84c8906d44535e82"), looks := true }, kinds := [], alts := [], laidByText := true, laidKinds := [.data, .data, .data, .sentinel, .sentinel], laidTests := true, laidLooks := .later }
def ScanNoneUptoCardSaid : Prop := Claim7.holds Tryz.pinned (.plain (OpenSpec.upto scanNoneSpec)) scanNoneUptoCard

/-- THE SECOND FORM's CARD OF 'millwheellaw05.ScanLess'. -/
def scanLessUptoCard : Claim7 := { stood := { row := scanLessUptoRow, standIns := [], harness := (true, "2b97f6555f9d44021ec738aa62248dcb8ad3ad849793fd0d84c8906d44535e82"), looks := true }, kinds := [], alts := [], laidByText := true, laidKinds := [.data, .data, .data, .sentinel, .sentinel], laidTests := true, laidLooks := .later }
def ScanLessUptoCardSaid : Prop := Claim7.holds Tryz.pinned (.plain (OpenSpec.upto scanLessSpec)) scanLessUptoCard

/-- THE SECOND FORM's CARD OF 'millwheellaw05.ScanGone'. -/
def scanGoneUptoCard : Claim7 := { stood := { row := scanGoneUptoRow, standIns := [], harness := (true, "2b97f6555f9d44021ec738aa62248dcb8ad3ad849793fd0d84c8906d44535e82"), looks := true }, kinds := [], alts := [], laidByText := true, laidKinds := [.data, .data, .data, .sentinel, .sentinel], laidTests := true, laidLooks := .later }
def ScanGoneUptoCardSaid : Prop := Claim7.holds Tryz.pinned (.plain (OpenSpec.upto scanGoneSpec)) scanGoneUptoCard

/-- THE SECOND FORM's CARD OF 'millwheellaw05.ScanTwice'. -/
def scanTwiceUptoCard : Claim7 := { stood := { row := scanTwiceUptoRow, standIns := [], harness := (true, "2b97f6555f9d44021ec738aa62248dcb8ad3ad849793fd0d84c8906d44535e82"), looks := true }, kinds := [], alts := [], laidByText := true, laidKinds := [.data, .data, .data, .sentinel, .sentinel], laidTests := true, laidLooks := .later }
def ScanTwiceUptoCardSaid : Prop := Claim7.holds Tryz.pinned (.plain (OpenSpec.upto scanTwiceSpec)) scanTwiceUptoCard
end Rows
end Go.Proofs.YthehpafkaefohaaGreatDoor
