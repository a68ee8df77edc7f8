/-
  DERIVED. GIVEN WITH THE SEED: THE CARDS: each row of YtcjkgmfidkgamaaGreatDoorRows.lean that lists a variable, with what it lists TIED to the program's text (the seventh form; the later family's looks); each row that meets fmt, with fmt's text TOLD by the authors' own Lean function (tested against real Go, not proved from fmt's source: count such statements apart). THE CARD IS WHAT COUNTS. Prove the row's statement (the work); the ties are given (YtcjkgmfidkgamaaGreatDoorTie.lean); close each card by the builder's one call (the guide's Derived/Test/ToyasCard.lean, 'card_holds'). Laid BY PROGRAM, IN A SANDBOX (cutbox-door.mjs). By AI agents, Wed Nov 11 2026. No macro, syntax, notation, axiom, sorry.
-/
import Derived.Test.YtcjkgmfidkgamaaGreatDoorRows
import GoSem.ClaimSeven
namespace Go.Proofs.YtcjkgmfidkgamaaGreatDoor
namespace Rows

/-- THE TIED CARD OF 'publisherlaw09.ScanTells'. -/
def scanTellsCard : Claim7 := { stood := { row := scanTellsRow, standIns := [], harness := (true, "522c90ec783a27856d6ddcc25c905f23d4c797df29386ca61955dcf1b7e82755"), looks := false }, kinds := [], alts := [], laidByText := true, laidKinds := [.data, .pinned], laidTests := true, laidLooks := .later }
def ScanTellsCardSaid : Prop := Claim7.holds Tryz.pinned (.plain (OpenSpec.ofChange scanTellsSpec)) scanTellsCard

/-- THE TIED CARD OF 'publisherlaw09.ScanFormed'. -/
def scanFormedCard : Claim7 := { stood := { row := scanFormedRow, standIns := [], harness := (true, "522c90ec783a27856d6ddcc25c905f23d4c797df29386ca61955dcf1b7e82755"), looks := false }, kinds := [], alts := [], laidByText := true, laidKinds := [.data, .pinned], laidTests := true, laidLooks := .later }
def ScanFormedCardSaid : Prop := Claim7.holds Tryz.pinned (.plain (OpenSpec.ofChange scanFormedSpec)) scanFormedCard

/-- THE TIED CARD OF 'publisherlaw09.ScanCoded'. -/
def scanCodedCard : Claim7 := { stood := { row := scanCodedRow, standIns := [], harness := (true, "522c90ec783a27856d6ddcc25c905f23d4c797df29386ca61955dcf1b7e82755"), looks := false }, kinds := [], alts := [], laidByText := true, laidKinds := [.data, .pinned], laidTests := true, laidLooks := .later }
def ScanCodedCardSaid : Prop := Claim7.holds Tryz.pinned (.plain (OpenSpec.ofChange scanCodedSpec)) scanCodedCard

/-- THE TIED CARD OF 'publisherlaw09.ScanCode'. -/
def scanCodeCard : Claim7 := { stood := { row := scanCodeRow, standIns := [], harness := (true, "522c90ec783a27856d6ddcc25c905f23d4c797df29386ca61955dcf1b7e82755"), looks := false }, kinds := [], alts := [], laidByText := true, laidKinds := [.data, .pinned], laidTests := true, laidLooks := .later }
def ScanCodeCardSaid : Prop := Claim7.holds Tryz.pinned (.plain (OpenSpec.ofChange scanCodeSpec)) scanCodeCard

/-- THE TIED CARD OF 'publisherlaw09.ScanCites'. -/
def scanCitesCard : Claim7 := { stood := { row := scanCitesRow, standIns := [], harness := (true, "522c90ec783a27856d6ddcc25c905f23d4c797df29386ca61955dcf1b7e82755"), looks := false }, kinds := [], alts := [], laidByText := true, laidKinds := [.data, .pinned], laidTests := true, laidLooks := .later }
def ScanCitesCardSaid : Prop := Claim7.holds Tryz.pinned (.plain (OpenSpec.ofChange scanCitesSpec)) scanCitesCard

/-- THE SECOND FORM's CARD OF 'publisherlaw09.ScanTells'. -/
def scanTellsUptoCard : Claim7 := { stood := { row := scanTellsUptoRow, standIns := [], harness := (true, "522c90ec783a27856d6ddcc25c905f23d4c797df29386ca61955dcf1b7e82755"), looks := false }, kinds := [], alts := [], laidByText := true, laidKinds := [.data, .pinned], laidTests := true, laidLooks := .later }
def ScanTellsUptoCardSaid : Prop := Claim7.holds Tryz.pinned (.plain (OpenSpec.upto scanTellsSpec)) scanTellsUptoCard

/-- THE SECOND FORM's CARD OF 'publisherlaw09.ScanFormed'. -/
def scanFormedUptoCard : Claim7 := { stood := { row := scanFormedUptoRow, standIns := [], harness := (true, "522c90ec783a27856d6ddcc25c905f23d4c797df29386ca61955dcf1b7e82755"), looks := false }, kinds := [], alts := [], laidByText := true, laidKinds := [.data, .pinned], laidTests := true, laidLooks := .later }
def ScanFormedUptoCardSaid : Prop := Claim7.holds Tryz.pinned (.plain (OpenSpec.upto scanFormedSpec)) scanFormedUptoCard

/-- THE SECOND FORM's CARD OF 'publisherlaw09.ScanCoded'. -/
def scanCodedUptoCard : Claim7 := { stood := { row := scanCodedUptoRow, standIns := [], harness := (true, "522c90ec783a27856d6ddcc25c905f23d4c797df29386ca61955dcf1b7e82755"), looks := false }, kinds := [], alts := [], laidByText := true, laidKinds := [.data, .pinned], laidTests := true, laidLooks := .later }
def ScanCodedUptoCardSaid : Prop := Claim7.holds Tryz.pinned (.plain (OpenSpec.upto scanCodedSpec)) scanCodedUptoCard

/-- THE SECOND FORM's CARD OF 'publisherlaw09.ScanCode'. -/
def scanCodeUptoCard : Claim7 := { stood := { row := scanCodeUptoRow, standIns := [], harness := (true, "522c90ec783a27856d6ddcc25c905f23d4c797df29386ca61955dcf1b7e82755"), looks := false }, kinds := [], alts := [], laidByText := true, laidKinds := [.data, .pinned], laidTests := true, laidLooks := .later }
def ScanCodeUptoCardSaid : Prop := Claim7.holds Tryz.pinned (.plain (OpenSpec.upto scanCodeSpec)) scanCodeUptoCard

/-- THE SECOND FORM's CARD OF 'publisherlaw09.ScanCites'. -/
def scanCitesUptoCard : Claim7 := { stood := { row := scanCitesUptoRow, standIns := [], harness := (true, "522c90ec783a27856d6ddcc25c905f23d4c797df29386ca61955dcf1b7e82755"), looks := false }, kinds := [], alts := [], laidByText := true, laidKinds := [.data, .pinned], laidTests := true, laidLooks := .later }
def ScanCitesUptoCardSaid : Prop := Claim7.holds Tryz.pinned (.plain (OpenSpec.upto scanCitesSpec)) scanCitesUptoCard
end Rows
end Go.Proofs.YtcjkgmfidkgamaaGreatDoor
