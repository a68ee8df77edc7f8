/-
  DERIVED. GIVEN WITH THE SEED: THE CARDS: each row of YtcjkgmfidkgamaaDoorRows.lean that lists a variable, with what it lists TIED to the program's text (the seventh form; the later family's looks); each row that meets fmt, with fmt's text TOLD by the authors' own Lean function (tested against real Go, not proved from fmt's source: count such statements apart). THE CARD IS WHAT COUNTS. Prove the row's statement (the work); the ties are given (YtcjkgmfidkgamaaDoorTie.lean); close each card by the builder's one call (the guide's Derived/Test/ToyasCard.lean, 'card_holds'). Laid BY PROGRAM, IN A SANDBOX (cutbox-door.mjs). By AI agents, Wed Nov 11 2026. No macro, syntax, notation, axiom, sorry.
-/
import Derived.Test.YtcjkgmfidkgamaaDoorRows
import GoSem.ClaimSeven
namespace Go.Proofs.YtcjkgmfidkgamaaDoor
namespace Rows

/-- THE TIED CARD OF 'publisherlaw09.ScanCovers'. -/
def scanCoversCard : Claim7 := { stood := { row := scanCoversRow, standIns := [], harness := (true, "6dbbad2d31fa5264bfdc617d5d15b73e455a0a3f037e4a1c67bbc49db3d56ca9"), looks := false }, kinds := [], alts := [], laidByText := true, laidKinds := [.data, .pinned], laidTests := true, laidLooks := .later }
def ScanCoversCardSaid : Prop := Claim7.holds Tryd.pinned (.plain (OpenSpec.ofChange scanCoversSpec)) scanCoversCard

/-- THE TIED CARD OF 'publisherlaw09.ScanEscapes'. -/
def scanEscapesCard : Claim7 := { stood := { row := scanEscapesRow, standIns := [], harness := (true, "6dbbad2d31fa5264bfdc617d5d15b73e455a0a3f037e4a1c67bbc49db3d56ca9"), looks := false }, kinds := [], alts := [], laidByText := true, laidKinds := [.data, .pinned], laidTests := true, laidLooks := .later }
def ScanEscapesCardSaid : Prop := Claim7.holds Tryd.pinned (.plain (OpenSpec.ofChange scanEscapesSpec)) scanEscapesCard

/-- THE TIED CARD OF 'publisherlaw09.ScanFlanks'. -/
def scanFlanksCard : Claim7 := { stood := { row := scanFlanksRow, standIns := [], harness := (true, "6dbbad2d31fa5264bfdc617d5d15b73e455a0a3f037e4a1c67bbc49db3d56ca9"), looks := false }, kinds := [], alts := [], laidByText := true, laidKinds := [.data, .pinned], laidTests := true, laidLooks := .later }
def ScanFlanksCardSaid : Prop := Claim7.holds Tryd.pinned (.plain (OpenSpec.ofChange scanFlanksSpec)) scanFlanksCard

/-- THE SECOND FORM's CARD OF 'publisherlaw09.ScanCovers'. -/
def scanCoversUptoCard : Claim7 := { stood := { row := scanCoversUptoRow, standIns := [], harness := (true, "6dbbad2d31fa5264bfdc617d5d15b73e455a0a3f037e4a1c67bbc49db3d56ca9"), looks := false }, kinds := [], alts := [], laidByText := true, laidKinds := [.data, .pinned], laidTests := true, laidLooks := .later }
def ScanCoversUptoCardSaid : Prop := Claim7.holds Tryd.pinned (.plain (OpenSpec.upto scanCoversSpec)) scanCoversUptoCard

/-- THE SECOND FORM's CARD OF 'publisherlaw09.ScanEscapes'. -/
def scanEscapesUptoCard : Claim7 := { stood := { row := scanEscapesUptoRow, standIns := [], harness := (true, "6dbbad2d31fa5264bfdc617d5d15b73e455a0a3f037e4a1c67bbc49db3d56ca9"), looks := false }, kinds := [], alts := [], laidByText := true, laidKinds := [.data, .pinned], laidTests := true, laidLooks := .later }
def ScanEscapesUptoCardSaid : Prop := Claim7.holds Tryd.pinned (.plain (OpenSpec.upto scanEscapesSpec)) scanEscapesUptoCard

/-- THE SECOND FORM's CARD OF 'publisherlaw09.ScanFlanks'. -/
def scanFlanksUptoCard : Claim7 := { stood := { row := scanFlanksUptoRow, standIns := [], harness := (true, "6dbbad2d31fa5264bfdc617d5d15b73e455a0a3f037e4a1c67bbc49db3d56ca9"), looks := false }, kinds := [], alts := [], laidByText := true, laidKinds := [.data, .pinned], laidTests := true, laidLooks := .later }
def ScanFlanksUptoCardSaid : Prop := Claim7.holds Tryd.pinned (.plain (OpenSpec.upto scanFlanksSpec)) scanFlanksUptoCard
end Rows
end Go.Proofs.YtcjkgmfidkgamaaDoor
