/-
  DERIVED. GIVEN WITH THE SEED: THE CARDS: each row of YtoageahnddepcaaDoorRows.lean that lists a variable, with what it lists TIED to the program's text (the seventh form; the later family's looks); each row that meets fmt, with fmt's text TOLD by the authors' own Lean function (tested against real Go, not proved from fmt's source: count such statements apart). THE CARD IS WHAT COUNTS. Prove the row's statement (the work); the ties are given (YtoageahnddepcaaDoorTie.lean); close each card by the builder's one call (the guide's Derived/Test/ToyasCard.lean, 'card_holds'). Laid BY PROGRAM, IN A SANDBOX (cutbox-door.mjs). By AI agents, Wed Nov 11 2026. No macro, syntax, notation, axiom, sorry.
-/
import Derived.Test.YtoageahnddepcaaDoorRows
import GoSem.ClaimSeven
namespace Go.Proofs.YtoageahnddepcaaDoor
namespace Rows

/-- THE TIED CARD OF 'publisherlaw06.TableCells'. -/
def tableCellsCard : Claim7 := { stood := { row := tableCellsRow, standIns := [], harness := (true, "9858cd19a61d94b117b3456b54ad904eb42f61a4dbb6087fc1f8e9c958da5f1c"), looks := false }, kinds := [], alts := [], laidByText := true, laidKinds := [.data, .pinned], laidTests := true, laidLooks := .later }
def TableCellsCardSaid : Prop := Claim7.holds Tryd.pinned (.plain (OpenSpec.ofChange tableCellsSpec)) tableCellsCard

/-- THE TIED CARD OF 'publisherlaw06.TableAligns'. -/
def tableAlignsCard : Claim7 := { stood := { row := tableAlignsRow, standIns := [], harness := (true, "9858cd19a61d94b117b3456b54ad904eb42f61a4dbb6087fc1f8e9c958da5f1c"), looks := false }, kinds := [], alts := [], laidByText := true, laidKinds := [.data, .pinned], laidTests := true, laidLooks := .later }
def TableAlignsCardSaid : Prop := Claim7.holds Tryd.pinned (.plain (OpenSpec.ofChange tableAlignsSpec)) tableAlignsCard

/-- THE TIED CARD OF 'publisherlaw06.TableHeads'. -/
def tableHeadsCard : Claim7 := { stood := { row := tableHeadsRow, standIns := [], harness := (true, "9858cd19a61d94b117b3456b54ad904eb42f61a4dbb6087fc1f8e9c958da5f1c"), looks := false }, kinds := [], alts := [], laidByText := true, laidKinds := [.data, .pinned], laidTests := true, laidLooks := .later }
def TableHeadsCardSaid : Prop := Claim7.holds Tryd.pinned (.plain (OpenSpec.ofChange tableHeadsSpec)) tableHeadsCard

/-- THE TIED CARD OF 'publisherlaw06.TableRows'. -/
def tableRowsCard : Claim7 := { stood := { row := tableRowsRow, standIns := [], harness := (true, "9858cd19a61d94b117b3456b54ad904eb42f61a4dbb6087fc1f8e9c958da5f1c"), looks := false }, kinds := [], alts := [], laidByText := true, laidKinds := [.data, .pinned], laidTests := true, laidLooks := .later }
def TableRowsCardSaid : Prop := Claim7.holds Tryd.pinned (.plain (OpenSpec.ofChange tableRowsSpec)) tableRowsCard

/-- THE TIED CARD OF 'publisherlaw06.TableBack'. -/
def tableBackCard : Claim7 := { stood := { row := tableBackRow, standIns := [], harness := (true, "9858cd19a61d94b117b3456b54ad904eb42f61a4dbb6087fc1f8e9c958da5f1c"), looks := false }, kinds := [], alts := [], laidByText := true, laidKinds := [.data, .pinned], laidTests := true, laidLooks := .later }
def TableBackCardSaid : Prop := Claim7.holds Tryd.pinned (.plain (OpenSpec.ofChange tableBackSpec)) tableBackCard

/-- THE TIED CARD OF 'publisherlaw06.TableAgain'. -/
def tableAgainCard : Claim7 := { stood := { row := tableAgainRow, standIns := [], harness := (true, "9858cd19a61d94b117b3456b54ad904eb42f61a4dbb6087fc1f8e9c958da5f1c"), looks := false }, kinds := [], alts := [], laidByText := true, laidKinds := [.data, .pinned], laidTests := true, laidLooks := .later }
def TableAgainCardSaid : Prop := Claim7.holds Tryd.pinned (.plain (OpenSpec.ofChange tableAgainSpec)) tableAgainCard

/-- THE TIED CARD OF 'publisherlaw06.TableFits'. -/
def tableFitsCard : Claim7 := { stood := { row := tableFitsRow, standIns := [], harness := (true, "9858cd19a61d94b117b3456b54ad904eb42f61a4dbb6087fc1f8e9c958da5f1c"), looks := false }, kinds := [], alts := [], laidByText := true, laidKinds := [.data, .pinned], laidTests := true, laidLooks := .later }
def TableFitsCardSaid : Prop := Claim7.holds Tryd.pinned (.plain (OpenSpec.ofChange tableFitsSpec)) tableFitsCard

/-- THE TIED CARD OF 'publisherlaw06.TableMarks'. -/
def tableMarksCard : Claim7 := { stood := { row := tableMarksRow, standIns := [], harness := (true, "9858cd19a61d94b117b3456b54ad904eb42f61a4dbb6087fc1f8e9c958da5f1c"), looks := false }, kinds := [], alts := [], laidByText := true, laidKinds := [.data, .pinned], laidTests := true, laidLooks := .later }
def TableMarksCardSaid : Prop := Claim7.holds Tryd.pinned (.plain (OpenSpec.ofChange tableMarksSpec)) tableMarksCard

/-- THE SECOND FORM's CARD OF 'publisherlaw06.TableCells'. -/
def tableCellsUptoCard : Claim7 := { stood := { row := tableCellsUptoRow, standIns := [], harness := (true, "9858cd19a61d94b117b3456b54ad904eb42f61a4dbb6087fc1f8e9c958da5f1c"), looks := false }, kinds := [], alts := [], laidByText := true, laidKinds := [.data, .pinned], laidTests := true, laidLooks := .later }
def TableCellsUptoCardSaid : Prop := Claim7.holds Tryd.pinned (.plain (OpenSpec.upto tableCellsSpec)) tableCellsUptoCard

/-- THE SECOND FORM's CARD OF 'publisherlaw06.TableAligns'. -/
def tableAlignsUptoCard : Claim7 := { stood := { row := tableAlignsUptoRow, standIns := [], harness := (true, "9858cd19a61d94b117b3456b54ad904eb42f61a4dbb6087fc1f8e9c958da5f1c"), looks := false }, kinds := [], alts := [], laidByText := true, laidKinds := [.data, .pinned], laidTests := true, laidLooks := .later }
def TableAlignsUptoCardSaid : Prop := Claim7.holds Tryd.pinned (.plain (OpenSpec.upto tableAlignsSpec)) tableAlignsUptoCard

/-- THE SECOND FORM's CARD OF 'publisherlaw06.TableHeads'. -/
def tableHeadsUptoCard : Claim7 := { stood := { row := tableHeadsUptoRow, standIns := [], harness := (true, "9858cd19a61d94b117b3456b54ad904eb42f61a4dbb6087fc1f8e9c958da5f1c"), looks := false }, kinds := [], alts := [], laidByText := true, laidKinds := [.data, .pinned], laidTests := true, laidLooks := .later }
def TableHeadsUptoCardSaid : Prop := Claim7.holds Tryd.pinned (.plain (OpenSpec.upto tableHeadsSpec)) tableHeadsUptoCard

/-- THE SECOND FORM's CARD OF 'publisherlaw06.TableRows'. -/
def tableRowsUptoCard : Claim7 := { stood := { row := tableRowsUptoRow, standIns := [], harness := (true, "9858cd19a61d94b117b3456b54ad904eb42f61a4dbb6087fc1f8e9c958da5f1c"), looks := false }, kinds := [], alts := [], laidByText := true, laidKinds := [.data, .pinned], laidTests := true, laidLooks := .later }
def TableRowsUptoCardSaid : Prop := Claim7.holds Tryd.pinned (.plain (OpenSpec.upto tableRowsSpec)) tableRowsUptoCard

/-- THE SECOND FORM's CARD OF 'publisherlaw06.TableBack'. -/
def tableBackUptoCard : Claim7 := { stood := { row := tableBackUptoRow, standIns := [], harness := (true, "9858cd19a61d94b117b3456b54ad904eb42f61a4dbb6087fc1f8e9c958da5f1c"), looks := false }, kinds := [], alts := [], laidByText := true, laidKinds := [.data, .pinned], laidTests := true, laidLooks := .later }
def TableBackUptoCardSaid : Prop := Claim7.holds Tryd.pinned (.plain (OpenSpec.upto tableBackSpec)) tableBackUptoCard

/-- THE SECOND FORM's CARD OF 'publisherlaw06.TableAgain'. -/
def tableAgainUptoCard : Claim7 := { stood := { row := tableAgainUptoRow, standIns := [], harness := (true, "9858cd19a61d94b117b3456b54ad904eb42f61a4dbb6087fc1f8e9c958da5f1c"), looks := false }, kinds := [], alts := [], laidByText := true, laidKinds := [.data, .pinned], laidTests := true, laidLooks := .later }
def TableAgainUptoCardSaid : Prop := Claim7.holds Tryd.pinned (.plain (OpenSpec.upto tableAgainSpec)) tableAgainUptoCard

/-- THE SECOND FORM's CARD OF 'publisherlaw06.TableFits'. -/
def tableFitsUptoCard : Claim7 := { stood := { row := tableFitsUptoRow, standIns := [], harness := (true, "9858cd19a61d94b117b3456b54ad904eb42f61a4dbb6087fc1f8e9c958da5f1c"), looks := false }, kinds := [], alts := [], laidByText := true, laidKinds := [.data, .pinned], laidTests := true, laidLooks := .later }
def TableFitsUptoCardSaid : Prop := Claim7.holds Tryd.pinned (.plain (OpenSpec.upto tableFitsSpec)) tableFitsUptoCard

/-- THE SECOND FORM's CARD OF 'publisherlaw06.TableMarks'. -/
def tableMarksUptoCard : Claim7 := { stood := { row := tableMarksUptoRow, standIns := [], harness := (true, "9858cd19a61d94b117b3456b54ad904eb42f61a4dbb6087fc1f8e9c958da5f1c"), looks := false }, kinds := [], alts := [], laidByText := true, laidKinds := [.data, .pinned], laidTests := true, laidLooks := .later }
def TableMarksUptoCardSaid : Prop := Claim7.holds Tryd.pinned (.plain (OpenSpec.upto tableMarksSpec)) tableMarksUptoCard
end Rows
end Go.Proofs.YtoageahnddepcaaDoor
