/-
  DERIVED. GIVEN WITH THE SEED: THE CARDS: each row of YthfienjmigidbaaGreatDoorRows.lean that lists a variable, with what it lists TIED to the program's text (the seventh form; the later family's looks); each row that meets fmt, with fmt's text TOLD by the authors' own Lean function (tested against real Go, not proved from fmt's source: count such statements apart). THE CARD IS WHAT COUNTS. Prove the row's statement (the work); the ties are given (YthfienjmigidbaaGreatDoorTie.lean); close each card by the builder's one call (the guide's Derived/Test/ToyasCard.lean, 'card_holds'). Laid BY PROGRAM, IN A SANDBOX (cutbox-door.mjs). By AI agents, Wed Nov 11 2026. No macro, syntax, notation, axiom, sorry.
-/
import Derived.Test.YthfienjmigidbaaGreatDoorRows
import GoSem.ClaimSeven
namespace Go.Proofs.YthfienjmigidbaaGreatDoor
namespace Rows

/-- THE TIED CARD OF 'publisherlaw05.MarkCloses'. -/
def markClosesCard : Claim7 := { stood := { row := markClosesRow, standIns := [], harness := (true, "1b4242d216d733a1c257713079376c8aa2b04416270f55829d2c61d21d96bea3"), looks := false }, kinds := [], alts := [], laidByText := true, laidKinds := [.data, .pinned], laidTests := true, laidLooks := .later }
def MarkClosesCardSaid : Prop := Claim7.holds Tryz.pinned (.plain (OpenSpec.ofChange markClosesSpec)) markClosesCard

/-- THE TIED CARD OF 'publisherlaw05.MarkSame'. -/
def markSameCard : Claim7 := { stood := { row := markSameRow, standIns := [], harness := (true, "1b4242d216d733a1c257713079376c8aa2b04416270f55829d2c61d21d96bea3"), looks := false }, kinds := [], alts := [], laidByText := true, laidKinds := [.data, .pinned], laidTests := true, laidLooks := .later }
def MarkSameCardSaid : Prop := Claim7.holds Tryz.pinned (.plain (OpenSpec.ofChange markSameSpec)) markSameCard

/-- THE TIED CARD OF 'publisherlaw05.MarkFences'. -/
def markFencesCard : Claim7 := { stood := { row := markFencesRow, standIns := [], harness := (true, "1b4242d216d733a1c257713079376c8aa2b04416270f55829d2c61d21d96bea3"), looks := false }, kinds := [], alts := [], laidByText := true, laidKinds := [.data, .pinned], laidTests := true, laidLooks := .later }
def MarkFencesCardSaid : Prop := Claim7.holds Tryz.pinned (.plain (OpenSpec.ofChange markFencesSpec)) markFencesCard

/-- THE TIED CARD OF 'publisherlaw08.LinkDefs'. -/
def linkDefsCard : Claim7 := { stood := { row := linkDefsRow, standIns := [], harness := (true, "1b4242d216d733a1c257713079376c8aa2b04416270f55829d2c61d21d96bea3"), looks := false }, kinds := [], alts := [], laidByText := true, laidKinds := [.data, .pinned], laidTests := true, laidLooks := .later }
def LinkDefsCardSaid : Prop := Claim7.holds Tryz.pinned (.plain (OpenSpec.ofChange linkDefsSpec)) linkDefsCard

/-- THE TIED CARD OF 'publisherlaw08.LinkLines'. -/
def linkLinesCard : Claim7 := { stood := { row := linkLinesRow, standIns := [], harness := (true, "1b4242d216d733a1c257713079376c8aa2b04416270f55829d2c61d21d96bea3"), looks := false }, kinds := [], alts := [], laidByText := true, laidKinds := [.data, .pinned], laidTests := true, laidLooks := .later }
def LinkLinesCardSaid : Prop := Claim7.holds Tryz.pinned (.plain (OpenSpec.ofChange linkLinesSpec)) linkLinesCard

/-- THE SECOND FORM's CARD OF 'publisherlaw05.MarkCloses'. -/
def markClosesUptoCard : Claim7 := { stood := { row := markClosesUptoRow, standIns := [], harness := (true, "1b4242d216d733a1c257713079376c8aa2b04416270f55829d2c61d21d96bea3"), looks := false }, kinds := [], alts := [], laidByText := true, laidKinds := [.data, .pinned], laidTests := true, laidLooks := .later }
def MarkClosesUptoCardSaid : Prop := Claim7.holds Tryz.pinned (.plain (OpenSpec.upto markClosesSpec)) markClosesUptoCard

/-- THE SECOND FORM's CARD OF 'publisherlaw05.MarkSame'. -/
def markSameUptoCard : Claim7 := { stood := { row := markSameUptoRow, standIns := [], harness := (true, "1b4242d216d733a1c257713079376c8aa2b04416270f55829d2c61d21d96bea3"), looks := false }, kinds := [], alts := [], laidByText := true, laidKinds := [.data, .pinned], laidTests := true, laidLooks := .later }
def MarkSameUptoCardSaid : Prop := Claim7.holds Tryz.pinned (.plain (OpenSpec.upto markSameSpec)) markSameUptoCard

/-- THE SECOND FORM's CARD OF 'publisherlaw05.MarkFences'. -/
def markFencesUptoCard : Claim7 := { stood := { row := markFencesUptoRow, standIns := [], harness := (true, "1b4242d216d733a1c257713079376c8aa2b04416270f55829d2c61d21d96bea3"), looks := false }, kinds := [], alts := [], laidByText := true, laidKinds := [.data, .pinned], laidTests := true, laidLooks := .later }
def MarkFencesUptoCardSaid : Prop := Claim7.holds Tryz.pinned (.plain (OpenSpec.upto markFencesSpec)) markFencesUptoCard

/-- THE SECOND FORM's CARD OF 'publisherlaw08.LinkDefs'. -/
def linkDefsUptoCard : Claim7 := { stood := { row := linkDefsUptoRow, standIns := [], harness := (true, "1b4242d216d733a1c257713079376c8aa2b04416270f55829d2c61d21d96bea3"), looks := false }, kinds := [], alts := [], laidByText := true, laidKinds := [.data, .pinned], laidTests := true, laidLooks := .later }
def LinkDefsUptoCardSaid : Prop := Claim7.holds Tryz.pinned (.plain (OpenSpec.upto linkDefsSpec)) linkDefsUptoCard

/-- THE SECOND FORM's CARD OF 'publisherlaw08.LinkLines'. -/
def linkLinesUptoCard : Claim7 := { stood := { row := linkLinesUptoRow, standIns := [], harness := (true, "1b4242d216d733a1c257713079376c8aa2b04416270f55829d2c61d21d96bea3"), looks := false }, kinds := [], alts := [], laidByText := true, laidKinds := [.data, .pinned], laidTests := true, laidLooks := .later }
def LinkLinesUptoCardSaid : Prop := Claim7.holds Tryz.pinned (.plain (OpenSpec.upto linkLinesSpec)) linkLinesUptoCard
end Rows
end Go.Proofs.YthfienjmigidbaaGreatDoor
