/-
  DERIVED. GIVEN WITH THE SEED: THE CARDS: each row of YtpoafhgbhnblmaaGreatDoorRows.lean that lists a variable, with what it lists TIED to the program's text (the seventh form; the later family's looks); each row that meets fmt, with fmt's text TOLD by the authors' own Lean function (tested against real Go, not proved from fmt's source: count such statements apart). THE CARD IS WHAT COUNTS. Prove the row's statement (the work); the ties are given (YtpoafhgbhnblmaaGreatDoorTie.lean); close each card by the builder's one call (the guide's Derived/Test/ToyasCard.lean, 'card_holds'). Laid BY PROGRAM, IN A SANDBOX (cutbox-door.mjs). By AI agents, Wed Nov 11 2026. No macro, syntax, notation, axiom, sorry.
-/
import Derived.Test.YtpoafhgbhnblmaaGreatDoorRows
import GoSem.ClaimSeven
namespace Go.Proofs.YtpoafhgbhnblmaaGreatDoor
namespace Rows

/-- THE TIED CARD OF 'publisherlaw07.NestParses'. -/
def nestParsesCard : Claim7 := { stood := { row := nestParsesRow, standIns := [], harness := (true, "08a6ea9f4a238cebc32da6beecf6ceeaa9ef362c79eeb9280c25cc6b28b3f6af"), looks := false }, kinds := [], alts := [], laidByText := true, laidKinds := [.data, .pinned], laidTests := true, laidLooks := .later }
def NestParsesCardSaid : Prop := Claim7.holds Tryz.pinned (.plain (OpenSpec.ofChange nestParsesSpec)) nestParsesCard

/-- THE TIED CARD OF 'publisherlaw07.NestRanges'. -/
def nestRangesCard : Claim7 := { stood := { row := nestRangesRow, standIns := [], harness := (true, "08a6ea9f4a238cebc32da6beecf6ceeaa9ef362c79eeb9280c25cc6b28b3f6af"), looks := false }, kinds := [], alts := [], laidByText := true, laidKinds := [.data, .pinned], laidTests := true, laidLooks := .later }
def NestRangesCardSaid : Prop := Claim7.holds Tryz.pinned (.plain (OpenSpec.ofChange nestRangesSpec)) nestRangesCard

/-- THE TIED CARD OF 'publisherlaw07.NestCovers'. -/
def nestCoversCard : Claim7 := { stood := { row := nestCoversRow, standIns := [], harness := (true, "08a6ea9f4a238cebc32da6beecf6ceeaa9ef362c79eeb9280c25cc6b28b3f6af"), looks := false }, kinds := [], alts := [], laidByText := true, laidKinds := [.data, .pinned], laidTests := true, laidLooks := .later }
def NestCoversCardSaid : Prop := Claim7.holds Tryz.pinned (.plain (OpenSpec.ofChange nestCoversSpec)) nestCoversCard

/-- THE TIED CARD OF 'publisherlaw07.NestBlanks'. -/
def nestBlanksCard : Claim7 := { stood := { row := nestBlanksRow, standIns := [], harness := (true, "08a6ea9f4a238cebc32da6beecf6ceeaa9ef362c79eeb9280c25cc6b28b3f6af"), looks := false }, kinds := [], alts := [], laidByText := true, laidKinds := [.data, .pinned], laidTests := true, laidLooks := .later }
def NestBlanksCardSaid : Prop := Claim7.holds Tryz.pinned (.plain (OpenSpec.ofChange nestBlanksSpec)) nestBlanksCard

/-- THE TIED CARD OF 'publisherlaw07.NestPieces'. -/
def nestPiecesCard : Claim7 := { stood := { row := nestPiecesRow, standIns := [], harness := (true, "08a6ea9f4a238cebc32da6beecf6ceeaa9ef362c79eeb9280c25cc6b28b3f6af"), looks := false }, kinds := [], alts := [], laidByText := true, laidKinds := [.data, .pinned], laidTests := true, laidLooks := .later }
def NestPiecesCardSaid : Prop := Claim7.holds Tryz.pinned (.plain (OpenSpec.ofChange nestPiecesSpec)) nestPiecesCard

/-- THE TIED CARD OF 'publisherlaw07.NestDeep'. -/
def nestDeepCard : Claim7 := { stood := { row := nestDeepRow, standIns := [], harness := (true, "08a6ea9f4a238cebc32da6beecf6ceeaa9ef362c79eeb9280c25cc6b28b3f6af"), looks := false }, kinds := [], alts := [], laidByText := true, laidKinds := [.data, .pinned], laidTests := true, laidLooks := .later }
def NestDeepCardSaid : Prop := Claim7.holds Tryz.pinned (.plain (OpenSpec.ofChange nestDeepSpec)) nestDeepCard

/-- THE TIED CARD OF 'publisherlaw07.NestForms'. -/
def nestFormsCard : Claim7 := { stood := { row := nestFormsRow, standIns := [], harness := (true, "08a6ea9f4a238cebc32da6beecf6ceeaa9ef362c79eeb9280c25cc6b28b3f6af"), looks := false }, kinds := [], alts := [], laidByText := true, laidKinds := [.data, .pinned], laidTests := true, laidLooks := .later }
def NestFormsCardSaid : Prop := Claim7.holds Tryz.pinned (.plain (OpenSpec.ofChange nestFormsSpec)) nestFormsCard

/-- THE SECOND FORM's CARD OF 'publisherlaw07.NestParses'. -/
def nestParsesUptoCard : Claim7 := { stood := { row := nestParsesUptoRow, standIns := [], harness := (true, "08a6ea9f4a238cebc32da6beecf6ceeaa9ef362c79eeb9280c25cc6b28b3f6af"), looks := false }, kinds := [], alts := [], laidByText := true, laidKinds := [.data, .pinned], laidTests := true, laidLooks := .later }
def NestParsesUptoCardSaid : Prop := Claim7.holds Tryz.pinned (.plain (OpenSpec.upto nestParsesSpec)) nestParsesUptoCard

/-- THE SECOND FORM's CARD OF 'publisherlaw07.NestRanges'. -/
def nestRangesUptoCard : Claim7 := { stood := { row := nestRangesUptoRow, standIns := [], harness := (true, "08a6ea9f4a238cebc32da6beecf6ceeaa9ef362c79eeb9280c25cc6b28b3f6af"), looks := false }, kinds := [], alts := [], laidByText := true, laidKinds := [.data, .pinned], laidTests := true, laidLooks := .later }
def NestRangesUptoCardSaid : Prop := Claim7.holds Tryz.pinned (.plain (OpenSpec.upto nestRangesSpec)) nestRangesUptoCard

/-- THE SECOND FORM's CARD OF 'publisherlaw07.NestCovers'. -/
def nestCoversUptoCard : Claim7 := { stood := { row := nestCoversUptoRow, standIns := [], harness := (true, "08a6ea9f4a238cebc32da6beecf6ceeaa9ef362c79eeb9280c25cc6b28b3f6af"), looks := false }, kinds := [], alts := [], laidByText := true, laidKinds := [.data, .pinned], laidTests := true, laidLooks := .later }
def NestCoversUptoCardSaid : Prop := Claim7.holds Tryz.pinned (.plain (OpenSpec.upto nestCoversSpec)) nestCoversUptoCard

/-- THE SECOND FORM's CARD OF 'publisherlaw07.NestBlanks'. -/
def nestBlanksUptoCard : Claim7 := { stood := { row := nestBlanksUptoRow, standIns := [], harness := (true, "08a6ea9f4a238cebc32da6beecf6ceeaa9ef362c79eeb9280c25cc6b28b3f6af"), looks := false }, kinds := [], alts := [], laidByText := true, laidKinds := [.data, .pinned], laidTests := true, laidLooks := .later }
def NestBlanksUptoCardSaid : Prop := Claim7.holds Tryz.pinned (.plain (OpenSpec.upto nestBlanksSpec)) nestBlanksUptoCard

/-- THE SECOND FORM's CARD OF 'publisherlaw07.NestPieces'. -/
def nestPiecesUptoCard : Claim7 := { stood := { row := nestPiecesUptoRow, standIns := [], harness := (true, "08a6ea9f4a238cebc32da6beecf6ceeaa9ef362c79eeb9280c25cc6b28b3f6af"), looks := false }, kinds := [], alts := [], laidByText := true, laidKinds := [.data, .pinned], laidTests := true, laidLooks := .later }
def NestPiecesUptoCardSaid : Prop := Claim7.holds Tryz.pinned (.plain (OpenSpec.upto nestPiecesSpec)) nestPiecesUptoCard

/-- THE SECOND FORM's CARD OF 'publisherlaw07.NestDeep'. -/
def nestDeepUptoCard : Claim7 := { stood := { row := nestDeepUptoRow, standIns := [], harness := (true, "08a6ea9f4a238cebc32da6beecf6ceeaa9ef362c79eeb9280c25cc6b28b3f6af"), looks := false }, kinds := [], alts := [], laidByText := true, laidKinds := [.data, .pinned], laidTests := true, laidLooks := .later }
def NestDeepUptoCardSaid : Prop := Claim7.holds Tryz.pinned (.plain (OpenSpec.upto nestDeepSpec)) nestDeepUptoCard

/-- THE SECOND FORM's CARD OF 'publisherlaw07.NestForms'. -/
def nestFormsUptoCard : Claim7 := { stood := { row := nestFormsUptoRow, standIns := [], harness := (true, "08a6ea9f4a238cebc32da6beecf6ceeaa9ef362c79eeb9280c25cc6b28b3f6af"), looks := false }, kinds := [], alts := [], laidByText := true, laidKinds := [.data, .pinned], laidTests := true, laidLooks := .later }
def NestFormsUptoCardSaid : Prop := Claim7.holds Tryz.pinned (.plain (OpenSpec.upto nestFormsSpec)) nestFormsUptoCard
end Rows
end Go.Proofs.YtpoafhgbhnblmaaGreatDoor
