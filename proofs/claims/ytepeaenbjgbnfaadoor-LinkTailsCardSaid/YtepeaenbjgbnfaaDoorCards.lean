/-
  DERIVED. GIVEN WITH THE SEED: THE CARDS: each row of YtepeaenbjgbnfaaDoorRows.lean that lists a variable, with what it lists TIED to the program's text (the seventh form; the later family's looks); each row that meets fmt, with fmt's text TOLD by the authors' own Lean function (tested against real Go, not proved from fmt's source: count such statements apart). THE CARD IS WHAT COUNTS. Prove the row's statement (the work); the ties are given (YtepeaenbjgbnfaaDoorTie.lean); close each card by the builder's one call (the guide's Derived/Test/ToyasCard.lean, 'card_holds'). Laid BY PROGRAM, IN A SANDBOX (cutbox-door.mjs). By AI agents, Wed Nov 11 2026. No macro, syntax, notation, axiom, sorry.
-/
import Derived.Test.YtepeaenbjgbnfaaDoorRows
import GoSem.ClaimSeven
namespace Go.Proofs.YtepeaenbjgbnfaaDoor
namespace Rows

/-- THE TIED CARD OF 'publisherlaw08.LinkParts'. -/
def linkPartsCard : Claim7 := { stood := { row := linkPartsRow, standIns := [], harness := (true, "a32ba0ca1e76935f88874619b04aa40357bca917b646c9714f5bac7c48bc9160"), looks := false }, kinds := [], alts := [], laidByText := true, laidKinds := [.data, .pinned], laidTests := true, laidLooks := .later }
def LinkPartsCardSaid : Prop := Claim7.holds Tryd.pinned (.plain (OpenSpec.ofChange linkPartsSpec)) linkPartsCard

/-- THE TIED CARD OF 'publisherlaw08.LinkTails'. -/
def linkTailsCard : Claim7 := { stood := { row := linkTailsRow, standIns := [], harness := (true, "a32ba0ca1e76935f88874619b04aa40357bca917b646c9714f5bac7c48bc9160"), looks := false }, kinds := [], alts := [], laidByText := true, laidKinds := [.data, .pinned], laidTests := true, laidLooks := .later }
def LinkTailsCardSaid : Prop := Claim7.holds Tryd.pinned (.plain (OpenSpec.ofChange linkTailsSpec)) linkTailsCard

/-- THE TIED CARD OF 'publisherlaw08.LinkInside'. -/
def linkInsideCard : Claim7 := { stood := { row := linkInsideRow, standIns := [], harness := (true, "a32ba0ca1e76935f88874619b04aa40357bca917b646c9714f5bac7c48bc9160"), looks := false }, kinds := [], alts := [], laidByText := true, laidKinds := [.data, .pinned], laidTests := true, laidLooks := .later }
def LinkInsideCardSaid : Prop := Claim7.holds Tryd.pinned (.plain (OpenSpec.ofChange linkInsideSpec)) linkInsideCard

/-- THE TIED CARD OF 'publisherlaw08.LinkBack'. -/
def linkBackCard : Claim7 := { stood := { row := linkBackRow, standIns := [], harness := (true, "a32ba0ca1e76935f88874619b04aa40357bca917b646c9714f5bac7c48bc9160"), looks := false }, kinds := [], alts := [], laidByText := true, laidKinds := [.data, .pinned], laidTests := true, laidLooks := .later }
def LinkBackCardSaid : Prop := Claim7.holds Tryd.pinned (.plain (OpenSpec.ofChange linkBackSpec)) linkBackCard

/-- THE SECOND FORM's CARD OF 'publisherlaw08.LinkParts'. -/
def linkPartsUptoCard : Claim7 := { stood := { row := linkPartsUptoRow, standIns := [], harness := (true, "a32ba0ca1e76935f88874619b04aa40357bca917b646c9714f5bac7c48bc9160"), looks := false }, kinds := [], alts := [], laidByText := true, laidKinds := [.data, .pinned], laidTests := true, laidLooks := .later }
def LinkPartsUptoCardSaid : Prop := Claim7.holds Tryd.pinned (.plain (OpenSpec.upto linkPartsSpec)) linkPartsUptoCard

/-- THE SECOND FORM's CARD OF 'publisherlaw08.LinkTails'. -/
def linkTailsUptoCard : Claim7 := { stood := { row := linkTailsUptoRow, standIns := [], harness := (true, "a32ba0ca1e76935f88874619b04aa40357bca917b646c9714f5bac7c48bc9160"), looks := false }, kinds := [], alts := [], laidByText := true, laidKinds := [.data, .pinned], laidTests := true, laidLooks := .later }
def LinkTailsUptoCardSaid : Prop := Claim7.holds Tryd.pinned (.plain (OpenSpec.upto linkTailsSpec)) linkTailsUptoCard

/-- THE SECOND FORM's CARD OF 'publisherlaw08.LinkInside'. -/
def linkInsideUptoCard : Claim7 := { stood := { row := linkInsideUptoRow, standIns := [], harness := (true, "a32ba0ca1e76935f88874619b04aa40357bca917b646c9714f5bac7c48bc9160"), looks := false }, kinds := [], alts := [], laidByText := true, laidKinds := [.data, .pinned], laidTests := true, laidLooks := .later }
def LinkInsideUptoCardSaid : Prop := Claim7.holds Tryd.pinned (.plain (OpenSpec.upto linkInsideSpec)) linkInsideUptoCard

/-- THE SECOND FORM's CARD OF 'publisherlaw08.LinkBack'. -/
def linkBackUptoCard : Claim7 := { stood := { row := linkBackUptoRow, standIns := [], harness := (true, "a32ba0ca1e76935f88874619b04aa40357bca917b646c9714f5bac7c48bc9160"), looks := false }, kinds := [], alts := [], laidByText := true, laidKinds := [.data, .pinned], laidTests := true, laidLooks := .later }
def LinkBackUptoCardSaid : Prop := Claim7.holds Tryd.pinned (.plain (OpenSpec.upto linkBackSpec)) linkBackUptoCard
end Rows
end Go.Proofs.YtepeaenbjgbnfaaDoor
