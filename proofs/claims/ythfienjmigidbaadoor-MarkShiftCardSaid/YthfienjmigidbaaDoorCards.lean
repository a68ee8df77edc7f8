/-
  DERIVED. GIVEN WITH THE SEED: THE CARDS: each row of YthfienjmigidbaaDoorRows.lean that lists a variable, with what it lists TIED to the program's text (the seventh form; the later family's looks); each row that meets fmt, with fmt's text TOLD by the authors' own Lean function (tested against real Go, not proved from fmt's source: count such statements apart). THE CARD IS WHAT COUNTS. Prove the row's statement (the work); the ties are given (YthfienjmigidbaaDoorTie.lean); close each card by the builder's one call (the guide's Derived/Test/ToyasCard.lean, 'card_holds'). Laid BY PROGRAM, IN A SANDBOX (cutbox-door.mjs). By AI agents, Wed Nov 11 2026. No macro, syntax, notation, axiom, sorry.
-/
import Derived.Test.YthfienjmigidbaaDoorRows
import GoSem.ClaimSeven
namespace Go.Proofs.YthfienjmigidbaaDoor
namespace Rows

/-- THE TIED CARD OF 'publisherlaw05.MarkRest'. -/
def markRestCard : Claim7 := { stood := { row := markRestRow, standIns := [], harness := (true, "fe6a6cb6888799f2f165da06fda3a420d974eeae977e878ff013934e5c62a6a7"), looks := false }, kinds := [], alts := [], laidByText := true, laidKinds := [.data, .pinned], laidTests := true, laidLooks := .later }
def MarkRestCardSaid : Prop := Claim7.holds Tryd.pinned (.plain (OpenSpec.ofChange markRestSpec)) markRestCard

/-- THE TIED CARD OF 'publisherlaw05.MarkShift'. -/
def markShiftCard : Claim7 := { stood := { row := markShiftRow, standIns := [], harness := (true, "fe6a6cb6888799f2f165da06fda3a420d974eeae977e878ff013934e5c62a6a7"), looks := false }, kinds := [], alts := [], laidByText := true, laidKinds := [.data, .pinned], laidTests := true, laidLooks := .later }
def MarkShiftCardSaid : Prop := Claim7.holds Tryd.pinned (.plain (OpenSpec.ofChange markShiftSpec)) markShiftCard

/-- THE SECOND FORM's CARD OF 'publisherlaw05.MarkRest'. -/
def markRestUptoCard : Claim7 := { stood := { row := markRestUptoRow, standIns := [], harness := (true, "fe6a6cb6888799f2f165da06fda3a420d974eeae977e878ff013934e5c62a6a7"), looks := false }, kinds := [], alts := [], laidByText := true, laidKinds := [.data, .pinned], laidTests := true, laidLooks := .later }
def MarkRestUptoCardSaid : Prop := Claim7.holds Tryd.pinned (.plain (OpenSpec.upto markRestSpec)) markRestUptoCard

/-- THE SECOND FORM's CARD OF 'publisherlaw05.MarkShift'. -/
def markShiftUptoCard : Claim7 := { stood := { row := markShiftUptoRow, standIns := [], harness := (true, "fe6a6cb6888799f2f165da06fda3a420d974eeae977e878ff013934e5c62a6a7"), looks := false }, kinds := [], alts := [], laidByText := true, laidKinds := [.data, .pinned], laidTests := true, laidLooks := .later }
def MarkShiftUptoCardSaid : Prop := Claim7.holds Tryd.pinned (.plain (OpenSpec.upto markShiftSpec)) markShiftUptoCard
end Rows
end Go.Proofs.YthfienjmigidbaaDoor
