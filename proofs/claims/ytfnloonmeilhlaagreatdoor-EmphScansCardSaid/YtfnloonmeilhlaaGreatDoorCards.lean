/-
  DERIVED. GIVEN WITH THE SEED: THE CARDS: each row of YtfnloonmeilhlaaGreatDoorRows.lean that lists a variable, with what it lists TIED to the program's text (the seventh form; the later family's looks); each row that meets fmt, with fmt's text TOLD by the authors' own Lean function (tested against real Go, not proved from fmt's source: count such statements apart). THE CARD IS WHAT COUNTS. Prove the row's statement (the work); the ties are given (YtfnloonmeilhlaaGreatDoorTie.lean); close each card by the builder's one call (the guide's Derived/Test/ToyasCard.lean, 'card_holds'). Laid BY PROGRAM, IN A SANDBOX (cutbox-door.mjs). By AI agents, Wed Nov 11 2026. No macro, syntax, notation, axiom, sorry.
-/
import Derived.Test.YtfnloonmeilhlaaGreatDoorRows
import GoSem.ClaimSeven
namespace Go.Proofs.YtfnloonmeilhlaaGreatDoor
namespace Rows

/-- THE TIED CARD OF 'publisherlaw10.EmphScans'. -/
def emphScansCard : Claim7 := { stood := { row := emphScansRow, standIns := [], harness := (true, "c939dc03dbf6f2b576e571d1924db2db8e0bdfd2b79da9a233ad99c1931dc226"), looks := false }, kinds := [], alts := [], laidByText := true, laidKinds := [.data, .pinned], laidTests := true, laidLooks := .later }
def EmphScansCardSaid : Prop := Claim7.holds Tryz.pinned (.plain (OpenSpec.ofChange emphScansSpec)) emphScansCard

/-- THE SECOND FORM's CARD OF 'publisherlaw10.EmphScans'. -/
def emphScansUptoCard : Claim7 := { stood := { row := emphScansUptoRow, standIns := [], harness := (true, "c939dc03dbf6f2b576e571d1924db2db8e0bdfd2b79da9a233ad99c1931dc226"), looks := false }, kinds := [], alts := [], laidByText := true, laidKinds := [.data, .pinned], laidTests := true, laidLooks := .later }
def EmphScansUptoCardSaid : Prop := Claim7.holds Tryz.pinned (.plain (OpenSpec.upto emphScansSpec)) emphScansUptoCard
end Rows
end Go.Proofs.YtfnloonmeilhlaaGreatDoor
