/-
  NARROWER THAN 'FOR EVERY INPUT', by the rows' own cells (each row's printed sentence says how): EmphNests: loops · EmphPairs: loops · EmphCrosses: loops · EmphPlain: loops · EmphQuiet: loops.
  DERIVED. THE GIVEN ROWS OF THIS SEAT. 6 by the template 'for every input the law returns true; each argument reads behind the call as it read before'; 0 by the template 'total and deterministic' (their statements: YtfnloonmeilhlaaTotals.lean).
  GIVEN WITH THE SEED: the statements are not yours to turn. If you find one false, say at which input.
  Laid BY PROGRAM, IN A SANDBOX (cutbox-rows.mjs): the forced cells as the released guide's own fill.sh prints them over the translation e206d8465e74e0c1… (all of the seat's roots in one cut). By AI agents, Wed Nov 11 2026. No macro, syntax, notation, axiom, sorry.
-/
import Derived.Test.YtfnloonmeilhlaaChecked
import GoSem.Claim
import GoSem.ClaimJoined
import GoSem.ClaimMapViews
import Derived.JoinedTies
import Derived.KernelRfl
namespace Go.Proofs.Ytfnloonmeilhlaa
/- THE CELL 'sum', in the pinned program and in every row, IS THE sha256 OF THE DUMP (.gsa) THAT YtfnloonmeilhlaaProg.lean LOADS. Nothing in Lean hashes anything: it is a label: what it is worth is what the hold of that sum in a sandbox is worth. -/
noncomputable def Try.pinned : Pinned := { name := "ytfnloonmeilhlaa", sum := "e206d8465e74e0c1055a265fd789e67484b3d15117587de5b26d1e2fb74ce915", checked := Try.checked }
namespace Rows
def none {H : Type} : Left H := { results := [], args := [] }

/-- 'publisherlaw10.EmphNests': WHATEVER THE INPUT: true; the input reads as it did. -/
def emphNestsSpec : ChangeSpec := { name := "emphNests", fn := fun _ => fun
  | [d] => { results := [.lit (.bool true)], args := [d] }
  | _ => none }
def emphNestsRow : OpenClaim := { program := "ytfnloonmeilhlaa", sum := "e206d8465e74e0c1055a265fd789e67484b3d15117587de5b26d1e2fb74ce915", func := "publisher/publisherlaw10.EmphNests", spec := "emphNests", inPlace := ["internal/abi.NoEscape", "internal/bytealg.MakeNoZero"], unfollowed := true, recurses := true, loops := true, apart := false }
def EmphNestsSaid : Prop := emphNestsRow.holds Try.pinned (OpenSpec.ofChange emphNestsSpec)

/-- ITS FALSE NEIGHBOUR: 'it returns false'. Refute it at one input. -/
def emphNestsWrong : ChangeSpec := { name := "emphNests", fn := fun _ => fun
  | [d] => { results := [.lit (.bool false)], args := [d] }
  | _ => none }
def EmphNestsWrongFalsely : Prop := emphNestsRow.holds Try.pinned (OpenSpec.ofChange emphNestsWrong)

/-- 'publisherlaw10.EmphPairs': WHATEVER THE INPUT: true; the input reads as it did. -/
def emphPairsSpec : ChangeSpec := { name := "emphPairs", fn := fun _ => fun
  | [d] => { results := [.lit (.bool true)], args := [d] }
  | _ => none }
def emphPairsRow : OpenClaim := { program := "ytfnloonmeilhlaa", sum := "e206d8465e74e0c1055a265fd789e67484b3d15117587de5b26d1e2fb74ce915", func := "publisher/publisherlaw10.EmphPairs", spec := "emphPairs", inPlace := ["internal/abi.NoEscape", "internal/bytealg.MakeNoZero"], unfollowed := true, recurses := true, loops := true, apart := false }
def EmphPairsSaid : Prop := emphPairsRow.holds Try.pinned (OpenSpec.ofChange emphPairsSpec)

/-- ITS FALSE NEIGHBOUR: 'it returns false'. Refute it at one input. -/
def emphPairsWrong : ChangeSpec := { name := "emphPairs", fn := fun _ => fun
  | [d] => { results := [.lit (.bool false)], args := [d] }
  | _ => none }
def EmphPairsWrongFalsely : Prop := emphPairsRow.holds Try.pinned (OpenSpec.ofChange emphPairsWrong)

/-- 'publisherlaw10.EmphCrosses': WHATEVER THE INPUT: true; the input reads as it did. -/
def emphCrossesSpec : ChangeSpec := { name := "emphCrosses", fn := fun _ => fun
  | [d] => { results := [.lit (.bool true)], args := [d] }
  | _ => none }
def emphCrossesRow : OpenClaim := { program := "ytfnloonmeilhlaa", sum := "e206d8465e74e0c1055a265fd789e67484b3d15117587de5b26d1e2fb74ce915", func := "publisher/publisherlaw10.EmphCrosses", spec := "emphCrosses", inPlace := ["internal/abi.NoEscape", "internal/bytealg.MakeNoZero"], unfollowed := true, recurses := true, loops := true, apart := false }
def EmphCrossesSaid : Prop := emphCrossesRow.holds Try.pinned (OpenSpec.ofChange emphCrossesSpec)

/-- ITS FALSE NEIGHBOUR: 'it returns false'. Refute it at one input. -/
def emphCrossesWrong : ChangeSpec := { name := "emphCrosses", fn := fun _ => fun
  | [d] => { results := [.lit (.bool false)], args := [d] }
  | _ => none }
def EmphCrossesWrongFalsely : Prop := emphCrossesRow.holds Try.pinned (OpenSpec.ofChange emphCrossesWrong)

/-- 'publisherlaw10.EmphPlain': WHATEVER THE INPUT: true; the input reads as it did. -/
def emphPlainSpec : ChangeSpec := { name := "emphPlain", fn := fun _ => fun
  | [d] => { results := [.lit (.bool true)], args := [d] }
  | _ => none }
def emphPlainRow : OpenClaim := { program := "ytfnloonmeilhlaa", sum := "e206d8465e74e0c1055a265fd789e67484b3d15117587de5b26d1e2fb74ce915", func := "publisher/publisherlaw10.EmphPlain", spec := "emphPlain", inPlace := ["internal/abi.NoEscape", "internal/bytealg.MakeNoZero"], unfollowed := true, recurses := true, loops := true, apart := false }
def EmphPlainSaid : Prop := emphPlainRow.holds Try.pinned (OpenSpec.ofChange emphPlainSpec)

/-- ITS FALSE NEIGHBOUR: 'it returns false'. Refute it at one input. -/
def emphPlainWrong : ChangeSpec := { name := "emphPlain", fn := fun _ => fun
  | [d] => { results := [.lit (.bool false)], args := [d] }
  | _ => none }
def EmphPlainWrongFalsely : Prop := emphPlainRow.holds Try.pinned (OpenSpec.ofChange emphPlainWrong)

/-- 'publisherlaw10.EmphQuiet': WHATEVER THE INPUT: true; the input reads as it did. -/
def emphQuietSpec : ChangeSpec := { name := "emphQuiet", fn := fun _ => fun
  | [d] => { results := [.lit (.bool true)], args := [d] }
  | _ => none }
def emphQuietRow : OpenClaim := { program := "ytfnloonmeilhlaa", sum := "e206d8465e74e0c1055a265fd789e67484b3d15117587de5b26d1e2fb74ce915", func := "publisher/publisherlaw10.EmphQuiet", spec := "emphQuiet", inPlace := ["internal/abi.NoEscape", "internal/bytealg.MakeNoZero"], unfollowed := true, recurses := true, loops := true, apart := false }
def EmphQuietSaid : Prop := emphQuietRow.holds Try.pinned (OpenSpec.ofChange emphQuietSpec)

/-- ITS FALSE NEIGHBOUR: 'it returns false'. Refute it at one input. -/
def emphQuietWrong : ChangeSpec := { name := "emphQuiet", fn := fun _ => fun
  | [d] => { results := [.lit (.bool false)], args := [d] }
  | _ => none }
def EmphQuietWrongFalsely : Prop := emphQuietRow.holds Try.pinned (OpenSpec.ofChange emphQuietWrong)

/-- 'publisherlaw10.EmphLevels': WHATEVER THE INPUT: true; the input reads as it did. -/
def emphLevelsSpec : ChangeSpec := { name := "emphLevels", fn := fun _ => fun
  | [d1, d2] => { results := [.lit (.bool true)], args := [d1, d2] }
  | _ => none }
def emphLevelsRow : OpenClaim := { program := "ytfnloonmeilhlaa", sum := "e206d8465e74e0c1055a265fd789e67484b3d15117587de5b26d1e2fb74ce915", func := "publisher/publisherlaw10.EmphLevels", spec := "emphLevels", inPlace := ["internal/abi.NoEscape", "internal/bytealg.MakeNoZero"], unfollowed := true, recurses := true, apart := false }
def EmphLevelsSaid : Prop := emphLevelsRow.holds Try.pinned (OpenSpec.ofChange emphLevelsSpec)

/-- ITS FALSE NEIGHBOUR: 'it returns false'. Refute it at one input. -/
def emphLevelsWrong : ChangeSpec := { name := "emphLevels", fn := fun _ => fun
  | [d1, d2] => { results := [.lit (.bool false)], args := [d1, d2] }
  | _ => none }
def EmphLevelsWrongFalsely : Prop := emphLevelsRow.holds Try.pinned (OpenSpec.ofChange emphLevelsWrong)

/- THE SECOND FORM. 'bulk': how many values and letters a reading holds, each counted each time it is reached (what is shared counts as often as it is met; a slice's spare places count too). A statement '..UptoSaid' is the law's where the arguments, and the package variables that the reading takes, are together of bulk at most 1048576: NARROWER than '..Said'. Prove '..Said' where nothing that the law and all that it calls make is longer than what came in: it says more and counts as full. Else prove '..UptoSaid'. A law counts once. -/
mutual
def uptoBulk {H : Type} : DataW H → Nat
  | .lit (.string bytes) => bytes.length + 1
  | .lit _ => 1
  | .nil => 1
  | .ptr d => uptoBulk d + 1
  | .slice elems spare => uptoBulkAll elems + uptoBulkAll spare + 1
  | .agg parts => uptoBulkAll parts + 1
  | .iface _ d => uptoBulk d + 1
  | .map entries => uptoBulkEntries entries + 1
  | .held _ => 1
def uptoBulkAll {H : Type} : List (DataW H) → Nat
  | [] => 0
  | d :: r => uptoBulk d + uptoBulkAll r
def uptoBulkEntries {H : Type} : List (Lit × DataW H) → Nat
  | [] => 0
  | x :: r => uptoBulkEntry x + uptoBulkEntries r
def uptoBulkEntry {H : Type} : Lit × DataW H → Nat
  | (.string bytes, d) => bytes.length + uptoBulk d + 1
  | (_, d) => uptoBulk d + 1
 end
def uptoSmall : (H : Type) → List (DataW H) → Bool := fun _ ds => decide (uptoBulkAll ds ≤ 1048576)
def OpenSpec.upto (s : _root_.Go.ChangeSpec) : _root_.Go.OpenSpec := { _root_.Go.OpenSpec.ofChange s with cond := some uptoSmall }

/-- 'publisherlaw10.EmphNests', WHERE WHAT IT READS IS OF BULK AT MOST 1048576: true; the input reads as it did. -/
def emphNestsUptoRow : OpenClaim := { program := "ytfnloonmeilhlaa", sum := "e206d8465e74e0c1055a265fd789e67484b3d15117587de5b26d1e2fb74ce915", func := "publisher/publisherlaw10.EmphNests", spec := "emphNests", inPlace := ["internal/abi.NoEscape", "internal/bytealg.MakeNoZero"], unfollowed := true, recurses := true, loops := true, apart := false, narrowed := true }
def EmphNestsUptoSaid : Prop := emphNestsUptoRow.holds Try.pinned (OpenSpec.upto emphNestsSpec)

/-- 'publisherlaw10.EmphPairs', WHERE WHAT IT READS IS OF BULK AT MOST 1048576: true; the input reads as it did. -/
def emphPairsUptoRow : OpenClaim := { program := "ytfnloonmeilhlaa", sum := "e206d8465e74e0c1055a265fd789e67484b3d15117587de5b26d1e2fb74ce915", func := "publisher/publisherlaw10.EmphPairs", spec := "emphPairs", inPlace := ["internal/abi.NoEscape", "internal/bytealg.MakeNoZero"], unfollowed := true, recurses := true, loops := true, apart := false, narrowed := true }
def EmphPairsUptoSaid : Prop := emphPairsUptoRow.holds Try.pinned (OpenSpec.upto emphPairsSpec)

/-- 'publisherlaw10.EmphCrosses', WHERE WHAT IT READS IS OF BULK AT MOST 1048576: true; the input reads as it did. -/
def emphCrossesUptoRow : OpenClaim := { program := "ytfnloonmeilhlaa", sum := "e206d8465e74e0c1055a265fd789e67484b3d15117587de5b26d1e2fb74ce915", func := "publisher/publisherlaw10.EmphCrosses", spec := "emphCrosses", inPlace := ["internal/abi.NoEscape", "internal/bytealg.MakeNoZero"], unfollowed := true, recurses := true, loops := true, apart := false, narrowed := true }
def EmphCrossesUptoSaid : Prop := emphCrossesUptoRow.holds Try.pinned (OpenSpec.upto emphCrossesSpec)

/-- 'publisherlaw10.EmphPlain', WHERE WHAT IT READS IS OF BULK AT MOST 1048576: true; the input reads as it did. -/
def emphPlainUptoRow : OpenClaim := { program := "ytfnloonmeilhlaa", sum := "e206d8465e74e0c1055a265fd789e67484b3d15117587de5b26d1e2fb74ce915", func := "publisher/publisherlaw10.EmphPlain", spec := "emphPlain", inPlace := ["internal/abi.NoEscape", "internal/bytealg.MakeNoZero"], unfollowed := true, recurses := true, loops := true, apart := false, narrowed := true }
def EmphPlainUptoSaid : Prop := emphPlainUptoRow.holds Try.pinned (OpenSpec.upto emphPlainSpec)

/-- 'publisherlaw10.EmphQuiet', WHERE WHAT IT READS IS OF BULK AT MOST 1048576: true; the input reads as it did. -/
def emphQuietUptoRow : OpenClaim := { program := "ytfnloonmeilhlaa", sum := "e206d8465e74e0c1055a265fd789e67484b3d15117587de5b26d1e2fb74ce915", func := "publisher/publisherlaw10.EmphQuiet", spec := "emphQuiet", inPlace := ["internal/abi.NoEscape", "internal/bytealg.MakeNoZero"], unfollowed := true, recurses := true, loops := true, apart := false, narrowed := true }
def EmphQuietUptoSaid : Prop := emphQuietUptoRow.holds Try.pinned (OpenSpec.upto emphQuietSpec)

/-- 'publisherlaw10.EmphLevels', WHERE WHAT IT READS IS OF BULK AT MOST 1048576: true; the input reads as it did. -/
def emphLevelsUptoRow : OpenClaim := { program := "ytfnloonmeilhlaa", sum := "e206d8465e74e0c1055a265fd789e67484b3d15117587de5b26d1e2fb74ce915", func := "publisher/publisherlaw10.EmphLevels", spec := "emphLevels", inPlace := ["internal/abi.NoEscape", "internal/bytealg.MakeNoZero"], unfollowed := true, recurses := true, apart := false, narrowed := true }
def EmphLevelsUptoSaid : Prop := emphLevelsUptoRow.holds Try.pinned (OpenSpec.upto emphLevelsSpec)

end Rows
end Go.Proofs.Ytfnloonmeilhlaa
