/-
  No cell of these rows narrows 'for every input' (looked for: loops, veiled, ifaces, maps, wideKeys, modest, calm, conditions, laid).
  DERIVED. THE GIVEN ROWS OF THIS SEAT. 7 by the template 'for every input the law returns true; each argument reads behind the call as it read before'; 0 by the template 'total and deterministic' (their statements: YtkcfcdnchlmekaaTotals.lean).
  GIVEN WITH THE SEED: the statements are not yours to turn. If you find one false, say at which input.
  Laid BY PROGRAM, IN A SANDBOX (cutbox-rows.mjs): the forced cells as the released guide's own fill.sh prints them over the translation 9e2035f46f688ffb… (all of the seat's roots in one cut). By AI agents, Wed Nov 11 2026. No macro, syntax, notation, axiom, sorry.
-/
import Derived.Test.YtkcfcdnchlmekaaChecked
import GoSem.Claim
import GoSem.ClaimJoined
import GoSem.ClaimMapViews
import Derived.JoinedTies
import Derived.KernelRfl
namespace Go.Proofs.Ytkcfcdnchlmekaa
/- THE CELL 'sum', in the pinned program and in every row, IS THE sha256 OF THE DUMP (.gsa) THAT YtkcfcdnchlmekaaProg.lean LOADS. Nothing in Lean hashes anything: it is a label: what it is worth is what the hold of that sum in a sandbox is worth. -/
noncomputable def Try.pinned : Pinned := { name := "ytkcfcdnchlmekaa", sum := "9e2035f46f688ffb8d691565f569b0f08431655326d697d435cf05dad74bf43b", checked := Try.checked }
namespace Rows
def none {H : Type} : Left H := { results := [], args := [] }

/-- 'publisherlaw03.AttrNames': WHATEVER THE INPUT: true; the input reads as it did. -/
def attrNamesSpec : ChangeSpec := { name := "attrNames", fn := fun _ => fun
  | [d] => { results := [.lit (.bool true)], args := [d] }
  | _ => none }
def attrNamesRow : OpenClaim := { program := "ytkcfcdnchlmekaa", sum := "9e2035f46f688ffb8d691565f569b0f08431655326d697d435cf05dad74bf43b", func := "publisher/publisherlaw03.AttrNames", spec := "attrNames", inPlace := ["internal/bytealg.IndexByteString", "internal/abi.NoEscape", "internal/bytealg.MakeNoZero"], unfollowed := true, recurses := true, apart := false }
def AttrNamesSaid : Prop := attrNamesRow.holds Try.pinned (OpenSpec.ofChange attrNamesSpec)

/-- ITS FALSE NEIGHBOUR: 'it returns false'. Refute it at one input. -/
def attrNamesWrong : ChangeSpec := { name := "attrNames", fn := fun _ => fun
  | [d] => { results := [.lit (.bool false)], args := [d] }
  | _ => none }
def AttrNamesWrongFalsely : Prop := attrNamesRow.holds Try.pinned (OpenSpec.ofChange attrNamesWrong)

/-- 'publisherlaw03.AttrChecks': WHATEVER THE INPUT: true; the input reads as it did. -/
def attrChecksSpec : ChangeSpec := { name := "attrChecks", fn := fun _ => fun
  | [d] => { results := [.lit (.bool true)], args := [d] }
  | _ => none }
def attrChecksRow : OpenClaim := { program := "ytkcfcdnchlmekaa", sum := "9e2035f46f688ffb8d691565f569b0f08431655326d697d435cf05dad74bf43b", func := "publisher/publisherlaw03.AttrChecks", spec := "attrChecks", inPlace := ["internal/bytealg.IndexByteString", "internal/abi.NoEscape", "internal/bytealg.MakeNoZero"], unfollowed := true, recurses := true, apart := false }
def AttrChecksSaid : Prop := attrChecksRow.holds Try.pinned (OpenSpec.ofChange attrChecksSpec)

/-- ITS FALSE NEIGHBOUR: 'it returns false'. Refute it at one input. -/
def attrChecksWrong : ChangeSpec := { name := "attrChecks", fn := fun _ => fun
  | [d] => { results := [.lit (.bool false)], args := [d] }
  | _ => none }
def AttrChecksWrongFalsely : Prop := attrChecksRow.holds Try.pinned (OpenSpec.ofChange attrChecksWrong)

/-- 'publisherlaw03.AttrTexts': WHATEVER THE INPUT: true; the input reads as it did. -/
def attrTextsSpec : ChangeSpec := { name := "attrTexts", fn := fun _ => fun
  | [d] => { results := [.lit (.bool true)], args := [d] }
  | _ => none }
def attrTextsRow : OpenClaim := { program := "ytkcfcdnchlmekaa", sum := "9e2035f46f688ffb8d691565f569b0f08431655326d697d435cf05dad74bf43b", func := "publisher/publisherlaw03.AttrTexts", spec := "attrTexts", inPlace := ["internal/bytealg.IndexByteString", "internal/abi.NoEscape", "internal/bytealg.MakeNoZero"], unfollowed := true, recurses := true, apart := false }
def AttrTextsSaid : Prop := attrTextsRow.holds Try.pinned (OpenSpec.ofChange attrTextsSpec)

/-- ITS FALSE NEIGHBOUR: 'it returns false'. Refute it at one input. -/
def attrTextsWrong : ChangeSpec := { name := "attrTexts", fn := fun _ => fun
  | [d] => { results := [.lit (.bool false)], args := [d] }
  | _ => none }
def AttrTextsWrongFalsely : Prop := attrTextsRow.holds Try.pinned (OpenSpec.ofChange attrTextsWrong)

/-- 'publisherlaw03.AttrParses': WHATEVER THE INPUT: true; the input reads as it did. -/
def attrParsesSpec : ChangeSpec := { name := "attrParses", fn := fun _ => fun
  | [d1, d2] => { results := [.lit (.bool true)], args := [d1, d2] }
  | _ => none }
def attrParsesRow : OpenClaim := { program := "ytkcfcdnchlmekaa", sum := "9e2035f46f688ffb8d691565f569b0f08431655326d697d435cf05dad74bf43b", func := "publisher/publisherlaw03.AttrParses", spec := "attrParses", inPlace := ["internal/bytealg.IndexByteString", "internal/abi.NoEscape", "internal/bytealg.MakeNoZero"], unfollowed := true, recurses := true, apart := false }
def AttrParsesSaid : Prop := attrParsesRow.holds Try.pinned (OpenSpec.ofChange attrParsesSpec)

/-- ITS FALSE NEIGHBOUR: 'it returns false'. Refute it at one input. -/
def attrParsesWrong : ChangeSpec := { name := "attrParses", fn := fun _ => fun
  | [d1, d2] => { results := [.lit (.bool false)], args := [d1, d2] }
  | _ => none }
def AttrParsesWrongFalsely : Prop := attrParsesRow.holds Try.pinned (OpenSpec.ofChange attrParsesWrong)

/-- 'publisherlaw03.AttrReturns': WHATEVER THE INPUT: true; the input reads as it did. -/
def attrReturnsSpec : ChangeSpec := { name := "attrReturns", fn := fun _ => fun
  | [d1, d2] => { results := [.lit (.bool true)], args := [d1, d2] }
  | _ => none }
def attrReturnsRow : OpenClaim := { program := "ytkcfcdnchlmekaa", sum := "9e2035f46f688ffb8d691565f569b0f08431655326d697d435cf05dad74bf43b", func := "publisher/publisherlaw03.AttrReturns", spec := "attrReturns", inPlace := ["internal/bytealg.IndexByteString", "internal/abi.NoEscape", "internal/bytealg.MakeNoZero"], unfollowed := true, recurses := true, apart := false }
def AttrReturnsSaid : Prop := attrReturnsRow.holds Try.pinned (OpenSpec.ofChange attrReturnsSpec)

/-- ITS FALSE NEIGHBOUR: 'it returns false'. Refute it at one input. -/
def attrReturnsWrong : ChangeSpec := { name := "attrReturns", fn := fun _ => fun
  | [d1, d2] => { results := [.lit (.bool false)], args := [d1, d2] }
  | _ => none }
def AttrReturnsWrongFalsely : Prop := attrReturnsRow.holds Try.pinned (OpenSpec.ofChange attrReturnsWrong)

/-- 'publisherlaw03.AttrReads': WHATEVER THE INPUT: true; the input reads as it did. -/
def attrReadsSpec : ChangeSpec := { name := "attrReads", fn := fun _ => fun
  | [d] => { results := [.lit (.bool true)], args := [d] }
  | _ => none }
def attrReadsRow : OpenClaim := { program := "ytkcfcdnchlmekaa", sum := "9e2035f46f688ffb8d691565f569b0f08431655326d697d435cf05dad74bf43b", func := "publisher/publisherlaw03.AttrReads", spec := "attrReads", inPlace := ["internal/bytealg.IndexByteString", "internal/abi.NoEscape", "internal/bytealg.MakeNoZero"], unfollowed := true, recurses := true, apart := false }
def AttrReadsSaid : Prop := attrReadsRow.holds Try.pinned (OpenSpec.ofChange attrReadsSpec)

/-- ITS FALSE NEIGHBOUR: 'it returns false'. Refute it at one input. -/
def attrReadsWrong : ChangeSpec := { name := "attrReads", fn := fun _ => fun
  | [d] => { results := [.lit (.bool false)], args := [d] }
  | _ => none }
def AttrReadsWrongFalsely : Prop := attrReadsRow.holds Try.pinned (OpenSpec.ofChange attrReadsWrong)

/-- 'publisherlaw03.AttrLooks': WHATEVER THE INPUT: true; the input reads as it did. -/
def attrLooksSpec : ChangeSpec := { name := "attrLooks", fn := fun _ => fun
  | [d1, d2, d3] => { results := [.lit (.bool true)], args := [d1, d2, d3] }
  | _ => none }
def attrLooksRow : OpenClaim := { program := "ytkcfcdnchlmekaa", sum := "9e2035f46f688ffb8d691565f569b0f08431655326d697d435cf05dad74bf43b", func := "publisher/publisherlaw03.AttrLooks", spec := "attrLooks", inPlace := ["internal/bytealg.IndexByteString", "internal/abi.NoEscape", "internal/bytealg.MakeNoZero"], unfollowed := true, recurses := true, apart := false }
def AttrLooksSaid : Prop := attrLooksRow.holds Try.pinned (OpenSpec.ofChange attrLooksSpec)

/-- ITS FALSE NEIGHBOUR: 'it returns false'. Refute it at one input. -/
def attrLooksWrong : ChangeSpec := { name := "attrLooks", fn := fun _ => fun
  | [d1, d2, d3] => { results := [.lit (.bool false)], args := [d1, d2, d3] }
  | _ => none }
def AttrLooksWrongFalsely : Prop := attrLooksRow.holds Try.pinned (OpenSpec.ofChange attrLooksWrong)

/- THE SECOND FORM. 'bulk': how many values and letters a reading holds, each counted each time it is reached (what is shared counts as often as it is met; a slice's spare places count too). A statement '..UptoSaid' is the law's where the arguments, and the package variables that the reading takes, are together of bulk at most 1048576: NARROWER than '..Said'. Prove '..Said' where nothing that the law and all that it calls make is longer than what came in: it says more and counts as full. Else prove '..UptoSaid'. A law counts once. -/
mutual
def uptoBulk {H : Type} : DataW H → Nat
  | .lit (.string bytes) => bytes.length + 1
  | .lit _ => 1
  | .nil => 1
  | .ptr d => uptoBulk d + 1
  | .slice elems spare => uptoBulkAll elems + uptoBulkAll spare + 1
  | .agg parts => uptoBulkAll parts + 1
  | .iface _ d => uptoBulk d + 1
  | .map entries => uptoBulkEntries entries + 1
  | .held _ => 1
def uptoBulkAll {H : Type} : List (DataW H) → Nat
  | [] => 0
  | d :: r => uptoBulk d + uptoBulkAll r
def uptoBulkEntries {H : Type} : List (Lit × DataW H) → Nat
  | [] => 0
  | x :: r => uptoBulkEntry x + uptoBulkEntries r
def uptoBulkEntry {H : Type} : Lit × DataW H → Nat
  | (.string bytes, d) => bytes.length + uptoBulk d + 1
  | (_, d) => uptoBulk d + 1
 end
def uptoSmall : (H : Type) → List (DataW H) → Bool := fun _ ds => decide (uptoBulkAll ds ≤ 1048576)
def OpenSpec.upto (s : _root_.Go.ChangeSpec) : _root_.Go.OpenSpec := { _root_.Go.OpenSpec.ofChange s with cond := some uptoSmall }

/-- 'publisherlaw03.AttrNames', WHERE WHAT IT READS IS OF BULK AT MOST 1048576: true; the input reads as it did. -/
def attrNamesUptoRow : OpenClaim := { program := "ytkcfcdnchlmekaa", sum := "9e2035f46f688ffb8d691565f569b0f08431655326d697d435cf05dad74bf43b", func := "publisher/publisherlaw03.AttrNames", spec := "attrNames", inPlace := ["internal/bytealg.IndexByteString", "internal/abi.NoEscape", "internal/bytealg.MakeNoZero"], unfollowed := true, recurses := true, apart := false, narrowed := true }
def AttrNamesUptoSaid : Prop := attrNamesUptoRow.holds Try.pinned (OpenSpec.upto attrNamesSpec)

/-- 'publisherlaw03.AttrChecks', WHERE WHAT IT READS IS OF BULK AT MOST 1048576: true; the input reads as it did. -/
def attrChecksUptoRow : OpenClaim := { program := "ytkcfcdnchlmekaa", sum := "9e2035f46f688ffb8d691565f569b0f08431655326d697d435cf05dad74bf43b", func := "publisher/publisherlaw03.AttrChecks", spec := "attrChecks", inPlace := ["internal/bytealg.IndexByteString", "internal/abi.NoEscape", "internal/bytealg.MakeNoZero"], unfollowed := true, recurses := true, apart := false, narrowed := true }
def AttrChecksUptoSaid : Prop := attrChecksUptoRow.holds Try.pinned (OpenSpec.upto attrChecksSpec)

/-- 'publisherlaw03.AttrTexts', WHERE WHAT IT READS IS OF BULK AT MOST 1048576: true; the input reads as it did. -/
def attrTextsUptoRow : OpenClaim := { program := "ytkcfcdnchlmekaa", sum := "9e2035f46f688ffb8d691565f569b0f08431655326d697d435cf05dad74bf43b", func := "publisher/publisherlaw03.AttrTexts", spec := "attrTexts", inPlace := ["internal/bytealg.IndexByteString", "internal/abi.NoEscape", "internal/bytealg.MakeNoZero"], unfollowed := true, recurses := true, apart := false, narrowed := true }
def AttrTextsUptoSaid : Prop := attrTextsUptoRow.holds Try.pinned (OpenSpec.upto attrTextsSpec)

/-- 'publisherlaw03.AttrParses', WHERE WHAT IT READS IS OF BULK AT MOST 1048576: true; the input reads as it did. -/
def attrParsesUptoRow : OpenClaim := { program := "ytkcfcdnchlmekaa", sum := "9e2035f46f688ffb8d691565f569b0f08431655326d697d435cf05dad74bf43b", func := "publisher/publisherlaw03.AttrParses", spec := "attrParses", inPlace := ["internal/bytealg.IndexByteString", "internal/abi.NoEscape", "internal/bytealg.MakeNoZero"], unfollowed := true, recurses := true, apart := false, narrowed := true }
def AttrParsesUptoSaid : Prop := attrParsesUptoRow.holds Try.pinned (OpenSpec.upto attrParsesSpec)

/-- 'publisherlaw03.AttrReturns', WHERE WHAT IT READS IS OF BULK AT MOST 1048576: true; the input reads as it did. -/
def attrReturnsUptoRow : OpenClaim := { program := "ytkcfcdnchlmekaa", sum := "9e2035f46f688ffb8d691565f569b0f08431655326d697d435cf05dad74bf43b", func := "publisher/publisherlaw03.AttrReturns", spec := "attrReturns", inPlace := ["internal/bytealg.IndexByteString", "internal/abi.NoEscape", "internal/bytealg.MakeNoZero"], unfollowed := true, recurses := true, apart := false, narrowed := true }
def AttrReturnsUptoSaid : Prop := attrReturnsUptoRow.holds Try.pinned (OpenSpec.upto attrReturnsSpec)

/-- 'publisherlaw03.AttrReads', WHERE WHAT IT READS IS OF BULK AT MOST 1048576: true; the input reads as it did. -/
def attrReadsUptoRow : OpenClaim := { program := "ytkcfcdnchlmekaa", sum := "9e2035f46f688ffb8d691565f569b0f08431655326d697d435cf05dad74bf43b", func := "publisher/publisherlaw03.AttrReads", spec := "attrReads", inPlace := ["internal/bytealg.IndexByteString", "internal/abi.NoEscape", "internal/bytealg.MakeNoZero"], unfollowed := true, recurses := true, apart := false, narrowed := true }
def AttrReadsUptoSaid : Prop := attrReadsUptoRow.holds Try.pinned (OpenSpec.upto attrReadsSpec)

/-- 'publisherlaw03.AttrLooks', WHERE WHAT IT READS IS OF BULK AT MOST 1048576: true; the input reads as it did. -/
def attrLooksUptoRow : OpenClaim := { program := "ytkcfcdnchlmekaa", sum := "9e2035f46f688ffb8d691565f569b0f08431655326d697d435cf05dad74bf43b", func := "publisher/publisherlaw03.AttrLooks", spec := "attrLooks", inPlace := ["internal/bytealg.IndexByteString", "internal/abi.NoEscape", "internal/bytealg.MakeNoZero"], unfollowed := true, recurses := true, apart := false, narrowed := true }
def AttrLooksUptoSaid : Prop := attrLooksUptoRow.holds Try.pinned (OpenSpec.upto attrLooksSpec)

end Rows
end Go.Proofs.Ytkcfcdnchlmekaa
