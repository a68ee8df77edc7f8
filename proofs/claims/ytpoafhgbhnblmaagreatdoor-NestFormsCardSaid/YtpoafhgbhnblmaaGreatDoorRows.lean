/-
  NARROWER THAN 'FOR EVERY INPUT', by the rows' own cells (each row's printed sentence says how): NestParses: laid · NestRanges: laid · NestCovers: laid · NestBlanks: laid · NestPieces: laid · NestDeep: laid · NestForms: laid.
  DERIVED. THE GIVEN ROWS OF THIS SEAT. 7 by the template 'for every input the law returns true; each argument reads behind the call as it read before'; 0 by the template 'total and deterministic' (their statements: YtpoafhgbhnblmaaGreatDoorTotals.lean).
  GIVEN WITH THE SEED: the statements are not yours to turn. If you find one false, say at which input.
  Laid BY PROGRAM, IN A SANDBOX (cutbox-rows.mjs): the forced cells as the released guide's own fill.sh prints them over the translation 410d5d589b9c1472… (all of the seat's roots in one cut). By AI agents, Wed Nov 11 2026. No macro, syntax, notation, axiom, sorry.
-/
import Derived.Test.YtpoafhgbhnblmaaGreatDoorChecked
import GoSem.PinnedTables
import GoSem.Claim
import GoSem.ClaimJoined
import GoSem.ClaimMapViews
import Derived.JoinedTies
import Derived.KernelRfl
namespace Go.Proofs.YtpoafhgbhnblmaaGreatDoor
/- THE CELL 'sum', in the pinned program and in every row, IS THE sha256 OF THE DUMP (.gsa) THAT YtpoafhgbhnblmaaGreatDoorProg.lean LOADS. Nothing in Lean hashes anything: it is a label: what it is worth is what the hold of that sum in a sandbox is worth. -/
noncomputable def Tryz.pinned : Pinned := { name := "ytpoafhgbhnblmaagreatdoor", sum := "410d5d589b9c14729ebd362932cdcad6a79c3f1b910ea3b8bd4191de604db33e", checked := Tryz.checked }
namespace Rows
def none {H : Type} : Left H := { results := [], args := [] }

/- WHAT THE LISTED PACKAGE-LEVEL VARIABLES READ AS WHEN THE CALL BEGINS. Each datum BY PROGRAM (the guide's laid-datum.mjs) off the statement by which the dump's own 'gosem.cut.vars' lays the variable. In a bare row this is a premise. The card (YtpoafhgbhnblmaaGreatDoorCards.lean) ties it to the program's text. -/
def laid_unicode_utf8_acceptRanges {H : Type} : DataW H := .agg [.agg [.lit (.int .u8 128), .lit (.int .u8 191)], .agg [.lit (.int .u8 160), .lit (.int .u8 191)], .agg [.lit (.int .u8 128), .lit (.int .u8 159)], .agg [.lit (.int .u8 144), .lit (.int .u8 191)], .agg [.lit (.int .u8 128), .lit (.int .u8 143)], .agg [.lit (.int .u8 0), .lit (.int .u8 0)], .agg [.lit (.int .u8 0), .lit (.int .u8 0)], .agg [.lit (.int .u8 0), .lit (.int .u8 0)], .agg [.lit (.int .u8 0), .lit (.int .u8 0)], .agg [.lit (.int .u8 0), .lit (.int .u8 0)], .agg [.lit (.int .u8 0), .lit (.int .u8 0)], .agg [.lit (.int .u8 0), .lit (.int .u8 0)], .agg [.lit (.int .u8 0), .lit (.int .u8 0)], .agg [.lit (.int .u8 0), .lit (.int .u8 0)], .agg [.lit (.int .u8 0), .lit (.int .u8 0)], .agg [.lit (.int .u8 0), .lit (.int .u8 0)]]
/-- One of Go's own tables, pinned by name: the form's constant. -/
def laid_unicode_utf8_first : DataW Unit := Go.Pinned.utf8First

/-- 'publisherlaw07.NestParses': WHATEVER THE INPUT: true; the input reads as it did. -/
def nestParsesSpec : ChangeSpec := { name := "nestParses", fn := fun _ => fun
  | [d] => { results := [.lit (.bool true)], args := [d] }
  | _ => none }
def nestParsesRow : OpenClaim := { program := "ytpoafhgbhnblmaagreatdoor", sum := "410d5d589b9c14729ebd362932cdcad6a79c3f1b910ea3b8bd4191de604db33e", func := "publisher/publisherlaw07.NestParses", spec := "nestParses", inPlace := ["internal/bytealg.IndexByteString", "internal/abi.NoEscape", "internal/bytealg.IndexString", "internal/bytealg.CountString", "internal/bytealg.MakeNoZero"], unfollowed := true, recurses := true, named := ["internal/bytealg.MaxLen", "unicode/utf8.first", "unicode/utf8.acceptRanges"], apart := false, laid := [("unicode/utf8.acceptRanges", laid_unicode_utf8_acceptRanges), ("unicode/utf8.first", laid_unicode_utf8_first)] }
def NestParsesSaid : Prop := nestParsesRow.holds Tryz.pinned (OpenSpec.ofChange nestParsesSpec)

/-- ITS FALSE NEIGHBOUR: 'it returns false'. Refute it at one input. -/
def nestParsesWrong : ChangeSpec := { name := "nestParses", fn := fun _ => fun
  | [d] => { results := [.lit (.bool false)], args := [d] }
  | _ => none }
def NestParsesWrongFalsely : Prop := nestParsesRow.holds Tryz.pinned (OpenSpec.ofChange nestParsesWrong)

/-- 'publisherlaw07.NestRanges': WHATEVER THE INPUT: true; the input reads as it did. -/
def nestRangesSpec : ChangeSpec := { name := "nestRanges", fn := fun _ => fun
  | [d] => { results := [.lit (.bool true)], args := [d] }
  | _ => none }
def nestRangesRow : OpenClaim := { program := "ytpoafhgbhnblmaagreatdoor", sum := "410d5d589b9c14729ebd362932cdcad6a79c3f1b910ea3b8bd4191de604db33e", func := "publisher/publisherlaw07.NestRanges", spec := "nestRanges", inPlace := ["internal/bytealg.IndexByteString", "internal/abi.NoEscape", "internal/bytealg.IndexString", "internal/bytealg.CountString", "internal/bytealg.MakeNoZero"], unfollowed := true, recurses := true, named := ["internal/bytealg.MaxLen", "unicode/utf8.first", "unicode/utf8.acceptRanges"], apart := false, laid := [("unicode/utf8.acceptRanges", laid_unicode_utf8_acceptRanges), ("unicode/utf8.first", laid_unicode_utf8_first)] }
def NestRangesSaid : Prop := nestRangesRow.holds Tryz.pinned (OpenSpec.ofChange nestRangesSpec)

/-- ITS FALSE NEIGHBOUR: 'it returns false'. Refute it at one input. -/
def nestRangesWrong : ChangeSpec := { name := "nestRanges", fn := fun _ => fun
  | [d] => { results := [.lit (.bool false)], args := [d] }
  | _ => none }
def NestRangesWrongFalsely : Prop := nestRangesRow.holds Tryz.pinned (OpenSpec.ofChange nestRangesWrong)

/-- 'publisherlaw07.NestCovers': WHATEVER THE INPUT: true; the input reads as it did. -/
def nestCoversSpec : ChangeSpec := { name := "nestCovers", fn := fun _ => fun
  | [d] => { results := [.lit (.bool true)], args := [d] }
  | _ => none }
def nestCoversRow : OpenClaim := { program := "ytpoafhgbhnblmaagreatdoor", sum := "410d5d589b9c14729ebd362932cdcad6a79c3f1b910ea3b8bd4191de604db33e", func := "publisher/publisherlaw07.NestCovers", spec := "nestCovers", inPlace := ["internal/bytealg.IndexByteString", "internal/abi.NoEscape", "internal/bytealg.IndexString", "internal/bytealg.CountString", "internal/bytealg.MakeNoZero"], unfollowed := true, recurses := true, named := ["internal/bytealg.MaxLen", "unicode/utf8.first", "unicode/utf8.acceptRanges"], apart := false, laid := [("unicode/utf8.acceptRanges", laid_unicode_utf8_acceptRanges), ("unicode/utf8.first", laid_unicode_utf8_first)] }
def NestCoversSaid : Prop := nestCoversRow.holds Tryz.pinned (OpenSpec.ofChange nestCoversSpec)

/-- ITS FALSE NEIGHBOUR: 'it returns false'. Refute it at one input. -/
def nestCoversWrong : ChangeSpec := { name := "nestCovers", fn := fun _ => fun
  | [d] => { results := [.lit (.bool false)], args := [d] }
  | _ => none }
def NestCoversWrongFalsely : Prop := nestCoversRow.holds Tryz.pinned (OpenSpec.ofChange nestCoversWrong)

/-- 'publisherlaw07.NestBlanks': WHATEVER THE INPUT: true; the input reads as it did. -/
def nestBlanksSpec : ChangeSpec := { name := "nestBlanks", fn := fun _ => fun
  | [d1, d2] => { results := [.lit (.bool true)], args := [d1, d2] }
  | _ => none }
def nestBlanksRow : OpenClaim := { program := "ytpoafhgbhnblmaagreatdoor", sum := "410d5d589b9c14729ebd362932cdcad6a79c3f1b910ea3b8bd4191de604db33e", func := "publisher/publisherlaw07.NestBlanks", spec := "nestBlanks", inPlace := ["internal/bytealg.IndexByteString", "internal/abi.NoEscape", "internal/bytealg.IndexString", "internal/bytealg.CountString", "internal/bytealg.MakeNoZero"], unfollowed := true, recurses := true, named := ["internal/bytealg.MaxLen", "unicode/utf8.first", "unicode/utf8.acceptRanges"], apart := false, laid := [("unicode/utf8.acceptRanges", laid_unicode_utf8_acceptRanges), ("unicode/utf8.first", laid_unicode_utf8_first)] }
def NestBlanksSaid : Prop := nestBlanksRow.holds Tryz.pinned (OpenSpec.ofChange nestBlanksSpec)

/-- ITS FALSE NEIGHBOUR: 'it returns false'. Refute it at one input. -/
def nestBlanksWrong : ChangeSpec := { name := "nestBlanks", fn := fun _ => fun
  | [d1, d2] => { results := [.lit (.bool false)], args := [d1, d2] }
  | _ => none }
def NestBlanksWrongFalsely : Prop := nestBlanksRow.holds Tryz.pinned (OpenSpec.ofChange nestBlanksWrong)

/-- 'publisherlaw07.NestPieces': WHATEVER THE INPUT: true; the input reads as it did. -/
def nestPiecesSpec : ChangeSpec := { name := "nestPieces", fn := fun _ => fun
  | [d] => { results := [.lit (.bool true)], args := [d] }
  | _ => none }
def nestPiecesRow : OpenClaim := { program := "ytpoafhgbhnblmaagreatdoor", sum := "410d5d589b9c14729ebd362932cdcad6a79c3f1b910ea3b8bd4191de604db33e", func := "publisher/publisherlaw07.NestPieces", spec := "nestPieces", inPlace := ["internal/bytealg.IndexByteString", "internal/abi.NoEscape", "internal/bytealg.IndexString", "internal/bytealg.CountString", "internal/bytealg.MakeNoZero"], unfollowed := true, recurses := true, named := ["internal/bytealg.MaxLen", "unicode/utf8.first", "unicode/utf8.acceptRanges"], apart := false, laid := [("unicode/utf8.acceptRanges", laid_unicode_utf8_acceptRanges), ("unicode/utf8.first", laid_unicode_utf8_first)] }
def NestPiecesSaid : Prop := nestPiecesRow.holds Tryz.pinned (OpenSpec.ofChange nestPiecesSpec)

/-- ITS FALSE NEIGHBOUR: 'it returns false'. Refute it at one input. -/
def nestPiecesWrong : ChangeSpec := { name := "nestPieces", fn := fun _ => fun
  | [d] => { results := [.lit (.bool false)], args := [d] }
  | _ => none }
def NestPiecesWrongFalsely : Prop := nestPiecesRow.holds Tryz.pinned (OpenSpec.ofChange nestPiecesWrong)

/-- 'publisherlaw07.NestDeep': WHATEVER THE INPUT: true; the input reads as it did. -/
def nestDeepSpec : ChangeSpec := { name := "nestDeep", fn := fun _ => fun
  | [d1, d2] => { results := [.lit (.bool true)], args := [d1, d2] }
  | _ => none }
def nestDeepRow : OpenClaim := { program := "ytpoafhgbhnblmaagreatdoor", sum := "410d5d589b9c14729ebd362932cdcad6a79c3f1b910ea3b8bd4191de604db33e", func := "publisher/publisherlaw07.NestDeep", spec := "nestDeep", inPlace := ["internal/bytealg.IndexByteString", "internal/abi.NoEscape", "internal/bytealg.IndexString", "internal/bytealg.CountString", "internal/bytealg.MakeNoZero"], unfollowed := true, recurses := true, named := ["internal/bytealg.MaxLen", "unicode/utf8.first", "unicode/utf8.acceptRanges"], apart := false, laid := [("unicode/utf8.acceptRanges", laid_unicode_utf8_acceptRanges), ("unicode/utf8.first", laid_unicode_utf8_first)] }
def NestDeepSaid : Prop := nestDeepRow.holds Tryz.pinned (OpenSpec.ofChange nestDeepSpec)

/-- ITS FALSE NEIGHBOUR: 'it returns false'. Refute it at one input. -/
def nestDeepWrong : ChangeSpec := { name := "nestDeep", fn := fun _ => fun
  | [d1, d2] => { results := [.lit (.bool false)], args := [d1, d2] }
  | _ => none }
def NestDeepWrongFalsely : Prop := nestDeepRow.holds Tryz.pinned (OpenSpec.ofChange nestDeepWrong)

/-- 'publisherlaw07.NestForms': WHATEVER THE INPUT: true; the input reads as it did. -/
def nestFormsSpec : ChangeSpec := { name := "nestForms", fn := fun _ => fun
  | [d] => { results := [.lit (.bool true)], args := [d] }
  | _ => none }
def nestFormsRow : OpenClaim := { program := "ytpoafhgbhnblmaagreatdoor", sum := "410d5d589b9c14729ebd362932cdcad6a79c3f1b910ea3b8bd4191de604db33e", func := "publisher/publisherlaw07.NestForms", spec := "nestForms", inPlace := ["internal/bytealg.IndexByteString", "internal/abi.NoEscape", "internal/bytealg.IndexString", "internal/bytealg.CountString", "internal/bytealg.MakeNoZero"], unfollowed := true, recurses := true, named := ["internal/bytealg.MaxLen", "unicode/utf8.first", "unicode/utf8.acceptRanges"], apart := false, laid := [("unicode/utf8.acceptRanges", laid_unicode_utf8_acceptRanges), ("unicode/utf8.first", laid_unicode_utf8_first)] }
def NestFormsSaid : Prop := nestFormsRow.holds Tryz.pinned (OpenSpec.ofChange nestFormsSpec)

/-- ITS FALSE NEIGHBOUR: 'it returns false'. Refute it at one input. -/
def nestFormsWrong : ChangeSpec := { name := "nestForms", fn := fun _ => fun
  | [d] => { results := [.lit (.bool false)], args := [d] }
  | _ => none }
def NestFormsWrongFalsely : Prop := nestFormsRow.holds Tryz.pinned (OpenSpec.ofChange nestFormsWrong)

/- THE SECOND FORM. 'bulk': how many values and letters a reading holds, each counted each time it is reached (what is shared counts as often as it is met; a slice's spare places count too). A statement '..UptoSaid' is the law's where the arguments, and the package variables that the reading takes, are together of bulk at most 1048576: NARROWER than '..Said'. Prove '..Said' where nothing that the law and all that it calls make is longer than what came in: it says more and counts as full. Else prove '..UptoSaid'. A law counts once. -/
mutual
def uptoBulk {H : Type} : DataW H → Nat
  | .lit (.string bytes) => bytes.length + 1
  | .lit _ => 1
  | .nil => 1
  | .ptr d => uptoBulk d + 1
  | .slice elems spare => uptoBulkAll elems + uptoBulkAll spare + 1
  | .agg parts => uptoBulkAll parts + 1
  | .iface _ d => uptoBulk d + 1
  | .map entries => uptoBulkEntries entries + 1
  | .held _ => 1
def uptoBulkAll {H : Type} : List (DataW H) → Nat
  | [] => 0
  | d :: r => uptoBulk d + uptoBulkAll r
def uptoBulkEntries {H : Type} : List (Lit × DataW H) → Nat
  | [] => 0
  | x :: r => uptoBulkEntry x + uptoBulkEntries r
def uptoBulkEntry {H : Type} : Lit × DataW H → Nat
  | (.string bytes, d) => bytes.length + uptoBulk d + 1
  | (_, d) => uptoBulk d + 1
 end
def uptoSmall : (H : Type) → List (DataW H) → Bool := fun _ ds => decide (uptoBulkAll ds ≤ 1048576)
def OpenSpec.upto (s : _root_.Go.ChangeSpec) : _root_.Go.OpenSpec := { _root_.Go.OpenSpec.ofChange s with cond := some uptoSmall }

/-- 'publisherlaw07.NestParses', WHERE WHAT IT READS IS OF BULK AT MOST 1048576: true; the input reads as it did. -/
def nestParsesUptoRow : OpenClaim := { program := "ytpoafhgbhnblmaagreatdoor", sum := "410d5d589b9c14729ebd362932cdcad6a79c3f1b910ea3b8bd4191de604db33e", func := "publisher/publisherlaw07.NestParses", spec := "nestParses", inPlace := ["internal/bytealg.IndexByteString", "internal/abi.NoEscape", "internal/bytealg.IndexString", "internal/bytealg.CountString", "internal/bytealg.MakeNoZero"], unfollowed := true, recurses := true, named := ["internal/bytealg.MaxLen", "unicode/utf8.first", "unicode/utf8.acceptRanges"], apart := false, laid := [("unicode/utf8.acceptRanges", laid_unicode_utf8_acceptRanges), ("unicode/utf8.first", laid_unicode_utf8_first)], narrowed := true }
def NestParsesUptoSaid : Prop := nestParsesUptoRow.holds Tryz.pinned (OpenSpec.upto nestParsesSpec)

/-- 'publisherlaw07.NestRanges', WHERE WHAT IT READS IS OF BULK AT MOST 1048576: true; the input reads as it did. -/
def nestRangesUptoRow : OpenClaim := { program := "ytpoafhgbhnblmaagreatdoor", sum := "410d5d589b9c14729ebd362932cdcad6a79c3f1b910ea3b8bd4191de604db33e", func := "publisher/publisherlaw07.NestRanges", spec := "nestRanges", inPlace := ["internal/bytealg.IndexByteString", "internal/abi.NoEscape", "internal/bytealg.IndexString", "internal/bytealg.CountString", "internal/bytealg.MakeNoZero"], unfollowed := true, recurses := true, named := ["internal/bytealg.MaxLen", "unicode/utf8.first", "unicode/utf8.acceptRanges"], apart := false, laid := [("unicode/utf8.acceptRanges", laid_unicode_utf8_acceptRanges), ("unicode/utf8.first", laid_unicode_utf8_first)], narrowed := true }
def NestRangesUptoSaid : Prop := nestRangesUptoRow.holds Tryz.pinned (OpenSpec.upto nestRangesSpec)

/-- 'publisherlaw07.NestCovers', WHERE WHAT IT READS IS OF BULK AT MOST 1048576: true; the input reads as it did. -/
def nestCoversUptoRow : OpenClaim := { program := "ytpoafhgbhnblmaagreatdoor", sum := "410d5d589b9c14729ebd362932cdcad6a79c3f1b910ea3b8bd4191de604db33e", func := "publisher/publisherlaw07.NestCovers", spec := "nestCovers", inPlace := ["internal/bytealg.IndexByteString", "internal/abi.NoEscape", "internal/bytealg.IndexString", "internal/bytealg.CountString", "internal/bytealg.MakeNoZero"], unfollowed := true, recurses := true, named := ["internal/bytealg.MaxLen", "unicode/utf8.first", "unicode/utf8.acceptRanges"], apart := false, laid := [("unicode/utf8.acceptRanges", laid_unicode_utf8_acceptRanges), ("unicode/utf8.first", laid_unicode_utf8_first)], narrowed := true }
def NestCoversUptoSaid : Prop := nestCoversUptoRow.holds Tryz.pinned (OpenSpec.upto nestCoversSpec)

/-- 'publisherlaw07.NestBlanks', WHERE WHAT IT READS IS OF BULK AT MOST 1048576: true; the input reads as it did. -/
def nestBlanksUptoRow : OpenClaim := { program := "ytpoafhgbhnblmaagreatdoor", sum := "410d5d589b9c14729ebd362932cdcad6a79c3f1b910ea3b8bd4191de604db33e", func := "publisher/publisherlaw07.NestBlanks", spec := "nestBlanks", inPlace := ["internal/bytealg.IndexByteString", "internal/abi.NoEscape", "internal/bytealg.IndexString", "internal/bytealg.CountString", "internal/bytealg.MakeNoZero"], unfollowed := true, recurses := true, named := ["internal/bytealg.MaxLen", "unicode/utf8.first", "unicode/utf8.acceptRanges"], apart := false, laid := [("unicode/utf8.acceptRanges", laid_unicode_utf8_acceptRanges), ("unicode/utf8.first", laid_unicode_utf8_first)], narrowed := true }
def NestBlanksUptoSaid : Prop := nestBlanksUptoRow.holds Tryz.pinned (OpenSpec.upto nestBlanksSpec)

/-- 'publisherlaw07.NestPieces', WHERE WHAT IT READS IS OF BULK AT MOST 1048576: true; the input reads as it did. -/
def nestPiecesUptoRow : OpenClaim := { program := "ytpoafhgbhnblmaagreatdoor", sum := "410d5d589b9c14729ebd362932cdcad6a79c3f1b910ea3b8bd4191de604db33e", func := "publisher/publisherlaw07.NestPieces", spec := "nestPieces", inPlace := ["internal/bytealg.IndexByteString", "internal/abi.NoEscape", "internal/bytealg.IndexString", "internal/bytealg.CountString", "internal/bytealg.MakeNoZero"], unfollowed := true, recurses := true, named := ["internal/bytealg.MaxLen", "unicode/utf8.first", "unicode/utf8.acceptRanges"], apart := false, laid := [("unicode/utf8.acceptRanges", laid_unicode_utf8_acceptRanges), ("unicode/utf8.first", laid_unicode_utf8_first)], narrowed := true }
def NestPiecesUptoSaid : Prop := nestPiecesUptoRow.holds Tryz.pinned (OpenSpec.upto nestPiecesSpec)

/-- 'publisherlaw07.NestDeep', WHERE WHAT IT READS IS OF BULK AT MOST 1048576: true; the input reads as it did. -/
def nestDeepUptoRow : OpenClaim := { program := "ytpoafhgbhnblmaagreatdoor", sum := "410d5d589b9c14729ebd362932cdcad6a79c3f1b910ea3b8bd4191de604db33e", func := "publisher/publisherlaw07.NestDeep", spec := "nestDeep", inPlace := ["internal/bytealg.IndexByteString", "internal/abi.NoEscape", "internal/bytealg.IndexString", "internal/bytealg.CountString", "internal/bytealg.MakeNoZero"], unfollowed := true, recurses := true, named := ["internal/bytealg.MaxLen", "unicode/utf8.first", "unicode/utf8.acceptRanges"], apart := false, laid := [("unicode/utf8.acceptRanges", laid_unicode_utf8_acceptRanges), ("unicode/utf8.first", laid_unicode_utf8_first)], narrowed := true }
def NestDeepUptoSaid : Prop := nestDeepUptoRow.holds Tryz.pinned (OpenSpec.upto nestDeepSpec)

/-- 'publisherlaw07.NestForms', WHERE WHAT IT READS IS OF BULK AT MOST 1048576: true; the input reads as it did. -/
def nestFormsUptoRow : OpenClaim := { program := "ytpoafhgbhnblmaagreatdoor", sum := "410d5d589b9c14729ebd362932cdcad6a79c3f1b910ea3b8bd4191de604db33e", func := "publisher/publisherlaw07.NestForms", spec := "nestForms", inPlace := ["internal/bytealg.IndexByteString", "internal/abi.NoEscape", "internal/bytealg.IndexString", "internal/bytealg.CountString", "internal/bytealg.MakeNoZero"], unfollowed := true, recurses := true, named := ["internal/bytealg.MaxLen", "unicode/utf8.first", "unicode/utf8.acceptRanges"], apart := false, laid := [("unicode/utf8.acceptRanges", laid_unicode_utf8_acceptRanges), ("unicode/utf8.first", laid_unicode_utf8_first)], narrowed := true }
def NestFormsUptoSaid : Prop := nestFormsUptoRow.holds Tryz.pinned (OpenSpec.upto nestFormsSpec)

end Rows
end Go.Proofs.YtpoafhgbhnblmaaGreatDoor
