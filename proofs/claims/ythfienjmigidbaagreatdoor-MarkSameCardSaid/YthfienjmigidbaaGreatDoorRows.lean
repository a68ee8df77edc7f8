/-
  NARROWER THAN 'FOR EVERY INPUT', by the rows' own cells (each row's printed sentence says how): MarkCloses: laid · MarkSame: laid · MarkFences: laid · LinkDefs: laid · LinkLines: laid.
  DERIVED. THE GIVEN ROWS OF THIS SEAT. 5 by the template 'for every input the law returns true; each argument reads behind the call as it read before'; 0 by the template 'total and deterministic' (their statements: YthfienjmigidbaaGreatDoorTotals.lean).
  GIVEN WITH THE SEED: the statements are not yours to turn. If you find one false, say at which input.
  Laid BY PROGRAM, IN A SANDBOX (cutbox-rows.mjs): the forced cells as the released guide's own fill.sh prints them over the translation 9d11408223af20a7… (all of the seat's roots in one cut). By AI agents, Wed Nov 11 2026. No macro, syntax, notation, axiom, sorry.
-/
import Derived.Test.YthfienjmigidbaaGreatDoorChecked
import GoSem.PinnedTables
import GoSem.Claim
import GoSem.ClaimJoined
import GoSem.ClaimMapViews
import Derived.JoinedTies
import Derived.KernelRfl
namespace Go.Proofs.YthfienjmigidbaaGreatDoor
/- THE CELL 'sum', in the pinned program and in every row, IS THE sha256 OF THE DUMP (.gsa) THAT YthfienjmigidbaaGreatDoorProg.lean LOADS. Nothing in Lean hashes anything: it is a label: what it is worth is what the hold of that sum in a sandbox is worth. -/
noncomputable def Tryz.pinned : Pinned := { name := "ythfienjmigidbaagreatdoor", sum := "9d11408223af20a7a44cae31fd3bccd015f23a97cd95fe659d667841f698df9e", checked := Tryz.checked }
namespace Rows
def none {H : Type} : Left H := { results := [], args := [] }

/- WHAT THE LISTED PACKAGE-LEVEL VARIABLES READ AS WHEN THE CALL BEGINS. Each datum BY PROGRAM (the guide's laid-datum.mjs) off the statement by which the dump's own 'gosem.cut.vars' lays the variable. In a bare row this is a premise. The card (YthfienjmigidbaaGreatDoorCards.lean) ties it to the program's text. -/
def laid_unicode_utf8_acceptRanges {H : Type} : DataW H := .agg [.agg [.lit (.int .u8 128), .lit (.int .u8 191)], .agg [.lit (.int .u8 160), .lit (.int .u8 191)], .agg [.lit (.int .u8 128), .lit (.int .u8 159)], .agg [.lit (.int .u8 144), .lit (.int .u8 191)], .agg [.lit (.int .u8 128), .lit (.int .u8 143)], .agg [.lit (.int .u8 0), .lit (.int .u8 0)], .agg [.lit (.int .u8 0), .lit (.int .u8 0)], .agg [.lit (.int .u8 0), .lit (.int .u8 0)], .agg [.lit (.int .u8 0), .lit (.int .u8 0)], .agg [.lit (.int .u8 0), .lit (.int .u8 0)], .agg [.lit (.int .u8 0), .lit (.int .u8 0)], .agg [.lit (.int .u8 0), .lit (.int .u8 0)], .agg [.lit (.int .u8 0), .lit (.int .u8 0)], .agg [.lit (.int .u8 0), .lit (.int .u8 0)], .agg [.lit (.int .u8 0), .lit (.int .u8 0)], .agg [.lit (.int .u8 0), .lit (.int .u8 0)]]
/-- One of Go's own tables, pinned by name: the form's constant. -/
def laid_unicode_utf8_first : DataW Unit := Go.Pinned.utf8First

/-- 'publisherlaw05.MarkCloses': WHATEVER THE INPUT: true; the input reads as it did. -/
def markClosesSpec : ChangeSpec := { name := "markCloses", fn := fun _ => fun
  | [d1, d2] => { results := [.lit (.bool true)], args := [d1, d2] }
  | _ => none }
def markClosesRow : OpenClaim := { program := "ythfienjmigidbaagreatdoor", sum := "9d11408223af20a7a44cae31fd3bccd015f23a97cd95fe659d667841f698df9e", func := "publisher/publisherlaw05.MarkCloses", spec := "markCloses", inPlace := ["internal/bytealg.IndexByteString", "internal/abi.NoEscape", "internal/bytealg.IndexString"], unfollowed := true, recurses := true, named := ["internal/bytealg.MaxLen", "unicode/utf8.first", "unicode/utf8.acceptRanges"], apart := false, laid := [("unicode/utf8.acceptRanges", laid_unicode_utf8_acceptRanges), ("unicode/utf8.first", laid_unicode_utf8_first)] }
def MarkClosesSaid : Prop := markClosesRow.holds Tryz.pinned (OpenSpec.ofChange markClosesSpec)

/-- ITS FALSE NEIGHBOUR: 'it returns false'. Refute it at one input. -/
def markClosesWrong : ChangeSpec := { name := "markCloses", fn := fun _ => fun
  | [d1, d2] => { results := [.lit (.bool false)], args := [d1, d2] }
  | _ => none }
def MarkClosesWrongFalsely : Prop := markClosesRow.holds Tryz.pinned (OpenSpec.ofChange markClosesWrong)

/-- 'publisherlaw05.MarkSame': WHATEVER THE INPUT: true; the input reads as it did. -/
def markSameSpec : ChangeSpec := { name := "markSame", fn := fun _ => fun
  | [d1, d2] => { results := [.lit (.bool true)], args := [d1, d2] }
  | _ => none }
def markSameRow : OpenClaim := { program := "ythfienjmigidbaagreatdoor", sum := "9d11408223af20a7a44cae31fd3bccd015f23a97cd95fe659d667841f698df9e", func := "publisher/publisherlaw05.MarkSame", spec := "markSame", inPlace := ["internal/bytealg.IndexByteString", "internal/abi.NoEscape", "internal/bytealg.IndexString"], unfollowed := true, recurses := true, named := ["internal/bytealg.MaxLen", "unicode/utf8.first", "unicode/utf8.acceptRanges"], apart := false, laid := [("unicode/utf8.acceptRanges", laid_unicode_utf8_acceptRanges), ("unicode/utf8.first", laid_unicode_utf8_first)] }
def MarkSameSaid : Prop := markSameRow.holds Tryz.pinned (OpenSpec.ofChange markSameSpec)

/-- ITS FALSE NEIGHBOUR: 'it returns false'. Refute it at one input. -/
def markSameWrong : ChangeSpec := { name := "markSame", fn := fun _ => fun
  | [d1, d2] => { results := [.lit (.bool false)], args := [d1, d2] }
  | _ => none }
def MarkSameWrongFalsely : Prop := markSameRow.holds Tryz.pinned (OpenSpec.ofChange markSameWrong)

/-- 'publisherlaw05.MarkFences': WHATEVER THE INPUT: true; the input reads as it did. -/
def markFencesSpec : ChangeSpec := { name := "markFences", fn := fun _ => fun
  | [d1, d2, d3, d4] => { results := [.lit (.bool true)], args := [d1, d2, d3, d4] }
  | _ => none }
def markFencesRow : OpenClaim := { program := "ythfienjmigidbaagreatdoor", sum := "9d11408223af20a7a44cae31fd3bccd015f23a97cd95fe659d667841f698df9e", func := "publisher/publisherlaw05.MarkFences", spec := "markFences", inPlace := ["internal/bytealg.IndexByteString", "internal/abi.NoEscape", "internal/bytealg.IndexString"], unfollowed := true, recurses := true, named := ["internal/bytealg.MaxLen", "unicode/utf8.first", "unicode/utf8.acceptRanges"], apart := false, laid := [("unicode/utf8.acceptRanges", laid_unicode_utf8_acceptRanges), ("unicode/utf8.first", laid_unicode_utf8_first)] }
def MarkFencesSaid : Prop := markFencesRow.holds Tryz.pinned (OpenSpec.ofChange markFencesSpec)

/-- ITS FALSE NEIGHBOUR: 'it returns false'. Refute it at one input. -/
def markFencesWrong : ChangeSpec := { name := "markFences", fn := fun _ => fun
  | [d1, d2, d3, d4] => { results := [.lit (.bool false)], args := [d1, d2, d3, d4] }
  | _ => none }
def MarkFencesWrongFalsely : Prop := markFencesRow.holds Tryz.pinned (OpenSpec.ofChange markFencesWrong)

/-- 'publisherlaw08.LinkDefs': WHATEVER THE INPUT: true; the input reads as it did. -/
def linkDefsSpec : ChangeSpec := { name := "linkDefs", fn := fun _ => fun
  | [d] => { results := [.lit (.bool true)], args := [d] }
  | _ => none }
def linkDefsRow : OpenClaim := { program := "ythfienjmigidbaagreatdoor", sum := "9d11408223af20a7a44cae31fd3bccd015f23a97cd95fe659d667841f698df9e", func := "publisher/publisherlaw08.LinkDefs", spec := "linkDefs", inPlace := ["internal/abi.NoEscape", "internal/bytealg.IndexByteString", "internal/bytealg.IndexString"], unfollowed := true, recurses := true, named := ["internal/bytealg.MaxLen", "unicode/utf8.first", "unicode/utf8.acceptRanges"], apart := false, laid := [("unicode/utf8.acceptRanges", laid_unicode_utf8_acceptRanges), ("unicode/utf8.first", laid_unicode_utf8_first)] }
def LinkDefsSaid : Prop := linkDefsRow.holds Tryz.pinned (OpenSpec.ofChange linkDefsSpec)

/-- ITS FALSE NEIGHBOUR: 'it returns false'. Refute it at one input. -/
def linkDefsWrong : ChangeSpec := { name := "linkDefs", fn := fun _ => fun
  | [d] => { results := [.lit (.bool false)], args := [d] }
  | _ => none }
def LinkDefsWrongFalsely : Prop := linkDefsRow.holds Tryz.pinned (OpenSpec.ofChange linkDefsWrong)

/-- 'publisherlaw08.LinkLines': WHATEVER THE INPUT: true; the input reads as it did. -/
def linkLinesSpec : ChangeSpec := { name := "linkLines", fn := fun _ => fun
  | [d1, d2, d3] => { results := [.lit (.bool true)], args := [d1, d2, d3] }
  | _ => none }
def linkLinesRow : OpenClaim := { program := "ythfienjmigidbaagreatdoor", sum := "9d11408223af20a7a44cae31fd3bccd015f23a97cd95fe659d667841f698df9e", func := "publisher/publisherlaw08.LinkLines", spec := "linkLines", inPlace := ["internal/abi.NoEscape", "internal/bytealg.IndexByteString", "internal/bytealg.IndexString"], unfollowed := true, recurses := true, named := ["internal/bytealg.MaxLen", "unicode/utf8.first", "unicode/utf8.acceptRanges"], apart := false, laid := [("unicode/utf8.acceptRanges", laid_unicode_utf8_acceptRanges), ("unicode/utf8.first", laid_unicode_utf8_first)] }
def LinkLinesSaid : Prop := linkLinesRow.holds Tryz.pinned (OpenSpec.ofChange linkLinesSpec)

/-- ITS FALSE NEIGHBOUR: 'it returns false'. Refute it at one input. -/
def linkLinesWrong : ChangeSpec := { name := "linkLines", fn := fun _ => fun
  | [d1, d2, d3] => { results := [.lit (.bool false)], args := [d1, d2, d3] }
  | _ => none }
def LinkLinesWrongFalsely : Prop := linkLinesRow.holds Tryz.pinned (OpenSpec.ofChange linkLinesWrong)

/- THE SECOND FORM. 'bulk': how many values and letters a reading holds, each counted each time it is reached (what is shared counts as often as it is met; a slice's spare places count too). A statement '..UptoSaid' is the law's where the arguments, and the package variables that the reading takes, are together of bulk at most 1048576: NARROWER than '..Said'. Prove '..Said' where nothing that the law and all that it calls make is longer than what came in: it says more and counts as full. Else prove '..UptoSaid'. A law counts once. -/
mutual
def uptoBulk {H : Type} : DataW H → Nat
  | .lit (.string bytes) => bytes.length + 1
  | .lit _ => 1
  | .nil => 1
  | .ptr d => uptoBulk d + 1
  | .slice elems spare => uptoBulkAll elems + uptoBulkAll spare + 1
  | .agg parts => uptoBulkAll parts + 1
  | .iface _ d => uptoBulk d + 1
  | .map entries => uptoBulkEntries entries + 1
  | .held _ => 1
def uptoBulkAll {H : Type} : List (DataW H) → Nat
  | [] => 0
  | d :: r => uptoBulk d + uptoBulkAll r
def uptoBulkEntries {H : Type} : List (Lit × DataW H) → Nat
  | [] => 0
  | x :: r => uptoBulkEntry x + uptoBulkEntries r
def uptoBulkEntry {H : Type} : Lit × DataW H → Nat
  | (.string bytes, d) => bytes.length + uptoBulk d + 1
  | (_, d) => uptoBulk d + 1
 end
def uptoSmall : (H : Type) → List (DataW H) → Bool := fun _ ds => decide (uptoBulkAll ds ≤ 1048576)
def OpenSpec.upto (s : _root_.Go.ChangeSpec) : _root_.Go.OpenSpec := { _root_.Go.OpenSpec.ofChange s with cond := some uptoSmall }

/-- 'publisherlaw05.MarkCloses', WHERE WHAT IT READS IS OF BULK AT MOST 1048576: true; the input reads as it did. -/
def markClosesUptoRow : OpenClaim := { program := "ythfienjmigidbaagreatdoor", sum := "9d11408223af20a7a44cae31fd3bccd015f23a97cd95fe659d667841f698df9e", func := "publisher/publisherlaw05.MarkCloses", spec := "markCloses", inPlace := ["internal/bytealg.IndexByteString", "internal/abi.NoEscape", "internal/bytealg.IndexString"], unfollowed := true, recurses := true, named := ["internal/bytealg.MaxLen", "unicode/utf8.first", "unicode/utf8.acceptRanges"], apart := false, laid := [("unicode/utf8.acceptRanges", laid_unicode_utf8_acceptRanges), ("unicode/utf8.first", laid_unicode_utf8_first)], narrowed := true }
def MarkClosesUptoSaid : Prop := markClosesUptoRow.holds Tryz.pinned (OpenSpec.upto markClosesSpec)

/-- 'publisherlaw05.MarkSame', WHERE WHAT IT READS IS OF BULK AT MOST 1048576: true; the input reads as it did. -/
def markSameUptoRow : OpenClaim := { program := "ythfienjmigidbaagreatdoor", sum := "9d11408223af20a7a44cae31fd3bccd015f23a97cd95fe659d667841f698df9e", func := "publisher/publisherlaw05.MarkSame", spec := "markSame", inPlace := ["internal/bytealg.IndexByteString", "internal/abi.NoEscape", "internal/bytealg.IndexString"], unfollowed := true, recurses := true, named := ["internal/bytealg.MaxLen", "unicode/utf8.first", "unicode/utf8.acceptRanges"], apart := false, laid := [("unicode/utf8.acceptRanges", laid_unicode_utf8_acceptRanges), ("unicode/utf8.first", laid_unicode_utf8_first)], narrowed := true }
def MarkSameUptoSaid : Prop := markSameUptoRow.holds Tryz.pinned (OpenSpec.upto markSameSpec)

/-- 'publisherlaw05.MarkFences', WHERE WHAT IT READS IS OF BULK AT MOST 1048576: true; the input reads as it did. -/
def markFencesUptoRow : OpenClaim := { program := "ythfienjmigidbaagreatdoor", sum := "9d11408223af20a7a44cae31fd3bccd015f23a97cd95fe659d667841f698df9e", func := "publisher/publisherlaw05.MarkFences", spec := "markFences", inPlace := ["internal/bytealg.IndexByteString", "internal/abi.NoEscape", "internal/bytealg.IndexString"], unfollowed := true, recurses := true, named := ["internal/bytealg.MaxLen", "unicode/utf8.first", "unicode/utf8.acceptRanges"], apart := false, laid := [("unicode/utf8.acceptRanges", laid_unicode_utf8_acceptRanges), ("unicode/utf8.first", laid_unicode_utf8_first)], narrowed := true }
def MarkFencesUptoSaid : Prop := markFencesUptoRow.holds Tryz.pinned (OpenSpec.upto markFencesSpec)

/-- 'publisherlaw08.LinkDefs', WHERE WHAT IT READS IS OF BULK AT MOST 1048576: true; the input reads as it did. -/
def linkDefsUptoRow : OpenClaim := { program := "ythfienjmigidbaagreatdoor", sum := "9d11408223af20a7a44cae31fd3bccd015f23a97cd95fe659d667841f698df9e", func := "publisher/publisherlaw08.LinkDefs", spec := "linkDefs", inPlace := ["internal/abi.NoEscape", "internal/bytealg.IndexByteString", "internal/bytealg.IndexString"], unfollowed := true, recurses := true, named := ["internal/bytealg.MaxLen", "unicode/utf8.first", "unicode/utf8.acceptRanges"], apart := false, laid := [("unicode/utf8.acceptRanges", laid_unicode_utf8_acceptRanges), ("unicode/utf8.first", laid_unicode_utf8_first)], narrowed := true }
def LinkDefsUptoSaid : Prop := linkDefsUptoRow.holds Tryz.pinned (OpenSpec.upto linkDefsSpec)

/-- 'publisherlaw08.LinkLines', WHERE WHAT IT READS IS OF BULK AT MOST 1048576: true; the input reads as it did. -/
def linkLinesUptoRow : OpenClaim := { program := "ythfienjmigidbaagreatdoor", sum := "9d11408223af20a7a44cae31fd3bccd015f23a97cd95fe659d667841f698df9e", func := "publisher/publisherlaw08.LinkLines", spec := "linkLines", inPlace := ["internal/abi.NoEscape", "internal/bytealg.IndexByteString", "internal/bytealg.IndexString"], unfollowed := true, recurses := true, named := ["internal/bytealg.MaxLen", "unicode/utf8.first", "unicode/utf8.acceptRanges"], apart := false, laid := [("unicode/utf8.acceptRanges", laid_unicode_utf8_acceptRanges), ("unicode/utf8.first", laid_unicode_utf8_first)], narrowed := true }
def LinkLinesUptoSaid : Prop := linkLinesUptoRow.holds Tryz.pinned (OpenSpec.upto linkLinesSpec)

end Rows
end Go.Proofs.YthfienjmigidbaaGreatDoor
