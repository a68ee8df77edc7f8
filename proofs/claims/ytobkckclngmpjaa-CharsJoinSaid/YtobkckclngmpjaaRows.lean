/-
  No cell of these rows narrows 'for every input' (looked for: loops, veiled, ifaces, maps, wideKeys, modest, calm, conditions, laid).
  DERIVED. THE GIVEN ROWS OF THIS SEAT. 8 by the template 'for every input the law returns true; each argument reads behind the call as it read before'; 0 by the template 'total and deterministic' (their statements: YtobkckclngmpjaaTotals.lean).
  GIVEN WITH THE SEED: the statements are not yours to turn. If you find one false, say at which input.
  Laid BY PROGRAM, IN A SANDBOX (cutbox-rows.mjs): the forced cells as the released guide's own fill.sh prints them over the translation ca9a752c28a38347… (all of the seat's roots in one cut). By AI agents, Wed Nov 11 2026. No macro, syntax, notation, axiom, sorry.
-/
import Derived.Test.YtobkckclngmpjaaChecked
import GoSem.Claim
import GoSem.ClaimJoined
import GoSem.ClaimMapViews
import Derived.JoinedTies
import Derived.KernelRfl
namespace Go.Proofs.Ytobkckclngmpjaa
/- THE CELL 'sum', in the pinned program and in every row, IS THE sha256 OF THE DUMP (.gsa) THAT YtobkckclngmpjaaProg.lean LOADS. Nothing in Lean hashes anything: it is a label: what it is worth is what the hold of that sum in a sandbox is worth. -/
noncomputable def Try.pinned : Pinned := { name := "ytobkckclngmpjaa", sum := "ca9a752c28a38347e12a23d9f898e479106e813abd9d4b69c0c5a0aa52f8df87", checked := Try.checked }
namespace Rows
def none {H : Type} : Left H := { results := [], args := [] }

/-- 'publisherlaw01.CharsNext': WHATEVER THE INPUT: true; the input reads as it did. -/
def charsNextSpec : ChangeSpec := { name := "charsNext", fn := fun _ => fun
  | [d1, d2] => { results := [.lit (.bool true)], args := [d1, d2] }
  | _ => none }
def charsNextRow : OpenClaim := { program := "ytobkckclngmpjaa", sum := "ca9a752c28a38347e12a23d9f898e479106e813abd9d4b69c0c5a0aa52f8df87", func := "publisher/publisherlaw01.CharsNext", spec := "charsNext", inPlace := ["internal/abi.NoEscape"], apart := false }
def CharsNextSaid : Prop := charsNextRow.holds Try.pinned (OpenSpec.ofChange charsNextSpec)

/-- ITS FALSE NEIGHBOUR: 'it returns false'. Refute it at one input. -/
def charsNextWrong : ChangeSpec := { name := "charsNext", fn := fun _ => fun
  | [d1, d2] => { results := [.lit (.bool false)], args := [d1, d2] }
  | _ => none }
def CharsNextWrongFalsely : Prop := charsNextRow.holds Try.pinned (OpenSpec.ofChange charsNextWrong)

/-- 'publisherlaw01.CharsAppend': WHATEVER THE INPUT: true; the input reads as it did. -/
def charsAppendSpec : ChangeSpec := { name := "charsAppend", fn := fun _ => fun
  | [d1, d2] => { results := [.lit (.bool true)], args := [d1, d2] }
  | _ => none }
def charsAppendRow : OpenClaim := { program := "ytobkckclngmpjaa", sum := "ca9a752c28a38347e12a23d9f898e479106e813abd9d4b69c0c5a0aa52f8df87", func := "publisher/publisherlaw01.CharsAppend", spec := "charsAppend", inPlace := ["internal/abi.NoEscape"], recurses := true, apart := false }
def CharsAppendSaid : Prop := charsAppendRow.holds Try.pinned (OpenSpec.ofChange charsAppendSpec)

/-- ITS FALSE NEIGHBOUR: 'it returns false'. Refute it at one input. -/
def charsAppendWrong : ChangeSpec := { name := "charsAppend", fn := fun _ => fun
  | [d1, d2] => { results := [.lit (.bool false)], args := [d1, d2] }
  | _ => none }
def CharsAppendWrongFalsely : Prop := charsAppendRow.holds Try.pinned (OpenSpec.ofChange charsAppendWrong)

/-- 'publisherlaw01.CharsClasses': WHATEVER THE INPUT: true; the input reads as it did. -/
def charsClassesSpec : ChangeSpec := { name := "charsClasses", fn := fun _ => fun
  | [d] => { results := [.lit (.bool true)], args := [d] }
  | _ => none }
def charsClassesRow : OpenClaim := { program := "ytobkckclngmpjaa", sum := "ca9a752c28a38347e12a23d9f898e479106e813abd9d4b69c0c5a0aa52f8df87", func := "publisher/publisherlaw01.CharsClasses", spec := "charsClasses", inPlace := ["internal/abi.NoEscape"], apart := false }
def CharsClassesSaid : Prop := charsClassesRow.holds Try.pinned (OpenSpec.ofChange charsClassesSpec)

/-- ITS FALSE NEIGHBOUR: 'it returns false'. Refute it at one input. -/
def charsClassesWrong : ChangeSpec := { name := "charsClasses", fn := fun _ => fun
  | [d] => { results := [.lit (.bool false)], args := [d] }
  | _ => none }
def CharsClassesWrongFalsely : Prop := charsClassesRow.holds Try.pinned (OpenSpec.ofChange charsClassesWrong)

/-- 'publisherlaw01.CharsClean': WHATEVER THE INPUT: true; the input reads as it did. -/
def charsCleanSpec : ChangeSpec := { name := "charsClean", fn := fun _ => fun
  | [d] => { results := [.lit (.bool true)], args := [d] }
  | _ => none }
def charsCleanRow : OpenClaim := { program := "ytobkckclngmpjaa", sum := "ca9a752c28a38347e12a23d9f898e479106e813abd9d4b69c0c5a0aa52f8df87", func := "publisher/publisherlaw01.CharsClean", spec := "charsClean", inPlace := ["internal/abi.NoEscape"], recurses := true, apart := false }
def CharsCleanSaid : Prop := charsCleanRow.holds Try.pinned (OpenSpec.ofChange charsCleanSpec)

/-- ITS FALSE NEIGHBOUR: 'it returns false'. Refute it at one input. -/
def charsCleanWrong : ChangeSpec := { name := "charsClean", fn := fun _ => fun
  | [d] => { results := [.lit (.bool false)], args := [d] }
  | _ => none }
def CharsCleanWrongFalsely : Prop := charsCleanRow.holds Try.pinned (OpenSpec.ofChange charsCleanWrong)

/-- 'publisherlaw01.CharsFold': WHATEVER THE INPUT: true; the input reads as it did. -/
def charsFoldSpec : ChangeSpec := { name := "charsFold", fn := fun _ => fun
  | [d] => { results := [.lit (.bool true)], args := [d] }
  | _ => none }
def charsFoldRow : OpenClaim := { program := "ytobkckclngmpjaa", sum := "ca9a752c28a38347e12a23d9f898e479106e813abd9d4b69c0c5a0aa52f8df87", func := "publisher/publisherlaw01.CharsFold", spec := "charsFold", inPlace := ["internal/abi.NoEscape"], recurses := true, apart := false }
def CharsFoldSaid : Prop := charsFoldRow.holds Try.pinned (OpenSpec.ofChange charsFoldSpec)

/-- ITS FALSE NEIGHBOUR: 'it returns false'. Refute it at one input. -/
def charsFoldWrong : ChangeSpec := { name := "charsFold", fn := fun _ => fun
  | [d] => { results := [.lit (.bool false)], args := [d] }
  | _ => none }
def CharsFoldWrongFalsely : Prop := charsFoldRow.holds Try.pinned (OpenSpec.ofChange charsFoldWrong)

/-- 'publisherlaw01.CharsSteps': WHATEVER THE INPUT: true; the input reads as it did. -/
def charsStepsSpec : ChangeSpec := { name := "charsSteps", fn := fun _ => fun
  | [d] => { results := [.lit (.bool true)], args := [d] }
  | _ => none }
def charsStepsRow : OpenClaim := { program := "ytobkckclngmpjaa", sum := "ca9a752c28a38347e12a23d9f898e479106e813abd9d4b69c0c5a0aa52f8df87", func := "publisher/publisherlaw01.CharsSteps", spec := "charsSteps", inPlace := ["internal/abi.NoEscape"], apart := false }
def CharsStepsSaid : Prop := charsStepsRow.holds Try.pinned (OpenSpec.ofChange charsStepsSpec)

/-- ITS FALSE NEIGHBOUR: 'it returns false'. Refute it at one input. -/
def charsStepsWrong : ChangeSpec := { name := "charsSteps", fn := fun _ => fun
  | [d] => { results := [.lit (.bool false)], args := [d] }
  | _ => none }
def CharsStepsWrongFalsely : Prop := charsStepsRow.holds Try.pinned (OpenSpec.ofChange charsStepsWrong)

/-- 'publisherlaw01.CharsOnce': WHATEVER THE INPUT: true; the input reads as it did. -/
def charsOnceSpec : ChangeSpec := { name := "charsOnce", fn := fun _ => fun
  | [d] => { results := [.lit (.bool true)], args := [d] }
  | _ => none }
def charsOnceRow : OpenClaim := { program := "ytobkckclngmpjaa", sum := "ca9a752c28a38347e12a23d9f898e479106e813abd9d4b69c0c5a0aa52f8df87", func := "publisher/publisherlaw01.CharsOnce", spec := "charsOnce", inPlace := ["internal/abi.NoEscape"], apart := false }
def CharsOnceSaid : Prop := charsOnceRow.holds Try.pinned (OpenSpec.ofChange charsOnceSpec)

/-- ITS FALSE NEIGHBOUR: 'it returns false'. Refute it at one input. -/
def charsOnceWrong : ChangeSpec := { name := "charsOnce", fn := fun _ => fun
  | [d] => { results := [.lit (.bool false)], args := [d] }
  | _ => none }
def CharsOnceWrongFalsely : Prop := charsOnceRow.holds Try.pinned (OpenSpec.ofChange charsOnceWrong)

/-- 'publisherlaw01.CharsJoin': WHATEVER THE INPUT: true; the input reads as it did. -/
def charsJoinSpec : ChangeSpec := { name := "charsJoin", fn := fun _ => fun
  | [d1, d2] => { results := [.lit (.bool true)], args := [d1, d2] }
  | _ => none }
def charsJoinRow : OpenClaim := { program := "ytobkckclngmpjaa", sum := "ca9a752c28a38347e12a23d9f898e479106e813abd9d4b69c0c5a0aa52f8df87", func := "publisher/publisherlaw01.CharsJoin", spec := "charsJoin", inPlace := ["internal/abi.NoEscape"], apart := false }
def CharsJoinSaid : Prop := charsJoinRow.holds Try.pinned (OpenSpec.ofChange charsJoinSpec)

/-- ITS FALSE NEIGHBOUR: 'it returns false'. Refute it at one input. -/
def charsJoinWrong : ChangeSpec := { name := "charsJoin", fn := fun _ => fun
  | [d1, d2] => { results := [.lit (.bool false)], args := [d1, d2] }
  | _ => none }
def CharsJoinWrongFalsely : Prop := charsJoinRow.holds Try.pinned (OpenSpec.ofChange charsJoinWrong)

/- THE SECOND FORM. 'bulk': how many values and letters a reading holds, each counted each time it is reached (what is shared counts as often as it is met; a slice's spare places count too). A statement '..UptoSaid' is the law's where the arguments, and the package variables that the reading takes, are together of bulk at most 1048576: NARROWER than '..Said'. Prove '..Said' where nothing that the law and all that it calls make is longer than what came in: it says more and counts as full. Else prove '..UptoSaid'. A law counts once. -/
mutual
def uptoBulk {H : Type} : DataW H → Nat
  | .lit (.string bytes) => bytes.length + 1
  | .lit _ => 1
  | .nil => 1
  | .ptr d => uptoBulk d + 1
  | .slice elems spare => uptoBulkAll elems + uptoBulkAll spare + 1
  | .agg parts => uptoBulkAll parts + 1
  | .iface _ d => uptoBulk d + 1
  | .map entries => uptoBulkEntries entries + 1
  | .held _ => 1
def uptoBulkAll {H : Type} : List (DataW H) → Nat
  | [] => 0
  | d :: r => uptoBulk d + uptoBulkAll r
def uptoBulkEntries {H : Type} : List (Lit × DataW H) → Nat
  | [] => 0
  | x :: r => uptoBulkEntry x + uptoBulkEntries r
def uptoBulkEntry {H : Type} : Lit × DataW H → Nat
  | (.string bytes, d) => bytes.length + uptoBulk d + 1
  | (_, d) => uptoBulk d + 1
 end
def uptoSmall : (H : Type) → List (DataW H) → Bool := fun _ ds => decide (uptoBulkAll ds ≤ 1048576)
def OpenSpec.upto (s : _root_.Go.ChangeSpec) : _root_.Go.OpenSpec := { _root_.Go.OpenSpec.ofChange s with cond := some uptoSmall }

/-- 'publisherlaw01.CharsNext', WHERE WHAT IT READS IS OF BULK AT MOST 1048576: true; the input reads as it did. -/
def charsNextUptoRow : OpenClaim := { program := "ytobkckclngmpjaa", sum := "ca9a752c28a38347e12a23d9f898e479106e813abd9d4b69c0c5a0aa52f8df87", func := "publisher/publisherlaw01.CharsNext", spec := "charsNext", inPlace := ["internal/abi.NoEscape"], apart := false, narrowed := true }
def CharsNextUptoSaid : Prop := charsNextUptoRow.holds Try.pinned (OpenSpec.upto charsNextSpec)

/-- 'publisherlaw01.CharsAppend', WHERE WHAT IT READS IS OF BULK AT MOST 1048576: true; the input reads as it did. -/
def charsAppendUptoRow : OpenClaim := { program := "ytobkckclngmpjaa", sum := "ca9a752c28a38347e12a23d9f898e479106e813abd9d4b69c0c5a0aa52f8df87", func := "publisher/publisherlaw01.CharsAppend", spec := "charsAppend", inPlace := ["internal/abi.NoEscape"], recurses := true, apart := false, narrowed := true }
def CharsAppendUptoSaid : Prop := charsAppendUptoRow.holds Try.pinned (OpenSpec.upto charsAppendSpec)

/-- 'publisherlaw01.CharsClasses', WHERE WHAT IT READS IS OF BULK AT MOST 1048576: true; the input reads as it did. -/
def charsClassesUptoRow : OpenClaim := { program := "ytobkckclngmpjaa", sum := "ca9a752c28a38347e12a23d9f898e479106e813abd9d4b69c0c5a0aa52f8df87", func := "publisher/publisherlaw01.CharsClasses", spec := "charsClasses", inPlace := ["internal/abi.NoEscape"], apart := false, narrowed := true }
def CharsClassesUptoSaid : Prop := charsClassesUptoRow.holds Try.pinned (OpenSpec.upto charsClassesSpec)

/-- 'publisherlaw01.CharsClean', WHERE WHAT IT READS IS OF BULK AT MOST 1048576: true; the input reads as it did. -/
def charsCleanUptoRow : OpenClaim := { program := "ytobkckclngmpjaa", sum := "ca9a752c28a38347e12a23d9f898e479106e813abd9d4b69c0c5a0aa52f8df87", func := "publisher/publisherlaw01.CharsClean", spec := "charsClean", inPlace := ["internal/abi.NoEscape"], recurses := true, apart := false, narrowed := true }
def CharsCleanUptoSaid : Prop := charsCleanUptoRow.holds Try.pinned (OpenSpec.upto charsCleanSpec)

/-- 'publisherlaw01.CharsFold', WHERE WHAT IT READS IS OF BULK AT MOST 1048576: true; the input reads as it did. -/
def charsFoldUptoRow : OpenClaim := { program := "ytobkckclngmpjaa", sum := "ca9a752c28a38347e12a23d9f898e479106e813abd9d4b69c0c5a0aa52f8df87", func := "publisher/publisherlaw01.CharsFold", spec := "charsFold", inPlace := ["internal/abi.NoEscape"], recurses := true, apart := false, narrowed := true }
def CharsFoldUptoSaid : Prop := charsFoldUptoRow.holds Try.pinned (OpenSpec.upto charsFoldSpec)

/-- 'publisherlaw01.CharsSteps', WHERE WHAT IT READS IS OF BULK AT MOST 1048576: true; the input reads as it did. -/
def charsStepsUptoRow : OpenClaim := { program := "ytobkckclngmpjaa", sum := "ca9a752c28a38347e12a23d9f898e479106e813abd9d4b69c0c5a0aa52f8df87", func := "publisher/publisherlaw01.CharsSteps", spec := "charsSteps", inPlace := ["internal/abi.NoEscape"], apart := false, narrowed := true }
def CharsStepsUptoSaid : Prop := charsStepsUptoRow.holds Try.pinned (OpenSpec.upto charsStepsSpec)

/-- 'publisherlaw01.CharsOnce', WHERE WHAT IT READS IS OF BULK AT MOST 1048576: true; the input reads as it did. -/
def charsOnceUptoRow : OpenClaim := { program := "ytobkckclngmpjaa", sum := "ca9a752c28a38347e12a23d9f898e479106e813abd9d4b69c0c5a0aa52f8df87", func := "publisher/publisherlaw01.CharsOnce", spec := "charsOnce", inPlace := ["internal/abi.NoEscape"], apart := false, narrowed := true }
def CharsOnceUptoSaid : Prop := charsOnceUptoRow.holds Try.pinned (OpenSpec.upto charsOnceSpec)

/-- 'publisherlaw01.CharsJoin', WHERE WHAT IT READS IS OF BULK AT MOST 1048576: true; the input reads as it did. -/
def charsJoinUptoRow : OpenClaim := { program := "ytobkckclngmpjaa", sum := "ca9a752c28a38347e12a23d9f898e479106e813abd9d4b69c0c5a0aa52f8df87", func := "publisher/publisherlaw01.CharsJoin", spec := "charsJoin", inPlace := ["internal/abi.NoEscape"], apart := false, narrowed := true }
def CharsJoinUptoSaid : Prop := charsJoinUptoRow.holds Try.pinned (OpenSpec.upto charsJoinSpec)

end Rows
end Go.Proofs.Ytobkckclngmpjaa
