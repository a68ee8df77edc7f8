/-
  chars.Clean.
-/
import Derived.Test.YtepeaenbjgbnfaaDoorCharsB
import Derived.Test.YtepeaenbjgbnfaaDoorBuild
import Derived.Test.YtepeaenbjgbnfaaDoorFold
set_option linter.unusedVariables false
set_option linter.unusedSimpArgs false
namespace Go.Proofs.YtepeaenbjgbnfaaDoor
open Go.RowKit Go.Pub

theorem cells_enc (r : Int) : Lib.runeCells r = Lib.byteCells (encL r) := by rw [← Lib.byteCells_encodeRune, encodeRune_eq]

end Go.Proofs.YtepeaenbjgbnfaaDoor