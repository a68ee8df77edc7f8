/-
  Texts of the proof, put together: LinkG.
-/
import Derived.Test.YthfienjmigidbaaDoorB19
set_option linter.unusedVariables false
set_option linter.unusedSimpArgs false
namespace Go.Proofs.YthfienjmigidbaaDoor
open Go.RowKit Go.Pub

def tlVal : Option Tl → Value
  | none => .tuple #[.string ⟨#[]⟩, .string ⟨#[]⟩, .string ⟨#[]⟩, .int .i64 0, .bool false]
  | some r => .tuple #[.string (mk r.d), .string (mk r.t), .string (mk r.l), .int .i64 r.n, .bool true]
def TailPost (r : Option Tl) (w : World) (e : Ending) (w' : World) : Prop := e = .returned (tlVal r) ∧ Below w.heap.size w w'

end Go.Proofs.YthfienjmigidbaaDoor
