/-
  Texts of the proof, put together (what this law reaches): Any, TabC, TabJ, NsA.
-/
import Derived.Test.YtfnloonmeilhlaaGreatDoorT04
import Derived.Test.YtfnloonmeilhlaaGreatDoorT02
import Derived.Test.YtfnloonmeilhlaaGreatDoorT21
import Derived.Test.YtfnloonmeilhlaaGreatDoorT03
import Derived.Lib.IndexAny
import Derived.Test.YtfnloonmeilhlaaGreatDoorT08
import Derived.Maps.AppendAt
import Derived.Laws.OwnMore
import Derived.Lib.TrimByte
import Derived.Deep.CutRange
import Derived.Deep.DeepCutAuto
import Derived.Laws.CopyOwn
import Derived.Laws.MakeOwn
import Derived.Deep.QuietTactic
import Derived.BigQuiet
import Derived.Test.YtfnloonmeilhlaaGreatDoorT23
import Derived.Test.YtfnloonmeilhlaaGreatDoorT10
import Derived.Laws.EntriesVeiled
import Derived.Test.YtfnloonmeilhlaaGreatDoorT24
import Derived.Test.YtfnloonmeilhlaaGreatDoorT22
import Derived.Maps.Own
import Derived.Laws.StructEq
import Derived.Outline
set_option linter.unusedVariables false
set_option linter.unusedSimpArgs false
namespace Go.Pub
end Go.Pub
namespace Go.Proofs.YtfnloonmeilhlaaGreatDoor
open Go.RowKit Go.Pub
theorem quietLeft {P : Program} {f : FuncId} {args : Array Value} {w : World} {n : Nat} {v : Value}
    (h : Calls P f args (w.drewN n) fun e w' => e = .returned v ∧ w.drewN n = w') : Calls P f args (w.drewN n) fun e w'' => e = .returned v ∧ ∃ m, w'' = w.drewN m :=
  h.mono fun _ _ ⟨he, hm⟩ => ⟨he, n, hm.symm⟩
def IdxPost (b : Bool) (w : World) (e : Ending) (w' : World) : Prop := ∃ n : Int, e = .returned (.int .i64 n) ∧ (0 ≤ n ↔ b = true) ∧ Below w.heap.size w w'
end Go.Proofs.YtfnloonmeilhlaaGreatDoor
namespace Go.Pub
open Go.RowKit
end Go.Pub
namespace Go.Proofs.YtfnloonmeilhlaaGreatDoor
open Go.RowKit Go.Pub Go.Shelf
attribute [local go_sem] Oper.semAt_some
end Go.Proofs.YtfnloonmeilhlaaGreatDoor
namespace Go.Pub
open Go.RowKit
end Go.Pub
namespace Go.Proofs.YtfnloonmeilhlaaGreatDoor
open Go.RowKit Go.Pub Go.Shelf
attribute [local go_sem] Oper.semAt_some
end Go.Proofs.YtfnloonmeilhlaaGreatDoor
namespace Go.Proofs.YtfnloonmeilhlaaGreatDoor
open Go.RowKit Go.Pub
/-- A block: its line is a source text. -/
inductive BkT where
  | mk (kind level : Nat) (info text dest title : ByteArray) (att : AttrL) (line : ByteArray) (kids : List BkT)
end Go.Proofs.YtfnloonmeilhlaaGreatDoor
