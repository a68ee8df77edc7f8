/-
  Texts of the proof, put together (what this law reaches): MkF, MkH, MkI, MkK.
-/
import Derived.Test.YtfnloonmeilhlaaGreatDoorT22
import Derived.Outline
import Derived.Test.YtfnloonmeilhlaaGreatDoorT08
import Derived.Test.YtfnloonmeilhlaaGreatDoorT02
import Derived.Test.YtfnloonmeilhlaaGreatDoorRows
import Derived.Test.YtfnloonmeilhlaaGreatDoorT01
import Derived.WalkKit
import Derived.WalkSpells
import Derived.WalkLawsBesides
import Derived.Deep.QuietTactic
import Derived.BigQuiet
import Derived.Lib.Hide
import Derived.Test.YtfnloonmeilhlaaGreatDoorT03
import Derived.Laws.BytesArg
import Derived.Lib.UnsafeStr
import Derived.Test.YtfnloonmeilhlaaGreatDoorT04
import Derived.Test.YtfnloonmeilhlaaGreatDoorT21
import Derived.Deep.RegionHeld3
import Derived.StillTailTactics
import Derived.Test.YtfnloonmeilhlaaGreatDoorT10
import Derived.StillTail
import Derived.Deep.CutRange
import Derived.Deep.DeepCutAuto
import Derived.IntWalk
set_option linter.unusedVariables false
set_option linter.unusedSimpArgs false
namespace Go.Pub
open Go Go.RowKit
end Go.Pub
namespace Go.Proofs.YtfnloonmeilhlaaGreatDoor
open Go.RowKit Go.Pub Go.Shelf
attribute [local go_sem] Oper.semAt_some
end Go.Proofs.YtfnloonmeilhlaaGreatDoor
namespace Go.Pub
open Go Go.RowKit
theorem Blk.drew {w : World} {g : Nat} {t : TypeId} {cs : Array Value} (h : Blk w g t cs) : Blk w.drew g t cs := h
end Go.Pub
namespace Go.Proofs.YtfnloonmeilhlaaGreatDoor
open Go.RowKit Go.Pub Go.Shelf
attribute [local go_sem] Oper.semAt_some
end Go.Proofs.YtfnloonmeilhlaaGreatDoor
namespace Go.Proofs.YtfnloonmeilhlaaGreatDoor
open Go.RowKit Go.Pub Go.Shelf
attribute [local go_sem] Oper.semAt_some
end Go.Proofs.YtfnloonmeilhlaaGreatDoor
namespace Go.Proofs.YtfnloonmeilhlaaGreatDoor
open Go.RowKit Go.Pub Go.Shelf
attribute [local go_sem] Oper.semAt_some
end Go.Proofs.YtfnloonmeilhlaaGreatDoor
