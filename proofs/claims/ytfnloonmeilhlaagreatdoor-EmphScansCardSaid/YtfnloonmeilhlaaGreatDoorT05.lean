/-
  Texts of the proof, put together (what this law reaches): Cit.
-/
import Derived.Test.YtfnloonmeilhlaaGreatDoorT04
set_option linter.unusedVariables false
set_option linter.unusedSimpArgs false
namespace Go.Pub
/-- A part of a citation. -/
structure CitL where
  key : ByteArray
  pre : ByteArray
  suf : ByteArray
  bare : Bool
end Go.Pub
