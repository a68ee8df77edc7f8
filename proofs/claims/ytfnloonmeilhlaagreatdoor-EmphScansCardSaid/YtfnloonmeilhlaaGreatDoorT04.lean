/-
  Texts of the proof, put together (what this law reaches): Base, PureC, Strs, AttrC.
-/
import Derived.Test.YtfnloonmeilhlaaGreatDoorT03
import Derived.Test.YtfnloonmeilhlaaGreatDoorT01
import Derived.WalkKit
import Derived.Lib.Strings
import Derived.Lib.SlicesS
import Derived.Test.YtfnloonmeilhlaaGreatDoorT02
import Derived.SliceStrings
import Derived.Lib.Builder
import Derived.Lib.FrozenHead
import Derived.Test.YtfnloonmeilhlaaGreatDoorRows
import Derived.WalkSpells
import Derived.WalkLawsBesides
import Derived.Deep.QuietTactic
import Derived.BigQuiet
import Derived.Lib.Hide
import Derived.Laws.BytesArg
import Derived.Lib.UnsafeStr
set_option linter.unusedVariables false
set_option linter.unusedSimpArgs false
namespace Go.Pub
open Go.RowKit
def mk (l : List UInt8) : ByteArray := ⟨l.toArray⟩
theorem bytesL_mk' (l : List UInt8) : bytesL (mk l) = l := bytesL_of l
theorem mk_bytesL (s : ByteArray) : mk (bytesL s) = s := (bytesL_mk s).symm
theorem mk_size (l : List UInt8) : (mk l).size = l.length := by rw [← bytesL_length, bytesL_mk']
/-- The rest of a string from a byte on. -/
def sfx (s : ByteArray) (k : Nat) : List UInt8 := (bytesL s).drop k
/-- The bytes from i up to k. -/
def sub (s : ByteArray) (i k : Nat) : List UInt8 := ((bytesL s).drop i).take (k - i)
theorem sfx_cons (s : ByteArray) (k : Nat) (h : k < s.size) : sfx s k = s.get! k :: sfx s (k + 1) := by
  unfold sfx bytesL
  have h' : k < s.data.toList.length := by rw [Array.length_toList]; exact h
  rw [List.drop_eq_getElem_cons h']
  congr 1
  show _ = s.data[k]!
  rw [getElem!_pos s.data k h]
  simp
theorem sfx_nil (s : ByteArray) (k : Nat) (h : s.size ≤ k) : sfx s k = [] := by
  unfold sfx; exact List.drop_of_length_le (by rw [bytesL_length]; exact h)
theorem sfx_len (s : ByteArray) (k : Nat) : (sfx s k).length = s.size - k := by unfold sfx; rw [List.length_drop, bytesL_length]
theorem bytesL_sub (s : ByteArray) (i k : Nat) : bytesL (s.extract i k) = sub s i k := by
  unfold sub bytesL
  rw [ByteArray.data_extract, Array.toList_extract, List.extract_eq_take_drop]
theorem sfx_head {s : ByteArray} {i : Nat} {b : UInt8} {r : List UInt8} (h : sfx s i = b :: r) : i < s.size ∧ bt s i = b.toNat ∧ sfx s (i + 1) = r := by
  have hl : i < s.size := by
    have := congrArg List.length h
    rw [sfx_len, List.length_cons] at this
    omega
  rw [sfx_cons s i hl] at h
  injection h with h1 h2
  exact ⟨hl, by rw [← h1]; rfl, h2⟩
theorem nil_list (s : ByteArray) (h : bytesL s = []) : s.toList = [] ∧ s.toList.isEmpty = true := by
  have e : s = ⟨#[]⟩ := by rw [← mk_bytesL s, h]; rfl
  subst e
  exact ⟨by rw [Lib.toList_data], by rw [Lib.toList_data]; rfl⟩
theorem cons_list (s : ByteArray) (h : bytesL s ≠ []) : s.toList ≠ [] ∧ s.toList.isEmpty = false := by
  have e : s.toList = bytesL s := Lib.toList_data s
  rw [e]
  refine ⟨h, ?_⟩
  cases hb : bytesL s with
  | nil => exact absurd hb h
  | cons a l => rfl
end Go.Pub
namespace Go.Pub
open Go.Proofs.YtfnloonmeilhlaaGreatDoor
/-- The code points that Fold writes, if a gap is pending and something has been written. -/
def low (c : Nat) : Nat := (lowerZ c).toNat
theorem dec_ascii_head (x : UInt8) (b : List UInt8) (hx : x.toNat < 128) : decL (x :: b) = (x.toNat, 1) := by
  unfold decL Lib.decodeN
  have : atL (x :: b) 0 = x.toNat := rfl
  rw [this, if_pos hx]
end Go.Pub
namespace Go.Pub
open Go.RowKit
def strs (l : List ByteArray) : List Value := l.map Value.string
end Go.Pub
namespace Go.Pub
structure AttrL where
  id : ByteArray
  cl : List ByteArray
  pr : List (ByteArray × ByteArray)
def prs (l : List (ByteArray × ByteArray)) : List Value := l.flatMap fun p => [.string p.1, .string p.2]
end Go.Pub
namespace Go.Proofs.YtfnloonmeilhlaaGreatDoor
open Go.RowKit Go.Pub
end Go.Proofs.YtfnloonmeilhlaaGreatDoor
