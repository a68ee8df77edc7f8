/-
  chars.sequence, Append, Count, Valid.
-/
import Derived.Test.YtepeaenbjgbnfaaDoorCharsA
import Derived.Lib.RuneBytes
set_option linter.unusedVariables false
set_option linter.unusedSimpArgs false
namespace Go.Proofs.YtepeaenbjgbnfaaDoor
open Go.RowKit Go.Pub

theorem encode_bad (c : Int) (h : c < 0 ∨ 1114111 < c ∨ (55296 ≤ c ∧ c ≤ 57343)) : Utf8.encode c = Utf8.encode 65533 := by
  have hv : Utf8.valid c = false := by unfold Utf8.valid; simp; omega
  have hv' : Utf8.valid 65533 = true := by decide
  unfold Utf8.encode
  simp only [hv, hv', Bool.false_eq_true, if_false, if_true, Utf8.runeError, show (65533 : Int).toNat = 65533 from rfl]

theorem encode_size (c : Int) : 1 ≤ (Utf8.encode c).size ∧ (Utf8.encode c).size ≤ 4 := by
  unfold Utf8.encode
  simp only []
  generalize (if Utf8.valid c = true then c.toNat else Utf8.runeError) = x
  (repeat' split) <;> simp [ByteArray.size]


/-- A code point that clean text can have. -/
def okPt (p : Nat × Nat) : Bool := !(p.1 == 65533 && p.2 == 1) && !uncleanB p.1
def validB (s : ByteArray) : Bool := (pts s).all okPt

end Go.Proofs.YtepeaenbjgbnfaaDoor