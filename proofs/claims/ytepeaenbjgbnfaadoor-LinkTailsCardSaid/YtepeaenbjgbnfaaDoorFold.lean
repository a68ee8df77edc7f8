/-
  What Clean and Fold make of the code points of a text: plain.
-/
import Derived.Test.YtepeaenbjgbnfaaDoorPts
import Derived.Test.YtepeaenbjgbnfaaDoorEnc
set_option linter.unusedVariables false
namespace Go.Pub
def spaceB (c : Int) : Bool := c == 32 || c == 10
def uncleanB (c : Int) : Bool := (decide (c < 32) && c != 10) || c == 127
def lowerZ (c : Int) : Int :=
  if (65 ≤ c ∧ c ≤ 90) ∨ (192 ≤ c ∧ c ≤ 222 ∧ c ≠ 215) ∨ (913 ≤ c ∧ c ≤ 939 ∧ c ≠ 930) ∨ (1040 ≤ c ∧ c ≤ 1071) then c + 32 else if 1024 ≤ c ∧ c ≤ 1039 then c + 80 else c
theorem lowerZ_bd (c : Int) (h0 : 0 ≤ c) (h : c ≤ 1114111) : 0 ≤ lowerZ c ∧ lowerZ c ≤ 1114111 := by unfold lowerZ; (repeat' split) <;> omega

/-- The piece that Clean writes for a code point, if next says whether a line feed follows. -/
def cleanPiece (c : Nat) (next : Bool) : List UInt8 :=
  if c = 13 then (if next then [] else [10]) else if c = 9 then [32, 32, 32, 32] else if uncleanB c then encL 65533 else encL c
def headLF : List (Nat × Nat) → Bool
  | [] => false
  | p :: _ => p.1 == 10
def cleanP : List (Nat × Nat) → List UInt8
  | [] => []
  | p :: l => cleanPiece p.1 (headLF l) ++ cleanP l
theorem cleanPiece_length (c : Nat) (b : Bool) : (cleanPiece c b).length ≤ 4 := by
  unfold cleanPiece
  have h1 := encL_length 65533
  have h2 := encL_length c
  (repeat' split) <;> first | (simp; done) | omega
def cleanL (s : ByteArray) : List UInt8 := cleanP (pts s)

/-- Whether the byte at a place is a line feed is whether the code point there is one. -/
theorem lf_at (s : ByteArray) (i : Nat) (h : i < s.size) : ((Utf8.decode s i).1 == 10) = (bt s i == 10) := by
  by_cases h0 : bt s i < 128
  · rw [dec_one s i h0]
  · have h1 : ((Utf8.decode s i).1 == 10) = false := by
      have hb := bt_lt s i
      have g1 := bt_lt s (i + 1)
      rw [Lib.decode_at]
      show ((Lib.decodeN _ (bt s i) (bt s (i + 1)) (bt s (i + 2)) (bt s (i + 3))).1 == 10) = false
      unfold Lib.decodeN
      (repeat' split) <;> (simp; try omega)
    rw [h1]; symm; simp; omega
theorem headLF_from (s : ByteArray) (f pos : Nat) (hf : s.size ≤ pos + f) : headLF (ptsFrom s f pos) = (decide (pos < s.size) && bt s pos == 10) := by
  by_cases h : pos < s.size
  · rw [ptsFrom_step s f pos h hf]; simp [headLF, h]; have := lf_at s pos h; simpa using this
  · rw [ptsFrom_end s f pos h]; simp [headLF, h]

/-- Fold's state: whether white space is pending, and what is written. -/
def foldP (gap : Bool) (acc : List UInt8) : List (Nat × Nat) → List UInt8
  | [] => acc
  | p :: l => if spaceB p.1 then foldP true acc l else foldP false (acc ++ ((if gap && !acc.isEmpty then [32] else []) ++ encL (lowerZ p.1))) l
def foldL (s : ByteArray) : List UInt8 := foldP false [] (pts s)
end Go.Pub
