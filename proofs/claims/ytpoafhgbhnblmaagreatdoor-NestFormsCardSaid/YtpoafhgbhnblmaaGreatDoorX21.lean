/-
  Texts of the proof, put together (what this law reaches): LinkF.
-/
import Derived.Test.YtpoafhgbhnblmaaGreatDoorX19
set_option linter.unusedVariables false
set_option linter.unusedSimpArgs false
namespace Go.Pub
theorem brk_index (l : List UInt8) : Lib.indexByte l 93 = if brk l < l.length then (brk l : Int) else -1 := by
  induction l with
  | nil => rfl
  | cons b l ih =>
    unfold Lib.indexByte
    by_cases hb : b = 93
    · subst hb
      simp [brk, List.findIdx_cons]
    · have h1 : (b == 93) = false := by simpa using hb
      have h2 : brk (b :: l) = brk l + 1 := by simp [brk, List.findIdx_cons, h1]
      show (if (b == 93) = true then 0 else if (Lib.indexByte l 93 == -1) = true then -1 else Lib.indexByte l 93 + 1) = _
      rw [h1, h2, ih]
      simp only [Bool.false_eq_true, if_false, List.length_cons]
      by_cases hl : brk l < l.length
      · have e1 : (if brk l < l.length then (brk l : Int) else -1) = brk l := if_pos hl
        rw [e1, if_pos (show brk l + 1 < l.length + 1 by omega)]
        have : ((brk l : Int) == -1) = false := by rw [beq_eq_false_iff_ne]; omega
        simp [this]
      · have e1 : (if brk l < l.length then (brk l : Int) else -1) = -1 := if_neg hl
        rw [e1, if_neg (show ¬ brk l + 1 < l.length + 1 by omega)]; simp
theorem brk_le (l : List UInt8) : brk l ≤ l.length := List.findIdx_le_length
end Go.Pub
namespace Go.Proofs.YtpoafhgbhnblmaaGreatDoor
open Go.RowKit Go.Pub
end Go.Proofs.YtpoafhgbhnblmaaGreatDoor
