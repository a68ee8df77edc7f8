/-
  attr.escape.
-/
import Derived.Test.YtkcfcdnchlmekaaAttrX
import Derived.Test.YtkcfcdnchlmekaaBuild
set_option linter.unusedVariables false
set_option linter.unusedSimpArgs false
namespace Go.Pub
def escB (b : UInt8) : List UInt8 := if b.toNat = 34 ∨ b.toNat = 92 then [92, b] else [b]
/-- A text with a backslash ahead of each quotation mark and backslash. -/
def escL (l : List UInt8) : List UInt8 := l.flatMap escB
theorem bytesL_get? (s : ByteArray) (k : Nat) (h : k < s.size) : (bytesL s)[k]? = some (s.get! k) := by
  unfold bytesL
  rw [Array.getElem?_toList]
  have : s.get! k = s.data[k]! := rfl
  rw [this, getElem!_pos s.data k h, Array.getElem?_eq_getElem h]
theorem bytesL_take_succ (s : ByteArray) (k : Nat) (h : k < s.size) : (bytesL s).take (k + 1) = (bytesL s).take k ++ [s.get! k] := by
  rw [List.take_add_one, bytesL_get? s k h]; rfl
theorem escL_succ (s : ByteArray) (k : Nat) (h : k < s.size) : escL ((bytesL s).take (k + 1)) = escL ((bytesL s).take k) ++ escB (s.get! k) := by
  unfold escL
  rw [bytesL_take_succ s k h, List.flatMap_append]; simp
theorem escB_yes (s : ByteArray) (k : Nat) (h : bt s k = 34 ∨ bt s k = 92) : escB (s.get! k) = [92, s.get! k] := if_pos h
theorem escB_no (s : ByteArray) (k : Nat) (h : ¬ (bt s k = 34 ∨ bt s k = 92)) : escB (s.get! k) = [s.get! k] := if_neg h
theorem escL_len (l : List UInt8) : (escL l).length ≤ 2 * l.length := by
  induction l with
  | nil => exact Nat.le_refl _
  | cons b l ih =>
    unfold escL at ih ⊢
    rw [List.flatMap_cons, List.length_append, List.length_cons]
    have : (escB b).length ≤ 2 := by unfold escB; split <;> simp
    omega
end Go.Pub
namespace Go.Proofs.Ytkcfcdnchlmekaa
open Go.RowKit Go.Pub

def ERel (s : ByteArray) (w : World) (i : Value) (wr : World) : Prop :=
  ∃ (k : Nat) (acc : List UInt8), i = .int .i64 k ∧ k ≤ s.size ∧ Lib.IsBuilderF 61 5 w.heap.size w.heap.size (Lib.byteCells acc) wr ∧ Below w.heap.size w wr ∧ Hid (acc = escL ((bytesL s).take k)) ∧ acc.length ≤ 2 * k ∧ w.heap.size < wr.heap.size

set_option maxRecDepth 100000 in
set_option maxHeartbeats 4000000 in
theorem escape_any (s : ByteArray) (w : World) (hs : s.size ≤ 1000000) : Calls Try.prog 36 #[.string s] w fun e w' => e = .returned (.string (mk (escL (bytesL s)))) ∧ Below w.heap.size w w' := by
  have HX : Hid (escL (bytesL s) = escL ((bytesL s).take s.size)) := Lib.hid (by rw [List.take_of_length_le (by rw [bytesL_length]; exact Nat.le_refl _)])
  generalize escL (bytesL s) = R at *
  go_enter Try.func36, Try.ntmps36
  go_wp2
  go_loopw [7] (fun v wr => ERel s w v wr) (fun v _ => s.size - (intOf v).toNat)
  case atStart => exact ⟨0, [], rfl, by omega, Lib.IsBuilderF.of (Lib.fresh_isBuilder 61 5 w), (Below.refl _ w).alloc (Nat.le_refl _) _, Lib.hid rfl, by simp, by simp⟩
  case round =>
    obtain ⟨k, acc, rfl, hk, hI, hbw, Hacc, hal, hsz⟩ := hrel
    by_cases hlt : k < s.size
    · have hb := bt_lt s k
      have hlt2 : ((s[k].toNat : Nat) : Int) < 256 := by rw [get_bt s k hlt]; omega
      have hbi := Lib.hid (bt_int s k hlt)
      have hst := Lib.hid (escL_succ s k hlt)
      by_cases c : bt s k = 34 ∨ bt s k = 92
      · have hy := Lib.hid (escB_yes s k c)
        have cc : (((s[k].toNat : Nat) : Int) == 34) = true ∨ ((((s[k].toNat : Nat) : Int) == 34) = false ∧ (((s[k].toNat : Nat) : Int) == 92) = true) := by
          rw [get_bt s k hlt]
          rcases c with c | c
          · left; rw [c]; rfl
          · right; rw [c]; exact ⟨rfl, rfl⟩
        clear c
        rcases cc with z1 | ⟨z1, z2⟩
        all_goals
          go_wp2_with fail
          refine (writeByte_k w.heap.size w.heap.size _ _ _ hI (by rw [Lib.byteCells_length]; omega) (by omega)).mono ?_
          rintro e W1 ⟨rfl, h1, b1, _⟩
          have hz1 := b1.size
          go_wp2_with fail
          refine (writeByte_k w.heap.size w.heap.size _ _ _ (Or.inr h1) (by rw [List.length_append, Lib.byteCells_length]; simp; omega) (by omega)).mono ?_
          rintro e W2 ⟨rfl, h2, b2, _⟩
          have hz2 := b2.size
          go_wp2
          go_roundw
          case rel =>
            refine ⟨k + 1, acc ++ [92, s.get! k], by go_num, by omega, ?_, (hbw.trans b1).trans b2, Lib.hid (by rw [hst.out, hy.out, ← Hacc.out]), by simp; omega, by omega⟩
            have e1 : Lib.byteCells (acc ++ [92, s.get! k]) = Lib.byteCells acc ++ [.int .u8 92] ++ [.int .u8 (bt s k)] := by
              rw [Lib.byteCells_append, List.append_assoc]; rfl
            rw [e1, ← hbi.out]; exact Or.inr h2
          case measure => simp [intOf]; omega
      · have hy := Lib.hid (escB_no s k c)
        have z1 : (((s[k].toNat : Nat) : Int) == 34) = false := by rw [get_bt s k hlt, beq_eq_false_iff_ne]; omega
        have z2 : (((s[k].toNat : Nat) : Int) == 92) = false := by rw [get_bt s k hlt, beq_eq_false_iff_ne]; omega
        clear c
        go_wp2_with fail
        refine (writeByte_k w.heap.size w.heap.size _ _ _ hI (by rw [Lib.byteCells_length]; omega) (by omega)).mono ?_
        rintro e W1 ⟨rfl, h1, b1, _⟩
        have hz1 := b1.size
        go_wp2
        go_roundw
        case rel =>
          refine ⟨k + 1, acc ++ [s.get! k], by go_num, by omega, by rw [Lib.byteCells_append, byte_cell, ← hbi.out]; exact Or.inr h1, hbw.trans b1, Lib.hid (by rw [hst.out, hy.out, ← Hacc.out]), by simp; omega, by omega⟩
        case measure => simp [intOf]; omega
    · obtain rfl : k = s.size := by omega
      go_wp2_with fail
      refine (Try.Builder_String_any_k w.heap.size w.heap.size acc _ hI (by omega)).mono ?_
      rintro e W1 ⟨rfl, h1, b1, _⟩
      go_wp2
      go_ret
      exact ⟨ret_str (by rw [HX.out, ← Hacc.out]; rfl), hbw.trans b1⟩
end Go.Proofs.Ytkcfcdnchlmekaa
