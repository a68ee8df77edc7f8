/-
  Strings as lists of bytes: the plain facts that all layers use.
-/
import Derived.Test.YtoageahnddepcaaDoorLists
import Derived.Test.YtoageahnddepcaaDoorText
import Derived.WalkKit
import Derived.Lib.Strings
import Derived.Lib.SlicesS
set_option linter.unusedVariables false
set_option linter.unusedSimpArgs false
namespace Go.Pub
open Go.RowKit
def mk (l : List UInt8) : ByteArray := ⟨l.toArray⟩
theorem bytesL_mk' (l : List UInt8) : bytesL (mk l) = l := bytesL_of l
theorem mk_bytesL (s : ByteArray) : mk (bytesL s) = s := (bytesL_mk s).symm
theorem mk_app (a b : List UInt8) : mk a ++ mk b = mk (a ++ b) := by
  have h : bytesL (mk a ++ mk b) = bytesL (mk a) ++ bytesL (mk b) := by
    unfold bytesL; rw [ByteArray.data_append, Array.toList_append]
  rw [← mk_bytesL (mk a ++ mk b), h, bytesL_mk', bytesL_mk']
theorem mk_app_s (a : List UInt8) (s : ByteArray) : mk a ++ s = mk (a ++ bytesL s) := by
  conv => lhs; rw [← mk_bytesL s]
  exact mk_app _ _
theorem bytesL_app (a b : ByteArray) : bytesL (a ++ b) = bytesL a ++ bytesL b := by
  unfold bytesL; rw [ByteArray.data_append, Array.toList_append]
theorem mk_size (l : List UInt8) : (mk l).size = l.length := by rw [← bytesL_length, bytesL_mk']
theorem cat_mk {P : Program} (w : World) (a : List UInt8) (s : ByteArray) (r : List UInt8) (h : a.length + s.size ≤ 9223372036854775807) (hr : a ++ bytesL s = r) : (Op.stringOp .add (mk a) s).run P w = .ok (.string (mk r)) w := by
  rw [run_string_add_sum w _ _ (by rw [mk_size]; exact h), mk_app_s, hr]
/-- The rest of a string from a byte on. -/
def sfx (s : ByteArray) (k : Nat) : List UInt8 := (bytesL s).drop k
/-- The bytes from i up to k. -/
def sub (s : ByteArray) (i k : Nat) : List UInt8 := ((bytesL s).drop i).take (k - i)
theorem sfx_cons (s : ByteArray) (k : Nat) (h : k < s.size) : sfx s k = s.get! k :: sfx s (k + 1) := by
  unfold sfx bytesL
  have h' : k < s.data.toList.length := by rw [Array.length_toList]; exact h
  rw [List.drop_eq_getElem_cons h']
  congr 1
  show _ = s.data[k]!
  rw [getElem!_pos s.data k h]
  simp
theorem sfx_nil (s : ByteArray) (k : Nat) (h : s.size ≤ k) : sfx s k = [] := by
  unfold sfx; exact List.drop_of_length_le (by rw [bytesL_length]; exact h)
theorem sfx_len (s : ByteArray) (k : Nat) : (sfx s k).length = s.size - k := by unfold sfx; rw [List.length_drop, bytesL_length]
theorem u8_nat (b : UInt8) (n : Nat) (hn : n < 256) : b = UInt8.ofNat n ↔ b.toNat = n := by
  constructor
  · intro h; subst h; simp [UInt8.toNat_ofNat]; omega
  · intro h; rw [← h]; simp
theorem bt_u8 (s : ByteArray) (k n : Nat) (hn : n < 256) : s.get! k = UInt8.ofNat n ↔ bt s k = n := u8_nat _ n hn
theorem g10 (s : ByteArray) (k : Nat) : s.get! k = 10 ↔ bt s k = 10 := bt_u8 s k 10 (by decide)
theorem sub_len (s : ByteArray) (i k : Nat) : (sub s i k).length ≤ s.size := by
  unfold sub; rw [List.length_take, List.length_drop, bytesL_length]; omega
theorem bytesL_sub (s : ByteArray) (i k : Nat) : bytesL (s.extract i k) = sub s i k := by
  unfold sub bytesL
  rw [ByteArray.data_extract, Array.toList_extract, List.extract_eq_take_drop]
theorem extract_take (s : ByteArray) (k : Nat) : s.extract 0 k = mk ((bytesL s).take k) := by
  have := bytesL_sub s 0 k
  rw [← mk_bytesL (s.extract 0 k), this]; rfl
theorem extract_drop (s : ByteArray) (k : Nat) : s.extract k s.size = mk (sfx s k) := by
  have := bytesL_sub s k s.size
  rw [← mk_bytesL (s.extract k s.size), this]
  unfold sub sfx
  rw [List.take_of_length_le (by rw [List.length_drop, bytesL_length]; omega)]
theorem sfx_head {s : ByteArray} {i : Nat} {b : UInt8} {r : List UInt8} (h : sfx s i = b :: r) : i < s.size ∧ bt s i = b.toNat ∧ sfx s (i + 1) = r := by
  have hl : i < s.size := by
    have := congrArg List.length h
    rw [sfx_len, List.length_cons] at this
    omega
  rw [sfx_cons s i hl] at h
  injection h with h1 h2
  exact ⟨hl, by rw [← h1]; rfl, h2⟩
theorem sfx_app {s : ByteArray} {i : Nat} {n r : List UInt8} (h : sfx s i = n ++ r) : sfx s (i + n.length) = r := by
  unfold sfx at h ⊢
  rw [← List.drop_drop, h, List.drop_left]
theorem sub_run {s : ByteArray} {i : Nat} {n r : List UInt8} (h : sfx s i = n ++ r) : sub s i (i + n.length) = n := by
  unfold sub sfx at *
  rw [h, Nat.add_sub_cancel_left, List.take_left]
theorem u8n {b : UInt8} {n : Nat} (hn : n < 256) (h : b ≠ UInt8.ofNat n) : b.toNat ≠ n := fun e => h ((u8_nat b n hn).2 e)
theorem nil_list (s : ByteArray) (h : bytesL s = []) : s.toList = [] ∧ s.toList.isEmpty = true := by
  have e : s = ⟨#[]⟩ := by rw [← mk_bytesL s, h]; rfl
  subst e
  exact ⟨by rw [Lib.toList_data], by rw [Lib.toList_data]; rfl⟩
theorem cons_list (s : ByteArray) (h : bytesL s ≠ []) : s.toList ≠ [] ∧ s.toList.isEmpty = false := by
  have e : s.toList = bytesL s := Lib.toList_data s
  rw [e]
  refine ⟨h, ?_⟩
  cases hb : bytesL s with
  | nil => exact absurd hb h
  | cons a l => rfl
theorem size_nil (s : ByteArray) : s.size = 0 ↔ bytesL s = [] := by
  rw [← bytesL_length s]; exact List.length_eq_zero_iff
end Go.Pub
