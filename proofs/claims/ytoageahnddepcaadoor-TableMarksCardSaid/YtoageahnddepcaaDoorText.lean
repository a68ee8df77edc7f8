/-
  Plain facts on UTF-8 as the program and its reference read it: no program in sight.
-/
import Derived.Lib.DecodeN
import Derived.Lib.RuneBytes
import Derived.Laws.BitsAllLaws
import Derived.Laws.BitsLemmas
set_option linter.unusedVariables false
namespace Go.Pub
open Go

/-- The byte at place k (0 beyond the end). -/
def bt (s : ByteArray) (k : Nat) : Nat := (s.get! k).toNat
theorem bt_lt (s : ByteArray) (k : Nat) : bt s k < 256 := (s.get! k).toNat_lt
theorem get_bt (s : ByteArray) (k : Nat) (h : k < s.size) : (s[k]).toNat = bt s k := by
  unfold bt
  have : s.get! k = s[k] := by
    show s.data[k]! = s.data[k]
    exact getElem!_pos s.data k h
  rw [this]

/-- The number of bytes that the first byte promises. -/
def wd (b : Nat) : Nat := if b < 128 then 1 else if 194 ≤ b ∧ b ≤ 223 then 2 else if 224 ≤ b ∧ b ≤ 239 then 3 else if 240 ≤ b ∧ b ≤ 244 then 4 else 0
def lo (b : Nat) : Nat := if b = 224 then 160 else if b = 240 then 144 else 128
def hi (b : Nat) : Nat := if b = 237 then 159 else if b = 244 then 143 else 191

/-- The code point's number after j further bytes. -/
def acc (s : ByteArray) (i m : Nat) : Nat → Nat
  | 0 => bt s i % m
  | j + 1 => acc s i m j * 64 + bt s (i + 1 + j) % 64
def ContTo (s : ByteArray) (i j : Nat) : Prop := ∀ k, k < j → 128 ≤ bt s (i + 1 + k) ∧ bt s (i + 1 + k) ≤ 191

theorem acc_lt (s : ByteArray) (i m j : Nat) (hm : 0 < m) (hm' : m ≤ 32) (hj : j ≤ 3) : acc s i m j < 8388608 := by
  have h0 := Nat.mod_lt (bt s i) hm
  have h1 := Nat.mod_lt (bt s (i + 1 + 0)) (show 64 > 0 by decide)
  have h2 := Nat.mod_lt (bt s (i + 1 + 1)) (show 64 > 0 by decide)
  have h3 := Nat.mod_lt (bt s (i + 1 + 2)) (show 64 > 0 by decide)
  match j, hj with
  | 0, _ => simp only [acc]; omega
  | 1, _ => simp only [acc]; omega
  | 2, _ => simp only [acc]; omega
  | 3, _ => simp only [acc]; omega

theorem dec_bad_width (s : ByteArray) (i : Nat) (h : wd (bt s i) = 0) : Utf8.decode s i = (65533, 1) := by
  have hb := bt_lt s i
  rw [Lib.decode_at]
  show Lib.decodeN _ (bt s i) (bt s (i + 1)) (bt s (i + 2)) (bt s (i + 3)) = _
  unfold wd at h
  unfold Lib.decodeN
  have h1 := bt_lt s (i + 1)
  repeat' split at h
  all_goals first | omega | (repeat' split) <;> first | rfl | omega

theorem dec_one (s : ByteArray) (i : Nat) (h : bt s i < 128) : Utf8.decode s i = (bt s i, 1) := by
  rw [Lib.decode_at]
  show Lib.decodeN _ (bt s i) (bt s (i + 1)) (bt s (i + 2)) (bt s (i + 3)) = _
  unfold Lib.decodeN
  rw [if_pos h]

/-- What is too short, or has a second byte out of its range, or a further byte that does not continue, is read as one broken byte. -/
theorem dec_short (s : ByteArray) (i : Nat) (hi : i < s.size) (h2 : 2 ≤ wd (bt s i)) (h : s.size - i < wd (bt s i)) : Utf8.decode s i = (65533, 1) := by
  rw [Lib.decode_at]
  show Lib.decodeN _ (bt s i) (bt s (i + 1)) (bt s (i + 2)) (bt s (i + 3)) = _
  unfold wd at h h2
  unfold Lib.decodeN
  repeat' split at h
  all_goals first | omega | (repeat' split) <;> first | rfl | omega

theorem dec_second (s : ByteArray) (i : Nat) (h2 : 2 ≤ wd (bt s i)) (h : bt s (i + 1) < lo (bt s i) ∨ Pub.hi (bt s i) < bt s (i + 1)) : Utf8.decode s i = (65533, 1) := by
  rw [Lib.decode_at]
  show Lib.decodeN _ (bt s i) (bt s (i + 1)) (bt s (i + 2)) (bt s (i + 3)) = _
  have h1 := bt_lt s (i + 1)
  generalize bt s i = b0 at *
  generalize bt s (i + 1) = b1 at *
  generalize bt s (i + 2) = b2 at *
  generalize bt s (i + 3) = b3 at *
  unfold wd at h2
  unfold lo Pub.hi at h
  unfold Lib.decodeN
  repeat' split at h2
  all_goals first | omega | (repeat' split at h) <;> first | omega | (repeat' split) <;> first | rfl | omega

theorem dec_cont (s : ByteArray) (i j : Nat) (hj : j + 1 < wd (bt s i)) (h : bt s (i + 1 + j) < 128 ∨ 191 < bt s (i + 1 + j)) : Utf8.decode s i = (65533, 1) := by
  rw [Lib.decode_at]
  show Lib.decodeN _ (bt s i) (bt s (i + 1)) (bt s (i + 2)) (bt s (i + 3)) = _
  have g1 := bt_lt s (i + 1)
  have g2 := bt_lt s (i + 2)
  have g3 := bt_lt s (i + 3)
  have hj3 : j < 3 := by unfold wd at hj; (repeat' split at hj) <;> omega
  match j, hj3, hj, h with
  | 0, _, hj, h =>
    have h' : bt s (i + 1) < 128 ∨ 191 < bt s (i + 1) := h
    unfold wd at hj
    unfold Lib.decodeN
    repeat' split at hj
    all_goals first | omega | (repeat' split) <;> first | rfl | omega
  | 1, _, hj, h =>
    have h' : bt s (i + 2) < 128 ∨ 191 < bt s (i + 2) := h
    unfold wd at hj
    unfold Lib.decodeN
    repeat' split at hj
    all_goals first | omega | (repeat' split) <;> first | rfl | omega
  | 2, _, hj, h =>
    have h' : bt s (i + 3) < 128 ∨ 191 < bt s (i + 3) := h
    unfold wd at hj
    unfold Lib.decodeN
    repeat' split at hj
    all_goals first | omega | (repeat' split) <;> first | rfl | omega

theorem dec_whole (s : ByteArray) (i sz : Nat) (hi : i < s.size) (hw : wd (bt s i) = sz) (h2 : 2 ≤ sz) (hn : sz ≤ s.size - i) (hl : lo (bt s i) ≤ bt s (i + 1)) (hh : bt s (i + 1) ≤ Pub.hi (bt s i)) (hc : ContTo s i (sz - 1)) :
    Utf8.decode s i = (acc s i (2 ^ (7 - sz)) (sz - 1), sz) := by
  rw [Lib.decode_at]
  show Lib.decodeN _ (bt s i) (bt s (i + 1)) (bt s (i + 2)) (bt s (i + 3)) = _
  have hsz : sz = 2 ∨ sz = 3 ∨ sz = 4 := by unfold wd at hw; (repeat' split at hw) <;> omega
  rcases hsz with rfl | rfl | rfl
  · have c0 := hc 0 (by omega)
    simp only [acc, Nat.add_zero, show (7 - 2) = 5 from rfl, show (2 : Nat) ^ 5 = 32 from rfl] at c0 ⊢
    unfold wd at hw; unfold lo at hl; unfold Pub.hi at hh
    unfold Lib.decodeN
    repeat' split at hw
    all_goals first | omega | (repeat' split at hl) <;> first | omega | (repeat' split at hh) <;> first | omega | (repeat' split) <;> first | rfl | (exfalso; omega)
  · have c0 := hc 0 (by omega)
    have c1 := hc 1 (by omega)
    simp only [acc, Nat.add_zero, show i + 1 + 1 = i + 2 from rfl, show (7 - 3) = 4 from rfl, show (2 : Nat) ^ 4 = 16 from rfl] at c0 c1 ⊢
    unfold wd at hw; unfold lo at hl; unfold Pub.hi at hh
    unfold Lib.decodeN
    repeat' split at hw
    all_goals first | omega | (repeat' split at hl) <;> first | omega | (repeat' split at hh) <;> first | omega | (repeat' split) <;> first | (simp only [Prod.mk.injEq, and_true]; omega) | (exfalso; omega)
  · have c0 := hc 0 (by omega)
    have c1 := hc 1 (by omega)
    have c2 := hc 2 (by omega)
    simp only [acc, Nat.add_zero, show i + 1 + 1 = i + 2 from rfl, show i + 1 + 2 = i + 3 from rfl, show (7 - 4) = 3 from rfl, show (2 : Nat) ^ 3 = 8 from rfl] at c0 c1 c2 ⊢
    unfold wd at hw; unfold lo at hl; unfold Pub.hi at hh
    unfold Lib.decodeN
    repeat' split at hw
    all_goals first | omega | (repeat' split at hl) <;> first | omega | (repeat' split at hh) <;> first | omega | (repeat' split) <;> first | (simp only [Prod.mk.injEq, and_true]; omega) | (exfalso; omega)

/-- What chars.Next gives: the code point at the byte i and its number of bytes. -/
def nextAt (s : ByteArray) (i : Int) : Int × Int :=
  if 0 ≤ i ∧ i < s.size then (((Utf8.decode s i.toNat).1 : Int), ((Utf8.decode s i.toNat).2 : Int)) else (-1, 0)
theorem nextAt_in (s : ByteArray) (i : Nat) (h : i < s.size) : nextAt s i = (((Utf8.decode s i).1 : Int), ((Utf8.decode s i).2 : Int)) := by
  unfold nextAt
  rw [if_pos ⟨by omega, by omega⟩, Int.toNat_natCast]
theorem nextAt_out (s : ByteArray) (i : Int) (h : ¬ (0 ≤ i ∧ i < s.size)) : nextAt s i = (-1, 0) := if_neg h
end Go.Pub
