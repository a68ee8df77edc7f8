/-
  Texts of the proof, put together (what this law reaches): Text, Pts, Enc, Lists, Base, Fold, Next, Mem, CharsA, CharsB.
-/
import Derived.Lib.DecodeN
import Derived.Lib.RuneBytes
import Derived.Laws.BitsAllLaws
import Derived.Laws.BitsLemmas
import Derived.Lib.RuneCount
import GoSem.Core.Utf8
import Derived.Lib.UnsafeStr
import Derived.WalkKit
import Derived.Lib.Strings
import Derived.Lib.SlicesS
import Derived.Test.YtcjkgmfidkgamaaGreatDoorRows
import Derived.WalkSpells
import Derived.WalkLawsBesides
import Derived.Deep.QuietTactic
import Derived.BigQuiet
import Derived.Lib.Hide
import Derived.Below
import Derived.Laws.OwnMore
import Derived.Deep.AppendLies
import Derived.Deep.Draws
set_option linter.unusedVariables false
set_option linter.unusedSimpArgs false
namespace Go.Pub
open Go
/-- The byte at place k (0 beyond the end). -/
def bt (s : ByteArray) (k : Nat) : Nat := (s.get! k).toNat
theorem bt_lt (s : ByteArray) (k : Nat) : bt s k < 256 := (s.get! k).toNat_lt
theorem get_bt (s : ByteArray) (k : Nat) (h : k < s.size) : (s[k]).toNat = bt s k := by
  unfold bt
  have : s.get! k = s[k] := by
    show s.data[k]! = s.data[k]
    exact getElem!_pos s.data k h
  rw [this]
/-- The number of bytes that the first byte promises. -/
def wd (b : Nat) : Nat := if b < 128 then 1 else if 194 ≤ b ∧ b ≤ 223 then 2 else if 224 ≤ b ∧ b ≤ 239 then 3 else if 240 ≤ b ∧ b ≤ 244 then 4 else 0
def lo (b : Nat) : Nat := if b = 224 then 160 else if b = 240 then 144 else 128
def hiB (b : Nat) : Nat := if b = 237 then 159 else if b = 244 then 143 else 191
/-- The code point's number after j further bytes. -/
def acc (s : ByteArray) (i m : Nat) : Nat → Nat
  | 0 => bt s i % m
  | j + 1 => acc s i m j * 64 + bt s (i + 1 + j) % 64
def ContTo (s : ByteArray) (i j : Nat) : Prop := ∀ k, k < j → 128 ≤ bt s (i + 1 + k) ∧ bt s (i + 1 + k) ≤ 191
theorem acc_lt (s : ByteArray) (i m j : Nat) (hm : 0 < m) (hm' : m ≤ 32) (hj : j ≤ 3) : acc s i m j < 8388608 := by
  have h0 := Nat.mod_lt (bt s i) hm
  have h1 := Nat.mod_lt (bt s (i + 1 + 0)) (show 64 > 0 by decide)
  have h2 := Nat.mod_lt (bt s (i + 1 + 1)) (show 64 > 0 by decide)
  have h3 := Nat.mod_lt (bt s (i + 1 + 2)) (show 64 > 0 by decide)
  match j, hj with
  | 0, _ => simp only [acc]; omega
  | 1, _ => simp only [acc]; omega
  | 2, _ => simp only [acc]; omega
  | 3, _ => simp only [acc]; omega
theorem dec_bad_width (s : ByteArray) (i : Nat) (h : wd (bt s i) = 0) : Utf8.decode s i = (65533, 1) := by
  have hb := bt_lt s i
  rw [Lib.decode_at]
  show Lib.decodeN _ (bt s i) (bt s (i + 1)) (bt s (i + 2)) (bt s (i + 3)) = _
  unfold wd at h
  unfold Lib.decodeN
  have h1 := bt_lt s (i + 1)
  repeat' split at h
  all_goals first | omega | (repeat' split) <;> first | rfl | omega
theorem dec_one (s : ByteArray) (i : Nat) (h : bt s i < 128) : Utf8.decode s i = (bt s i, 1) := by
  rw [Lib.decode_at]
  show Lib.decodeN _ (bt s i) (bt s (i + 1)) (bt s (i + 2)) (bt s (i + 3)) = _
  unfold Lib.decodeN
  rw [if_pos h]
/-- What is too short, or has a second byte out of its range, or a further byte that does not continue, is read as one broken byte. -/
theorem dec_short (s : ByteArray) (i : Nat) (hi : i < s.size) (h2 : 2 ≤ wd (bt s i)) (h : s.size - i < wd (bt s i)) : Utf8.decode s i = (65533, 1) := by
  rw [Lib.decode_at]
  show Lib.decodeN _ (bt s i) (bt s (i + 1)) (bt s (i + 2)) (bt s (i + 3)) = _
  unfold wd at h h2
  unfold Lib.decodeN
  repeat' split at h
  all_goals first | omega | (repeat' split) <;> first | rfl | omega
theorem dec_second (s : ByteArray) (i : Nat) (h2 : 2 ≤ wd (bt s i)) (h : bt s (i + 1) < lo (bt s i) ∨ hiB (bt s i) < bt s (i + 1)) : Utf8.decode s i = (65533, 1) := by
  rw [Lib.decode_at]
  show Lib.decodeN _ (bt s i) (bt s (i + 1)) (bt s (i + 2)) (bt s (i + 3)) = _
  have h1 := bt_lt s (i + 1)
  generalize bt s i = b0 at *
  generalize bt s (i + 1) = b1 at *
  generalize bt s (i + 2) = b2 at *
  generalize bt s (i + 3) = b3 at *
  unfold wd at h2
  unfold lo hiB at h
  unfold Lib.decodeN
  repeat' split at h2
  all_goals first | omega | (repeat' split at h) <;> first | omega | (repeat' split) <;> first | rfl | omega
theorem dec_cont (s : ByteArray) (i j : Nat) (hj : j + 1 < wd (bt s i)) (h : bt s (i + 1 + j) < 128 ∨ 191 < bt s (i + 1 + j)) : Utf8.decode s i = (65533, 1) := by
  rw [Lib.decode_at]
  show Lib.decodeN _ (bt s i) (bt s (i + 1)) (bt s (i + 2)) (bt s (i + 3)) = _
  have g1 := bt_lt s (i + 1)
  have g2 := bt_lt s (i + 2)
  have g3 := bt_lt s (i + 3)
  have hj3 : j < 3 := by unfold wd at hj; (repeat' split at hj) <;> omega
  match j, hj3, hj, h with
  | 0, _, hj, h =>
    have h' : bt s (i + 1) < 128 ∨ 191 < bt s (i + 1) := h
    unfold wd at hj
    unfold Lib.decodeN
    repeat' split at hj
    all_goals first | omega | (repeat' split) <;> first | rfl | omega
  | 1, _, hj, h =>
    have h' : bt s (i + 2) < 128 ∨ 191 < bt s (i + 2) := h
    unfold wd at hj
    unfold Lib.decodeN
    repeat' split at hj
    all_goals first | omega | (repeat' split) <;> first | rfl | omega
  | 2, _, hj, h =>
    have h' : bt s (i + 3) < 128 ∨ 191 < bt s (i + 3) := h
    unfold wd at hj
    unfold Lib.decodeN
    repeat' split at hj
    all_goals first | omega | (repeat' split) <;> first | rfl | omega
theorem dec_whole (s : ByteArray) (i sz : Nat) (hi : i < s.size) (hw : wd (bt s i) = sz) (h2 : 2 ≤ sz) (hn : sz ≤ s.size - i) (hl : lo (bt s i) ≤ bt s (i + 1)) (hh : bt s (i + 1) ≤ hiB (bt s i)) (hc : ContTo s i (sz - 1)) :
    Utf8.decode s i = (acc s i (2 ^ (7 - sz)) (sz - 1), sz) := by
  rw [Lib.decode_at]
  show Lib.decodeN _ (bt s i) (bt s (i + 1)) (bt s (i + 2)) (bt s (i + 3)) = _
  have hsz : sz = 2 ∨ sz = 3 ∨ sz = 4 := by unfold wd at hw; (repeat' split at hw) <;> omega
  rcases hsz with rfl | rfl | rfl
  · have c0 := hc 0 (by omega)
    simp only [acc, Nat.add_zero, show (7 - 2) = 5 from rfl, show (2 : Nat) ^ 5 = 32 from rfl] at c0 ⊢
    unfold wd at hw; unfold lo at hl; unfold hiB at hh
    unfold Lib.decodeN
    repeat' split at hw
    all_goals first | omega | (repeat' split at hl) <;> first | omega | (repeat' split at hh) <;> first | omega | (repeat' split) <;> first | rfl | (exfalso; omega)
  · have c0 := hc 0 (by omega)
    have c1 := hc 1 (by omega)
    simp only [acc, Nat.add_zero, show i + 1 + 1 = i + 2 from rfl, show (7 - 3) = 4 from rfl, show (2 : Nat) ^ 4 = 16 from rfl] at c0 c1 ⊢
    unfold wd at hw; unfold lo at hl; unfold hiB at hh
    unfold Lib.decodeN
    repeat' split at hw
    all_goals first | omega | (repeat' split at hl) <;> first | omega | (repeat' split at hh) <;> first | omega | (repeat' split) <;> first | (simp only [Prod.mk.injEq, and_true]; omega) | (exfalso; omega)
  · have c0 := hc 0 (by omega)
    have c1 := hc 1 (by omega)
    have c2 := hc 2 (by omega)
    simp only [acc, Nat.add_zero, show i + 1 + 1 = i + 2 from rfl, show i + 1 + 2 = i + 3 from rfl, show (7 - 4) = 3 from rfl, show (2 : Nat) ^ 3 = 8 from rfl] at c0 c1 c2 ⊢
    unfold wd at hw; unfold lo at hl; unfold hiB at hh
    unfold Lib.decodeN
    repeat' split at hw
    all_goals first | omega | (repeat' split at hl) <;> first | omega | (repeat' split at hh) <;> first | omega | (repeat' split) <;> first | (simp only [Prod.mk.injEq, and_true]; omega) | (exfalso; omega)
/-- What chars.Next gives: the code point at the byte i and its number of bytes. -/
def nextAt (s : ByteArray) (i : Int) : Int × Int :=
  if 0 ≤ i ∧ i < s.size then (((Utf8.decode s i.toNat).1 : Int), ((Utf8.decode s i.toNat).2 : Int)) else (-1, 0)
theorem nextAt_in (s : ByteArray) (i : Nat) (h : i < s.size) : nextAt s i = (((Utf8.decode s i).1 : Int), ((Utf8.decode s i).2 : Int)) := by
  unfold nextAt
  rw [if_pos ⟨by omega, by omega⟩, Int.toNat_natCast]
theorem nextAt_out (s : ByteArray) (i : Int) (h : ¬ (0 ≤ i ∧ i < s.size)) : nextAt s i = (-1, 0) := if_neg h
end Go.Pub
namespace Go.Pub
theorem dec_bd (s : ByteArray) (i : Nat) (h : i < s.size) : 1 ≤ (Utf8.decode s i).2 ∧ (Utf8.decode s i).2 ≤ 4 ∧ i + (Utf8.decode s i).2 ≤ s.size ∧ (Utf8.decode s i).1 ≤ 1114111 := by
  have hb := bt_lt s i
  have h1 := bt_lt s (i + 1)
  have h2 := bt_lt s (i + 2)
  have h3 := bt_lt s (i + 3)
  rw [Lib.decode_at]
  show 1 ≤ (Lib.decodeN _ (bt s i) (bt s (i + 1)) (bt s (i + 2)) (bt s (i + 3))).2 ∧ (Lib.decodeN _ (bt s i) (bt s (i + 1)) (bt s (i + 2)) (bt s (i + 3))).2 ≤ 4 ∧ i + (Lib.decodeN _ (bt s i) (bt s (i + 1)) (bt s (i + 2)) (bt s (i + 3))).2 ≤ s.size ∧ (Lib.decodeN _ (bt s i) (bt s (i + 1)) (bt s (i + 2)) (bt s (i + 3))).1 ≤ 1114111
  unfold Lib.decodeN
  (repeat' split) <;> (simp only []; omega)
def ptsFrom (s : ByteArray) : Nat → Nat → List (Nat × Nat)
  | 0, _ => []
  | f + 1, pos => if pos < s.size then Utf8.decode s pos :: ptsFrom s f (pos + (Utf8.decode s pos).2) else []
def pts (s : ByteArray) : List (Nat × Nat) := ptsFrom s s.size 0
theorem ptsFrom_end (s : ByteArray) (f pos : Nat) (h : ¬ pos < s.size) : ptsFrom s f pos = [] := by
  cases f <;> simp [ptsFrom, h]
theorem ptsFrom_step (s : ByteArray) (f pos : Nat) (h : pos < s.size) (hf : s.size ≤ pos + f) : ptsFrom s f pos = Utf8.decode s pos :: ptsFrom s (f - 1) (pos + (Utf8.decode s pos).2) := by
  obtain ⟨g, rfl⟩ : ∃ g, f = g + 1 := ⟨f - 1, by omega⟩
  simp [ptsFrom, h]
theorem ptsFrom_length (s : ByteArray) : ∀ f pos, (ptsFrom s f pos).length ≤ s.size - pos
  | 0, _ => by simp [ptsFrom]
  | f + 1, pos => by
    unfold ptsFrom
    split
    · rename_i h
      have := ptsFrom_length s f (pos + (Utf8.decode s pos).2)
      have := dec_bd s pos h
      simp only [List.length_cons]; omega
    · simp
theorem pts_length (s : ByteArray) : (pts s).length ≤ s.size := by have := ptsFrom_length s s.size 0; unfold pts; omega
/-- A code point's two cells in memory. -/
def ptCells (l : List (Nat × Nat)) : List Value := l.flatMap fun p => [.int .i64 p.1, .int .i64 p.2]
theorem ptCells_append (l m : List (Nat × Nat)) : ptCells (l ++ m) = ptCells l ++ ptCells m := by simp [ptCells, List.flatMap_append]
theorem ptCells_at (l : List (Nat × Nat)) (k : Nat) (p : Nat × Nat) (h : l[k]? = some p) : (ptCells l)[k * 2]? = some (.int .i64 p.1) ∧ (ptCells l)[k * 2 + 1]? = some (.int .i64 p.2) := by
  induction l generalizing k with
  | nil => simp at h
  | cons q l ih =>
    cases k with
    | zero => simp only [List.getElem?_cons_zero, Option.some.injEq] at h; subst h; exact ⟨rfl, rfl⟩
    | succ k =>
      have := ih k (by simpa using h)
      have e : ptCells (q :: l) = .int .i64 q.1 :: .int .i64 q.2 :: ptCells l := rfl
      rw [e, show (k + 1) * 2 = k * 2 + 1 + 1 from by omega, show k * 2 + 1 + 1 + 1 = (k * 2 + 1) + 1 + 1 from rfl]
      simpa using this
end Go.Pub
namespace Go.Pub
def bytesL (s : ByteArray) : List UInt8 := s.data.toList
def encL (c : Int) : List UInt8 := bytesL (Utf8.encode c)
def encN (c : Nat) : ByteArray :=
  if c < 0x80 then ⟨#[UInt8.ofNat c]⟩
  else if c < 0x800 then ⟨#[UInt8.ofNat (0xC0 + c / 64), UInt8.ofNat (0x80 + c % 64)]⟩
  else if c < 0x10000 then ⟨#[UInt8.ofNat (0xE0 + c / 4096), UInt8.ofNat (0x80 + c / 64 % 64), UInt8.ofNat (0x80 + c % 64)]⟩
  else ⟨#[UInt8.ofNat (0xF0 + c / 262144), UInt8.ofNat (0x80 + c / 4096 % 64), UInt8.ofNat (0x80 + c / 64 % 64), UInt8.ofNat (0x80 + c % 64)]⟩
theorem enc_encN (r : Int) : Utf8.encode r = encN (if Utf8.valid r = true then r.toNat else Utf8.runeError) := rfl
theorem enc_nat (n : Nat) (h : Utf8.valid (n : Int) = true) : Utf8.encode (n : Int) = encN n := by
  rw [enc_encN, if_pos h, Int.toNat_natCast]
theorem encN_one (n : Nat) (h : n < 128) : encN n = ⟨#[UInt8.ofNat n]⟩ := if_pos h
theorem encN_two (n : Nat) (h0 : ¬ n < 128) (h : n < 2048) : encN n = ⟨#[UInt8.ofNat (192 + n / 64), UInt8.ofNat (128 + n % 64)]⟩ := (if_neg h0).trans (if_pos h)
theorem encN_three (n : Nat) (h0 : ¬ n < 128) (h1 : ¬ n < 2048) (h : n < 65536) : encN n = ⟨#[UInt8.ofNat (224 + n / 4096), UInt8.ofNat (128 + n / 64 % 64), UInt8.ofNat (128 + n % 64)]⟩ := (if_neg h0).trans ((if_neg h1).trans (if_pos h))
theorem encN_four (n : Nat) (h0 : ¬ n < 128) (h1 : ¬ n < 2048) (h : ¬ n < 65536) : encN n = ⟨#[UInt8.ofNat (240 + n / 262144), UInt8.ofNat (128 + n / 4096 % 64), UInt8.ofNat (128 + n / 64 % 64), UInt8.ofNat (128 + n % 64)]⟩ := (if_neg h0).trans ((if_neg h1).trans (if_neg h))
theorem valid_of (n : Nat) (h : n < 55296 ∨ (57343 < n ∧ n ≤ 1114111)) : Utf8.valid (n : Int) = true := by
  unfold Utf8.valid
  rw [Bool.or_eq_true, Bool.and_eq_true, Bool.and_eq_true]
  simp only [decide_eq_true_eq]
  omega
theorem encL_nat (n : Nat) (h : Utf8.valid (n : Int) = true) : encL (n : Int) = bytesL (encN n) := congrArg bytesL (enc_nat n h)
theorem ofNat_toNat (n : Nat) (h : n < 256) : (UInt8.ofNat n).toNat = n := by simp; omega
theorem encN_size (x : Nat) : 1 ≤ (bytesL (encN x)).length ∧ (bytesL (encN x)).length ≤ 4 := by
  by_cases h1 : x < 128
  · rw [encN_one x h1]; simp [bytesL]
  · by_cases h2 : x < 2048
    · rw [encN_two x h1 h2]; simp [bytesL]
    · by_cases h3 : x < 65536
      · rw [encN_three x h1 h2 h3]; simp [bytesL]
      · rw [encN_four x h1 h2 h3]; simp [bytesL]
theorem encL_length (c : Int) : 1 ≤ (encL c).length ∧ (encL c).length ≤ 4 := by
  unfold encL
  rw [enc_encN]
  exact encN_size _
theorem bytesL_mk (s : ByteArray) : s = ⟨(bytesL s).toArray⟩ := by unfold bytesL; simp
end Go.Pub
namespace Go.Pub
def atL (l : List UInt8) (k : Nat) : Nat := (l.getD k 0).toNat
def decL (l : List UInt8) : Nat × Nat := Lib.decodeN l.length (atL l 0) (atL l 1) (atL l 2) (atL l 3)
theorem atL_lt (l : List UInt8) (k : Nat) : atL l k < 256 := (l.getD k 0).toNat_lt
theorem bt_atL (s : ByteArray) (i k : Nat) : bt s (i + k) = atL ((bytesL s).drop i) k := by
  unfold bt atL bytesL
  have : s.get! (i + k) = s.data[i + k]! := rfl
  rw [this, List.getD_eq_getElem?_getD, List.getElem?_drop, Array.getElem?_toList]
  rw [Array.getElem!_eq_getD, Array.getD_eq_getD_getElem?]
  rfl
theorem bytesL_length (s : ByteArray) : (bytesL s).length = s.size := Array.length_toList
theorem decode_decL (s : ByteArray) (i : Nat) : Utf8.decode s i = decL ((bytesL s).drop i) := by
  rw [Lib.decode_at]
  show Lib.decodeN (s.size - i) (bt s (i + 0)) (bt s (i + 1)) (bt s (i + 2)) (bt s (i + 3)) = _
  rw [bt_atL, bt_atL, bt_atL, bt_atL]
  unfold decL
  rw [List.length_drop, bytesL_length]
theorem decL_bd (l : List UInt8) (h : l ≠ []) : 1 ≤ (decL l).2 ∧ (decL l).2 ≤ 4 ∧ (decL l).2 ≤ l.length ∧ ((decL l).1 < 55296 ∨ (57343 < (decL l).1 ∧ (decL l).1 ≤ 1114111)) := by
  have hl : 0 < l.length := List.length_pos_iff.2 h
  have h0 := atL_lt l 0
  have h1 := atL_lt l 1
  unfold decL Lib.decodeN
  (repeat' split) <;> (simp only []; omega)
def ptsF : Nat → List UInt8 → List (Nat × Nat)
  | 0, _ => []
  | f + 1, l => if l.isEmpty then [] else decL l :: ptsF f (l.drop (decL l).2)
def ptsL (l : List UInt8) : List (Nat × Nat) := ptsF l.length l
theorem ptsF_fuel : ∀ (f g : Nat) (l : List UInt8), l.length ≤ f → l.length ≤ g → ptsF f l = ptsF g l
  | 0, g, l, h, _ => by
    have : l = [] := List.eq_nil_of_length_eq_zero (by omega)
    subst this
    cases g <;> simp [ptsF]
  | f + 1, 0, l, _, h => by
    have : l = [] := List.eq_nil_of_length_eq_zero (by omega)
    subst this
    simp [ptsF]
  | f + 1, g + 1, l, h, h' => by
    unfold ptsF
    by_cases he : l.isEmpty
    · rw [if_pos he, if_pos he]
    · rw [if_neg he, if_neg he]
      have hb := decL_bd l (by simpa using he)
      rw [ptsF_fuel f g (l.drop (decL l).2) (by rw [List.length_drop]; omega) (by rw [List.length_drop]; omega)]
theorem ptsL_nil : ptsL [] = [] := rfl
theorem ptsL_cons (l : List UInt8) (h : l ≠ []) : ptsL l = decL l :: ptsL (l.drop (decL l).2) := by
  have hl : 0 < l.length := List.length_pos_iff.2 h
  have hb := decL_bd l h
  unfold ptsL
  obtain ⟨n, hn⟩ : ∃ n, l.length = n + 1 := ⟨l.length - 1, by omega⟩
  rw [hn, ptsF, if_neg (by simpa using h)]
  rw [ptsF_fuel n (l.drop (decL l).2).length _ (by rw [List.length_drop]; omega) (Nat.le_refl _)]
theorem ptsFrom_ptsF (s : ByteArray) : ∀ f pos, ptsFrom s f pos = ptsF f ((bytesL s).drop pos)
  | 0, _ => rfl
  | f + 1, pos => by
    unfold ptsFrom ptsF
    by_cases h : pos < s.size
    · rw [if_pos h, if_neg (by simp [bytesL_length]; omega), ← decode_decL, ptsFrom_ptsF s f, List.drop_drop]
    · rw [if_neg h, if_pos (by simp [bytesL_length]; omega)]
theorem pts_ptsL (s : ByteArray) : pts s = ptsL (bytesL s) := by
  unfold pts ptsL
  rw [ptsFrom_ptsF, List.drop_zero, bytesL_length]
/-- A number that is a code point which UTF-8 can write. -/
def Scalar (c : Nat) : Prop := c < 55296 ∨ (57343 < c ∧ c ≤ 1114111)
theorem decL_scalar (l : List UInt8) (h : l ≠ []) : Scalar (decL l).1 := (decL_bd l h).2.2.2
theorem encL_scalar (c : Nat) (h : Scalar c) : encL (c : Int) = bytesL (encN c) := encL_nat c (valid_of c h)
theorem bytesL_of (l : List UInt8) : bytesL ⟨l.toArray⟩ = l := by simp [bytesL]
theorem decL_enc (c : Nat) (h : Scalar c) (t : List UInt8) : decL (encL (c : Int) ++ t) = (c, (encL (c : Int)).length) := by
  rw [encL_scalar c h]
  unfold Scalar at h
  by_cases h1 : c < 128
  · rw [encN_one c h1]
    have e : bytesL ⟨#[UInt8.ofNat c]⟩ = [UInt8.ofNat c] := rfl
    rw [e]
    have a0 : atL ([UInt8.ofNat c] ++ t) 0 = c := ofNat_toNat c (by omega)
    unfold decL Lib.decodeN
    rw [a0, if_pos h1]; rfl
  · by_cases h2 : c < 2048
    · rw [encN_two c h1 h2]
      have e : bytesL ⟨#[UInt8.ofNat (192 + c / 64), UInt8.ofNat (128 + c % 64)]⟩ = [UInt8.ofNat (192 + c / 64), UInt8.ofNat (128 + c % 64)] := rfl
      rw [e]
      generalize hl : [UInt8.ofNat (192 + c / 64), UInt8.ofNat (128 + c % 64)] ++ t = l
      have a0 : atL l 0 = 192 + c / 64 := by subst hl; exact ofNat_toNat _ (by omega)
      have a1 : atL l 1 = 128 + c % 64 := by subst hl; exact ofNat_toNat _ (by omega)
      have hn : 2 ≤ l.length := by subst hl; simp
      unfold decL Lib.decodeN
      rw [a0, a1]
      have k1 : ¬ 192 + c / 64 < 128 := by omega
      have k2 : (192 + c / 64) / 32 = 6 ∧ 1 < l.length ∧ (128 + c % 64) / 64 = 2 := by omega
      have k3 : (192 + c / 64) % 32 * 64 + (128 + c % 64) % 64 = c := by omega
      rw [if_neg k1, if_pos k2, k3, if_pos (by omega)]; rfl
    · by_cases h3 : c < 65536
      · rw [encN_three c h1 h2 h3]
        have e : bytesL ⟨#[UInt8.ofNat (224 + c / 4096), UInt8.ofNat (128 + c / 64 % 64), UInt8.ofNat (128 + c % 64)]⟩ = [UInt8.ofNat (224 + c / 4096), UInt8.ofNat (128 + c / 64 % 64), UInt8.ofNat (128 + c % 64)] := rfl
        rw [e]
        generalize hl : [UInt8.ofNat (224 + c / 4096), UInt8.ofNat (128 + c / 64 % 64), UInt8.ofNat (128 + c % 64)] ++ t = l
        have a0 : atL l 0 = 224 + c / 4096 := by subst hl; exact ofNat_toNat _ (by omega)
        have a1 : atL l 1 = 128 + c / 64 % 64 := by subst hl; exact ofNat_toNat _ (by omega)
        have a2 : atL l 2 = 128 + c % 64 := by subst hl; exact ofNat_toNat _ (by omega)
        have hn : 3 ≤ l.length := by subst hl; simp
        unfold decL Lib.decodeN
        rw [a0, a1, a2]
        have k1 : ¬ 224 + c / 4096 < 128 := by omega
        have k2 : ¬ ((224 + c / 4096) / 32 = 6 ∧ 1 < l.length ∧ (128 + c / 64 % 64) / 64 = 2) := by omega
        have k4 : (224 + c / 4096) / 16 = 14 ∧ (1 < l.length ∧ (128 + c / 64 % 64) / 64 = 2) ∧ (2 < l.length ∧ (128 + c % 64) / 64 = 2) := by omega
        have k3 : (224 + c / 4096) % 16 * 4096 + (128 + c / 64 % 64) % 64 * 64 + (128 + c % 64) % 64 = c := by omega
        rw [if_neg k1, if_neg k2, if_pos k4, k3, if_pos (by omega)]; rfl
      · rw [encN_four c h1 h2 h3]
        have e : bytesL ⟨#[UInt8.ofNat (240 + c / 262144), UInt8.ofNat (128 + c / 4096 % 64), UInt8.ofNat (128 + c / 64 % 64), UInt8.ofNat (128 + c % 64)]⟩ = [UInt8.ofNat (240 + c / 262144), UInt8.ofNat (128 + c / 4096 % 64), UInt8.ofNat (128 + c / 64 % 64), UInt8.ofNat (128 + c % 64)] := rfl
        rw [e]
        generalize hl : [UInt8.ofNat (240 + c / 262144), UInt8.ofNat (128 + c / 4096 % 64), UInt8.ofNat (128 + c / 64 % 64), UInt8.ofNat (128 + c % 64)] ++ t = l
        have a0 : atL l 0 = 240 + c / 262144 := by subst hl; exact ofNat_toNat _ (by omega)
        have a1 : atL l 1 = 128 + c / 4096 % 64 := by subst hl; exact ofNat_toNat _ (by omega)
        have a2 : atL l 2 = 128 + c / 64 % 64 := by subst hl; exact ofNat_toNat _ (by omega)
        have a3 : atL l 3 = 128 + c % 64 := by subst hl; exact ofNat_toNat _ (by omega)
        have hn : 4 ≤ l.length := by subst hl; simp
        unfold decL Lib.decodeN
        rw [a0, a1, a2, a3]
        have k1 : ¬ 240 + c / 262144 < 128 := by omega
        have k2 : ¬ ((240 + c / 262144) / 32 = 6 ∧ 1 < l.length ∧ (128 + c / 4096 % 64) / 64 = 2) := by omega
        have k4 : ¬ ((240 + c / 262144) / 16 = 14 ∧ (1 < l.length ∧ (128 + c / 4096 % 64) / 64 = 2) ∧ (2 < l.length ∧ (128 + c / 64 % 64) / 64 = 2)) := by omega
        have k5 : (240 + c / 262144) / 8 = 30 ∧ (1 < l.length ∧ (128 + c / 4096 % 64) / 64 = 2) ∧ (2 < l.length ∧ (128 + c / 64 % 64) / 64 = 2) ∧ (3 < l.length ∧ (128 + c % 64) / 64 = 2) := by omega
        have k3 : (240 + c / 262144) % 8 * 262144 + (128 + c / 4096 % 64) % 64 * 4096 + (128 + c / 64 % 64) % 64 * 64 + (128 + c % 64) % 64 = c := by omega
        rw [if_neg k1, if_neg k2, if_neg k4, if_pos k5, k3, if_pos (by omega)]; rfl
theorem u8_eq (x : UInt8) (n : Nat) (h : n = x.toNat) : UInt8.ofNat n = x := by subst h; simp
theorem decodeN_cases (n b0 b1 b2 b3 : Nat) : Lib.decodeN n b0 b1 b2 b3 = (65533, 1) ∨ (b0 < 128 ∧ Lib.decodeN n b0 b1 b2 b3 = (b0, 1)) ∨
    ((b0 / 32 = 6 ∧ 1 < n ∧ b1 / 64 = 2 ∧ 128 ≤ b0 % 32 * 64 + b1 % 64) ∧ Lib.decodeN n b0 b1 b2 b3 = (b0 % 32 * 64 + b1 % 64, 2)) ∨
    ((b0 / 16 = 14 ∧ 2 < n ∧ b1 / 64 = 2 ∧ b2 / 64 = 2 ∧ 2048 ≤ b0 % 16 * 4096 + b1 % 64 * 64 + b2 % 64) ∧ Lib.decodeN n b0 b1 b2 b3 = (b0 % 16 * 4096 + b1 % 64 * 64 + b2 % 64, 3)) ∨
    ((b0 / 8 = 30 ∧ 3 < n ∧ b1 / 64 = 2 ∧ b2 / 64 = 2 ∧ b3 / 64 = 2 ∧ 65536 ≤ b0 % 8 * 262144 + b1 % 64 * 4096 + b2 % 64 * 64 + b3 % 64) ∧ Lib.decodeN n b0 b1 b2 b3 = (b0 % 8 * 262144 + b1 % 64 * 4096 + b2 % 64 * 64 + b3 % 64, 4)) := by
  unfold Lib.decodeN
  by_cases c1 : b0 < 128
  · exact .inr (.inl ⟨c1, if_pos c1⟩)
  rw [if_neg c1]
  by_cases c2 : b0 / 32 = 6 ∧ (1 < n ∧ b1 / 64 = 2)
  · rw [if_pos c2]
    by_cases c3 : b0 % 32 * 64 + b1 % 64 ≥ 128
    · exact .inr (.inr (.inl ⟨⟨c2.1, c2.2.1, c2.2.2, c3⟩, if_pos c3⟩))
    · exact .inl (if_neg c3)
  rw [if_neg c2]
  by_cases c4 : b0 / 16 = 14 ∧ (1 < n ∧ b1 / 64 = 2) ∧ (2 < n ∧ b2 / 64 = 2)
  · rw [if_pos c4]
    by_cases c5 : b0 % 16 * 4096 + b1 % 64 * 64 + b2 % 64 ≥ 2048 ∧ (b0 % 16 * 4096 + b1 % 64 * 64 + b2 % 64 < 55296 ∨ (57344 ≤ b0 % 16 * 4096 + b1 % 64 * 64 + b2 % 64 ∧ b0 % 16 * 4096 + b1 % 64 * 64 + b2 % 64 ≤ 1114111))
    · exact .inr (.inr (.inr (.inl ⟨⟨c4.1, c4.2.2.1, c4.2.1.2, c4.2.2.2, c5.1⟩, if_pos c5⟩)))
    · exact .inl (if_neg c5)
  rw [if_neg c4]
  by_cases c6 : b0 / 8 = 30 ∧ (1 < n ∧ b1 / 64 = 2) ∧ (2 < n ∧ b2 / 64 = 2) ∧ (3 < n ∧ b3 / 64 = 2)
  · rw [if_pos c6]
    by_cases c7 : b0 % 8 * 262144 + b1 % 64 * 4096 + b2 % 64 * 64 + b3 % 64 ≥ 65536 ∧ (b0 % 8 * 262144 + b1 % 64 * 4096 + b2 % 64 * 64 + b3 % 64 < 55296 ∨ (57344 ≤ b0 % 8 * 262144 + b1 % 64 * 4096 + b2 % 64 * 64 + b3 % 64 ∧ b0 % 8 * 262144 + b1 % 64 * 4096 + b2 % 64 * 64 + b3 % 64 ≤ 1114111))
    · exact .inr (.inr (.inr (.inr ⟨⟨c6.1, c6.2.2.2.1, c6.2.1.2, c6.2.2.1.2, c6.2.2.2.2, c7.1⟩, if_pos c7⟩)))
    · exact .inl (if_neg c7)
  rw [if_neg c6]
  exact .inl rfl
/-- What is read whole is written back as it was. -/
theorem enc_decL (l : List UInt8) (h : l ≠ []) (hg : decL l ≠ (65533, 1)) : encL ((decL l).1 : Int) = l.take (decL l).2 := by
  rw [encL_scalar _ (decL_scalar l h)]
  rcases decodeN_cases l.length (atL l 0) (atL l 1) (atL l 2) (atL l 3) with e | ⟨c, e⟩ | ⟨c, e⟩ | ⟨c, e⟩ | ⟨c, e⟩
  · exact absurd e hg
  all_goals
    have e' : decL l = _ := e
    rw [e']
    clear e e' hg
  · match l, h, c with
    | x0 :: r, _, c =>
      have a0 : atL (x0 :: r) 0 = x0.toNat := rfl
      rw [a0] at c ⊢
      show bytesL (encN x0.toNat) = [x0]
      rw [encN_one _ c]
      show [UInt8.ofNat x0.toNat] = [x0]
      rw [u8_eq x0 _ rfl]
  · match l, h, c with
    | x0 :: x1 :: r, _, c =>
      have a0 : atL (x0 :: x1 :: r) 0 = x0.toNat := rfl
      have a1 : atL (x0 :: x1 :: r) 1 = x1.toNat := rfl
      rw [a0, a1] at c ⊢
      have g0 := x0.toNat_lt
      have g1 := x1.toNat_lt
      show bytesL (encN (x0.toNat % 32 * 64 + x1.toNat % 64)) = [x0, x1]
      rw [encN_two _ (by omega) (by omega)]
      show [UInt8.ofNat (192 + (x0.toNat % 32 * 64 + x1.toNat % 64) / 64), UInt8.ofNat (128 + (x0.toNat % 32 * 64 + x1.toNat % 64) % 64)] = [x0, x1]
      rw [u8_eq x0 _ (by omega), u8_eq x1 _ (by omega)]
    | [_], _, c => simp at c
  · match l, h, c with
    | x0 :: x1 :: x2 :: r, _, c =>
      have a0 : atL (x0 :: x1 :: x2 :: r) 0 = x0.toNat := rfl
      have a1 : atL (x0 :: x1 :: x2 :: r) 1 = x1.toNat := rfl
      have a2 : atL (x0 :: x1 :: x2 :: r) 2 = x2.toNat := rfl
      rw [a0, a1, a2] at c ⊢
      have g0 := x0.toNat_lt
      have g1 := x1.toNat_lt
      have g2 := x2.toNat_lt
      show bytesL (encN (x0.toNat % 16 * 4096 + x1.toNat % 64 * 64 + x2.toNat % 64)) = [x0, x1, x2]
      rw [encN_three _ (by omega) (by omega) (by omega)]
      show [UInt8.ofNat (224 + (x0.toNat % 16 * 4096 + x1.toNat % 64 * 64 + x2.toNat % 64) / 4096), UInt8.ofNat (128 + (x0.toNat % 16 * 4096 + x1.toNat % 64 * 64 + x2.toNat % 64) / 64 % 64), UInt8.ofNat (128 + (x0.toNat % 16 * 4096 + x1.toNat % 64 * 64 + x2.toNat % 64) % 64)] = [x0, x1, x2]
      rw [u8_eq x0 _ (by omega), u8_eq x1 _ (by omega), u8_eq x2 _ (by omega)]
    | [_], _, c => simp at c
    | [_, _], _, c => simp at c
  · match l, h, c with
    | x0 :: x1 :: x2 :: x3 :: r, _, c =>
      have a0 : atL (x0 :: x1 :: x2 :: x3 :: r) 0 = x0.toNat := rfl
      have a1 : atL (x0 :: x1 :: x2 :: x3 :: r) 1 = x1.toNat := rfl
      have a2 : atL (x0 :: x1 :: x2 :: x3 :: r) 2 = x2.toNat := rfl
      have a3 : atL (x0 :: x1 :: x2 :: x3 :: r) 3 = x3.toNat := rfl
      rw [a0, a1, a2, a3] at c ⊢
      have g0 := x0.toNat_lt
      have g1 := x1.toNat_lt
      have g2 := x2.toNat_lt
      have g3 := x3.toNat_lt
      show bytesL (encN (x0.toNat % 8 * 262144 + x1.toNat % 64 * 4096 + x2.toNat % 64 * 64 + x3.toNat % 64)) = [x0, x1, x2, x3]
      rw [encN_four _ (by omega) (by omega) (by omega)]
      show [UInt8.ofNat (240 + (x0.toNat % 8 * 262144 + x1.toNat % 64 * 4096 + x2.toNat % 64 * 64 + x3.toNat % 64) / 262144), UInt8.ofNat (128 + (x0.toNat % 8 * 262144 + x1.toNat % 64 * 4096 + x2.toNat % 64 * 64 + x3.toNat % 64) / 4096 % 64), UInt8.ofNat (128 + (x0.toNat % 8 * 262144 + x1.toNat % 64 * 4096 + x2.toNat % 64 * 64 + x3.toNat % 64) / 64 % 64), UInt8.ofNat (128 + (x0.toNat % 8 * 262144 + x1.toNat % 64 * 4096 + x2.toNat % 64 * 64 + x3.toNat % 64) % 64)] = [x0, x1, x2, x3]
      rw [u8_eq x0 _ (by omega), u8_eq x1 _ (by omega), u8_eq x2 _ (by omega), u8_eq x3 _ (by omega)]
    | [_], _, c => simp at c
    | [_, _], _, c => simp at c
    | [_, _, _], _, c => simp at c
theorem ptsL_enc : ∀ (cs : List Nat), (∀ c ∈ cs, Scalar c) → ptsL (cs.flatMap fun c : Nat => encL (c : Int)) = cs.map fun c : Nat => (c, (encL (c : Int)).length)
  | [], _ => rfl
  | c :: cs, h => by
    have hl := encL_length (c : Int)
    have hs := h c (by simp)
    rw [List.flatMap_cons, ptsL_cons _ (by intro e; have := congrArg List.length e; rw [List.length_append] at this; simp only [List.length_nil] at this; omega), decL_enc c hs]
    simp only [List.drop_left, List.map_cons]
    rw [ptsL_enc cs (fun c hc => h c (by simp [hc]))]
theorem ptsL_scalar : ∀ (n : Nat) (l : List UInt8), l.length ≤ n → ∀ p ∈ ptsL l, Scalar p.1
  | n, [], _, p, hp => by simp [ptsL_nil] at hp
  | 0, _ :: _, h, _, _ => by simp at h
  | n + 1, y :: l, h, p, hp => by
    have hne : y :: l ≠ [] := by simp
    have hb := decL_bd (y :: l) hne
    rw [ptsL_cons _ hne] at hp
    rcases List.mem_cons.1 hp with rfl | hp
    · exact decL_scalar _ hne
    · exact ptsL_scalar n _ (by rw [List.length_drop]; simp at h ⊢; omega) p hp
/-- A text without broken bytes is what its code points write. -/
theorem ptsL_back : ∀ (n : Nat) (l : List UInt8), l.length ≤ n → (∀ p ∈ ptsL l, p ≠ (65533, 1)) → (ptsL l).flatMap (fun p => encL (p.1 : Int)) = l
  | n, [], _, _ => rfl
  | 0, _ :: _, h, _ => by simp at h
  | n + 1, y :: l, h, hg => by
    have hne : y :: l ≠ [] := by simp
    have hb := decL_bd (y :: l) hne
    rw [ptsL_cons _ hne] at hg ⊢
    rw [List.flatMap_cons, enc_decL _ hne (hg _ (by simp)), ptsL_back n _ (by rw [List.length_drop]; simp at h ⊢; omega) (fun p hp => hg p (by simp [hp])), List.take_append_drop]
end Go.Pub
namespace Go.Pub
open Go.RowKit
def mk (l : List UInt8) : ByteArray := ⟨l.toArray⟩
theorem bytesL_mk' (l : List UInt8) : bytesL (mk l) = l := bytesL_of l
theorem mk_bytesL (s : ByteArray) : mk (bytesL s) = s := (bytesL_mk s).symm
theorem mk_size (l : List UInt8) : (mk l).size = l.length := by rw [← bytesL_length, bytesL_mk']
/-- The rest of a string from a byte on. -/
def sfx (s : ByteArray) (k : Nat) : List UInt8 := (bytesL s).drop k
/-- The bytes from i up to k. -/
def sub (s : ByteArray) (i k : Nat) : List UInt8 := ((bytesL s).drop i).take (k - i)
theorem sfx_cons (s : ByteArray) (k : Nat) (h : k < s.size) : sfx s k = s.get! k :: sfx s (k + 1) := by
  unfold sfx bytesL
  have h' : k < s.data.toList.length := by rw [Array.length_toList]; exact h
  rw [List.drop_eq_getElem_cons h']
  congr 1
  show _ = s.data[k]!
  rw [getElem!_pos s.data k h]
  simp
theorem sfx_nil (s : ByteArray) (k : Nat) (h : s.size ≤ k) : sfx s k = [] := by
  unfold sfx; exact List.drop_of_length_le (by rw [bytesL_length]; exact h)
theorem sfx_len (s : ByteArray) (k : Nat) : (sfx s k).length = s.size - k := by unfold sfx; rw [List.length_drop, bytesL_length]
theorem u8_nat (b : UInt8) (n : Nat) (hn : n < 256) : b = UInt8.ofNat n ↔ b.toNat = n := by
  constructor
  · intro h; subst h; simp [UInt8.toNat_ofNat]; omega
  · intro h; rw [← h]; simp
theorem bt_u8 (s : ByteArray) (k n : Nat) (hn : n < 256) : s.get! k = UInt8.ofNat n ↔ bt s k = n := u8_nat _ n hn
theorem bytesL_sub (s : ByteArray) (i k : Nat) : bytesL (s.extract i k) = sub s i k := by
  unfold sub bytesL
  rw [ByteArray.data_extract, Array.toList_extract, List.extract_eq_take_drop]
theorem sfx_head {s : ByteArray} {i : Nat} {b : UInt8} {r : List UInt8} (h : sfx s i = b :: r) : i < s.size ∧ bt s i = b.toNat ∧ sfx s (i + 1) = r := by
  have hl : i < s.size := by
    have := congrArg List.length h
    rw [sfx_len, List.length_cons] at this
    omega
  rw [sfx_cons s i hl] at h
  injection h with h1 h2
  exact ⟨hl, by rw [← h1]; rfl, h2⟩
theorem nil_list (s : ByteArray) (h : bytesL s = []) : s.toList = [] ∧ s.toList.isEmpty = true := by
  have e : s = ⟨#[]⟩ := by rw [← mk_bytesL s, h]; rfl
  subst e
  exact ⟨by rw [Lib.toList_data], by rw [Lib.toList_data]; rfl⟩
theorem cons_list (s : ByteArray) (h : bytesL s ≠ []) : s.toList ≠ [] ∧ s.toList.isEmpty = false := by
  have e : s.toList = bytesL s := Lib.toList_data s
  rw [e]
  refine ⟨h, ?_⟩
  cases hb : bytesL s with
  | nil => exact absurd hb h
  | cons a l => rfl
theorem size_nil (s : ByteArray) : s.size = 0 ↔ bytesL s = [] := by
  rw [← bytesL_length s]; exact List.length_eq_zero_iff
end Go.Pub
namespace Go.Pub
def spaceB (c : Int) : Bool := c == 32 || c == 10
def uncleanB (c : Int) : Bool := (decide (c < 32) && c != 10) || c == 127
/-- Whether the byte at a place is a line feed is whether the code point there is one. -/
theorem lf_at (s : ByteArray) (i : Nat) (h : i < s.size) : ((Utf8.decode s i).1 == 10) = (bt s i == 10) := by
  by_cases h0 : bt s i < 128
  · rw [dec_one s i h0]
  · have h1 : ((Utf8.decode s i).1 == 10) = false := by
      have hb := bt_lt s i
      have g1 := bt_lt s (i + 1)
      rw [Lib.decode_at]
      show ((Lib.decodeN _ (bt s i) (bt s (i + 1)) (bt s (i + 2)) (bt s (i + 3))).1 == 10) = false
      unfold Lib.decodeN
      (repeat' split) <;> (simp; try omega)
    rw [h1]; symm; simp; omega
end Go.Pub
namespace Go.Proofs.YtcjkgmfidkgamaaGreatDoor
open Go.RowKit Go.Pub
theorem i64_and_mask (a k : Nat) (ha : a < 256) (hk : k ≤ 7) : bits .and .i64 (a : Int) ((2 ^ k - 1 : Nat) : Int) = ((a % 2 ^ k : Nat) : Int) := by
  have hk' : (2 : Nat) ^ k ≤ 2 ^ 7 := Nat.pow_le_pow_right (by decide) hk
  have h := show bits .and .i64 (a : Int) ((2 ^ k - 1 : Nat) : Int) = ((a &&& (2 ^ k - 1) : Nat) : Int) by
    have o : ∀ x : Nat, x < 256 → (BitVec.ofInt 64 (x : Int)).toNat = x := fun x hx => by
      rw [BitVec.ofInt_natCast, BitVec.toNat_ofNat]; exact Nat.mod_eq_of_lt (by omega)
    show IntKind.i64.wrap ((BitVec.ofInt 64 (a : Int) &&& BitVec.ofInt 64 ((2 ^ k - 1 : Nat) : Int)).toNat : Int) = _
    have hx : a &&& (2 ^ k - 1) ≤ a := Nat.and_le_left
    rw [BitVec.toNat_and, o a ha, o _ (by omega), IntKind.wrap_i64]
    omega
  rw [h, Nat.and_two_pow_sub_one_eq_mod]
theorem byte_mod (b : Nat) : ((b : Int) % 64) = ((b % 64 : Nat) : Int) := by omega
theorem i64_or_low (a b : Nat) (ha : a < 8388608) (hb : b < 64) : bits .or .i64 ((a : Int) * 64) (b : Int) = ((a * 64 + b : Nat) : Int) := by
  have o : ∀ x : Nat, x < 9223372036854775808 → (BitVec.ofInt 64 (x : Int)).toNat = x := fun x hx => by
    rw [BitVec.ofInt_natCast, BitVec.toNat_ofNat]; exact Nat.mod_eq_of_lt (by omega)
  have e : ((a : Int) * 64) = ((a * 64 : Nat) : Int) := by omega
  rw [e]
  show IntKind.i64.wrap ((BitVec.ofInt 64 ((a * 64 : Nat) : Int) ||| BitVec.ofInt 64 (b : Int)).toNat : Int) = _
  have hor : a * 64 ||| b = a * 64 + b := by
    have := Nat.two_pow_add_eq_or_of_lt (i := 6) (b := b) (by simpa using hb) a
    rw [show (2 : Nat) ^ 6 = 64 from rfl, Nat.mul_comm 64 a] at this
    exact this.symm
  rw [BitVec.toNat_or, o _ (by omega), o b (by omega), hor, IntKind.wrap_i64]
  omega
set_option maxRecDepth 100000 in
set_option maxHeartbeats 1000000 in
theorem width_any (b : Nat) (hb : b < 256) (w : World) :
    Calls Tryz.prog 124 #[.int .u8 b] w fun e w' => e = .returned (.int .i64 (wd b)) ∧ w = w' := by
  have hb' : (b : Int) < 256 := by omega
  have HW : Hid (wd b = if b < 128 then 1 else if 194 ≤ b ∧ b ≤ 223 then 2 else if 224 ≤ b ∧ b ≤ 239 then 3 else if 240 ≤ b ∧ b ≤ 244 then 4 else 0) := Lib.hid rfl
  generalize wd b = z at *
  clear hb
  go_enter Tryz.func124, Tryz.ntmps124
  go_wp2
  all_goals
    go_ret
    have hz := HW.out
    (repeat' split at hz) <;> first | omega | (subst hz; exact ⟨rfl, rfl⟩)

set_option maxRecDepth 100000 in
set_option maxHeartbeats 1000000 in
theorem second_any (b : Nat) (hb : b < 256) (w : World) :
    Calls Tryz.prog 125 #[.int .u8 b] w fun e w' => e = .returned (.tuple #[.int .u8 (lo b), .int .u8 (hiB b)]) ∧ w = w' := by
  have HW : Hid (lo b = if b = 224 then 160 else if b = 240 then 144 else 128) := Lib.hid rfl
  have HV : Hid (hiB b = if b = 237 then 159 else if b = 244 then 143 else 191) := Lib.hid rfl
  generalize lo b = y at *
  generalize hiB b = z at *
  go_enter Tryz.func125, Tryz.ntmps125
  go_wp2
  all_goals
    go_ret2
    have hz := HW.out
    have hy := HV.out
    refine ⟨?_, rfl⟩
    simp only [beq_iff_eq, beq_eq_false_iff_ne, ne_eq] at *
    (repeat' split at hz) <;> first | omega | ((repeat' split at hy) <;> first | omega | (subst hz hy; rfl))

def PairQuiet (c n : Int) (w : World) (e : Ending) (w' : World) : Prop := e = .returned (.tuple #[.int .i64 c, .int .i64 n]) ∧ ∃ k, w' = w.drewN k
set_option maxRecDepth 100000 in
set_option maxHeartbeats 1000000 in
theorem next_out (s : ByteArray) (i : Int) (w : World) (hs : s.size ≤ 9223372036854775807) (h : ¬ (0 ≤ i ∧ i < s.size)) :
    Calls Tryz.prog 85 #[.string s, .int .i64 i] w (PairQuiet (-1) 0 w) := by
  by_cases h0 : i < 0
  all_goals
    go_enter Tryz.func85, Tryz.ntmps85
    go_wp2
    go_ret2
    exact ⟨rfl, 0, rfl⟩

set_option maxRecDepth 100000 in
set_option maxHeartbeats 1000000 in
theorem next_bad (s : ByteArray) (i : Nat) (w : World) (hs : s.size ≤ 9223372036854775807) (hi : i < s.size) (h : wd (bt s i) = 0 ∨ s.size - i < wd (bt s i)) :
    Calls Tryz.prog 85 #[.string s, .int .i64 i] w (PairQuiet 65533 1 w) := by
  have hb := bt_lt s i
  have hbt := Lib.hid (get_bt s i hi)
  by_cases h0 : wd (bt s i) = 0
  · have hb0 : (((wd (bt s i) : Nat) : Int) == 0) = true := by rw [h0]; rfl
    clear h0 h
    go_enter Tryz.func85, Tryz.ntmps85
    go_wp2_with (go_at_call 124; rw [hbt.out]; refine (width_any _ hb _).mono ?_; rintro e w' ⟨rfl, rfl⟩)
    go_ret2
    exact ⟨rfl, 0, rfl⟩
  · have hb0 : (((wd (bt s i) : Nat) : Int) == 0) = false := by simpa using h0
    have h' : (s.size : Int) - i < (wd (bt s i) : Nat) := by omega
    clear h0 h
    go_enter Tryz.func85, Tryz.ntmps85
    go_wp2_with (go_at_call 124; rw [hbt.out]; refine (width_any _ hb _).mono ?_; rintro e w' ⟨rfl, rfl⟩)
    go_ret2
    exact ⟨rfl, 0, rfl⟩

theorem pair_mk {c n c' n' : Int} {w : World} {k : Nat} (hc : c = c') (hn : n = n') : PairQuiet c' n' w (.returned (.tuple #[.int .i64 c, .int .i64 n])) (w.drewN k) := by
  subst hc hn; exact ⟨rfl, k, rfl⟩
set_option maxRecDepth 100000 in
set_option maxHeartbeats 1000000 in
theorem next_one (s : ByteArray) (i : Nat) (w : World) (hs : s.size ≤ 9223372036854775807) (hi : i < s.size) (h : bt s i < 128) :
    Calls Tryz.prog 85 #[.string s, .int .i64 i] w (PairQuiet (bt s i) 1 w) := by
  have hb := bt_lt s i
  have hlt : ((s[i].toNat : Nat) : Int) < 256 := by rw [get_bt s i hi]; omega
  have hbt := Lib.hid (get_bt s i hi)
  have hw : wd (bt s i) = 1 := by unfold wd; rw [if_pos h]
  have hw' := Lib.hid hw
  clear hw
  go_enter Tryz.func85, Tryz.ntmps85
  go_wp2_with (go_at_call 124; rw [hbt.out]; refine (width_any _ hb _).mono ?_; rw [hw'.out]; rintro e w' ⟨rfl, rfl⟩)
  go_ret2
  exact pair_mk (k := 0) (by rw [hbt.out]) rfl

theorem bt_int (s : ByteArray) (k : Nat) (h : k < s.size) : ((s[k].toNat : Nat) : Int) = (bt s k : Int) := by rw [get_bt s k h]
set_option maxRecDepth 100000 in
set_option maxHeartbeats 1000000 in
theorem next_second (s : ByteArray) (i : Nat) (w : World) (hs : s.size ≤ 9223372036854775807) (hi : i < s.size) (h2 : 2 ≤ wd (bt s i)) (hn : wd (bt s i) ≤ s.size - i) (h : bt s (i + 1) < lo (bt s i) ∨ hiB (bt s i) < bt s (i + 1)) :
    Calls Tryz.prog 85 #[.string s, .int .i64 i] w (PairQuiet 65533 1 w) := by
  have hb := bt_lt s i
  have hi1 : i + 1 < s.size := by omega
  have hlt : ((s[i].toNat : Nat) : Int) < 256 := by rw [get_bt s i hi]; omega
  have hlt1 : ((s[i + 1].toNat : Nat) : Int) < 256 := by rw [get_bt s (i + 1) hi1]; have := bt_lt s (i + 1); omega
  have e1 := bt_int s (i + 1) hi1
  have hbt := Lib.hid (get_bt s i hi)
  have hn' : ((wd (bt s i) : Nat) : Int) ≤ (s.size : Int) - i := by omega
  have z0 : (((wd (bt s i) : Nat) : Int) == 0) = false := by simp; omega
  have z1 : (((wd (bt s i) : Nat) : Int) == 1) = false := by simp; omega
  rcases h with h | h
  · have h' : ((s[i + 1].toNat : Nat) : Int) < (lo (bt s i) : Nat) := by omega
    clear h e1 hn
    go_enter Tryz.func85, Tryz.ntmps85
    go_wp2_with (first | (go_at_call 124; rw [hbt.out]; refine (width_any _ hb _).mono ?_; rintro e w' ⟨rfl, rfl⟩) | (go_at_call 125; rw [hbt.out]; refine (second_any _ hb _).mono ?_; rintro e w' ⟨rfl, rfl⟩))
    go_ret2
    exact pair_mk (k := 0) rfl rfl
  · have h' : ((hiB (bt s i) : Nat) : Int) < ((s[i + 1].toNat : Nat) : Int) := by omega
    have hle : ((lo (bt s i) : Nat) : Int) ≤ ((s[i + 1].toNat : Nat) : Int) := by
      have : lo (bt s i) ≤ hiB (bt s i) := by unfold lo hiB; (repeat' split) <;> omega
      omega
    clear h e1 hn
    go_enter Tryz.func85, Tryz.ntmps85
    go_wp2_with (first | (go_at_call 124; rw [hbt.out]; refine (width_any _ hb _).mono ?_; rintro e w' ⟨rfl, rfl⟩) | (go_at_call 125; rw [hbt.out]; refine (second_any _ hb _).mono ?_; rintro e w' ⟨rfl, rfl⟩))
    go_ret2
    exact pair_mk (k := 0) rfl rfl

set_option maxRecDepth 100000 in
set_option maxHeartbeats 8000000 in
theorem next_more (s : ByteArray) (i sz : Nat) (w : World) (hs : s.size ≤ 9223372036854775807) (hi : i < s.size) (hw : wd (bt s i) = sz) (h2 : sz = 2 ∨ sz = 3 ∨ sz = 4) (hn : sz ≤ s.size - i) (hl : lo (bt s i) ≤ bt s (i + 1)) (hh : bt s (i + 1) ≤ hiB (bt s i)) :
    Calls Tryz.prog 85 #[.string s, .int .i64 i] w (PairQuiet (Utf8.decode s i).1 (Utf8.decode s i).2 w) := by
  have hb := bt_lt s i
  have hi1 : i + 1 < s.size := by omega
  have hlt : ((s[i].toNat : Nat) : Int) < 256 := by rw [get_bt s i hi]; omega
  have hlt1 : ((s[i + 1].toNat : Nat) : Int) < 256 := by rw [get_bt s (i + 1) hi1]; have := bt_lt s (i + 1); omega
  have e1 := bt_int s (i + 1) hi1
  have hbt := Lib.hid (get_bt s i hi)
  have h1 : ((lo (bt s i) : Nat) : Int) ≤ ((s[i + 1].toNat : Nat) : Int) := by omega
  have h3 : ((s[i + 1].toNat : Nat) : Int) ≤ ((hiB (bt s i) : Nat) : Int) := by omega
  have hbad : ∀ j, j + 1 < sz → bt s (i + 1 + j) < 128 ∨ 191 < bt s (i + 1 + j) → Utf8.decode s i = (65533, 1) := fun j hj h => dec_cont s i j (by rw [hw]; exact hj) h
  have hgood : ContTo s i (sz - 1) → Utf8.decode s i = (acc s i (2 ^ (7 - sz)) (sz - 1), sz) := dec_whole s i sz hi hw (by omega) hn hl hh
  have Hbad := Lib.hid hbad
  have Hgood := Lib.hid hgood
  have hw' := Lib.hid hw
  clear hbad hgood hl hh e1 hw
  generalize Utf8.decode s i = D at *
  have d0 : decide ((i : Int) < 0) = false := by simp
  have d2 : decide (s[i + 1].toNat < lo (bt s i)) = false := by simp; omega
  have d3 : decide (hiB (bt s i) < s[i + 1].toNat) = false := by simp; omega
  rcases h2 with rfl | rfl | rfl
  · have hn' : (2 : Int) ≤ (s.size : Int) - i := by omega
    have d1 : decide ((s.size : Int) - i < 2) = false := by simp; omega
    go_enter Tryz.func85, Tryz.ntmps85
    go_wp2_with (first | (go_at_call 124; rw [hbt.out]; refine (width_any _ hb _).mono ?_; rw [hw'.out]; rintro e w' ⟨rfl, rfl⟩) | (go_at_call 125; rw [hbt.out]; refine (second_any _ hb _).mono ?_; rintro e w' ⟨rfl, rfl⟩))
    go_quiet (fail)
    go_wp2
    go_loop [4, 71] (fun c k => ∃ j : Nat, j ≤ 2 - 1 ∧ k = .int .i64 j ∧ c = .int .i64 (acc s i (2 ^ (7 - 2)) j) ∧ ContTo s i j) (fun _ k => 2 - 1 - (intOf k).toNat)
    case atStart => exact ⟨0, by omega, rfl, congrArg (Value.int .i64) (by rw [hbt.out]; exact i64_and_mask _ 5 hb (by decide)), fun k hk => absurd hk (by omega)⟩
    case round =>
      obtain ⟨j, hj, rfl, rfl, hc⟩ := hrel
      have ha := acc_lt s i (2 ^ (7 - 2)) j (by decide) (by decide) (by omega)
      generalize hacc : acc s i (2 ^ (7 - 2)) j = a at *
      have Hacc := Lib.hid hacc
      clear hacc
      by_cases hlast : j < 2 - 1
      · have hij : i + 1 + j < s.size := by omega
        have hlj : ((s[i + 1 + j].toNat : Nat) : Int) < 256 := by rw [get_bt s _ hij]; have := bt_lt s (i + 1 + j); omega
        by_cases hcont : 128 ≤ bt s (i + 1 + j) ∧ bt s (i + 1 + j) ≤ 191
        · have q1 : decide (((s[i + 1 + j].toNat : Nat) : Int) < 128) = false := by rw [get_bt s _ hij]; simp; omega
          have q2 : decide (191 < ((s[i + 1 + j].toNat : Nat) : Int)) = false := by rw [get_bt s _ hij]; simp; omega
          go_wp2
          go_round
          case rel =>
            refine ⟨j + 1, by omega, by go_num, congrArg (Value.int .i64) ?_, fun k hk => ?_⟩
            · rw [bt_int s _ hij, byte_mod, i64_or_low _ _ ha (Nat.mod_lt _ (by decide)), ← Hacc.out]
              rfl
            · by_cases hk' : k < j
              · exact hc k hk'
              · obtain rfl : k = j := by omega
                exact hcont
          case measure => simp [intOf]; omega
        · have hb' := Hbad.out j (by omega) (by omega)
          by_cases q1 : bt s (i + 1 + j) < 128
          · have q1' : ((s[i + 1 + j].toNat : Nat) : Int) < 128 := by rw [get_bt s _ hij]; omega
            clear hb' q1 hcont
            go_wp2
            go_ret2
            exact pair_mk (by rw [Hbad.out j (by omega) (by have := get_bt s _ hij; omega)]; rfl) (by rw [Hbad.out j (by omega) (by have := get_bt s _ hij; omega)]; rfl)
          · have q1' : 128 ≤ ((s[i + 1 + j].toNat : Nat) : Int) := by rw [get_bt s _ hij]; omega
            have q2' : 191 < ((s[i + 1 + j].toNat : Nat) : Int) := by rw [get_bt s _ hij]; omega
            clear hb' q1 hcont
            go_wp2
            go_ret2
            exact pair_mk (by rw [Hbad.out j (by omega) (by have := get_bt s _ hij; omega)]; rfl) (by rw [Hbad.out j (by omega) (by have := get_bt s _ hij; omega)]; rfl)
      · obtain rfl : j = 2 - 1 := by omega
        go_wp2
        go_ret2
        exact pair_mk (by rw [Hgood.out hc, Hacc.out]) (by rw [Hgood.out hc]; rfl)
  · have hn' : (3 : Int) ≤ (s.size : Int) - i := by omega
    have d1 : decide ((s.size : Int) - i < 3) = false := by simp; omega
    go_enter Tryz.func85, Tryz.ntmps85
    go_wp2_with (first | (go_at_call 124; rw [hbt.out]; refine (width_any _ hb _).mono ?_; rw [hw'.out]; rintro e w' ⟨rfl, rfl⟩) | (go_at_call 125; rw [hbt.out]; refine (second_any _ hb _).mono ?_; rintro e w' ⟨rfl, rfl⟩))
    go_quiet (fail)
    go_wp2
    go_loop [4, 71] (fun c k => ∃ j : Nat, j ≤ 3 - 1 ∧ k = .int .i64 j ∧ c = .int .i64 (acc s i (2 ^ (7 - 3)) j) ∧ ContTo s i j) (fun _ k => 3 - 1 - (intOf k).toNat)
    case atStart => exact ⟨0, by omega, rfl, congrArg (Value.int .i64) (by rw [hbt.out]; exact i64_and_mask _ 4 hb (by decide)), fun k hk => absurd hk (by omega)⟩
    case round =>
      obtain ⟨j, hj, rfl, rfl, hc⟩ := hrel
      have ha := acc_lt s i (2 ^ (7 - 3)) j (by decide) (by decide) (by omega)
      generalize hacc : acc s i (2 ^ (7 - 3)) j = a at *
      have Hacc := Lib.hid hacc
      clear hacc
      by_cases hlast : j < 3 - 1
      · have hij : i + 1 + j < s.size := by omega
        have hlj : ((s[i + 1 + j].toNat : Nat) : Int) < 256 := by rw [get_bt s _ hij]; have := bt_lt s (i + 1 + j); omega
        by_cases hcont : 128 ≤ bt s (i + 1 + j) ∧ bt s (i + 1 + j) ≤ 191
        · have q1 : decide (((s[i + 1 + j].toNat : Nat) : Int) < 128) = false := by rw [get_bt s _ hij]; simp; omega
          have q2 : decide (191 < ((s[i + 1 + j].toNat : Nat) : Int)) = false := by rw [get_bt s _ hij]; simp; omega
          go_wp2
          go_round
          case rel =>
            refine ⟨j + 1, by omega, by go_num, congrArg (Value.int .i64) ?_, fun k hk => ?_⟩
            · rw [bt_int s _ hij, byte_mod, i64_or_low _ _ ha (Nat.mod_lt _ (by decide)), ← Hacc.out]
              rfl
            · by_cases hk' : k < j
              · exact hc k hk'
              · obtain rfl : k = j := by omega
                exact hcont
          case measure => simp [intOf]; omega
        · have hb' := Hbad.out j (by omega) (by omega)
          by_cases q1 : bt s (i + 1 + j) < 128
          · have q1' : ((s[i + 1 + j].toNat : Nat) : Int) < 128 := by rw [get_bt s _ hij]; omega
            clear hb' q1 hcont
            go_wp2
            go_ret2
            exact pair_mk (by rw [Hbad.out j (by omega) (by have := get_bt s _ hij; omega)]; rfl) (by rw [Hbad.out j (by omega) (by have := get_bt s _ hij; omega)]; rfl)
          · have q1' : 128 ≤ ((s[i + 1 + j].toNat : Nat) : Int) := by rw [get_bt s _ hij]; omega
            have q2' : 191 < ((s[i + 1 + j].toNat : Nat) : Int) := by rw [get_bt s _ hij]; omega
            clear hb' q1 hcont
            go_wp2
            go_ret2
            exact pair_mk (by rw [Hbad.out j (by omega) (by have := get_bt s _ hij; omega)]; rfl) (by rw [Hbad.out j (by omega) (by have := get_bt s _ hij; omega)]; rfl)
      · obtain rfl : j = 3 - 1 := by omega
        go_wp2
        go_ret2
        exact pair_mk (by rw [Hgood.out hc, Hacc.out]) (by rw [Hgood.out hc]; rfl)
  · have hn' : (4 : Int) ≤ (s.size : Int) - i := by omega
    have d1 : decide ((s.size : Int) - i < 4) = false := by simp; omega
    go_enter Tryz.func85, Tryz.ntmps85
    go_wp2_with (first | (go_at_call 124; rw [hbt.out]; refine (width_any _ hb _).mono ?_; rw [hw'.out]; rintro e w' ⟨rfl, rfl⟩) | (go_at_call 125; rw [hbt.out]; refine (second_any _ hb _).mono ?_; rintro e w' ⟨rfl, rfl⟩))
    go_quiet (fail)
    go_wp2
    go_loop [4, 71] (fun c k => ∃ j : Nat, j ≤ 4 - 1 ∧ k = .int .i64 j ∧ c = .int .i64 (acc s i (2 ^ (7 - 4)) j) ∧ ContTo s i j) (fun _ k => 4 - 1 - (intOf k).toNat)
    case atStart => exact ⟨0, by omega, rfl, congrArg (Value.int .i64) (by rw [hbt.out]; exact i64_and_mask _ 3 hb (by decide)), fun k hk => absurd hk (by omega)⟩
    case round =>
      obtain ⟨j, hj, rfl, rfl, hc⟩ := hrel
      have ha := acc_lt s i (2 ^ (7 - 4)) j (by decide) (by decide) (by omega)
      generalize hacc : acc s i (2 ^ (7 - 4)) j = a at *
      have Hacc := Lib.hid hacc
      clear hacc
      by_cases hlast : j < 4 - 1
      · have hij : i + 1 + j < s.size := by omega
        have hlj : ((s[i + 1 + j].toNat : Nat) : Int) < 256 := by rw [get_bt s _ hij]; have := bt_lt s (i + 1 + j); omega
        by_cases hcont : 128 ≤ bt s (i + 1 + j) ∧ bt s (i + 1 + j) ≤ 191
        · have q1 : decide (((s[i + 1 + j].toNat : Nat) : Int) < 128) = false := by rw [get_bt s _ hij]; simp; omega
          have q2 : decide (191 < ((s[i + 1 + j].toNat : Nat) : Int)) = false := by rw [get_bt s _ hij]; simp; omega
          go_wp2
          go_round
          case rel =>
            refine ⟨j + 1, by omega, by go_num, congrArg (Value.int .i64) ?_, fun k hk => ?_⟩
            · rw [bt_int s _ hij, byte_mod, i64_or_low _ _ ha (Nat.mod_lt _ (by decide)), ← Hacc.out]
              rfl
            · by_cases hk' : k < j
              · exact hc k hk'
              · obtain rfl : k = j := by omega
                exact hcont
          case measure => simp [intOf]; omega
        · have hb' := Hbad.out j (by omega) (by omega)
          by_cases q1 : bt s (i + 1 + j) < 128
          · have q1' : ((s[i + 1 + j].toNat : Nat) : Int) < 128 := by rw [get_bt s _ hij]; omega
            clear hb' q1 hcont
            go_wp2
            go_ret2
            exact pair_mk (by rw [Hbad.out j (by omega) (by have := get_bt s _ hij; omega)]; rfl) (by rw [Hbad.out j (by omega) (by have := get_bt s _ hij; omega)]; rfl)
          · have q1' : 128 ≤ ((s[i + 1 + j].toNat : Nat) : Int) := by rw [get_bt s _ hij]; omega
            have q2' : 191 < ((s[i + 1 + j].toNat : Nat) : Int) := by rw [get_bt s _ hij]; omega
            clear hb' q1 hcont
            go_wp2
            go_ret2
            exact pair_mk (by rw [Hbad.out j (by omega) (by have := get_bt s _ hij; omega)]; rfl) (by rw [Hbad.out j (by omega) (by have := get_bt s _ hij; omega)]; rfl)
      · obtain rfl : j = 4 - 1 := by omega
        go_wp2
        go_ret2
        exact pair_mk (by rw [Hgood.out hc, Hacc.out]) (by rw [Hgood.out hc]; rfl)

end Go.Proofs.YtcjkgmfidkgamaaGreatDoor
namespace Go.Pub
open Go.RowKit
theorem ret_int {k : IntKind} {a b : Int} (h : a = b) : Ending.returned (.int k a) = .returned (.int k b) := by rw [h]
theorem ret_bool {a b : Bool} (h : a = b) : Ending.returned (.bool a) = .returned (.bool b) := by rw [h]
theorem ret_str {a b : ByteArray} (h : a = b) : Ending.returned (.string a) = .returned (.string b) := by rw [h]
theorem block_of_add (a : Addr) (n : Nat) : (a.add n).block = a.block := by unfold Addr.add; split <;> rfl
/-- The slice at A of n elements holds the cells xs and lies below block B. -/
def Reads (w : World) (B size : Nat) (A : Option Addr) (n : Nat) (xs : List Value) : Prop :=
  xs.length = n * size ∧ (0 < n → ∃ ad, A = some ad ∧ ad.block < B ∧ ∀ j u, xs[j]? = some u → w.cell? (ad.add j) = some u)
section
variable {w w' : World} {B B' size n : Nat} {A : Option Addr} {xs : List Value}
theorem Reads.none_ : Reads w B size A 0 [] := ⟨by simp, fun h => absurd h (by omega)⟩
theorem Reads.keep (h : Reads w B size A n xs) (hk : ∀ p : Addr, p.block < B → w'.cell? p = w.cell? p) : Reads w' B size A n xs :=
  ⟨h.1, fun hn => by
    obtain ⟨ad, e, hb, hc⟩ := h.2 hn
    exact ⟨ad, e, hb, fun j u hu => (hk _ (by rw [block_of_add]; exact hb)).trans (hc j u hu)⟩⟩
theorem Reads.more (h : Reads w B size A n xs) (hB : B ≤ B') : Reads w B' size A n xs :=
  ⟨h.1, fun hn => by
    obtain ⟨ad, e, hb, hc⟩ := h.2 hn
    exact ⟨ad, e, by omega, hc⟩⟩
theorem Reads.below (h : Reads w B size A n xs) (hb : Below B w w') : Reads w' B size A n xs := h.keep fun _ hp => hb.cell hp
theorem Reads.drewN (h : Reads w B size A n xs) (k : Nat) : Reads (w.drewN k) B size A n xs := h
theorem Reads.alloc (h : Reads w B size A n xs) (hB : B ≤ w.heap.size) (o : Obj) : Reads (w.alloc o) B size A n xs := h.keep fun p hp => World.cell?_alloc_lt w o p (by omega)
theorem Reads.setCell (h : Reads w B size A n xs) {p : Addr} (hB : B ≤ p.block) (u : Value) : Reads (w.setCell p u) B size A n xs :=
  h.keep fun q hq => World.cell?_setCell_other w p q u (fun e => by subst e; omega)
theorem Reads.grown (h : Reads w B size A n xs) {row : Option Nat} (hg : w.grownBy w' row) (hB : B ≤ w.heap.size) (hr : ∀ g, row = some g → B ≤ g) : Reads w' B size A n xs :=
  h.keep fun p hp => World.cell?_of_block (hg.block p.block (by omega) (fun e => by have := hr _ e.symm; omega))
theorem Reads.of_own {base : Nat} {e : TypeId} {c : Nat} (h : w.ownsRow base e size (.slice A n c) n xs) : Reads w w.heap.size size A n xs := by
  refine ⟨h.1, fun hn => ?_⟩
  obtain ⟨g, cap, hv, _, hlt⟩ := h.form hn
  have hA : A = some ⟨g, 0, none⟩ := by injection hv
  subst hA
  exact ⟨_, rfl, hlt, h.cells (g := g) rfl⟩
end
/-- An owned row's value is a slice. -/
theorem own_slice {w : World} {base size n : Nat} {e : TypeId} {v : Value} {xs : List Value} (h : w.ownsRow base e size v n xs) : ∃ A c, v = .slice A n c := by
  rcases h.2 with ⟨rfl, rfl⟩ | ⟨g, cap, cur, rfl, _⟩
  · exact ⟨none, 0, by have := h.1; rfl⟩
  · exact ⟨_, _, rfl⟩
theorem below_drewN {B : Nat} {a w : World} (h : Below B a w) (n : Nat) : Below B a (w.drewN n) := ⟨h.os, h.tape, h.output, h.size, h.block⟩
theorem grown_of_below {a w : World} (h : Below a.heap.size a w) (row : Option Nat) : a.grownBy w row := ⟨h.os, h.tape, h.output, h.size, fun i hi _ => h.block i hi⟩
theorem own_below {w w' : World} {base size n : Nat} {e : TypeId} {v : Value} {xs : List Value} (h : w.ownsRow base e size v n xs) (hb : Below w.heap.size w w') : w'.ownsRow base e size v n xs := by
  by_cases hv : v.ownBlock = none
  · exact h.kept (grown_of_below hb none) (.inl hv)
  · exact h.kept (grown_of_below hb none) (.inr hv)
end Go.Pub
namespace Go.Pub
def digitB (c : Int) : Bool := decide (48 ≤ c) && decide (c ≤ 57)
def inB (c : Int) (l : List (Int × Int)) : Bool := l.any fun r => decide (r.1 ≤ c) && decide (c ≤ r.2)
def punctL : List (Int × Int) := [(33, 47), (58, 64), (91, 96), (123, 126), (161, 169), (171, 180), (182, 185), (187, 191), (215, 215), (247, 247), (8208, 8231), (8240, 8286), (12289, 12291)]
end Go.Pub
namespace Go.Proofs.YtcjkgmfidkgamaaGreatDoor
open Go.RowKit Go.Pub
theorem wd_cases (b : Nat) : wd b = 0 ∨ (wd b = 1 ∧ b < 128) ∨ wd b = 2 ∨ wd b = 3 ∨ wd b = 4 := by
  unfold wd; (repeat' split) <;> simp_all
theorem next_any (s : ByteArray) (i : Int) (w : World) (hs : s.size ≤ 9223372036854775807) :
    Calls Tryz.prog 85 #[.string s, .int .i64 i] w (PairQuiet (nextAt s i).1 (nextAt s i).2 w) := by
  by_cases h : 0 ≤ i ∧ i < s.size
  · obtain ⟨k, rfl⟩ := Int.eq_ofNat_of_zero_le h.1
    have hk : k < s.size := by omega
    rw [nextAt_in s k hk]
    by_cases c0 : wd (bt s k) = 0
    · rw [dec_bad_width s k c0]; exact next_bad s k w hs hk (.inl c0)
    by_cases c1 : bt s k < 128
    · rw [dec_one s k c1]; exact next_one s k w hs hk c1
    have hw : wd (bt s k) = 2 ∨ wd (bt s k) = 3 ∨ wd (bt s k) = 4 := by
      rcases wd_cases (bt s k) with h | h | h
      · exact absurd h c0
      · exact absurd h.2 c1
      · exact h
    by_cases c2 : s.size - k < wd (bt s k)
    · rw [dec_short s k hk (by omega) c2]; exact next_bad s k w hs hk (.inr c2)
    by_cases c3 : bt s (k + 1) < lo (bt s k) ∨ hiB (bt s k) < bt s (k + 1)
    · rw [dec_second s k (by omega) c3]; exact next_second s k w hs hk (by omega) (by omega) c3
    · exact next_more s k (wd (bt s k)) w hs hk rfl hw (by omega) (by omega) (by omega)
  · rw [nextAt_out s i h]; exact next_out s i w hs h
set_option maxRecDepth 100000 in
set_option maxHeartbeats 400000 in
theorem space_any (c : Int) (w : World) : Calls Tryz.prog 39 #[.int .i64 c] w fun e w' => e = .returned (.bool (spaceB c)) ∧ w = w' := by
  have H : Hid (spaceB c = (c == 32 || c == 10)) := Lib.hid rfl
  generalize spaceB c = b at *
  go_enter Tryz.func39, Tryz.ntmps39
  go_wp2
  all_goals
    go_ret
    exact ⟨ret_bool (by rw [H.out] <;> simp_all), rfl⟩

set_option maxRecDepth 100000 in
set_option maxHeartbeats 400000 in
theorem digit_any (c : Int) (w : World) : Calls Tryz.prog 109 #[.int .i64 c] w fun e w' => e = .returned (.bool (digitB c)) ∧ w = w' := by
  have H : Hid (digitB c = (decide (48 ≤ c) && decide (c ≤ 57))) := Lib.hid rfl
  generalize digitB c = b at *
  by_cases h : 48 ≤ c
  all_goals
    go_enter Tryz.func109, Tryz.ntmps109
    go_wp2
  all_goals
    go_ret
    exact ⟨ret_bool (by rw [H.out]; first | rfl | (simp; omega)), rfl⟩

end Go.Proofs.YtcjkgmfidkgamaaGreatDoor
namespace Go.Proofs.YtcjkgmfidkgamaaGreatDoor
open Go.RowKit Go.Pub
theorem encode_bad (c : Int) (h : c < 0 ∨ 1114111 < c ∨ (55296 ≤ c ∧ c ≤ 57343)) : Utf8.encode c = Utf8.encode 65533 := by
  have hv : Utf8.valid c = false := by unfold Utf8.valid; simp; omega
  have hv' : Utf8.valid 65533 = true := by decide
  unfold Utf8.encode
  simp only [hv, hv', Bool.false_eq_true, if_false, if_true, Utf8.runeError, show (65533 : Int).toNat = 65533 from rfl]
theorem encode_size (c : Int) : 1 ≤ (Utf8.encode c).size ∧ (Utf8.encode c).size ≤ 4 := by
  unfold Utf8.encode
  simp only []
  generalize (if Utf8.valid c = true then c.toNat else Utf8.runeError) = x
  (repeat' split) <;> simp [ByteArray.size]
set_option maxRecDepth 100000 in
set_option maxHeartbeats 1000000 in
theorem sequence_any (c : Int) (w : World) : Calls Tryz.prog 147 #[.int .i64 c] w fun e w' => e = .returned (.string (Utf8.encode c)) ∧ w = w' := by
  have H : Hid (c < 0 ∨ 1114111 < c ∨ (55296 ≤ c ∧ c ≤ 57343) → Utf8.encode c = Utf8.encode 65533) := Lib.hid (encode_bad c)
  go_enter Tryz.func147, Tryz.ntmps147
  go_wp2
  all_goals
    go_ret
    exact ⟨ret_str (by first | rfl | exact (H.out (by omega)).symm), rfl⟩

set_option maxRecDepth 100000 in
set_option maxHeartbeats 1000000 in
theorem append_any (s : ByteArray) (c : Int) (w : World) (hs : s.size ≤ 1000000) : Calls Tryz.prog 120 #[.string s, .int .i64 c] w fun e w' => e = .returned (.string (s ++ Utf8.encode c)) ∧ w = w' := by
  have he := encode_size c
  have hsum : s.size + (Utf8.encode c).size ≤ 9223372036854775807 := by omega
  go_enter Tryz.func120, Tryz.ntmps120
  go_wp2_with (go_at_call 147; refine (sequence_any _ _).mono ?_; rintro e w' ⟨rfl, rfl⟩)
  go_ret
  exact ⟨rfl, rfl⟩

/-- A code point that clean text can have. -/
def okPt (p : Nat × Nat) : Bool := !(p.1 == 65533 && p.2 == 1) && !uncleanB p.1
def validB (s : ByteArray) : Bool := (pts s).all okPt
end Go.Proofs.YtcjkgmfidkgamaaGreatDoor
