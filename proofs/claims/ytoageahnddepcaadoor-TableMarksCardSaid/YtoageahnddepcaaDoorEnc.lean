/-
  The bytes of a code point: plain.
-/
import GoSem.Core.Utf8
import Derived.Lib.UnsafeStr
import Derived.Lib.RuneBytes
set_option linter.unusedVariables false
namespace Go.Pub
def bytesL (s : ByteArray) : List UInt8 := s.data.toList
def encL (c : Int) : List UInt8 := bytesL (Utf8.encode c)
def encN (c : Nat) : ByteArray :=
  if c < 0x80 then ⟨#[UInt8.ofNat c]⟩
  else if c < 0x800 then ⟨#[UInt8.ofNat (0xC0 + c / 64), UInt8.ofNat (0x80 + c % 64)]⟩
  else if c < 0x10000 then ⟨#[UInt8.ofNat (0xE0 + c / 4096), UInt8.ofNat (0x80 + c / 64 % 64), UInt8.ofNat (0x80 + c % 64)]⟩
  else ⟨#[UInt8.ofNat (0xF0 + c / 262144), UInt8.ofNat (0x80 + c / 4096 % 64), UInt8.ofNat (0x80 + c / 64 % 64), UInt8.ofNat (0x80 + c % 64)]⟩
theorem enc_encN (r : Int) : Utf8.encode r = encN (if Utf8.valid r = true then r.toNat else Utf8.runeError) := rfl
theorem enc_nat (n : Nat) (h : Utf8.valid (n : Int) = true) : Utf8.encode (n : Int) = encN n := by
  rw [enc_encN, if_pos h, Int.toNat_natCast]
theorem encN_one (n : Nat) (h : n < 128) : encN n = ⟨#[UInt8.ofNat n]⟩ := if_pos h
theorem encN_two (n : Nat) (h0 : ¬ n < 128) (h : n < 2048) : encN n = ⟨#[UInt8.ofNat (192 + n / 64), UInt8.ofNat (128 + n % 64)]⟩ := (if_neg h0).trans (if_pos h)
theorem encN_three (n : Nat) (h0 : ¬ n < 128) (h1 : ¬ n < 2048) (h : n < 65536) : encN n = ⟨#[UInt8.ofNat (224 + n / 4096), UInt8.ofNat (128 + n / 64 % 64), UInt8.ofNat (128 + n % 64)]⟩ := (if_neg h0).trans ((if_neg h1).trans (if_pos h))
theorem encN_four (n : Nat) (h0 : ¬ n < 128) (h1 : ¬ n < 2048) (h : ¬ n < 65536) : encN n = ⟨#[UInt8.ofNat (240 + n / 262144), UInt8.ofNat (128 + n / 4096 % 64), UInt8.ofNat (128 + n / 64 % 64), UInt8.ofNat (128 + n % 64)]⟩ := (if_neg h0).trans ((if_neg h1).trans (if_neg h))
theorem valid_of (n : Nat) (h : n < 55296 ∨ (57343 < n ∧ n ≤ 1114111)) : Utf8.valid (n : Int) = true := by
  unfold Utf8.valid
  rw [Bool.or_eq_true, Bool.and_eq_true, Bool.and_eq_true]
  simp only [decide_eq_true_eq]
  omega
theorem encL_nat (n : Nat) (h : Utf8.valid (n : Int) = true) : encL (n : Int) = bytesL (encN n) := congrArg bytesL (enc_nat n h)
theorem ofNat_toNat (n : Nat) (h : n < 256) : (UInt8.ofNat n).toNat = n := by simp; omega
theorem encCells_one (c : Int) (h0 : 0 ≤ c) (h : c < 128) : Lib.byteCells (encL c) = [.int .u8 c] := by
  obtain ⟨n, rfl⟩ := Int.eq_ofNat_of_zero_le h0
  rw [encL_nat n (valid_of n (by omega)), encN_one n (by omega)]
  simp only [bytesL, Lib.byteCells, List.map_cons, List.map_nil]
  rw [ofNat_toNat n (by omega)]
theorem encCells_two (c : Int) (h0 : 128 ≤ c) (h : c < 2048) : Lib.byteCells (encL c) = [.int .u8 (192 + c / 64), .int .u8 (128 + c % 64)] := by
  obtain ⟨n, rfl⟩ := Int.eq_ofNat_of_zero_le (show 0 ≤ c by omega)
  rw [encL_nat n (valid_of n (by omega)), encN_two n (by omega) (by omega)]
  simp only [bytesL, Lib.byteCells, List.map_cons, List.map_nil]
  rw [ofNat_toNat _ (by omega), ofNat_toNat _ (by omega)]
  simp
theorem encCells_three (c : Int) (h0 : 2048 ≤ c) (h : c < 65536) (hs : c < 55296 ∨ 57343 < c) : Lib.byteCells (encL c) = [.int .u8 (224 + c / 4096), .int .u8 (128 + c / 64 % 64), .int .u8 (128 + c % 64)] := by
  obtain ⟨n, rfl⟩ := Int.eq_ofNat_of_zero_le (show 0 ≤ c by omega)
  rw [encL_nat n (valid_of n (by omega)), encN_three n (by omega) (by omega) (by omega)]
  simp only [bytesL, Lib.byteCells, List.map_cons, List.map_nil]
  rw [ofNat_toNat _ (by omega), ofNat_toNat _ (by omega), ofNat_toNat _ (by omega)]
  simp
theorem encCells_four (c : Int) (h0 : 65536 ≤ c) (h : c ≤ 1114111) : Lib.byteCells (encL c) = [.int .u8 (240 + c / 262144), .int .u8 (128 + c / 4096 % 64), .int .u8 (128 + c / 64 % 64), .int .u8 (128 + c % 64)] := by
  obtain ⟨n, rfl⟩ := Int.eq_ofNat_of_zero_le (show 0 ≤ c by omega)
  rw [encL_nat n (valid_of n (by omega)), encN_four n (by omega) (by omega) (by omega)]
  simp only [bytesL, Lib.byteCells, List.map_cons, List.map_nil]
  rw [ofNat_toNat _ (by omega), ofNat_toNat _ (by omega), ofNat_toNat _ (by omega), ofNat_toNat _ (by omega)]
  simp
theorem encN_size (x : Nat) : 1 ≤ (bytesL (encN x)).length ∧ (bytesL (encN x)).length ≤ 4 := by
  by_cases h1 : x < 128
  · rw [encN_one x h1]; simp [bytesL]
  · by_cases h2 : x < 2048
    · rw [encN_two x h1 h2]; simp [bytesL]
    · by_cases h3 : x < 65536
      · rw [encN_three x h1 h2 h3]; simp [bytesL]
      · rw [encN_four x h1 h2 h3]; simp [bytesL]
theorem encL_length (c : Int) : 1 ≤ (encL c).length ∧ (encL c).length ≤ 4 := by
  unfold encL
  rw [enc_encN]
  exact encN_size _
theorem bytesL_mk (s : ByteArray) : s = ⟨(bytesL s).toArray⟩ := by unfold bytesL; simp
theorem enc_mk (c : Int) : Utf8.encode c = ⟨(encL c).toArray⟩ := bytesL_mk _
/-- The library's own words for the same bytes. -/
theorem encodeRune_eq (c : Int) : Lib.encodeRune c = encL c := by
  have key : ∀ l : List UInt8, Lib.byteCells (Lib.encodeRune c) = Lib.byteCells l → Lib.encodeRune c = l := by
    intro l h
    have inj : ∀ a b : List UInt8, Lib.byteCells a = Lib.byteCells b → a = b := by
      intro a
      induction a with
      | nil => intro b h; cases b with
        | nil => rfl
        | cons y b => simp [Lib.byteCells] at h
      | cons x a ih => intro b h; cases b with
        | nil => simp [Lib.byteCells] at h
        | cons y b =>
          simp only [Lib.byteCells, List.map_cons, List.cons.injEq, Value.int.injEq, true_and] at h
          have hx : x = y := UInt8.toNat_inj.1 (by omega)
          rw [hx, ih b h.2]
    exact inj _ _ h
  apply key
  rw [Lib.byteCells_encodeRune]
  by_cases h0 : c < 0 ∨ (55296 ≤ c ∧ c ≤ 57343) ∨ 1114111 < c
  · have hv : Utf8.valid c = false := by
      unfold Utf8.valid
      rw [Bool.or_eq_false_iff, Bool.and_eq_false_iff, Bool.and_eq_false_iff]
      simp only [decide_eq_false_iff_not]
      omega
    have e : encL c = encL ((65533 : Nat) : Int) := by
      unfold encL
      rw [enc_nat 65533 (valid_of 65533 (by omega)), enc_encN, hv, if_neg (by decide)]
      rfl
    rw [e, Lib.runeCells, Lib.encodeRuneZ_bad h0, encCells_three ((65533 : Nat) : Int) (by omega) (by omega) (by omega)]
    rfl
  · unfold Lib.runeCells
    by_cases h1 : c ≤ 127
    · rw [Lib.encodeRuneZ_one (by omega) h1, encCells_one c (by omega) (by omega)]; rfl
    · by_cases h2 : c ≤ 2047
      · rw [Lib.encodeRuneZ_two (by omega) h2, encCells_two c (by omega) (by omega)]; rfl
      · by_cases h3 : c ≤ 65535
        · rw [Lib.encodeRuneZ_three (by omega), encCells_three c (by omega) (by omega) (by omega)]; rfl
        · rw [Lib.encodeRuneZ_four (by omega) (by omega), encCells_four c (by omega) (by omega)]; rfl
end Go.Pub
