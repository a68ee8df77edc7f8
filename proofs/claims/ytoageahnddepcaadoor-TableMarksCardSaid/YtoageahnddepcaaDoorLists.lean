/-
  UTF-8 over lists of bytes: reading what was written; texts put together.
-/
import Derived.Test.YtoageahnddepcaaDoorPts
import Derived.Test.YtoageahnddepcaaDoorEnc
set_option linter.unusedVariables false
set_option linter.unusedSimpArgs false
namespace Go.Pub

def atL (l : List UInt8) (k : Nat) : Nat := (l.getD k 0).toNat
def decL (l : List UInt8) : Nat × Nat := Lib.decodeN l.length (atL l 0) (atL l 1) (atL l 2) (atL l 3)
theorem atL_lt (l : List UInt8) (k : Nat) : atL l k < 256 := (l.getD k 0).toNat_lt
theorem bt_atL (s : ByteArray) (i k : Nat) : bt s (i + k) = atL ((bytesL s).drop i) k := by
  unfold bt atL bytesL
  have : s.get! (i + k) = s.data[i + k]! := rfl
  rw [this, List.getD_eq_getElem?_getD, List.getElem?_drop, Array.getElem?_toList]
  rw [Array.getElem!_eq_getD, Array.getD_eq_getD_getElem?]
  rfl
theorem bytesL_length (s : ByteArray) : (bytesL s).length = s.size := Array.length_toList
theorem decode_decL (s : ByteArray) (i : Nat) : Utf8.decode s i = decL ((bytesL s).drop i) := by
  rw [Lib.decode_at]
  show Lib.decodeN (s.size - i) (bt s (i + 0)) (bt s (i + 1)) (bt s (i + 2)) (bt s (i + 3)) = _
  rw [bt_atL, bt_atL, bt_atL, bt_atL]
  unfold decL
  rw [List.length_drop, bytesL_length]

theorem decL_bd (l : List UInt8) (h : l ≠ []) : 1 ≤ (decL l).2 ∧ (decL l).2 ≤ 4 ∧ (decL l).2 ≤ l.length ∧ ((decL l).1 < 55296 ∨ (57343 < (decL l).1 ∧ (decL l).1 ≤ 1114111)) := by
  have hl : 0 < l.length := List.length_pos_iff.2 h
  have h0 := atL_lt l 0
  have h1 := atL_lt l 1
  unfold decL Lib.decodeN
  (repeat' split) <;> (simp only []; omega)

def ptsF : Nat → List UInt8 → List (Nat × Nat)
  | 0, _ => []
  | f + 1, l => if l.isEmpty then [] else decL l :: ptsF f (l.drop (decL l).2)
def ptsL (l : List UInt8) : List (Nat × Nat) := ptsF l.length l
theorem ptsF_fuel : ∀ (f g : Nat) (l : List UInt8), l.length ≤ f → l.length ≤ g → ptsF f l = ptsF g l
  | 0, g, l, h, _ => by
    have : l = [] := List.eq_nil_of_length_eq_zero (by omega)
    subst this
    cases g <;> simp [ptsF]
  | f + 1, 0, l, _, h => by
    have : l = [] := List.eq_nil_of_length_eq_zero (by omega)
    subst this
    simp [ptsF]
  | f + 1, g + 1, l, h, h' => by
    unfold ptsF
    by_cases he : l.isEmpty
    · rw [if_pos he, if_pos he]
    · rw [if_neg he, if_neg he]
      have hb := decL_bd l (by simpa using he)
      rw [ptsF_fuel f g (l.drop (decL l).2) (by rw [List.length_drop]; omega) (by rw [List.length_drop]; omega)]
theorem ptsL_nil : ptsL [] = [] := rfl
theorem ptsL_cons (l : List UInt8) (h : l ≠ []) : ptsL l = decL l :: ptsL (l.drop (decL l).2) := by
  have hl : 0 < l.length := List.length_pos_iff.2 h
  have hb := decL_bd l h
  unfold ptsL
  obtain ⟨n, hn⟩ : ∃ n, l.length = n + 1 := ⟨l.length - 1, by omega⟩
  rw [hn, ptsF, if_neg (by simpa using h)]
  rw [ptsF_fuel n (l.drop (decL l).2).length _ (by rw [List.length_drop]; omega) (Nat.le_refl _)]
theorem ptsFrom_ptsF (s : ByteArray) : ∀ f pos, ptsFrom s f pos = ptsF f ((bytesL s).drop pos)
  | 0, _ => rfl
  | f + 1, pos => by
    unfold ptsFrom ptsF
    by_cases h : pos < s.size
    · rw [if_pos h, if_neg (by simp [bytesL_length]; omega), ← decode_decL, ptsFrom_ptsF s f, List.drop_drop]
    · rw [if_neg h, if_pos (by simp [bytesL_length]; omega)]
theorem pts_ptsL (s : ByteArray) : pts s = ptsL (bytesL s) := by
  unfold pts ptsL
  rw [ptsFrom_ptsF, List.drop_zero, bytesL_length]

/-- A number that is a code point which UTF-8 can write. -/
def Scalar (c : Nat) : Prop := c < 55296 ∨ (57343 < c ∧ c ≤ 1114111)
theorem decL_scalar (l : List UInt8) (h : l ≠ []) : Scalar (decL l).1 := (decL_bd l h).2.2.2

theorem encL_scalar (c : Nat) (h : Scalar c) : encL (c : Int) = bytesL (encN c) := encL_nat c (valid_of c h)
theorem bytesL_of (l : List UInt8) : bytesL ⟨l.toArray⟩ = l := by simp [bytesL]

theorem decL_enc (c : Nat) (h : Scalar c) (t : List UInt8) : decL (encL (c : Int) ++ t) = (c, (encL (c : Int)).length) := by
  rw [encL_scalar c h]
  unfold Scalar at h
  by_cases h1 : c < 128
  · rw [encN_one c h1]
    have e : bytesL ⟨#[UInt8.ofNat c]⟩ = [UInt8.ofNat c] := rfl
    rw [e]
    have a0 : atL ([UInt8.ofNat c] ++ t) 0 = c := ofNat_toNat c (by omega)
    unfold decL Lib.decodeN
    rw [a0, if_pos h1]; rfl
  · by_cases h2 : c < 2048
    · rw [encN_two c h1 h2]
      have e : bytesL ⟨#[UInt8.ofNat (192 + c / 64), UInt8.ofNat (128 + c % 64)]⟩ = [UInt8.ofNat (192 + c / 64), UInt8.ofNat (128 + c % 64)] := rfl
      rw [e]
      generalize hl : [UInt8.ofNat (192 + c / 64), UInt8.ofNat (128 + c % 64)] ++ t = l
      have a0 : atL l 0 = 192 + c / 64 := by subst hl; exact ofNat_toNat _ (by omega)
      have a1 : atL l 1 = 128 + c % 64 := by subst hl; exact ofNat_toNat _ (by omega)
      have hn : 2 ≤ l.length := by subst hl; simp
      unfold decL Lib.decodeN
      rw [a0, a1]
      have k1 : ¬ 192 + c / 64 < 128 := by omega
      have k2 : (192 + c / 64) / 32 = 6 ∧ 1 < l.length ∧ (128 + c % 64) / 64 = 2 := by omega
      have k3 : (192 + c / 64) % 32 * 64 + (128 + c % 64) % 64 = c := by omega
      rw [if_neg k1, if_pos k2, k3, if_pos (by omega)]; rfl
    · by_cases h3 : c < 65536
      · rw [encN_three c h1 h2 h3]
        have e : bytesL ⟨#[UInt8.ofNat (224 + c / 4096), UInt8.ofNat (128 + c / 64 % 64), UInt8.ofNat (128 + c % 64)]⟩ = [UInt8.ofNat (224 + c / 4096), UInt8.ofNat (128 + c / 64 % 64), UInt8.ofNat (128 + c % 64)] := rfl
        rw [e]
        generalize hl : [UInt8.ofNat (224 + c / 4096), UInt8.ofNat (128 + c / 64 % 64), UInt8.ofNat (128 + c % 64)] ++ t = l
        have a0 : atL l 0 = 224 + c / 4096 := by subst hl; exact ofNat_toNat _ (by omega)
        have a1 : atL l 1 = 128 + c / 64 % 64 := by subst hl; exact ofNat_toNat _ (by omega)
        have a2 : atL l 2 = 128 + c % 64 := by subst hl; exact ofNat_toNat _ (by omega)
        have hn : 3 ≤ l.length := by subst hl; simp
        unfold decL Lib.decodeN
        rw [a0, a1, a2]
        have k1 : ¬ 224 + c / 4096 < 128 := by omega
        have k2 : ¬ ((224 + c / 4096) / 32 = 6 ∧ 1 < l.length ∧ (128 + c / 64 % 64) / 64 = 2) := by omega
        have k4 : (224 + c / 4096) / 16 = 14 ∧ (1 < l.length ∧ (128 + c / 64 % 64) / 64 = 2) ∧ (2 < l.length ∧ (128 + c % 64) / 64 = 2) := by omega
        have k3 : (224 + c / 4096) % 16 * 4096 + (128 + c / 64 % 64) % 64 * 64 + (128 + c % 64) % 64 = c := by omega
        rw [if_neg k1, if_neg k2, if_pos k4, k3, if_pos (by omega)]; rfl
      · rw [encN_four c h1 h2 h3]
        have e : bytesL ⟨#[UInt8.ofNat (240 + c / 262144), UInt8.ofNat (128 + c / 4096 % 64), UInt8.ofNat (128 + c / 64 % 64), UInt8.ofNat (128 + c % 64)]⟩ = [UInt8.ofNat (240 + c / 262144), UInt8.ofNat (128 + c / 4096 % 64), UInt8.ofNat (128 + c / 64 % 64), UInt8.ofNat (128 + c % 64)] := rfl
        rw [e]
        generalize hl : [UInt8.ofNat (240 + c / 262144), UInt8.ofNat (128 + c / 4096 % 64), UInt8.ofNat (128 + c / 64 % 64), UInt8.ofNat (128 + c % 64)] ++ t = l
        have a0 : atL l 0 = 240 + c / 262144 := by subst hl; exact ofNat_toNat _ (by omega)
        have a1 : atL l 1 = 128 + c / 4096 % 64 := by subst hl; exact ofNat_toNat _ (by omega)
        have a2 : atL l 2 = 128 + c / 64 % 64 := by subst hl; exact ofNat_toNat _ (by omega)
        have a3 : atL l 3 = 128 + c % 64 := by subst hl; exact ofNat_toNat _ (by omega)
        have hn : 4 ≤ l.length := by subst hl; simp
        unfold decL Lib.decodeN
        rw [a0, a1, a2, a3]
        have k1 : ¬ 240 + c / 262144 < 128 := by omega
        have k2 : ¬ ((240 + c / 262144) / 32 = 6 ∧ 1 < l.length ∧ (128 + c / 4096 % 64) / 64 = 2) := by omega
        have k4 : ¬ ((240 + c / 262144) / 16 = 14 ∧ (1 < l.length ∧ (128 + c / 4096 % 64) / 64 = 2) ∧ (2 < l.length ∧ (128 + c / 64 % 64) / 64 = 2)) := by omega
        have k5 : (240 + c / 262144) / 8 = 30 ∧ (1 < l.length ∧ (128 + c / 4096 % 64) / 64 = 2) ∧ (2 < l.length ∧ (128 + c / 64 % 64) / 64 = 2) ∧ (3 < l.length ∧ (128 + c % 64) / 64 = 2) := by omega
        have k3 : (240 + c / 262144) % 8 * 262144 + (128 + c / 4096 % 64) % 64 * 4096 + (128 + c / 64 % 64) % 64 * 64 + (128 + c % 64) % 64 = c := by omega
        rw [if_neg k1, if_neg k2, if_neg k4, if_pos k5, k3, if_pos (by omega)]; rfl

theorem u8_eq (x : UInt8) (n : Nat) (h : n = x.toNat) : UInt8.ofNat n = x := by subst h; simp

theorem decodeN_cases (n b0 b1 b2 b3 : Nat) : Lib.decodeN n b0 b1 b2 b3 = (65533, 1) ∨ (b0 < 128 ∧ Lib.decodeN n b0 b1 b2 b3 = (b0, 1)) ∨
    ((b0 / 32 = 6 ∧ 1 < n ∧ b1 / 64 = 2 ∧ 128 ≤ b0 % 32 * 64 + b1 % 64) ∧ Lib.decodeN n b0 b1 b2 b3 = (b0 % 32 * 64 + b1 % 64, 2)) ∨
    ((b0 / 16 = 14 ∧ 2 < n ∧ b1 / 64 = 2 ∧ b2 / 64 = 2 ∧ 2048 ≤ b0 % 16 * 4096 + b1 % 64 * 64 + b2 % 64) ∧ Lib.decodeN n b0 b1 b2 b3 = (b0 % 16 * 4096 + b1 % 64 * 64 + b2 % 64, 3)) ∨
    ((b0 / 8 = 30 ∧ 3 < n ∧ b1 / 64 = 2 ∧ b2 / 64 = 2 ∧ b3 / 64 = 2 ∧ 65536 ≤ b0 % 8 * 262144 + b1 % 64 * 4096 + b2 % 64 * 64 + b3 % 64) ∧ Lib.decodeN n b0 b1 b2 b3 = (b0 % 8 * 262144 + b1 % 64 * 4096 + b2 % 64 * 64 + b3 % 64, 4)) := by
  unfold Lib.decodeN
  by_cases c1 : b0 < 128
  · exact .inr (.inl ⟨c1, if_pos c1⟩)
  rw [if_neg c1]
  by_cases c2 : b0 / 32 = 6 ∧ (1 < n ∧ b1 / 64 = 2)
  · rw [if_pos c2]
    by_cases c3 : b0 % 32 * 64 + b1 % 64 ≥ 128
    · exact .inr (.inr (.inl ⟨⟨c2.1, c2.2.1, c2.2.2, c3⟩, if_pos c3⟩))
    · exact .inl (if_neg c3)
  rw [if_neg c2]
  by_cases c4 : b0 / 16 = 14 ∧ (1 < n ∧ b1 / 64 = 2) ∧ (2 < n ∧ b2 / 64 = 2)
  · rw [if_pos c4]
    by_cases c5 : b0 % 16 * 4096 + b1 % 64 * 64 + b2 % 64 ≥ 2048 ∧ (b0 % 16 * 4096 + b1 % 64 * 64 + b2 % 64 < 55296 ∨ (57344 ≤ b0 % 16 * 4096 + b1 % 64 * 64 + b2 % 64 ∧ b0 % 16 * 4096 + b1 % 64 * 64 + b2 % 64 ≤ 1114111))
    · exact .inr (.inr (.inr (.inl ⟨⟨c4.1, c4.2.2.1, c4.2.1.2, c4.2.2.2, c5.1⟩, if_pos c5⟩)))
    · exact .inl (if_neg c5)
  rw [if_neg c4]
  by_cases c6 : b0 / 8 = 30 ∧ (1 < n ∧ b1 / 64 = 2) ∧ (2 < n ∧ b2 / 64 = 2) ∧ (3 < n ∧ b3 / 64 = 2)
  · rw [if_pos c6]
    by_cases c7 : b0 % 8 * 262144 + b1 % 64 * 4096 + b2 % 64 * 64 + b3 % 64 ≥ 65536 ∧ (b0 % 8 * 262144 + b1 % 64 * 4096 + b2 % 64 * 64 + b3 % 64 < 55296 ∨ (57344 ≤ b0 % 8 * 262144 + b1 % 64 * 4096 + b2 % 64 * 64 + b3 % 64 ∧ b0 % 8 * 262144 + b1 % 64 * 4096 + b2 % 64 * 64 + b3 % 64 ≤ 1114111))
    · exact .inr (.inr (.inr (.inr ⟨⟨c6.1, c6.2.2.2.1, c6.2.1.2, c6.2.2.1.2, c6.2.2.2.2, c7.1⟩, if_pos c7⟩)))
    · exact .inl (if_neg c7)
  rw [if_neg c6]
  exact .inl rfl

/-- What is read whole is written back as it was. -/
theorem enc_decL (l : List UInt8) (h : l ≠ []) (hg : decL l ≠ (65533, 1)) : encL ((decL l).1 : Int) = l.take (decL l).2 := by
  rw [encL_scalar _ (decL_scalar l h)]
  rcases decodeN_cases l.length (atL l 0) (atL l 1) (atL l 2) (atL l 3) with e | ⟨c, e⟩ | ⟨c, e⟩ | ⟨c, e⟩ | ⟨c, e⟩
  · exact absurd e hg
  all_goals
    have e' : decL l = _ := e
    rw [e']
    clear e e' hg
  · match l, h, c with
    | x0 :: r, _, c =>
      have a0 : atL (x0 :: r) 0 = x0.toNat := rfl
      rw [a0] at c ⊢
      show bytesL (encN x0.toNat) = [x0]
      rw [encN_one _ c]
      show [UInt8.ofNat x0.toNat] = [x0]
      rw [u8_eq x0 _ rfl]
  · match l, h, c with
    | x0 :: x1 :: r, _, c =>
      have a0 : atL (x0 :: x1 :: r) 0 = x0.toNat := rfl
      have a1 : atL (x0 :: x1 :: r) 1 = x1.toNat := rfl
      rw [a0, a1] at c ⊢
      have g0 := x0.toNat_lt
      have g1 := x1.toNat_lt
      show bytesL (encN (x0.toNat % 32 * 64 + x1.toNat % 64)) = [x0, x1]
      rw [encN_two _ (by omega) (by omega)]
      show [UInt8.ofNat (192 + (x0.toNat % 32 * 64 + x1.toNat % 64) / 64), UInt8.ofNat (128 + (x0.toNat % 32 * 64 + x1.toNat % 64) % 64)] = [x0, x1]
      rw [u8_eq x0 _ (by omega), u8_eq x1 _ (by omega)]
    | [_], _, c => simp at c
  · match l, h, c with
    | x0 :: x1 :: x2 :: r, _, c =>
      have a0 : atL (x0 :: x1 :: x2 :: r) 0 = x0.toNat := rfl
      have a1 : atL (x0 :: x1 :: x2 :: r) 1 = x1.toNat := rfl
      have a2 : atL (x0 :: x1 :: x2 :: r) 2 = x2.toNat := rfl
      rw [a0, a1, a2] at c ⊢
      have g0 := x0.toNat_lt
      have g1 := x1.toNat_lt
      have g2 := x2.toNat_lt
      show bytesL (encN (x0.toNat % 16 * 4096 + x1.toNat % 64 * 64 + x2.toNat % 64)) = [x0, x1, x2]
      rw [encN_three _ (by omega) (by omega) (by omega)]
      show [UInt8.ofNat (224 + (x0.toNat % 16 * 4096 + x1.toNat % 64 * 64 + x2.toNat % 64) / 4096), UInt8.ofNat (128 + (x0.toNat % 16 * 4096 + x1.toNat % 64 * 64 + x2.toNat % 64) / 64 % 64), UInt8.ofNat (128 + (x0.toNat % 16 * 4096 + x1.toNat % 64 * 64 + x2.toNat % 64) % 64)] = [x0, x1, x2]
      rw [u8_eq x0 _ (by omega), u8_eq x1 _ (by omega), u8_eq x2 _ (by omega)]
    | [_], _, c => simp at c
    | [_, _], _, c => simp at c
  · match l, h, c with
    | x0 :: x1 :: x2 :: x3 :: r, _, c =>
      have a0 : atL (x0 :: x1 :: x2 :: x3 :: r) 0 = x0.toNat := rfl
      have a1 : atL (x0 :: x1 :: x2 :: x3 :: r) 1 = x1.toNat := rfl
      have a2 : atL (x0 :: x1 :: x2 :: x3 :: r) 2 = x2.toNat := rfl
      have a3 : atL (x0 :: x1 :: x2 :: x3 :: r) 3 = x3.toNat := rfl
      rw [a0, a1, a2, a3] at c ⊢
      have g0 := x0.toNat_lt
      have g1 := x1.toNat_lt
      have g2 := x2.toNat_lt
      have g3 := x3.toNat_lt
      show bytesL (encN (x0.toNat % 8 * 262144 + x1.toNat % 64 * 4096 + x2.toNat % 64 * 64 + x3.toNat % 64)) = [x0, x1, x2, x3]
      rw [encN_four _ (by omega) (by omega) (by omega)]
      show [UInt8.ofNat (240 + (x0.toNat % 8 * 262144 + x1.toNat % 64 * 4096 + x2.toNat % 64 * 64 + x3.toNat % 64) / 262144), UInt8.ofNat (128 + (x0.toNat % 8 * 262144 + x1.toNat % 64 * 4096 + x2.toNat % 64 * 64 + x3.toNat % 64) / 4096 % 64), UInt8.ofNat (128 + (x0.toNat % 8 * 262144 + x1.toNat % 64 * 4096 + x2.toNat % 64 * 64 + x3.toNat % 64) / 64 % 64), UInt8.ofNat (128 + (x0.toNat % 8 * 262144 + x1.toNat % 64 * 4096 + x2.toNat % 64 * 64 + x3.toNat % 64) % 64)] = [x0, x1, x2, x3]
      rw [u8_eq x0 _ (by omega), u8_eq x1 _ (by omega), u8_eq x2 _ (by omega), u8_eq x3 _ (by omega)]
    | [_], _, c => simp at c
    | [_, _], _, c => simp at c
    | [_, _, _], _, c => simp at c

/-- decodeN by what continues. -/
def decG (c1 c2 c3 : Bool) (b0 b1 b2 b3 : Nat) : Nat × Nat :=
  if b0 < 128 then (b0, 1)
  else if b0 / 32 = 6 ∧ c1 = true then
    (if b0 % 32 * 64 + b1 % 64 ≥ 128 then (b0 % 32 * 64 + b1 % 64, 2) else (65533, 1))
  else if b0 / 16 = 14 ∧ c1 = true ∧ c2 = true then
    (if b0 % 16 * 4096 + b1 % 64 * 64 + b2 % 64 ≥ 2048 ∧ (b0 % 16 * 4096 + b1 % 64 * 64 + b2 % 64 < 55296 ∨ (57344 ≤ b0 % 16 * 4096 + b1 % 64 * 64 + b2 % 64 ∧ b0 % 16 * 4096 + b1 % 64 * 64 + b2 % 64 ≤ 1114111))
     then (b0 % 16 * 4096 + b1 % 64 * 64 + b2 % 64, 3) else (65533, 1))
  else if b0 / 8 = 30 ∧ c1 = true ∧ c2 = true ∧ c3 = true then
    (if b0 % 8 * 262144 + b1 % 64 * 4096 + b2 % 64 * 64 + b3 % 64 ≥ 65536 ∧ (b0 % 8 * 262144 + b1 % 64 * 4096 + b2 % 64 * 64 + b3 % 64 < 55296 ∨ (57344 ≤ b0 % 8 * 262144 + b1 % 64 * 4096 + b2 % 64 * 64 + b3 % 64 ∧ b0 % 8 * 262144 + b1 % 64 * 4096 + b2 % 64 * 64 + b3 % 64 ≤ 1114111))
     then (b0 % 8 * 262144 + b1 % 64 * 4096 + b2 % 64 * 64 + b3 % 64, 4) else (65533, 1))
  else (65533, 1)
theorem decodeN_decG (n b0 b1 b2 b3 : Nat) : Lib.decodeN n b0 b1 b2 b3 = decG (decide (1 < n ∧ b1 / 64 = 2)) (decide (2 < n ∧ b2 / 64 = 2)) (decide (3 < n ∧ b3 / 64 = 2)) b0 b1 b2 b3 := by
  unfold Lib.decodeN decG
  simp only [decide_eq_true_eq]
theorem decG_1 (c2 c3 d2 d3 : Bool) (b0 b1 b2 b3 e1 e2 e3 : Nat) : decG false c2 c3 b0 b1 b2 b3 = decG false d2 d3 b0 e1 e2 e3 := by
  unfold decG; simp only [Bool.false_eq_true, false_and, and_false, if_false]
theorem decG_2 (c3 d3 : Bool) (b0 b1 b2 b3 e2 e3 : Nat) (c1 : Bool) : decG c1 false c3 b0 b1 b2 b3 = decG c1 false d3 b0 b1 e2 e3 := by
  unfold decG; simp only [Bool.false_eq_true, false_and, and_false, if_false]
theorem decG_3 (b0 b1 b2 b3 e3 : Nat) (c1 c2 : Bool) : decG c1 c2 false b0 b1 b2 b3 = decG c1 c2 false b0 b1 b2 e3 := by
  unfold decG; simp only [Bool.false_eq_true, false_and, and_false, if_false]

/-- An ASCII byte behind a text changes nothing of what is read before it. -/
theorem decL_ascii_behind (a b : List UInt8) (x : UInt8) (ha : a ≠ []) (hx : x.toNat < 128) : decL (a ++ x :: b) = decL a := by
  unfold decL
  rw [decodeN_decG, decodeN_decG]
  match a, ha with
  | [x0], _ =>
    have f1 : decide (1 < ([x0] ++ x :: b).length ∧ atL ([x0] ++ x :: b) 1 / 64 = 2) = false := by
      have : atL ([x0] ++ x :: b) 1 = x.toNat := rfl
      rw [this]; simp only [decide_eq_false_iff_not]; omega
    have f2 : decide (1 < [x0].length ∧ atL [x0] 1 / 64 = 2) = false := by simp
    rw [f1, f2]
    exact decG_1 _ _ _ _ _ _ _ _ _ _ _
  | [x0, x1], _ =>
    have f1 : decide (2 < ([x0, x1] ++ x :: b).length ∧ atL ([x0, x1] ++ x :: b) 2 / 64 = 2) = false := by
      have : atL ([x0, x1] ++ x :: b) 2 = x.toNat := rfl
      rw [this]; simp only [decide_eq_false_iff_not]; omega
    have f2 : decide (2 < [x0, x1].length ∧ atL [x0, x1] 2 / 64 = 2) = false := by simp
    have f3 : decide (1 < ([x0, x1] ++ x :: b).length ∧ atL ([x0, x1] ++ x :: b) 1 / 64 = 2) = decide (1 < [x0, x1].length ∧ atL [x0, x1] 1 / 64 = 2) := by
      have : atL ([x0, x1] ++ x :: b) 1 = atL [x0, x1] 1 := rfl
      rw [this]; simp
    rw [f1, f2, f3]
    exact decG_2 _ _ _ _ _ _ _ _ _
  | [x0, x1, x2], _ =>
    have f1 : decide (3 < ([x0, x1, x2] ++ x :: b).length ∧ atL ([x0, x1, x2] ++ x :: b) 3 / 64 = 2) = false := by
      have : atL ([x0, x1, x2] ++ x :: b) 3 = x.toNat := rfl
      rw [this]; simp only [decide_eq_false_iff_not]; omega
    have f2 : decide (3 < [x0, x1, x2].length ∧ atL [x0, x1, x2] 3 / 64 = 2) = false := by simp
    have f3 : decide (1 < ([x0, x1, x2] ++ x :: b).length ∧ atL ([x0, x1, x2] ++ x :: b) 1 / 64 = 2) = decide (1 < [x0, x1, x2].length ∧ atL [x0, x1, x2] 1 / 64 = 2) := by
      have : atL ([x0, x1, x2] ++ x :: b) 1 = atL [x0, x1, x2] 1 := rfl
      rw [this]; simp
    have f4 : decide (2 < ([x0, x1, x2] ++ x :: b).length ∧ atL ([x0, x1, x2] ++ x :: b) 2 / 64 = 2) = decide (2 < [x0, x1, x2].length ∧ atL [x0, x1, x2] 2 / 64 = 2) := by
      have : atL ([x0, x1, x2] ++ x :: b) 2 = atL [x0, x1, x2] 2 := rfl
      rw [this]; simp
    rw [f1, f2, f3, f4]
    exact decG_3 _ _ _ _ _ _ _
  | x0 :: x1 :: x2 :: x3 :: r, _ =>
    have e1 : atL (x0 :: x1 :: x2 :: x3 :: r ++ x :: b) 1 = atL (x0 :: x1 :: x2 :: x3 :: r) 1 := rfl
    have e2 : atL (x0 :: x1 :: x2 :: x3 :: r ++ x :: b) 2 = atL (x0 :: x1 :: x2 :: x3 :: r) 2 := rfl
    have e3 : atL (x0 :: x1 :: x2 :: x3 :: r ++ x :: b) 3 = atL (x0 :: x1 :: x2 :: x3 :: r) 3 := rfl
    have e0 : atL (x0 :: x1 :: x2 :: x3 :: r ++ x :: b) 0 = atL (x0 :: x1 :: x2 :: x3 :: r) 0 := rfl
    rw [e0, e1, e2, e3]
    have l1 : (1 < (x0 :: x1 :: x2 :: x3 :: r ++ x :: b).length) = (1 < (x0 :: x1 :: x2 :: x3 :: r).length) := by simp
    have l2 : (2 < (x0 :: x1 :: x2 :: x3 :: r ++ x :: b).length) = (2 < (x0 :: x1 :: x2 :: x3 :: r).length) := by simp
    have l3 : (3 < (x0 :: x1 :: x2 :: x3 :: r ++ x :: b).length) = (3 < (x0 :: x1 :: x2 :: x3 :: r).length) := by simp
    simp only [l1, l2, l3]

theorem ptsL_ascii : ∀ (n : Nat) (a b : List UInt8) (x : UInt8), a.length ≤ n → x.toNat < 128 → ptsL (a ++ x :: b) = ptsL a ++ ptsL (x :: b)
  | n, [], b, x, _, _ => rfl
  | 0, _ :: _, b, x, h, _ => by simp at h
  | n + 1, y :: a, b, x, h, hx => by
    have hne : y :: a ≠ [] := by simp
    have hb := decL_bd (y :: a) hne
    rw [ptsL_cons (y :: a ++ x :: b) (by simp), ptsL_cons (y :: a) hne, decL_ascii_behind (y :: a) b x hne hx]
    show _ = decL (y :: a) :: (ptsL (List.drop (decL (y :: a)).2 (y :: a)) ++ ptsL (x :: b))
    congr 1
    rw [List.drop_append_of_le_length hb.2.2.1]
    exact ptsL_ascii n _ b x (by rw [List.length_drop]; simp at h ⊢; omega) hx

theorem ptsL_enc : ∀ (cs : List Nat), (∀ c ∈ cs, Scalar c) → ptsL (cs.flatMap fun c : Nat => encL (c : Int)) = cs.map fun c : Nat => (c, (encL (c : Int)).length)
  | [], _ => rfl
  | c :: cs, h => by
    have hl := encL_length (c : Int)
    have hs := h c (by simp)
    rw [List.flatMap_cons, ptsL_cons _ (by intro e; have := congrArg List.length e; rw [List.length_append] at this; simp only [List.length_nil] at this; omega), decL_enc c hs]
    simp only [List.drop_left, List.map_cons]
    rw [ptsL_enc cs (fun c hc => h c (by simp [hc]))]

theorem ptsL_scalar : ∀ (n : Nat) (l : List UInt8), l.length ≤ n → ∀ p ∈ ptsL l, Scalar p.1
  | n, [], _, p, hp => by simp [ptsL_nil] at hp
  | 0, _ :: _, h, _, _ => by simp at h
  | n + 1, y :: l, h, p, hp => by
    have hne : y :: l ≠ [] := by simp
    have hb := decL_bd (y :: l) hne
    rw [ptsL_cons _ hne] at hp
    rcases List.mem_cons.1 hp with rfl | hp
    · exact decL_scalar _ hne
    · exact ptsL_scalar n _ (by rw [List.length_drop]; simp at h ⊢; omega) p hp

/-- A text without broken bytes is what its code points write. -/
theorem ptsL_back : ∀ (n : Nat) (l : List UInt8), l.length ≤ n → (∀ p ∈ ptsL l, p ≠ (65533, 1)) → (ptsL l).flatMap (fun p => encL (p.1 : Int)) = l
  | n, [], _, _ => rfl
  | 0, _ :: _, h, _ => by simp at h
  | n + 1, y :: l, h, hg => by
    have hne : y :: l ≠ [] := by simp
    have hb := decL_bd (y :: l) hne
    rw [ptsL_cons _ hne] at hg ⊢
    rw [List.flatMap_cons, enc_decL _ hne (hg _ (by simp)), ptsL_back n _ (by rw [List.length_drop]; simp at h ⊢; omega) (fun p hp => hg p (by simp [hp])), List.take_append_drop]
end Go.Pub
