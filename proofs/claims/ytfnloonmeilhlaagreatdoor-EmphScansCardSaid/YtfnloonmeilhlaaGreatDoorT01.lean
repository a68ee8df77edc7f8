/-
  Texts of the proof, put together (what this law reaches): Text, Next, Pts, Enc.
-/
import Derived.Lib.DecodeN
import Derived.Lib.RuneBytes
import Derived.Laws.BitsAllLaws
import Derived.Laws.BitsLemmas
import Derived.Test.YtfnloonmeilhlaaGreatDoorRows
import Derived.WalkKit
import Derived.WalkSpells
import Derived.WalkLawsBesides
import Derived.Deep.QuietTactic
import Derived.BigQuiet
import Derived.Lib.Hide
import Derived.Lib.RuneCount
import GoSem.Core.Utf8
import Derived.Lib.UnsafeStr
set_option linter.unusedVariables false
set_option linter.unusedSimpArgs false
namespace Go.Pub
open Go
/-- The byte at place k (0 beyond the end). -/
def bt (s : ByteArray) (k : Nat) : Nat := (s.get! k).toNat
theorem bt_lt (s : ByteArray) (k : Nat) : bt s k < 256 := (s.get! k).toNat_lt
theorem get_bt (s : ByteArray) (k : Nat) (h : k < s.size) : (s[k]).toNat = bt s k := by
  unfold bt
  have : s.get! k = s[k] := by
    show s.data[k]! = s.data[k]
    exact getElem!_pos s.data k h
  rw [this]
/-- The number of bytes that the first byte promises. -/
def wd (b : Nat) : Nat := if b < 128 then 1 else if 194 ≤ b ∧ b ≤ 223 then 2 else if 224 ≤ b ∧ b ≤ 239 then 3 else if 240 ≤ b ∧ b ≤ 244 then 4 else 0
def lo (b : Nat) : Nat := if b = 224 then 160 else if b = 240 then 144 else 128
def hiB (b : Nat) : Nat := if b = 237 then 159 else if b = 244 then 143 else 191
/-- The code point's number after j further bytes. -/
def acc (s : ByteArray) (i m : Nat) : Nat → Nat
  | 0 => bt s i % m
  | j + 1 => acc s i m j * 64 + bt s (i + 1 + j) % 64
def ContTo (s : ByteArray) (i j : Nat) : Prop := ∀ k, k < j → 128 ≤ bt s (i + 1 + k) ∧ bt s (i + 1 + k) ≤ 191
theorem acc_lt (s : ByteArray) (i m j : Nat) (hm : 0 < m) (hm' : m ≤ 32) (hj : j ≤ 3) : acc s i m j < 8388608 := by
  have h0 := Nat.mod_lt (bt s i) hm
  have h1 := Nat.mod_lt (bt s (i + 1 + 0)) (show 64 > 0 by decide)
  have h2 := Nat.mod_lt (bt s (i + 1 + 1)) (show 64 > 0 by decide)
  have h3 := Nat.mod_lt (bt s (i + 1 + 2)) (show 64 > 0 by decide)
  match j, hj with
  | 0, _ => simp only [acc]; omega
  | 1, _ => simp only [acc]; omega
  | 2, _ => simp only [acc]; omega
  | 3, _ => simp only [acc]; omega
theorem dec_bad_width (s : ByteArray) (i : Nat) (h : wd (bt s i) = 0) : Utf8.decode s i = (65533, 1) := by
  have hb := bt_lt s i
  rw [Lib.decode_at]
  show Lib.decodeN _ (bt s i) (bt s (i + 1)) (bt s (i + 2)) (bt s (i + 3)) = _
  unfold wd at h
  unfold Lib.decodeN
  have h1 := bt_lt s (i + 1)
  repeat' split at h
  all_goals first | omega | (repeat' split) <;> first | rfl | omega
theorem dec_one (s : ByteArray) (i : Nat) (h : bt s i < 128) : Utf8.decode s i = (bt s i, 1) := by
  rw [Lib.decode_at]
  show Lib.decodeN _ (bt s i) (bt s (i + 1)) (bt s (i + 2)) (bt s (i + 3)) = _
  unfold Lib.decodeN
  rw [if_pos h]
/-- What is too short, or has a second byte out of its range, or a further byte that does not continue, is read as one broken byte. -/
theorem dec_short (s : ByteArray) (i : Nat) (hi : i < s.size) (h2 : 2 ≤ wd (bt s i)) (h : s.size - i < wd (bt s i)) : Utf8.decode s i = (65533, 1) := by
  rw [Lib.decode_at]
  show Lib.decodeN _ (bt s i) (bt s (i + 1)) (bt s (i + 2)) (bt s (i + 3)) = _
  unfold wd at h h2
  unfold Lib.decodeN
  repeat' split at h
  all_goals first | omega | (repeat' split) <;> first | rfl | omega
theorem dec_second (s : ByteArray) (i : Nat) (h2 : 2 ≤ wd (bt s i)) (h : bt s (i + 1) < lo (bt s i) ∨ hiB (bt s i) < bt s (i + 1)) : Utf8.decode s i = (65533, 1) := by
  rw [Lib.decode_at]
  show Lib.decodeN _ (bt s i) (bt s (i + 1)) (bt s (i + 2)) (bt s (i + 3)) = _
  have h1 := bt_lt s (i + 1)
  generalize bt s i = b0 at *
  generalize bt s (i + 1) = b1 at *
  generalize bt s (i + 2) = b2 at *
  generalize bt s (i + 3) = b3 at *
  unfold wd at h2
  unfold lo hiB at h
  unfold Lib.decodeN
  repeat' split at h2
  all_goals first | omega | (repeat' split at h) <;> first | omega | (repeat' split) <;> first | rfl | omega
theorem dec_cont (s : ByteArray) (i j : Nat) (hj : j + 1 < wd (bt s i)) (h : bt s (i + 1 + j) < 128 ∨ 191 < bt s (i + 1 + j)) : Utf8.decode s i = (65533, 1) := by
  rw [Lib.decode_at]
  show Lib.decodeN _ (bt s i) (bt s (i + 1)) (bt s (i + 2)) (bt s (i + 3)) = _
  have g1 := bt_lt s (i + 1)
  have g2 := bt_lt s (i + 2)
  have g3 := bt_lt s (i + 3)
  have hj3 : j < 3 := by unfold wd at hj; (repeat' split at hj) <;> omega
  match j, hj3, hj, h with
  | 0, _, hj, h =>
    have h' : bt s (i + 1) < 128 ∨ 191 < bt s (i + 1) := h
    unfold wd at hj
    unfold Lib.decodeN
    repeat' split at hj
    all_goals first | omega | (repeat' split) <;> first | rfl | omega
  | 1, _, hj, h =>
    have h' : bt s (i + 2) < 128 ∨ 191 < bt s (i + 2) := h
    unfold wd at hj
    unfold Lib.decodeN
    repeat' split at hj
    all_goals first | omega | (repeat' split) <;> first | rfl | omega
  | 2, _, hj, h =>
    have h' : bt s (i + 3) < 128 ∨ 191 < bt s (i + 3) := h
    unfold wd at hj
    unfold Lib.decodeN
    repeat' split at hj
    all_goals first | omega | (repeat' split) <;> first | rfl | omega
theorem dec_whole (s : ByteArray) (i sz : Nat) (hi : i < s.size) (hw : wd (bt s i) = sz) (h2 : 2 ≤ sz) (hn : sz ≤ s.size - i) (hl : lo (bt s i) ≤ bt s (i + 1)) (hh : bt s (i + 1) ≤ hiB (bt s i)) (hc : ContTo s i (sz - 1)) :
    Utf8.decode s i = (acc s i (2 ^ (7 - sz)) (sz - 1), sz) := by
  rw [Lib.decode_at]
  show Lib.decodeN _ (bt s i) (bt s (i + 1)) (bt s (i + 2)) (bt s (i + 3)) = _
  have hsz : sz = 2 ∨ sz = 3 ∨ sz = 4 := by unfold wd at hw; (repeat' split at hw) <;> omega
  rcases hsz with rfl | rfl | rfl
  · have c0 := hc 0 (by omega)
    simp only [acc, Nat.add_zero, show (7 - 2) = 5 from rfl, show (2 : Nat) ^ 5 = 32 from rfl] at c0 ⊢
    unfold wd at hw; unfold lo at hl; unfold hiB at hh
    unfold Lib.decodeN
    repeat' split at hw
    all_goals first | omega | (repeat' split at hl) <;> first | omega | (repeat' split at hh) <;> first | omega | (repeat' split) <;> first | rfl | (exfalso; omega)
  · have c0 := hc 0 (by omega)
    have c1 := hc 1 (by omega)
    simp only [acc, Nat.add_zero, show i + 1 + 1 = i + 2 from rfl, show (7 - 3) = 4 from rfl, show (2 : Nat) ^ 4 = 16 from rfl] at c0 c1 ⊢
    unfold wd at hw; unfold lo at hl; unfold hiB at hh
    unfold Lib.decodeN
    repeat' split at hw
    all_goals first | omega | (repeat' split at hl) <;> first | omega | (repeat' split at hh) <;> first | omega | (repeat' split) <;> first | (simp only [Prod.mk.injEq, and_true]; omega) | (exfalso; omega)
  · have c0 := hc 0 (by omega)
    have c1 := hc 1 (by omega)
    have c2 := hc 2 (by omega)
    simp only [acc, Nat.add_zero, show i + 1 + 1 = i + 2 from rfl, show i + 1 + 2 = i + 3 from rfl, show (7 - 4) = 3 from rfl, show (2 : Nat) ^ 3 = 8 from rfl] at c0 c1 c2 ⊢
    unfold wd at hw; unfold lo at hl; unfold hiB at hh
    unfold Lib.decodeN
    repeat' split at hw
    all_goals first | omega | (repeat' split at hl) <;> first | omega | (repeat' split at hh) <;> first | omega | (repeat' split) <;> first | (simp only [Prod.mk.injEq, and_true]; omega) | (exfalso; omega)
/-- What chars.Next gives: the code point at the byte i and its number of bytes. -/
def nextAt (s : ByteArray) (i : Int) : Int × Int :=
  if 0 ≤ i ∧ i < s.size then (((Utf8.decode s i.toNat).1 : Int), ((Utf8.decode s i.toNat).2 : Int)) else (-1, 0)
theorem nextAt_in (s : ByteArray) (i : Nat) (h : i < s.size) : nextAt s i = (((Utf8.decode s i).1 : Int), ((Utf8.decode s i).2 : Int)) := by
  unfold nextAt
  rw [if_pos ⟨by omega, by omega⟩, Int.toNat_natCast]
theorem nextAt_out (s : ByteArray) (i : Int) (h : ¬ (0 ≤ i ∧ i < s.size)) : nextAt s i = (-1, 0) := if_neg h
end Go.Pub
namespace Go.Proofs.YtfnloonmeilhlaaGreatDoor
open Go.RowKit Go.Pub
theorem i64_and_mask (a k : Nat) (ha : a < 256) (hk : k ≤ 7) : bits .and .i64 (a : Int) ((2 ^ k - 1 : Nat) : Int) = ((a % 2 ^ k : Nat) : Int) := by
  have hk' : (2 : Nat) ^ k ≤ 2 ^ 7 := Nat.pow_le_pow_right (by decide) hk
  have h := show bits .and .i64 (a : Int) ((2 ^ k - 1 : Nat) : Int) = ((a &&& (2 ^ k - 1) : Nat) : Int) by
    have o : ∀ x : Nat, x < 256 → (BitVec.ofInt 64 (x : Int)).toNat = x := fun x hx => by
      rw [BitVec.ofInt_natCast, BitVec.toNat_ofNat]; exact Nat.mod_eq_of_lt (by omega)
    show IntKind.i64.wrap ((BitVec.ofInt 64 (a : Int) &&& BitVec.ofInt 64 ((2 ^ k - 1 : Nat) : Int)).toNat : Int) = _
    have hx : a &&& (2 ^ k - 1) ≤ a := Nat.and_le_left
    rw [BitVec.toNat_and, o a ha, o _ (by omega), IntKind.wrap_i64]
    omega
  rw [h, Nat.and_two_pow_sub_one_eq_mod]
theorem byte_mod (b : Nat) : ((b : Int) % 64) = ((b % 64 : Nat) : Int) := by omega
theorem i64_or_low (a b : Nat) (ha : a < 8388608) (hb : b < 64) : bits .or .i64 ((a : Int) * 64) (b : Int) = ((a * 64 + b : Nat) : Int) := by
  have o : ∀ x : Nat, x < 9223372036854775808 → (BitVec.ofInt 64 (x : Int)).toNat = x := fun x hx => by
    rw [BitVec.ofInt_natCast, BitVec.toNat_ofNat]; exact Nat.mod_eq_of_lt (by omega)
  have e : ((a : Int) * 64) = ((a * 64 : Nat) : Int) := by omega
  rw [e]
  show IntKind.i64.wrap ((BitVec.ofInt 64 ((a * 64 : Nat) : Int) ||| BitVec.ofInt 64 (b : Int)).toNat : Int) = _
  have hor : a * 64 ||| b = a * 64 + b := by
    have := Nat.two_pow_add_eq_or_of_lt (i := 6) (b := b) (by simpa using hb) a
    rw [show (2 : Nat) ^ 6 = 64 from rfl, Nat.mul_comm 64 a] at this
    exact this.symm
  rw [BitVec.toNat_or, o _ (by omega), o b (by omega), hor, IntKind.wrap_i64]
  omega
set_option maxRecDepth 100000 in
set_option maxHeartbeats 1000000 in
theorem width_any (b : Nat) (hb : b < 256) (w : World) :
    Calls Tryz.prog 64 #[.int .u8 b] w fun e w' => e = .returned (.int .i64 (wd b)) ∧ w = w' := by
  have hb' : (b : Int) < 256 := by omega
  have HW : Hid (wd b = if b < 128 then 1 else if 194 ≤ b ∧ b ≤ 223 then 2 else if 224 ≤ b ∧ b ≤ 239 then 3 else if 240 ≤ b ∧ b ≤ 244 then 4 else 0) := Lib.hid rfl
  generalize wd b = z at *
  clear hb
  go_enter Tryz.func64, Tryz.ntmps64
  go_wp2
  all_goals
    go_ret
    have hz := HW.out
    (repeat' split at hz) <;> first | omega | (subst hz; exact ⟨rfl, rfl⟩)

set_option maxRecDepth 100000 in
set_option maxHeartbeats 1000000 in
theorem second_any (b : Nat) (hb : b < 256) (w : World) :
    Calls Tryz.prog 65 #[.int .u8 b] w fun e w' => e = .returned (.tuple #[.int .u8 (lo b), .int .u8 (hiB b)]) ∧ w = w' := by
  have HW : Hid (lo b = if b = 224 then 160 else if b = 240 then 144 else 128) := Lib.hid rfl
  have HV : Hid (hiB b = if b = 237 then 159 else if b = 244 then 143 else 191) := Lib.hid rfl
  generalize lo b = y at *
  generalize hiB b = z at *
  go_enter Tryz.func65, Tryz.ntmps65
  go_wp2
  all_goals
    go_ret2
    have hz := HW.out
    have hy := HV.out
    refine ⟨?_, rfl⟩
    simp only [beq_iff_eq, beq_eq_false_iff_ne, ne_eq] at *
    (repeat' split at hz) <;> first | omega | ((repeat' split at hy) <;> first | omega | (subst hz hy; rfl))

def PairQuiet (c n : Int) (w : World) (e : Ending) (w' : World) : Prop := e = .returned (.tuple #[.int .i64 c, .int .i64 n]) ∧ ∃ k, w' = w.drewN k
set_option maxRecDepth 100000 in
set_option maxHeartbeats 1000000 in
theorem next_out (s : ByteArray) (i : Int) (w : World) (hs : s.size ≤ 9223372036854775807) (h : ¬ (0 ≤ i ∧ i < s.size)) :
    Calls Tryz.prog 41 #[.string s, .int .i64 i] w (PairQuiet (-1) 0 w) := by
  by_cases h0 : i < 0
  all_goals
    go_enter Tryz.func41, Tryz.ntmps41
    go_wp2
    go_ret2
    exact ⟨rfl, 0, rfl⟩

set_option maxRecDepth 100000 in
set_option maxHeartbeats 1000000 in
theorem next_bad (s : ByteArray) (i : Nat) (w : World) (hs : s.size ≤ 9223372036854775807) (hi : i < s.size) (h : wd (bt s i) = 0 ∨ s.size - i < wd (bt s i)) :
    Calls Tryz.prog 41 #[.string s, .int .i64 i] w (PairQuiet 65533 1 w) := by
  have hb := bt_lt s i
  have hbt := Lib.hid (get_bt s i hi)
  by_cases h0 : wd (bt s i) = 0
  · have hb0 : (((wd (bt s i) : Nat) : Int) == 0) = true := by rw [h0]; rfl
    clear h0 h
    go_enter Tryz.func41, Tryz.ntmps41
    go_wp2_with (go_at_call 64; rw [hbt.out]; refine (width_any _ hb _).mono ?_; rintro e w' ⟨rfl, rfl⟩)
    go_ret2
    exact ⟨rfl, 0, rfl⟩
  · have hb0 : (((wd (bt s i) : Nat) : Int) == 0) = false := by simpa using h0
    have h' : (s.size : Int) - i < (wd (bt s i) : Nat) := by omega
    clear h0 h
    go_enter Tryz.func41, Tryz.ntmps41
    go_wp2_with (go_at_call 64; rw [hbt.out]; refine (width_any _ hb _).mono ?_; rintro e w' ⟨rfl, rfl⟩)
    go_ret2
    exact ⟨rfl, 0, rfl⟩

theorem pair_mk {c n c' n' : Int} {w : World} {k : Nat} (hc : c = c') (hn : n = n') : PairQuiet c' n' w (.returned (.tuple #[.int .i64 c, .int .i64 n])) (w.drewN k) := by
  subst hc hn; exact ⟨rfl, k, rfl⟩
set_option maxRecDepth 100000 in
set_option maxHeartbeats 1000000 in
theorem next_one (s : ByteArray) (i : Nat) (w : World) (hs : s.size ≤ 9223372036854775807) (hi : i < s.size) (h : bt s i < 128) :
    Calls Tryz.prog 41 #[.string s, .int .i64 i] w (PairQuiet (bt s i) 1 w) := by
  have hb := bt_lt s i
  have hlt : ((s[i].toNat : Nat) : Int) < 256 := by rw [get_bt s i hi]; omega
  have hbt := Lib.hid (get_bt s i hi)
  have hw : wd (bt s i) = 1 := by unfold wd; rw [if_pos h]
  have hw' := Lib.hid hw
  clear hw
  go_enter Tryz.func41, Tryz.ntmps41
  go_wp2_with (go_at_call 64; rw [hbt.out]; refine (width_any _ hb _).mono ?_; rw [hw'.out]; rintro e w' ⟨rfl, rfl⟩)
  go_ret2
  exact pair_mk (k := 0) (by rw [hbt.out]) rfl

theorem bt_int (s : ByteArray) (k : Nat) (h : k < s.size) : ((s[k].toNat : Nat) : Int) = (bt s k : Int) := by rw [get_bt s k h]
set_option maxRecDepth 100000 in
set_option maxHeartbeats 1000000 in
theorem next_second (s : ByteArray) (i : Nat) (w : World) (hs : s.size ≤ 9223372036854775807) (hi : i < s.size) (h2 : 2 ≤ wd (bt s i)) (hn : wd (bt s i) ≤ s.size - i) (h : bt s (i + 1) < lo (bt s i) ∨ hiB (bt s i) < bt s (i + 1)) :
    Calls Tryz.prog 41 #[.string s, .int .i64 i] w (PairQuiet 65533 1 w) := by
  have hb := bt_lt s i
  have hi1 : i + 1 < s.size := by omega
  have hlt : ((s[i].toNat : Nat) : Int) < 256 := by rw [get_bt s i hi]; omega
  have hlt1 : ((s[i + 1].toNat : Nat) : Int) < 256 := by rw [get_bt s (i + 1) hi1]; have := bt_lt s (i + 1); omega
  have e1 := bt_int s (i + 1) hi1
  have hbt := Lib.hid (get_bt s i hi)
  have hn' : ((wd (bt s i) : Nat) : Int) ≤ (s.size : Int) - i := by omega
  have z0 : (((wd (bt s i) : Nat) : Int) == 0) = false := by simp; omega
  have z1 : (((wd (bt s i) : Nat) : Int) == 1) = false := by simp; omega
  rcases h with h | h
  · have h' : ((s[i + 1].toNat : Nat) : Int) < (lo (bt s i) : Nat) := by omega
    clear h e1 hn
    go_enter Tryz.func41, Tryz.ntmps41
    go_wp2_with (first | (go_at_call 64; rw [hbt.out]; refine (width_any _ hb _).mono ?_; rintro e w' ⟨rfl, rfl⟩) | (go_at_call 65; rw [hbt.out]; refine (second_any _ hb _).mono ?_; rintro e w' ⟨rfl, rfl⟩))
    go_ret2
    exact pair_mk (k := 0) rfl rfl
  · have h' : ((hiB (bt s i) : Nat) : Int) < ((s[i + 1].toNat : Nat) : Int) := by omega
    have hle : ((lo (bt s i) : Nat) : Int) ≤ ((s[i + 1].toNat : Nat) : Int) := by
      have : lo (bt s i) ≤ hiB (bt s i) := by unfold lo hiB; (repeat' split) <;> omega
      omega
    clear h e1 hn
    go_enter Tryz.func41, Tryz.ntmps41
    go_wp2_with (first | (go_at_call 64; rw [hbt.out]; refine (width_any _ hb _).mono ?_; rintro e w' ⟨rfl, rfl⟩) | (go_at_call 65; rw [hbt.out]; refine (second_any _ hb _).mono ?_; rintro e w' ⟨rfl, rfl⟩))
    go_ret2
    exact pair_mk (k := 0) rfl rfl

set_option maxRecDepth 100000 in
set_option maxHeartbeats 8000000 in
theorem next_more (s : ByteArray) (i sz : Nat) (w : World) (hs : s.size ≤ 9223372036854775807) (hi : i < s.size) (hw : wd (bt s i) = sz) (h2 : sz = 2 ∨ sz = 3 ∨ sz = 4) (hn : sz ≤ s.size - i) (hl : lo (bt s i) ≤ bt s (i + 1)) (hh : bt s (i + 1) ≤ hiB (bt s i)) :
    Calls Tryz.prog 41 #[.string s, .int .i64 i] w (PairQuiet (Utf8.decode s i).1 (Utf8.decode s i).2 w) := by
  have hb := bt_lt s i
  have hi1 : i + 1 < s.size := by omega
  have hlt : ((s[i].toNat : Nat) : Int) < 256 := by rw [get_bt s i hi]; omega
  have hlt1 : ((s[i + 1].toNat : Nat) : Int) < 256 := by rw [get_bt s (i + 1) hi1]; have := bt_lt s (i + 1); omega
  have e1 := bt_int s (i + 1) hi1
  have hbt := Lib.hid (get_bt s i hi)
  have h1 : ((lo (bt s i) : Nat) : Int) ≤ ((s[i + 1].toNat : Nat) : Int) := by omega
  have h3 : ((s[i + 1].toNat : Nat) : Int) ≤ ((hiB (bt s i) : Nat) : Int) := by omega
  have hbad : ∀ j, j + 1 < sz → bt s (i + 1 + j) < 128 ∨ 191 < bt s (i + 1 + j) → Utf8.decode s i = (65533, 1) := fun j hj h => dec_cont s i j (by rw [hw]; exact hj) h
  have hgood : ContTo s i (sz - 1) → Utf8.decode s i = (acc s i (2 ^ (7 - sz)) (sz - 1), sz) := dec_whole s i sz hi hw (by omega) hn hl hh
  have Hbad := Lib.hid hbad
  have Hgood := Lib.hid hgood
  have hw' := Lib.hid hw
  clear hbad hgood hl hh e1 hw
  generalize Utf8.decode s i = D at *
  have d0 : decide ((i : Int) < 0) = false := by simp
  have d2 : decide (s[i + 1].toNat < lo (bt s i)) = false := by simp; omega
  have d3 : decide (hiB (bt s i) < s[i + 1].toNat) = false := by simp; omega
  rcases h2 with rfl | rfl | rfl
  · have hn' : (2 : Int) ≤ (s.size : Int) - i := by omega
    have d1 : decide ((s.size : Int) - i < 2) = false := by simp; omega
    go_enter Tryz.func41, Tryz.ntmps41
    go_wp2_with (first | (go_at_call 64; rw [hbt.out]; refine (width_any _ hb _).mono ?_; rw [hw'.out]; rintro e w' ⟨rfl, rfl⟩) | (go_at_call 65; rw [hbt.out]; refine (second_any _ hb _).mono ?_; rintro e w' ⟨rfl, rfl⟩))
    go_quiet (fail)
    go_wp2
    go_loop [4, 71] (fun c k => ∃ j : Nat, j ≤ 2 - 1 ∧ k = .int .i64 j ∧ c = .int .i64 (acc s i (2 ^ (7 - 2)) j) ∧ ContTo s i j) (fun _ k => 2 - 1 - (intOf k).toNat)
    case atStart => exact ⟨0, by omega, rfl, congrArg (Value.int .i64) (by rw [hbt.out]; exact i64_and_mask _ 5 hb (by decide)), fun k hk => absurd hk (by omega)⟩
    case round =>
      obtain ⟨j, hj, rfl, rfl, hc⟩ := hrel
      have ha := acc_lt s i (2 ^ (7 - 2)) j (by decide) (by decide) (by omega)
      generalize hacc : acc s i (2 ^ (7 - 2)) j = a at *
      have Hacc := Lib.hid hacc
      clear hacc
      by_cases hlast : j < 2 - 1
      · have hij : i + 1 + j < s.size := by omega
        have hlj : ((s[i + 1 + j].toNat : Nat) : Int) < 256 := by rw [get_bt s _ hij]; have := bt_lt s (i + 1 + j); omega
        by_cases hcont : 128 ≤ bt s (i + 1 + j) ∧ bt s (i + 1 + j) ≤ 191
        · have q1 : decide (((s[i + 1 + j].toNat : Nat) : Int) < 128) = false := by rw [get_bt s _ hij]; simp; omega
          have q2 : decide (191 < ((s[i + 1 + j].toNat : Nat) : Int)) = false := by rw [get_bt s _ hij]; simp; omega
          go_wp2
          go_round
          case rel =>
            refine ⟨j + 1, by omega, by go_num, congrArg (Value.int .i64) ?_, fun k hk => ?_⟩
            · rw [bt_int s _ hij, byte_mod, i64_or_low _ _ ha (Nat.mod_lt _ (by decide)), ← Hacc.out]
              rfl
            · by_cases hk' : k < j
              · exact hc k hk'
              · obtain rfl : k = j := by omega
                exact hcont
          case measure => simp [intOf]; omega
        · have hb' := Hbad.out j (by omega) (by omega)
          by_cases q1 : bt s (i + 1 + j) < 128
          · have q1' : ((s[i + 1 + j].toNat : Nat) : Int) < 128 := by rw [get_bt s _ hij]; omega
            clear hb' q1 hcont
            go_wp2
            go_ret2
            exact pair_mk (by rw [Hbad.out j (by omega) (by have := get_bt s _ hij; omega)]; rfl) (by rw [Hbad.out j (by omega) (by have := get_bt s _ hij; omega)]; rfl)
          · have q1' : 128 ≤ ((s[i + 1 + j].toNat : Nat) : Int) := by rw [get_bt s _ hij]; omega
            have q2' : 191 < ((s[i + 1 + j].toNat : Nat) : Int) := by rw [get_bt s _ hij]; omega
            clear hb' q1 hcont
            go_wp2
            go_ret2
            exact pair_mk (by rw [Hbad.out j (by omega) (by have := get_bt s _ hij; omega)]; rfl) (by rw [Hbad.out j (by omega) (by have := get_bt s _ hij; omega)]; rfl)
      · obtain rfl : j = 2 - 1 := by omega
        go_wp2
        go_ret2
        exact pair_mk (by rw [Hgood.out hc, Hacc.out]) (by rw [Hgood.out hc]; rfl)
  · have hn' : (3 : Int) ≤ (s.size : Int) - i := by omega
    have d1 : decide ((s.size : Int) - i < 3) = false := by simp; omega
    go_enter Tryz.func41, Tryz.ntmps41
    go_wp2_with (first | (go_at_call 64; rw [hbt.out]; refine (width_any _ hb _).mono ?_; rw [hw'.out]; rintro e w' ⟨rfl, rfl⟩) | (go_at_call 65; rw [hbt.out]; refine (second_any _ hb _).mono ?_; rintro e w' ⟨rfl, rfl⟩))
    go_quiet (fail)
    go_wp2
    go_loop [4, 71] (fun c k => ∃ j : Nat, j ≤ 3 - 1 ∧ k = .int .i64 j ∧ c = .int .i64 (acc s i (2 ^ (7 - 3)) j) ∧ ContTo s i j) (fun _ k => 3 - 1 - (intOf k).toNat)
    case atStart => exact ⟨0, by omega, rfl, congrArg (Value.int .i64) (by rw [hbt.out]; exact i64_and_mask _ 4 hb (by decide)), fun k hk => absurd hk (by omega)⟩
    case round =>
      obtain ⟨j, hj, rfl, rfl, hc⟩ := hrel
      have ha := acc_lt s i (2 ^ (7 - 3)) j (by decide) (by decide) (by omega)
      generalize hacc : acc s i (2 ^ (7 - 3)) j = a at *
      have Hacc := Lib.hid hacc
      clear hacc
      by_cases hlast : j < 3 - 1
      · have hij : i + 1 + j < s.size := by omega
        have hlj : ((s[i + 1 + j].toNat : Nat) : Int) < 256 := by rw [get_bt s _ hij]; have := bt_lt s (i + 1 + j); omega
        by_cases hcont : 128 ≤ bt s (i + 1 + j) ∧ bt s (i + 1 + j) ≤ 191
        · have q1 : decide (((s[i + 1 + j].toNat : Nat) : Int) < 128) = false := by rw [get_bt s _ hij]; simp; omega
          have q2 : decide (191 < ((s[i + 1 + j].toNat : Nat) : Int)) = false := by rw [get_bt s _ hij]; simp; omega
          go_wp2
          go_round
          case rel =>
            refine ⟨j + 1, by omega, by go_num, congrArg (Value.int .i64) ?_, fun k hk => ?_⟩
            · rw [bt_int s _ hij, byte_mod, i64_or_low _ _ ha (Nat.mod_lt _ (by decide)), ← Hacc.out]
              rfl
            · by_cases hk' : k < j
              · exact hc k hk'
              · obtain rfl : k = j := by omega
                exact hcont
          case measure => simp [intOf]; omega
        · have hb' := Hbad.out j (by omega) (by omega)
          by_cases q1 : bt s (i + 1 + j) < 128
          · have q1' : ((s[i + 1 + j].toNat : Nat) : Int) < 128 := by rw [get_bt s _ hij]; omega
            clear hb' q1 hcont
            go_wp2
            go_ret2
            exact pair_mk (by rw [Hbad.out j (by omega) (by have := get_bt s _ hij; omega)]; rfl) (by rw [Hbad.out j (by omega) (by have := get_bt s _ hij; omega)]; rfl)
          · have q1' : 128 ≤ ((s[i + 1 + j].toNat : Nat) : Int) := by rw [get_bt s _ hij]; omega
            have q2' : 191 < ((s[i + 1 + j].toNat : Nat) : Int) := by rw [get_bt s _ hij]; omega
            clear hb' q1 hcont
            go_wp2
            go_ret2
            exact pair_mk (by rw [Hbad.out j (by omega) (by have := get_bt s _ hij; omega)]; rfl) (by rw [Hbad.out j (by omega) (by have := get_bt s _ hij; omega)]; rfl)
      · obtain rfl : j = 3 - 1 := by omega
        go_wp2
        go_ret2
        exact pair_mk (by rw [Hgood.out hc, Hacc.out]) (by rw [Hgood.out hc]; rfl)
  · have hn' : (4 : Int) ≤ (s.size : Int) - i := by omega
    have d1 : decide ((s.size : Int) - i < 4) = false := by simp; omega
    go_enter Tryz.func41, Tryz.ntmps41
    go_wp2_with (first | (go_at_call 64; rw [hbt.out]; refine (width_any _ hb _).mono ?_; rw [hw'.out]; rintro e w' ⟨rfl, rfl⟩) | (go_at_call 65; rw [hbt.out]; refine (second_any _ hb _).mono ?_; rintro e w' ⟨rfl, rfl⟩))
    go_quiet (fail)
    go_wp2
    go_loop [4, 71] (fun c k => ∃ j : Nat, j ≤ 4 - 1 ∧ k = .int .i64 j ∧ c = .int .i64 (acc s i (2 ^ (7 - 4)) j) ∧ ContTo s i j) (fun _ k => 4 - 1 - (intOf k).toNat)
    case atStart => exact ⟨0, by omega, rfl, congrArg (Value.int .i64) (by rw [hbt.out]; exact i64_and_mask _ 3 hb (by decide)), fun k hk => absurd hk (by omega)⟩
    case round =>
      obtain ⟨j, hj, rfl, rfl, hc⟩ := hrel
      have ha := acc_lt s i (2 ^ (7 - 4)) j (by decide) (by decide) (by omega)
      generalize hacc : acc s i (2 ^ (7 - 4)) j = a at *
      have Hacc := Lib.hid hacc
      clear hacc
      by_cases hlast : j < 4 - 1
      · have hij : i + 1 + j < s.size := by omega
        have hlj : ((s[i + 1 + j].toNat : Nat) : Int) < 256 := by rw [get_bt s _ hij]; have := bt_lt s (i + 1 + j); omega
        by_cases hcont : 128 ≤ bt s (i + 1 + j) ∧ bt s (i + 1 + j) ≤ 191
        · have q1 : decide (((s[i + 1 + j].toNat : Nat) : Int) < 128) = false := by rw [get_bt s _ hij]; simp; omega
          have q2 : decide (191 < ((s[i + 1 + j].toNat : Nat) : Int)) = false := by rw [get_bt s _ hij]; simp; omega
          go_wp2
          go_round
          case rel =>
            refine ⟨j + 1, by omega, by go_num, congrArg (Value.int .i64) ?_, fun k hk => ?_⟩
            · rw [bt_int s _ hij, byte_mod, i64_or_low _ _ ha (Nat.mod_lt _ (by decide)), ← Hacc.out]
              rfl
            · by_cases hk' : k < j
              · exact hc k hk'
              · obtain rfl : k = j := by omega
                exact hcont
          case measure => simp [intOf]; omega
        · have hb' := Hbad.out j (by omega) (by omega)
          by_cases q1 : bt s (i + 1 + j) < 128
          · have q1' : ((s[i + 1 + j].toNat : Nat) : Int) < 128 := by rw [get_bt s _ hij]; omega
            clear hb' q1 hcont
            go_wp2
            go_ret2
            exact pair_mk (by rw [Hbad.out j (by omega) (by have := get_bt s _ hij; omega)]; rfl) (by rw [Hbad.out j (by omega) (by have := get_bt s _ hij; omega)]; rfl)
          · have q1' : 128 ≤ ((s[i + 1 + j].toNat : Nat) : Int) := by rw [get_bt s _ hij]; omega
            have q2' : 191 < ((s[i + 1 + j].toNat : Nat) : Int) := by rw [get_bt s _ hij]; omega
            clear hb' q1 hcont
            go_wp2
            go_ret2
            exact pair_mk (by rw [Hbad.out j (by omega) (by have := get_bt s _ hij; omega)]; rfl) (by rw [Hbad.out j (by omega) (by have := get_bt s _ hij; omega)]; rfl)
      · obtain rfl : j = 4 - 1 := by omega
        go_wp2
        go_ret2
        exact pair_mk (by rw [Hgood.out hc, Hacc.out]) (by rw [Hgood.out hc]; rfl)

end Go.Proofs.YtfnloonmeilhlaaGreatDoor
namespace Go.Pub
theorem dec_bd (s : ByteArray) (i : Nat) (h : i < s.size) : 1 ≤ (Utf8.decode s i).2 ∧ (Utf8.decode s i).2 ≤ 4 ∧ i + (Utf8.decode s i).2 ≤ s.size ∧ (Utf8.decode s i).1 ≤ 1114111 := by
  have hb := bt_lt s i
  have h1 := bt_lt s (i + 1)
  have h2 := bt_lt s (i + 2)
  have h3 := bt_lt s (i + 3)
  rw [Lib.decode_at]
  show 1 ≤ (Lib.decodeN _ (bt s i) (bt s (i + 1)) (bt s (i + 2)) (bt s (i + 3))).2 ∧ (Lib.decodeN _ (bt s i) (bt s (i + 1)) (bt s (i + 2)) (bt s (i + 3))).2 ≤ 4 ∧ i + (Lib.decodeN _ (bt s i) (bt s (i + 1)) (bt s (i + 2)) (bt s (i + 3))).2 ≤ s.size ∧ (Lib.decodeN _ (bt s i) (bt s (i + 1)) (bt s (i + 2)) (bt s (i + 3))).1 ≤ 1114111
  unfold Lib.decodeN
  (repeat' split) <;> (simp only []; omega)
end Go.Pub
namespace Go.Pub
def bytesL (s : ByteArray) : List UInt8 := s.data.toList
def encL (c : Int) : List UInt8 := bytesL (Utf8.encode c)
def encN (c : Nat) : ByteArray :=
  if c < 0x80 then ⟨#[UInt8.ofNat c]⟩
  else if c < 0x800 then ⟨#[UInt8.ofNat (0xC0 + c / 64), UInt8.ofNat (0x80 + c % 64)]⟩
  else if c < 0x10000 then ⟨#[UInt8.ofNat (0xE0 + c / 4096), UInt8.ofNat (0x80 + c / 64 % 64), UInt8.ofNat (0x80 + c % 64)]⟩
  else ⟨#[UInt8.ofNat (0xF0 + c / 262144), UInt8.ofNat (0x80 + c / 4096 % 64), UInt8.ofNat (0x80 + c / 64 % 64), UInt8.ofNat (0x80 + c % 64)]⟩
theorem enc_encN (r : Int) : Utf8.encode r = encN (if Utf8.valid r = true then r.toNat else Utf8.runeError) := rfl
theorem enc_nat (n : Nat) (h : Utf8.valid (n : Int) = true) : Utf8.encode (n : Int) = encN n := by
  rw [enc_encN, if_pos h, Int.toNat_natCast]
theorem encN_one (n : Nat) (h : n < 128) : encN n = ⟨#[UInt8.ofNat n]⟩ := if_pos h
theorem encN_two (n : Nat) (h0 : ¬ n < 128) (h : n < 2048) : encN n = ⟨#[UInt8.ofNat (192 + n / 64), UInt8.ofNat (128 + n % 64)]⟩ := (if_neg h0).trans (if_pos h)
theorem encN_three (n : Nat) (h0 : ¬ n < 128) (h1 : ¬ n < 2048) (h : n < 65536) : encN n = ⟨#[UInt8.ofNat (224 + n / 4096), UInt8.ofNat (128 + n / 64 % 64), UInt8.ofNat (128 + n % 64)]⟩ := (if_neg h0).trans ((if_neg h1).trans (if_pos h))
theorem encN_four (n : Nat) (h0 : ¬ n < 128) (h1 : ¬ n < 2048) (h : ¬ n < 65536) : encN n = ⟨#[UInt8.ofNat (240 + n / 262144), UInt8.ofNat (128 + n / 4096 % 64), UInt8.ofNat (128 + n / 64 % 64), UInt8.ofNat (128 + n % 64)]⟩ := (if_neg h0).trans ((if_neg h1).trans (if_neg h))
theorem valid_of (n : Nat) (h : n < 55296 ∨ (57343 < n ∧ n ≤ 1114111)) : Utf8.valid (n : Int) = true := by
  unfold Utf8.valid
  rw [Bool.or_eq_true, Bool.and_eq_true, Bool.and_eq_true]
  simp only [decide_eq_true_eq]
  omega
theorem encL_nat (n : Nat) (h : Utf8.valid (n : Int) = true) : encL (n : Int) = bytesL (encN n) := congrArg bytesL (enc_nat n h)
theorem ofNat_toNat (n : Nat) (h : n < 256) : (UInt8.ofNat n).toNat = n := by simp; omega
theorem bytesL_mk (s : ByteArray) : s = ⟨(bytesL s).toArray⟩ := by unfold bytesL; simp
end Go.Pub
