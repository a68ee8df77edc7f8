/-
  Texts of the proof, put together (what this law reaches): Text, RefA.
-/
import Derived.Lib.DecodeN
import Derived.Lib.RuneBytes
import Derived.Laws.BitsAllLaws
import Derived.Laws.BitsLemmas
import Derived.Test.YtpoafhgbhnblmaaGreatDoorRows
import Derived.Test.YtpoafhgbhnblmaaGreatDoorX02
import Derived.WalkKit
import Derived.WalkSpells
import Derived.WalkLawsBesides
import Derived.Deep.QuietTactic
import Derived.BigQuiet
import Derived.Lib.Hide
set_option linter.unusedVariables false
set_option linter.unusedSimpArgs false
namespace Go.Pub
open Go
/-- The byte at place k (0 beyond the end). -/
def bt (s : ByteArray) (k : Nat) : Nat := (s.get! k).toNat
theorem bt_lt (s : ByteArray) (k : Nat) : bt s k < 256 := (s.get! k).toNat_lt
theorem get_bt (s : ByteArray) (k : Nat) (h : k < s.size) : (s[k]).toNat = bt s k := by
  unfold bt
  have : s.get! k = s[k] := by
    show s.data[k]! = s.data[k]
    exact getElem!_pos s.data k h
  rw [this]
/-- The number of bytes that the first byte promises. -/
def wd (b : Nat) : Nat := if b < 128 then 1 else if 194 ≤ b ∧ b ≤ 223 then 2 else if 224 ≤ b ∧ b ≤ 239 then 3 else if 240 ≤ b ∧ b ≤ 244 then 4 else 0
def lo (b : Nat) : Nat := if b = 224 then 160 else if b = 240 then 144 else 128
def hiB (b : Nat) : Nat := if b = 237 then 159 else if b = 244 then 143 else 191
/-- The code point's number after j further bytes. -/
def acc (s : ByteArray) (i m : Nat) : Nat → Nat
  | 0 => bt s i % m
  | j + 1 => acc s i m j * 64 + bt s (i + 1 + j) % 64
def ContTo (s : ByteArray) (i j : Nat) : Prop := ∀ k, k < j → 128 ≤ bt s (i + 1 + k) ∧ bt s (i + 1 + k) ≤ 191
theorem acc_lt (s : ByteArray) (i m j : Nat) (hm : 0 < m) (hm' : m ≤ 32) (hj : j ≤ 3) : acc s i m j < 8388608 := by
  have h0 := Nat.mod_lt (bt s i) hm
  have h1 := Nat.mod_lt (bt s (i + 1 + 0)) (show 64 > 0 by decide)
  have h2 := Nat.mod_lt (bt s (i + 1 + 1)) (show 64 > 0 by decide)
  have h3 := Nat.mod_lt (bt s (i + 1 + 2)) (show 64 > 0 by decide)
  match j, hj with
  | 0, _ => simp only [acc]; omega
  | 1, _ => simp only [acc]; omega
  | 2, _ => simp only [acc]; omega
  | 3, _ => simp only [acc]; omega
theorem dec_bad_width (s : ByteArray) (i : Nat) (h : wd (bt s i) = 0) : Utf8.decode s i = (65533, 1) := by
  have hb := bt_lt s i
  rw [Lib.decode_at]
  show Lib.decodeN _ (bt s i) (bt s (i + 1)) (bt s (i + 2)) (bt s (i + 3)) = _
  unfold wd at h
  unfold Lib.decodeN
  have h1 := bt_lt s (i + 1)
  repeat' split at h
  all_goals first | omega | (repeat' split) <;> first | rfl | omega
theorem dec_one (s : ByteArray) (i : Nat) (h : bt s i < 128) : Utf8.decode s i = (bt s i, 1) := by
  rw [Lib.decode_at]
  show Lib.decodeN _ (bt s i) (bt s (i + 1)) (bt s (i + 2)) (bt s (i + 3)) = _
  unfold Lib.decodeN
  rw [if_pos h]
/-- What is too short, or has a second byte out of its range, or a further byte that does not continue, is read as one broken byte. -/
theorem dec_short (s : ByteArray) (i : Nat) (hi : i < s.size) (h2 : 2 ≤ wd (bt s i)) (h : s.size - i < wd (bt s i)) : Utf8.decode s i = (65533, 1) := by
  rw [Lib.decode_at]
  show Lib.decodeN _ (bt s i) (bt s (i + 1)) (bt s (i + 2)) (bt s (i + 3)) = _
  unfold wd at h h2
  unfold Lib.decodeN
  repeat' split at h
  all_goals first | omega | (repeat' split) <;> first | rfl | omega
theorem dec_second (s : ByteArray) (i : Nat) (h2 : 2 ≤ wd (bt s i)) (h : bt s (i + 1) < lo (bt s i) ∨ hiB (bt s i) < bt s (i + 1)) : Utf8.decode s i = (65533, 1) := by
  rw [Lib.decode_at]
  show Lib.decodeN _ (bt s i) (bt s (i + 1)) (bt s (i + 2)) (bt s (i + 3)) = _
  have h1 := bt_lt s (i + 1)
  generalize bt s i = b0 at *
  generalize bt s (i + 1) = b1 at *
  generalize bt s (i + 2) = b2 at *
  generalize bt s (i + 3) = b3 at *
  unfold wd at h2
  unfold lo hiB at h
  unfold Lib.decodeN
  repeat' split at h2
  all_goals first | omega | (repeat' split at h) <;> first | omega | (repeat' split) <;> first | rfl | omega
theorem dec_cont (s : ByteArray) (i j : Nat) (hj : j + 1 < wd (bt s i)) (h : bt s (i + 1 + j) < 128 ∨ 191 < bt s (i + 1 + j)) : Utf8.decode s i = (65533, 1) := by
  rw [Lib.decode_at]
  show Lib.decodeN _ (bt s i) (bt s (i + 1)) (bt s (i + 2)) (bt s (i + 3)) = _
  have g1 := bt_lt s (i + 1)
  have g2 := bt_lt s (i + 2)
  have g3 := bt_lt s (i + 3)
  have hj3 : j < 3 := by unfold wd at hj; (repeat' split at hj) <;> omega
  match j, hj3, hj, h with
  | 0, _, hj, h =>
    have h' : bt s (i + 1) < 128 ∨ 191 < bt s (i + 1) := h
    unfold wd at hj
    unfold Lib.decodeN
    repeat' split at hj
    all_goals first | omega | (repeat' split) <;> first | rfl | omega
  | 1, _, hj, h =>
    have h' : bt s (i + 2) < 128 ∨ 191 < bt s (i + 2) := h
    unfold wd at hj
    unfold Lib.decodeN
    repeat' split at hj
    all_goals first | omega | (repeat' split) <;> first | rfl | omega
  | 2, _, hj, h =>
    have h' : bt s (i + 3) < 128 ∨ 191 < bt s (i + 3) := h
    unfold wd at hj
    unfold Lib.decodeN
    repeat' split at hj
    all_goals first | omega | (repeat' split) <;> first | rfl | omega
theorem dec_whole (s : ByteArray) (i sz : Nat) (hi : i < s.size) (hw : wd (bt s i) = sz) (h2 : 2 ≤ sz) (hn : sz ≤ s.size - i) (hl : lo (bt s i) ≤ bt s (i + 1)) (hh : bt s (i + 1) ≤ hiB (bt s i)) (hc : ContTo s i (sz - 1)) :
    Utf8.decode s i = (acc s i (2 ^ (7 - sz)) (sz - 1), sz) := by
  rw [Lib.decode_at]
  show Lib.decodeN _ (bt s i) (bt s (i + 1)) (bt s (i + 2)) (bt s (i + 3)) = _
  have hsz : sz = 2 ∨ sz = 3 ∨ sz = 4 := by unfold wd at hw; (repeat' split at hw) <;> omega
  rcases hsz with rfl | rfl | rfl
  · have c0 := hc 0 (by omega)
    simp only [acc, Nat.add_zero, show (7 - 2) = 5 from rfl, show (2 : Nat) ^ 5 = 32 from rfl] at c0 ⊢
    unfold wd at hw; unfold lo at hl; unfold hiB at hh
    unfold Lib.decodeN
    repeat' split at hw
    all_goals first | omega | (repeat' split at hl) <;> first | omega | (repeat' split at hh) <;> first | omega | (repeat' split) <;> first | rfl | (exfalso; omega)
  · have c0 := hc 0 (by omega)
    have c1 := hc 1 (by omega)
    simp only [acc, Nat.add_zero, show i + 1 + 1 = i + 2 from rfl, show (7 - 3) = 4 from rfl, show (2 : Nat) ^ 4 = 16 from rfl] at c0 c1 ⊢
    unfold wd at hw; unfold lo at hl; unfold hiB at hh
    unfold Lib.decodeN
    repeat' split at hw
    all_goals first | omega | (repeat' split at hl) <;> first | omega | (repeat' split at hh) <;> first | omega | (repeat' split) <;> first | (simp only [Prod.mk.injEq, and_true]; omega) | (exfalso; omega)
  · have c0 := hc 0 (by omega)
    have c1 := hc 1 (by omega)
    have c2 := hc 2 (by omega)
    simp only [acc, Nat.add_zero, show i + 1 + 1 = i + 2 from rfl, show i + 1 + 2 = i + 3 from rfl, show (7 - 4) = 3 from rfl, show (2 : Nat) ^ 3 = 8 from rfl] at c0 c1 c2 ⊢
    unfold wd at hw; unfold lo at hl; unfold hiB at hh
    unfold Lib.decodeN
    repeat' split at hw
    all_goals first | omega | (repeat' split at hl) <;> first | omega | (repeat' split at hh) <;> first | omega | (repeat' split) <;> first | (simp only [Prod.mk.injEq, and_true]; omega) | (exfalso; omega)
/-- What chars.Next gives: the code point at the byte i and its number of bytes. -/
def nextAt (s : ByteArray) (i : Int) : Int × Int :=
  if 0 ≤ i ∧ i < s.size then (((Utf8.decode s i.toNat).1 : Int), ((Utf8.decode s i.toNat).2 : Int)) else (-1, 0)
theorem nextAt_in (s : ByteArray) (i : Nat) (h : i < s.size) : nextAt s i = (((Utf8.decode s i).1 : Int), ((Utf8.decode s i).2 : Int)) := by
  unfold nextAt
  rw [if_pos ⟨by omega, by omega⟩, Int.toNat_natCast]
theorem nextAt_out (s : ByteArray) (i : Int) (h : ¬ (0 ≤ i ∧ i < s.size)) : nextAt s i = (-1, 0) := if_neg h
end Go.Pub
namespace Go.Pub
open Go.RowKit
/-- What the reference's more gives. -/
def mo (s : ByteArray) (k lo hi : Nat) : Int := if k < s.size ∧ lo ≤ bt s k ∧ bt s k ≤ hi then (bt s k : Int) - 128 else -1
theorem mo_bd (s : ByteArray) (k lo hi : Nat) (h : 128 ≤ lo) : -1 ≤ mo s k lo hi ∧ mo s k lo hi ≤ 127 := by
  unfold mo
  have := bt_lt s k
  split <;> omega
def PointBelow (c n : Int) (w : World) (e : Ending) (w' : World) : Prop := e = .returned (.agg #[.int .i64 c, .int .i64 n]) ∧ Below w.heap.size w w'
theorem pb_mk {c n : Int} {D : Nat × Nat} {w w' : World} (h1 : c = D.1) (h2 : n = D.2) (hb : Below w.heap.size w w') : PointBelow D.1 D.2 w (.returned (.agg #[.int .i64 c, .int .i64 n])) w' := by
  subst h1 h2; exact ⟨rfl, hb⟩
theorem dec_three (s : ByteArray) (i : Nat) (hi : i < s.size) (h : 224 ≤ bt s i ∧ bt s i ≤ 239) :
    Utf8.decode s i = if mo s (i + 1) (if bt s i = 224 then 160 else 128) (if bt s i = 237 then 159 else 191) < 0 ∨ mo s (i + 2) 128 191 < 0 then (65533, 1)
      else ((((bt s i : Int) - 224) * 4096 + mo s (i + 1) (if bt s i = 224 then 160 else 128) (if bt s i = 237 then 159 else 191) * 64 + mo s (i + 2) 128 191).toNat, 3) := by
  rw [Lib.decode_at]
  show Lib.decodeN _ (bt s i) (bt s (i + 1)) (bt s (i + 2)) (bt s (i + 3)) = _
  unfold mo Lib.decodeN
  have g1 := bt_lt s (i + 1)
  have g2 := bt_lt s (i + 2)
  generalize bt s i = b0 at *
  generalize bt s (i + 1) = b1 at *
  generalize bt s (i + 2) = b2 at *
  rw [if_neg (by omega), if_neg (by omega)]
  by_cases hc : b0 / 16 = 14 ∧ (1 < s.size - i ∧ b1 / 64 = 2) ∧ (2 < s.size - i ∧ b2 / 64 = 2)
  · rw [if_pos hc]
    by_cases e0 : b0 = 224
    · subst e0
      simp only [if_true, show ¬ (224 = 237) by decide, if_false]
      (repeat' split) <;> first | rfl | (exfalso; omega) | (simp only [Prod.mk.injEq, and_true]; omega)
    · by_cases e1 : b0 = 237
      · subst e1
        simp only [if_true, show ¬ (237 = 224) by decide, if_false]
        (repeat' split) <;> first | rfl | (exfalso; omega) | (simp only [Prod.mk.injEq, and_true]; omega)
      · simp only [e0, e1, if_false]
        (repeat' split) <;> first | rfl | (exfalso; omega) | (simp only [Prod.mk.injEq, and_true]; omega)
  · rw [if_neg hc, if_neg (by omega)]
    (repeat' split) <;> first | rfl | (exfalso; omega)
theorem dec_four (s : ByteArray) (i : Nat) (hi : i < s.size) (h : 240 ≤ bt s i ∧ bt s i ≤ 244) :
    Utf8.decode s i = if mo s (i + 1) (if bt s i = 240 then 144 else 128) (if bt s i = 244 then 143 else 191) < 0 ∨ mo s (i + 2) 128 191 < 0 ∨ mo s (i + 3) 128 191 < 0 then (65533, 1)
      else ((((bt s i : Int) - 240) * 262144 + mo s (i + 1) (if bt s i = 240 then 144 else 128) (if bt s i = 244 then 143 else 191) * 4096 + mo s (i + 2) 128 191 * 64 + mo s (i + 3) 128 191).toNat, 4) := by
  rw [Lib.decode_at]
  show Lib.decodeN _ (bt s i) (bt s (i + 1)) (bt s (i + 2)) (bt s (i + 3)) = _
  unfold mo Lib.decodeN
  have g1 := bt_lt s (i + 1)
  have g2 := bt_lt s (i + 2)
  have g3 := bt_lt s (i + 3)
  generalize bt s i = b0 at *
  generalize bt s (i + 1) = b1 at *
  generalize bt s (i + 2) = b2 at *
  generalize bt s (i + 3) = b3 at *
  rw [if_neg (by omega), if_neg (by omega), if_neg (by omega)]
  by_cases hc : b0 / 8 = 30 ∧ (1 < s.size - i ∧ b1 / 64 = 2) ∧ (2 < s.size - i ∧ b2 / 64 = 2) ∧ (3 < s.size - i ∧ b3 / 64 = 2)
  · rw [if_pos hc]
    by_cases e0 : b0 = 240
    · subst e0
      simp only [if_true, show ¬ (240 = 244) by decide, if_false]
      (repeat' split) <;> first | rfl | (exfalso; omega) | (simp only [Prod.mk.injEq, and_true]; omega)
    · by_cases e1 : b0 = 244
      · subst e1
        simp only [if_true, show ¬ (244 = 240) by decide, if_false]
        (repeat' split) <;> first | rfl | (exfalso; omega) | (simp only [Prod.mk.injEq, and_true]; omega)
      · simp only [e0, e1, if_false]
        (repeat' split) <;> first | rfl | (exfalso; omega) | (simp only [Prod.mk.injEq, and_true]; omega)
  · rw [if_neg hc]
    (repeat' split) <;> first | rfl | (exfalso; omega)
theorem dec_two (s : ByteArray) (i : Nat) (hi : i < s.size) (h : 194 ≤ bt s i ∧ bt s i ≤ 223) :
    Utf8.decode s i = if mo s (i + 1) 128 191 < 0 then (65533, 1) else ((((bt s i : Int) - 192) * 64 + mo s (i + 1) 128 191).toNat, 2) := by
  rw [Lib.decode_at]
  show Lib.decodeN _ (bt s i) (bt s (i + 1)) (bt s (i + 2)) (bt s (i + 3)) = _
  unfold mo Lib.decodeN
  have g1 := bt_lt s (i + 1)
  generalize bt s i = b0 at *
  generalize bt s (i + 1) = b1 at *
  rw [if_neg (by omega)]
  by_cases hc : b0 / 32 = 6 ∧ (1 < s.size - i ∧ b1 / 64 = 2)
  · rw [if_pos hc]
    (repeat' split) <;> first | rfl | (exfalso; omega) | (simp only [Prod.mk.injEq, and_true]; omega)
  · rw [if_neg hc, if_neg (by omega), if_neg (by omega)]
    (repeat' split) <;> first | rfl | (exfalso; omega)
end Go.Pub
namespace Go.Proofs.YtpoafhgbhnblmaaGreatDoor
open Go.RowKit Go.Pub
set_option maxRecDepth 100000 in
set_option maxHeartbeats 1000000 in
theorem more_any (s : ByteArray) (k lo hi : Nat) (w : World) (hs : s.size ≤ 9223372036854775807) (hlo : lo ≤ 255) (hhi : hi ≤ 255) :
    Calls Tryz.prog 54 #[.string s, .int .i64 k, .int .i64 lo, .int .i64 hi] w fun e w' => e = .returned (.int .i64 (mo s k lo hi)) ∧ w = w' := by
  by_cases hk : k < s.size
  · have hb := bt_lt s k
    have hlt : ((s[k].toNat : Nat) : Int) < 256 := by rw [get_bt s k hk]; omega
    have hbt := Lib.hid (get_bt s k hk)
    have HM : Hid (mo s k lo hi = if lo ≤ bt s k ∧ bt s k ≤ hi then (bt s k : Int) - 128 else -1) := Lib.hid (by unfold mo; simp [hk])
    generalize mo s k lo hi = m at *
    by_cases h1 : lo ≤ bt s k
    · have h1' : lo ≤ s[k].toNat := by rw [get_bt s k hk]; exact h1
      have d1 : decide (s[k].toNat < lo) = false := by simp; omega
      by_cases h2 : bt s k ≤ hi
      · have h2' : s[k].toNat ≤ hi := by rw [get_bt s k hk]; exact h2
        have d2 : decide (hi < s[k].toNat) = false := by simp; omega
        go_enter Tryz.func54, Tryz.ntmps54
        go_wp2
        go_ret
        exact ⟨ret_int (by rw [HM.out, if_pos ⟨h1, h2⟩, hbt.out]), rfl⟩
      · have h2' : hi < s[k].toNat := by rw [get_bt s k hk]; omega
        have d2 : decide (hi < s[k].toNat) = true := by simp; omega
        go_enter Tryz.func54, Tryz.ntmps54
        go_wp2
        go_ret
        exact ⟨ret_int (by rw [HM.out, if_neg (by omega)]), rfl⟩
    · have h1' : s[k].toNat < lo := by rw [get_bt s k hk]; omega
      have d1 : decide (s[k].toNat < lo) = true := by simp; omega
      go_enter Tryz.func54, Tryz.ntmps54
      go_wp2
      go_ret
      exact ⟨ret_int (by rw [HM.out, if_neg (by omega)]), rfl⟩
  · have hm : mo s k lo hi = -1 := by unfold mo; rw [if_neg (by omega)]
    rw [hm]
    clear hm
    go_enter Tryz.func54, Tryz.ntmps54
    go_wp2
    go_ret
    exact ⟨rfl, rfl⟩

theorem more_at (kI loI hiI : Int) (s : ByteArray) (k lo hi : Nat) (w : World) (hs : s.size ≤ 9223372036854775807) (hlo : lo ≤ 255) (hhi : hi ≤ 255) (ek : kI = k) (el : loI = lo) (eh : hiI = hi) :
    Calls Tryz.prog 54 #[.string s, .int .i64 kI, .int .i64 loI, .int .i64 hiI] w fun e w' => e = .returned (.int .i64 (mo s k lo hi)) ∧ w = w' := by
  subst ek el eh; exact more_any s k lo hi w hs hlo hhi
set_option maxRecDepth 100000 in
set_option maxHeartbeats 2000000 in
theorem three_core (s : ByteArray) (i lo hi : Nat) (w : World) (hs : s.size ≤ 9223372036854775800) (hi' : i < s.size) (h : 224 ≤ bt s i ∧ bt s i ≤ 239) (hlo : lo ≤ 255) (hhi : hi ≤ 255) (hlo' : 128 ≤ lo)
    (z : (lo = 160 ∧ hi = 191 ∧ bt s i = 224) ∨ (lo = 128 ∧ hi = 159 ∧ bt s i = 237) ∨ (lo = 128 ∧ hi = 191 ∧ bt s i ≠ 224 ∧ bt s i ≠ 237)) (D : Nat × Nat)
    (hD : D = if mo s (i + 1) lo hi < 0 ∨ mo s (i + 2) 128 191 < 0 then (65533, 1) else ((((bt s i : Int) - 224) * 4096 + mo s (i + 1) lo hi * 64 + mo s (i + 2) 128 191).toNat, 3)) :
    Calls Tryz.prog 55 #[.string s, .int .i64 i] w (PointBelow D.1 D.2 w) := by
  have m1 := mo_bd s (i + 1) lo hi (by omega)
  have m2 := mo_bd s (i + 2) 128 191 (by omega)
  have HD := Lib.hid hD
  clear hD
  have hlt : ((s[i].toNat : Nat) : Int) ≤ 239 := by rw [get_bt s i hi']; omega
  have hlt0 : 224 ≤ ((s[i].toNat : Nat) : Int) := by rw [get_bt s i hi']; omega
  have hbt := Lib.hid (get_bt s i hi')
  generalize hx : mo s (i + 1) lo hi = x at *
  generalize hy : mo s (i + 2) 128 191 = y at *
  have Hx := Lib.hid hx
  have Hy := Lib.hid hy
  clear hx hy
  have hlt' : bt s i < 256 := bt_lt s i
  have fin : x < 0 ∨ y < 0 ∨ (0 ≤ x ∧ 0 ≤ y) := by omega
  rcases z with ⟨rfl, rfl, e0⟩ | ⟨rfl, rfl, e0⟩ | ⟨rfl, rfl, e0, e1⟩
  all_goals
    first
      | (have z0 : (((s[i].toNat : Nat) : Int) == 224) = true := by rw [get_bt s i hi', e0]; rfl)
      | (have z0 : (((s[i].toNat : Nat) : Int) == 224) = false := by rw [get_bt s i hi']; simp; omega)
    first
      | (have z1 : (((s[i].toNat : Nat) : Int) == 237) = true := by rw [get_bt s i hi', e0]; rfl)
      | (have z1 : (((s[i].toNat : Nat) : Int) == 237) = false := by rw [get_bt s i hi']; simp; omega)
    have E0 := Lib.hid e0
    clear e0
    go_enter Tryz.func55, Tryz.ntmps55
    go_wp2_with fail
    refine (more_at _ _ _ s (i + 1) _ _ _ (by omega) hlo hhi (by omega) rfl rfl).mono ?_
    rw [Hx.out]
    rintro e w' ⟨rfl, rfl⟩
    go_wp2_with fail
    refine (more_at _ _ _ s (i + 2) 128 191 _ (by omega) (by decide) (by decide) (by omega) rfl rfl).mono ?_
    rw [Hy.out]
    rintro e w' ⟨rfl, rfl⟩
    rcases fin with f | f | ⟨f1, f2⟩
    · have hD : D = (65533, 1) := HD.out.trans (if_pos (Or.inl f))
      have HD2 := Lib.hid hD
      clear hD
      go_wp2
      exact bodyPost_ret (v := .agg #[.int .i64 65533, .int .i64 1]) (by simp [results, Tryz.results55, go_sem]) rfl (pb_mk (by rw [HD2.out]; rfl) (by rw [HD2.out]; rfl) ((Below.refl _ _).alloc (Nat.le_refl _) _))
    · have hD : D = (65533, 1) := HD.out.trans (if_pos (Or.inr f))
      have HD2 := Lib.hid hD
      clear hD
      by_cases f0 : x < 0
      all_goals
        go_wp2
        exact bodyPost_ret (v := .agg #[.int .i64 65533, .int .i64 1]) (by simp [results, Tryz.results55, go_sem]) rfl (pb_mk (by rw [HD2.out]; rfl) (by rw [HD2.out]; rfl) ((Below.refl _ _).alloc (Nat.le_refl _) _))
    · have hD := HD.out.trans (if_neg (by omega))
      have HD2 := Lib.hid hD
      clear hD
      go_wp2
      exact bodyPost_ret (v := .agg #[.int .i64 ((((s[i].toNat : Nat) : Int) - 224) * 4096 + x * 64 + y), .int .i64 3]) (by simp [results, Tryz.results55, go_sem]) rfl (pb_mk (by rw [HD2.out, hbt.out]; simp only []; omega) (by rw [HD2.out]; rfl) ((Below.refl _ _).alloc (Nat.le_refl _) _))

theorem three_any (s : ByteArray) (i : Nat) (w : World) (hs : s.size ≤ 9223372036854775800) (hi : i < s.size) (h : 224 ≤ bt s i ∧ bt s i ≤ 239) :
    Calls Tryz.prog 55 #[.string s, .int .i64 i] w (PointBelow (Utf8.decode s i).1 (Utf8.decode s i).2 w) :=
  three_core s i (if bt s i = 224 then 160 else 128) (if bt s i = 237 then 159 else 191) w hs hi h (by split <;> omega) (by split <;> omega) (by split <;> omega)
    (by (repeat' split) <;> omega) _ (dec_three s i hi h)
set_option maxRecDepth 100000 in
set_option maxHeartbeats 2000000 in
theorem four_core (s : ByteArray) (i lo hi : Nat) (w : World) (hs : s.size ≤ 9223372036854775800) (hi' : i < s.size) (h : 240 ≤ bt s i ∧ bt s i ≤ 244) (hlo : lo ≤ 255) (hhi : hi ≤ 255) (hlo' : 128 ≤ lo)
    (z : (lo = 144 ∧ hi = 191 ∧ bt s i = 240) ∨ (lo = 128 ∧ hi = 143 ∧ bt s i = 244) ∨ (lo = 128 ∧ hi = 191 ∧ bt s i ≠ 240 ∧ bt s i ≠ 244)) (D : Nat × Nat)
    (hD : D = if mo s (i + 1) lo hi < 0 ∨ mo s (i + 2) 128 191 < 0 ∨ mo s (i + 3) 128 191 < 0 then (65533, 1) else ((((bt s i : Int) - 240) * 262144 + mo s (i + 1) lo hi * 4096 + mo s (i + 2) 128 191 * 64 + mo s (i + 3) 128 191).toNat, 4)) :
    Calls Tryz.prog 56 #[.string s, .int .i64 i] w (PointBelow D.1 D.2 w) := by
  have m1 := mo_bd s (i + 1) lo hi (by omega)
  have m2 := mo_bd s (i + 2) 128 191 (by omega)
  have m3 := mo_bd s (i + 3) 128 191 (by omega)
  have HD := Lib.hid hD
  clear hD
  have hlt : ((s[i].toNat : Nat) : Int) ≤ 244 := by rw [get_bt s i hi']; omega
  have hlt0 : 240 ≤ ((s[i].toNat : Nat) : Int) := by rw [get_bt s i hi']; omega
  have hbt := Lib.hid (get_bt s i hi')
  generalize hx : mo s (i + 1) lo hi = x at *
  generalize hy : mo s (i + 2) 128 191 = y at *
  generalize hv : mo s (i + 3) 128 191 = v at *
  have Hx := Lib.hid hx
  have Hy := Lib.hid hy
  have Hv := Lib.hid hv
  clear hx hy hv
  have hlt' : bt s i < 256 := bt_lt s i
  have fin : x < 0 ∨ (0 ≤ x ∧ y < 0) ∨ (0 ≤ x ∧ 0 ≤ y ∧ v < 0) ∨ (0 ≤ x ∧ 0 ≤ y ∧ 0 ≤ v) := by omega
  rcases z with ⟨rfl, rfl, e0⟩ | ⟨rfl, rfl, e0⟩ | ⟨rfl, rfl, e0, e1⟩
  all_goals
    first
      | (have z0 : (((s[i].toNat : Nat) : Int) == 240) = true := by rw [get_bt s i hi', e0]; rfl)
      | (have z0 : (((s[i].toNat : Nat) : Int) == 240) = false := by rw [get_bt s i hi']; simp; omega)
    first
      | (have z1 : (((s[i].toNat : Nat) : Int) == 244) = true := by rw [get_bt s i hi', e0]; rfl)
      | (have z1 : (((s[i].toNat : Nat) : Int) == 244) = false := by rw [get_bt s i hi']; simp; omega)
    have E0 := Lib.hid e0
    clear e0
    go_enter Tryz.func56, Tryz.ntmps56
    go_wp2_with fail
    refine (more_at _ _ _ s (i + 1) _ _ _ (by omega) hlo hhi (by omega) rfl rfl).mono ?_
    rw [Hx.out]
    rintro e w' ⟨rfl, rfl⟩
    go_wp2_with fail
    refine (more_at _ _ _ s (i + 2) 128 191 _ (by omega) (by decide) (by decide) (by omega) rfl rfl).mono ?_
    rw [Hy.out]
    rintro e w' ⟨rfl, rfl⟩
    go_wp2_with fail
    refine (more_at _ _ _ s (i + 3) 128 191 _ (by omega) (by decide) (by decide) (by omega) rfl rfl).mono ?_
    rw [Hv.out]
    rintro e w' ⟨rfl, rfl⟩
    rcases fin with f | ⟨f1, f⟩ | ⟨f1, f2, f⟩ | ⟨f1, f2, f⟩
    · have hD : D = (65533, 1) := HD.out.trans (if_pos (by omega))
      have HD2 := Lib.hid hD
      clear hD
      go_wp2
      exact bodyPost_ret (v := .agg #[.int .i64 65533, .int .i64 1]) (by simp [results, Tryz.results56, go_sem]) rfl (pb_mk (by rw [HD2.out]; rfl) (by rw [HD2.out]; rfl) ((Below.refl _ _).alloc (Nat.le_refl _) _))
    · have hD : D = (65533, 1) := HD.out.trans (if_pos (by omega))
      have HD2 := Lib.hid hD
      clear hD
      go_wp2
      exact bodyPost_ret (v := .agg #[.int .i64 65533, .int .i64 1]) (by simp [results, Tryz.results56, go_sem]) rfl (pb_mk (by rw [HD2.out]; rfl) (by rw [HD2.out]; rfl) ((Below.refl _ _).alloc (Nat.le_refl _) _))
    · have hD : D = (65533, 1) := HD.out.trans (if_pos (by omega))
      have HD2 := Lib.hid hD
      clear hD
      go_wp2
      exact bodyPost_ret (v := .agg #[.int .i64 65533, .int .i64 1]) (by simp [results, Tryz.results56, go_sem]) rfl (pb_mk (by rw [HD2.out]; rfl) (by rw [HD2.out]; rfl) ((Below.refl _ _).alloc (Nat.le_refl _) _))
    · have hD := HD.out.trans (if_neg (by omega))
      have HD2 := Lib.hid hD
      clear hD
      go_wp2
      exact bodyPost_ret (v := .agg #[.int .i64 ((((s[i].toNat : Nat) : Int) - 240) * 262144 + x * 4096 + y * 64 + v), .int .i64 4]) (by simp [results, Tryz.results56, go_sem]) rfl (pb_mk (by rw [HD2.out, hbt.out]; simp only []; omega) (by rw [HD2.out]; rfl) ((Below.refl _ _).alloc (Nat.le_refl _) _))

theorem four_any (s : ByteArray) (i : Nat) (w : World) (hs : s.size ≤ 9223372036854775800) (hi : i < s.size) (h : 240 ≤ bt s i ∧ bt s i ≤ 244) :
    Calls Tryz.prog 56 #[.string s, .int .i64 i] w (PointBelow (Utf8.decode s i).1 (Utf8.decode s i).2 w) :=
  four_core s i (if bt s i = 240 then 144 else 128) (if bt s i = 244 then 143 else 191) w hs hi h (by split <;> omega) (by split <;> omega) (by split <;> omega)
    (by (repeat' split) <;> omega) _ (dec_four s i hi h)
end Go.Proofs.YtpoafhgbhnblmaaGreatDoor
