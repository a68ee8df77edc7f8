/-
  Texts of the proof, put together (what this law reaches): RefA, RefB, RefC, RefE, Strs, AttrC, Blk, AttrD, AttrF, AttrG, AttrH, MkA, AttrI, MkC.
-/
import Derived.Test.YtcjkgmfidkgamaaGreatDoorRows
import Derived.Test.YtcjkgmfidkgamaaGreatDoorE01
import Derived.WalkKit
import Derived.WalkSpells
import Derived.WalkLawsBesides
import Derived.Deep.QuietTactic
import Derived.BigQuiet
import Derived.Lib.Hide
import Derived.Laws.BytesArg
import Derived.Lib.UnsafeStr
import Derived.Test.YtcjkgmfidkgamaaGreatDoorE02
import Derived.Lib.Builder
import Derived.Lib.OthersKept
import Derived.Lib.FrozenHead2
import Derived.Lib.RuneBytes
import Derived.SliceStrings
import Derived.Lib.FrozenHead
import Derived.Deep.Draws
import Derived.Laws.Rows
import Derived.RegionTactic
import Derived.Outline
set_option linter.unusedVariables false
set_option linter.unusedSimpArgs false
namespace Go.Pub
open Go.RowKit
/-- What the reference's more gives. -/
def mo (s : ByteArray) (k lo hi : Nat) : Int := if k < s.size ∧ lo ≤ bt s k ∧ bt s k ≤ hi then (bt s k : Int) - 128 else -1
theorem mo_bd (s : ByteArray) (k lo hi : Nat) (h : 128 ≤ lo) : -1 ≤ mo s k lo hi ∧ mo s k lo hi ≤ 127 := by
  unfold mo
  have := bt_lt s k
  split <;> omega
def PointBelow (c n : Int) (w : World) (e : Ending) (w' : World) : Prop := e = .returned (.agg #[.int .i64 c, .int .i64 n]) ∧ Below w.heap.size w w'
theorem pb_mk {c n : Int} {D : Nat × Nat} {w w' : World} (h1 : c = D.1) (h2 : n = D.2) (hb : Below w.heap.size w w') : PointBelow D.1 D.2 w (.returned (.agg #[.int .i64 c, .int .i64 n])) w' := by
  subst h1 h2; exact ⟨rfl, hb⟩
theorem dec_three (s : ByteArray) (i : Nat) (hi : i < s.size) (h : 224 ≤ bt s i ∧ bt s i ≤ 239) :
    Utf8.decode s i = if mo s (i + 1) (if bt s i = 224 then 160 else 128) (if bt s i = 237 then 159 else 191) < 0 ∨ mo s (i + 2) 128 191 < 0 then (65533, 1)
      else ((((bt s i : Int) - 224) * 4096 + mo s (i + 1) (if bt s i = 224 then 160 else 128) (if bt s i = 237 then 159 else 191) * 64 + mo s (i + 2) 128 191).toNat, 3) := by
  rw [Lib.decode_at]
  show Lib.decodeN _ (bt s i) (bt s (i + 1)) (bt s (i + 2)) (bt s (i + 3)) = _
  unfold mo Lib.decodeN
  have g1 := bt_lt s (i + 1)
  have g2 := bt_lt s (i + 2)
  generalize bt s i = b0 at *
  generalize bt s (i + 1) = b1 at *
  generalize bt s (i + 2) = b2 at *
  rw [if_neg (by omega), if_neg (by omega)]
  by_cases hc : b0 / 16 = 14 ∧ (1 < s.size - i ∧ b1 / 64 = 2) ∧ (2 < s.size - i ∧ b2 / 64 = 2)
  · rw [if_pos hc]
    by_cases e0 : b0 = 224
    · subst e0
      simp only [if_true, show ¬ (224 = 237) by decide, if_false]
      (repeat' split) <;> first | rfl | (exfalso; omega) | (simp only [Prod.mk.injEq, and_true]; omega)
    · by_cases e1 : b0 = 237
      · subst e1
        simp only [if_true, show ¬ (237 = 224) by decide, if_false]
        (repeat' split) <;> first | rfl | (exfalso; omega) | (simp only [Prod.mk.injEq, and_true]; omega)
      · simp only [e0, e1, if_false]
        (repeat' split) <;> first | rfl | (exfalso; omega) | (simp only [Prod.mk.injEq, and_true]; omega)
  · rw [if_neg hc, if_neg (by omega)]
    (repeat' split) <;> first | rfl | (exfalso; omega)
theorem dec_four (s : ByteArray) (i : Nat) (hi : i < s.size) (h : 240 ≤ bt s i ∧ bt s i ≤ 244) :
    Utf8.decode s i = if mo s (i + 1) (if bt s i = 240 then 144 else 128) (if bt s i = 244 then 143 else 191) < 0 ∨ mo s (i + 2) 128 191 < 0 ∨ mo s (i + 3) 128 191 < 0 then (65533, 1)
      else ((((bt s i : Int) - 240) * 262144 + mo s (i + 1) (if bt s i = 240 then 144 else 128) (if bt s i = 244 then 143 else 191) * 4096 + mo s (i + 2) 128 191 * 64 + mo s (i + 3) 128 191).toNat, 4) := by
  rw [Lib.decode_at]
  show Lib.decodeN _ (bt s i) (bt s (i + 1)) (bt s (i + 2)) (bt s (i + 3)) = _
  unfold mo Lib.decodeN
  have g1 := bt_lt s (i + 1)
  have g2 := bt_lt s (i + 2)
  have g3 := bt_lt s (i + 3)
  generalize bt s i = b0 at *
  generalize bt s (i + 1) = b1 at *
  generalize bt s (i + 2) = b2 at *
  generalize bt s (i + 3) = b3 at *
  rw [if_neg (by omega), if_neg (by omega), if_neg (by omega)]
  by_cases hc : b0 / 8 = 30 ∧ (1 < s.size - i ∧ b1 / 64 = 2) ∧ (2 < s.size - i ∧ b2 / 64 = 2) ∧ (3 < s.size - i ∧ b3 / 64 = 2)
  · rw [if_pos hc]
    by_cases e0 : b0 = 240
    · subst e0
      simp only [if_true, show ¬ (240 = 244) by decide, if_false]
      (repeat' split) <;> first | rfl | (exfalso; omega) | (simp only [Prod.mk.injEq, and_true]; omega)
    · by_cases e1 : b0 = 244
      · subst e1
        simp only [if_true, show ¬ (244 = 240) by decide, if_false]
        (repeat' split) <;> first | rfl | (exfalso; omega) | (simp only [Prod.mk.injEq, and_true]; omega)
      · simp only [e0, e1, if_false]
        (repeat' split) <;> first | rfl | (exfalso; omega) | (simp only [Prod.mk.injEq, and_true]; omega)
  · rw [if_neg hc]
    (repeat' split) <;> first | rfl | (exfalso; omega)
theorem dec_two (s : ByteArray) (i : Nat) (hi : i < s.size) (h : 194 ≤ bt s i ∧ bt s i ≤ 223) :
    Utf8.decode s i = if mo s (i + 1) 128 191 < 0 then (65533, 1) else ((((bt s i : Int) - 192) * 64 + mo s (i + 1) 128 191).toNat, 2) := by
  rw [Lib.decode_at]
  show Lib.decodeN _ (bt s i) (bt s (i + 1)) (bt s (i + 2)) (bt s (i + 3)) = _
  unfold mo Lib.decodeN
  have g1 := bt_lt s (i + 1)
  generalize bt s i = b0 at *
  generalize bt s (i + 1) = b1 at *
  rw [if_neg (by omega)]
  by_cases hc : b0 / 32 = 6 ∧ (1 < s.size - i ∧ b1 / 64 = 2)
  · rw [if_pos hc]
    (repeat' split) <;> first | rfl | (exfalso; omega) | (simp only [Prod.mk.injEq, and_true]; omega)
  · rw [if_neg hc, if_neg (by omega), if_neg (by omega)]
    (repeat' split) <;> first | rfl | (exfalso; omega)
end Go.Pub
namespace Go.Proofs.YtcjkgmfidkgamaaGreatDoor
open Go.RowKit Go.Pub
set_option maxRecDepth 100000 in
set_option maxHeartbeats 1000000 in
theorem more_any (s : ByteArray) (k lo hi : Nat) (w : World) (hs : s.size ≤ 9223372036854775807) (hlo : lo ≤ 255) (hhi : hi ≤ 255) :
    Calls Tryz.prog 58 #[.string s, .int .i64 k, .int .i64 lo, .int .i64 hi] w fun e w' => e = .returned (.int .i64 (mo s k lo hi)) ∧ w = w' := by
  by_cases hk : k < s.size
  · have hb := bt_lt s k
    have hlt : ((s[k].toNat : Nat) : Int) < 256 := by rw [get_bt s k hk]; omega
    have hbt := Lib.hid (get_bt s k hk)
    have HM : Hid (mo s k lo hi = if lo ≤ bt s k ∧ bt s k ≤ hi then (bt s k : Int) - 128 else -1) := Lib.hid (by unfold mo; simp [hk])
    generalize mo s k lo hi = m at *
    by_cases h1 : lo ≤ bt s k
    · have h1' : lo ≤ s[k].toNat := by rw [get_bt s k hk]; exact h1
      have d1 : decide (s[k].toNat < lo) = false := by simp; omega
      by_cases h2 : bt s k ≤ hi
      · have h2' : s[k].toNat ≤ hi := by rw [get_bt s k hk]; exact h2
        have d2 : decide (hi < s[k].toNat) = false := by simp; omega
        go_enter Tryz.func58, Tryz.ntmps58
        go_wp2
        go_ret
        exact ⟨ret_int (by rw [HM.out, if_pos ⟨h1, h2⟩, hbt.out]), rfl⟩
      · have h2' : hi < s[k].toNat := by rw [get_bt s k hk]; omega
        have d2 : decide (hi < s[k].toNat) = true := by simp; omega
        go_enter Tryz.func58, Tryz.ntmps58
        go_wp2
        go_ret
        exact ⟨ret_int (by rw [HM.out, if_neg (by omega)]), rfl⟩
    · have h1' : s[k].toNat < lo := by rw [get_bt s k hk]; omega
      have d1 : decide (s[k].toNat < lo) = true := by simp; omega
      go_enter Tryz.func58, Tryz.ntmps58
      go_wp2
      go_ret
      exact ⟨ret_int (by rw [HM.out, if_neg (by omega)]), rfl⟩
  · have hm : mo s k lo hi = -1 := by unfold mo; rw [if_neg (by omega)]
    rw [hm]
    clear hm
    go_enter Tryz.func58, Tryz.ntmps58
    go_wp2
    go_ret
    exact ⟨rfl, rfl⟩

theorem more_at (kI loI hiI : Int) (s : ByteArray) (k lo hi : Nat) (w : World) (hs : s.size ≤ 9223372036854775807) (hlo : lo ≤ 255) (hhi : hi ≤ 255) (ek : kI = k) (el : loI = lo) (eh : hiI = hi) :
    Calls Tryz.prog 58 #[.string s, .int .i64 kI, .int .i64 loI, .int .i64 hiI] w fun e w' => e = .returned (.int .i64 (mo s k lo hi)) ∧ w = w' := by
  subst ek el eh; exact more_any s k lo hi w hs hlo hhi
set_option maxRecDepth 100000 in
set_option maxHeartbeats 2000000 in
theorem three_core (s : ByteArray) (i lo hi : Nat) (w : World) (hs : s.size ≤ 9223372036854775800) (hi' : i < s.size) (h : 224 ≤ bt s i ∧ bt s i ≤ 239) (hlo : lo ≤ 255) (hhi : hi ≤ 255) (hlo' : 128 ≤ lo)
    (z : (lo = 160 ∧ hi = 191 ∧ bt s i = 224) ∨ (lo = 128 ∧ hi = 159 ∧ bt s i = 237) ∨ (lo = 128 ∧ hi = 191 ∧ bt s i ≠ 224 ∧ bt s i ≠ 237)) (D : Nat × Nat)
    (hD : D = if mo s (i + 1) lo hi < 0 ∨ mo s (i + 2) 128 191 < 0 then (65533, 1) else ((((bt s i : Int) - 224) * 4096 + mo s (i + 1) lo hi * 64 + mo s (i + 2) 128 191).toNat, 3)) :
    Calls Tryz.prog 59 #[.string s, .int .i64 i] w (PointBelow D.1 D.2 w) := by
  have m1 := mo_bd s (i + 1) lo hi (by omega)
  have m2 := mo_bd s (i + 2) 128 191 (by omega)
  have HD := Lib.hid hD
  clear hD
  have hlt : ((s[i].toNat : Nat) : Int) ≤ 239 := by rw [get_bt s i hi']; omega
  have hlt0 : 224 ≤ ((s[i].toNat : Nat) : Int) := by rw [get_bt s i hi']; omega
  have hbt := Lib.hid (get_bt s i hi')
  generalize hx : mo s (i + 1) lo hi = x at *
  generalize hy : mo s (i + 2) 128 191 = y at *
  have Hx := Lib.hid hx
  have Hy := Lib.hid hy
  clear hx hy
  have hlt' : bt s i < 256 := bt_lt s i
  have fin : x < 0 ∨ y < 0 ∨ (0 ≤ x ∧ 0 ≤ y) := by omega
  rcases z with ⟨rfl, rfl, e0⟩ | ⟨rfl, rfl, e0⟩ | ⟨rfl, rfl, e0, e1⟩
  all_goals
    first
      | (have z0 : (((s[i].toNat : Nat) : Int) == 224) = true := by rw [get_bt s i hi', e0]; rfl)
      | (have z0 : (((s[i].toNat : Nat) : Int) == 224) = false := by rw [get_bt s i hi']; simp; omega)
    first
      | (have z1 : (((s[i].toNat : Nat) : Int) == 237) = true := by rw [get_bt s i hi', e0]; rfl)
      | (have z1 : (((s[i].toNat : Nat) : Int) == 237) = false := by rw [get_bt s i hi']; simp; omega)
    have E0 := Lib.hid e0
    clear e0
    go_enter Tryz.func59, Tryz.ntmps59
    go_wp2_with fail
    refine (more_at _ _ _ s (i + 1) _ _ _ (by omega) hlo hhi (by omega) rfl rfl).mono ?_
    rw [Hx.out]
    rintro e w' ⟨rfl, rfl⟩
    go_wp2_with fail
    refine (more_at _ _ _ s (i + 2) 128 191 _ (by omega) (by decide) (by decide) (by omega) rfl rfl).mono ?_
    rw [Hy.out]
    rintro e w' ⟨rfl, rfl⟩
    rcases fin with f | f | ⟨f1, f2⟩
    · have hD : D = (65533, 1) := HD.out.trans (if_pos (Or.inl f))
      have HD2 := Lib.hid hD
      clear hD
      go_wp2
      exact bodyPost_ret (v := .agg #[.int .i64 65533, .int .i64 1]) (by simp [results, Tryz.results59, go_sem]) rfl (pb_mk (by rw [HD2.out]; rfl) (by rw [HD2.out]; rfl) ((Below.refl _ _).alloc (Nat.le_refl _) _))
    · have hD : D = (65533, 1) := HD.out.trans (if_pos (Or.inr f))
      have HD2 := Lib.hid hD
      clear hD
      by_cases f0 : x < 0
      all_goals
        go_wp2
        exact bodyPost_ret (v := .agg #[.int .i64 65533, .int .i64 1]) (by simp [results, Tryz.results59, go_sem]) rfl (pb_mk (by rw [HD2.out]; rfl) (by rw [HD2.out]; rfl) ((Below.refl _ _).alloc (Nat.le_refl _) _))
    · have hD := HD.out.trans (if_neg (by omega))
      have HD2 := Lib.hid hD
      clear hD
      go_wp2
      exact bodyPost_ret (v := .agg #[.int .i64 ((((s[i].toNat : Nat) : Int) - 224) * 4096 + x * 64 + y), .int .i64 3]) (by simp [results, Tryz.results59, go_sem]) rfl (pb_mk (by rw [HD2.out, hbt.out]; simp only []; omega) (by rw [HD2.out]; rfl) ((Below.refl _ _).alloc (Nat.le_refl _) _))

theorem three_any (s : ByteArray) (i : Nat) (w : World) (hs : s.size ≤ 9223372036854775800) (hi : i < s.size) (h : 224 ≤ bt s i ∧ bt s i ≤ 239) :
    Calls Tryz.prog 59 #[.string s, .int .i64 i] w (PointBelow (Utf8.decode s i).1 (Utf8.decode s i).2 w) :=
  three_core s i (if bt s i = 224 then 160 else 128) (if bt s i = 237 then 159 else 191) w hs hi h (by split <;> omega) (by split <;> omega) (by split <;> omega)
    (by (repeat' split) <;> omega) _ (dec_three s i hi h)
set_option maxRecDepth 100000 in
set_option maxHeartbeats 2000000 in
theorem four_core (s : ByteArray) (i lo hi : Nat) (w : World) (hs : s.size ≤ 9223372036854775800) (hi' : i < s.size) (h : 240 ≤ bt s i ∧ bt s i ≤ 244) (hlo : lo ≤ 255) (hhi : hi ≤ 255) (hlo' : 128 ≤ lo)
    (z : (lo = 144 ∧ hi = 191 ∧ bt s i = 240) ∨ (lo = 128 ∧ hi = 143 ∧ bt s i = 244) ∨ (lo = 128 ∧ hi = 191 ∧ bt s i ≠ 240 ∧ bt s i ≠ 244)) (D : Nat × Nat)
    (hD : D = if mo s (i + 1) lo hi < 0 ∨ mo s (i + 2) 128 191 < 0 ∨ mo s (i + 3) 128 191 < 0 then (65533, 1) else ((((bt s i : Int) - 240) * 262144 + mo s (i + 1) lo hi * 4096 + mo s (i + 2) 128 191 * 64 + mo s (i + 3) 128 191).toNat, 4)) :
    Calls Tryz.prog 60 #[.string s, .int .i64 i] w (PointBelow D.1 D.2 w) := by
  have m1 := mo_bd s (i + 1) lo hi (by omega)
  have m2 := mo_bd s (i + 2) 128 191 (by omega)
  have m3 := mo_bd s (i + 3) 128 191 (by omega)
  have HD := Lib.hid hD
  clear hD
  have hlt : ((s[i].toNat : Nat) : Int) ≤ 244 := by rw [get_bt s i hi']; omega
  have hlt0 : 240 ≤ ((s[i].toNat : Nat) : Int) := by rw [get_bt s i hi']; omega
  have hbt := Lib.hid (get_bt s i hi')
  generalize hx : mo s (i + 1) lo hi = x at *
  generalize hy : mo s (i + 2) 128 191 = y at *
  generalize hv : mo s (i + 3) 128 191 = v at *
  have Hx := Lib.hid hx
  have Hy := Lib.hid hy
  have Hv := Lib.hid hv
  clear hx hy hv
  have hlt' : bt s i < 256 := bt_lt s i
  have fin : x < 0 ∨ (0 ≤ x ∧ y < 0) ∨ (0 ≤ x ∧ 0 ≤ y ∧ v < 0) ∨ (0 ≤ x ∧ 0 ≤ y ∧ 0 ≤ v) := by omega
  rcases z with ⟨rfl, rfl, e0⟩ | ⟨rfl, rfl, e0⟩ | ⟨rfl, rfl, e0, e1⟩
  all_goals
    first
      | (have z0 : (((s[i].toNat : Nat) : Int) == 240) = true := by rw [get_bt s i hi', e0]; rfl)
      | (have z0 : (((s[i].toNat : Nat) : Int) == 240) = false := by rw [get_bt s i hi']; simp; omega)
    first
      | (have z1 : (((s[i].toNat : Nat) : Int) == 244) = true := by rw [get_bt s i hi', e0]; rfl)
      | (have z1 : (((s[i].toNat : Nat) : Int) == 244) = false := by rw [get_bt s i hi']; simp; omega)
    have E0 := Lib.hid e0
    clear e0
    go_enter Tryz.func60, Tryz.ntmps60
    go_wp2_with fail
    refine (more_at _ _ _ s (i + 1) _ _ _ (by omega) hlo hhi (by omega) rfl rfl).mono ?_
    rw [Hx.out]
    rintro e w' ⟨rfl, rfl⟩
    go_wp2_with fail
    refine (more_at _ _ _ s (i + 2) 128 191 _ (by omega) (by decide) (by decide) (by omega) rfl rfl).mono ?_
    rw [Hy.out]
    rintro e w' ⟨rfl, rfl⟩
    go_wp2_with fail
    refine (more_at _ _ _ s (i + 3) 128 191 _ (by omega) (by decide) (by decide) (by omega) rfl rfl).mono ?_
    rw [Hv.out]
    rintro e w' ⟨rfl, rfl⟩
    rcases fin with f | ⟨f1, f⟩ | ⟨f1, f2, f⟩ | ⟨f1, f2, f⟩
    · have hD : D = (65533, 1) := HD.out.trans (if_pos (by omega))
      have HD2 := Lib.hid hD
      clear hD
      go_wp2
      exact bodyPost_ret (v := .agg #[.int .i64 65533, .int .i64 1]) (by simp [results, Tryz.results60, go_sem]) rfl (pb_mk (by rw [HD2.out]; rfl) (by rw [HD2.out]; rfl) ((Below.refl _ _).alloc (Nat.le_refl _) _))
    · have hD : D = (65533, 1) := HD.out.trans (if_pos (by omega))
      have HD2 := Lib.hid hD
      clear hD
      go_wp2
      exact bodyPost_ret (v := .agg #[.int .i64 65533, .int .i64 1]) (by simp [results, Tryz.results60, go_sem]) rfl (pb_mk (by rw [HD2.out]; rfl) (by rw [HD2.out]; rfl) ((Below.refl _ _).alloc (Nat.le_refl _) _))
    · have hD : D = (65533, 1) := HD.out.trans (if_pos (by omega))
      have HD2 := Lib.hid hD
      clear hD
      go_wp2
      exact bodyPost_ret (v := .agg #[.int .i64 65533, .int .i64 1]) (by simp [results, Tryz.results60, go_sem]) rfl (pb_mk (by rw [HD2.out]; rfl) (by rw [HD2.out]; rfl) ((Below.refl _ _).alloc (Nat.le_refl _) _))
    · have hD := HD.out.trans (if_neg (by omega))
      have HD2 := Lib.hid hD
      clear hD
      go_wp2
      exact bodyPost_ret (v := .agg #[.int .i64 ((((s[i].toNat : Nat) : Int) - 240) * 262144 + x * 4096 + y * 64 + v), .int .i64 4]) (by simp [results, Tryz.results60, go_sem]) rfl (pb_mk (by rw [HD2.out, hbt.out]; simp only []; omega) (by rw [HD2.out]; rfl) ((Below.refl _ _).alloc (Nat.le_refl _) _))

theorem four_any (s : ByteArray) (i : Nat) (w : World) (hs : s.size ≤ 9223372036854775800) (hi : i < s.size) (h : 240 ≤ bt s i ∧ bt s i ≤ 244) :
    Calls Tryz.prog 60 #[.string s, .int .i64 i] w (PointBelow (Utf8.decode s i).1 (Utf8.decode s i).2 w) :=
  four_core s i (if bt s i = 240 then 144 else 128) (if bt s i = 244 then 143 else 191) w hs hi h (by split <;> omega) (by split <;> omega) (by split <;> omega)
    (by (repeat' split) <;> omega) _ (dec_four s i hi h)
end Go.Proofs.YtcjkgmfidkgamaaGreatDoor
namespace Go.Proofs.YtcjkgmfidkgamaaGreatDoor
open Go.RowKit Go.Pub
theorem dec_rest (s : ByteArray) (i : Nat) (h : ¬ bt s i < 128) (h2 : ¬ (194 ≤ bt s i ∧ bt s i ≤ 223)) (h3 : ¬ (224 ≤ bt s i ∧ bt s i ≤ 239)) (h4 : ¬ (240 ≤ bt s i ∧ bt s i ≤ 244)) : Utf8.decode s i = (65533, 1) :=
  dec_bad_width s i (by unfold wd; rw [if_neg h, if_neg h2, if_neg h3, if_neg h4])
set_option maxRecDepth 100000 in
set_option maxHeartbeats 4000000 in
theorem at_any (s : ByteArray) (i : Nat) (w : World) (hs : s.size ≤ 9223372036854775800) (hi : i < s.size) :
    Calls Tryz.prog 32 #[.string s, .int .i64 i] w (PointBelow (Utf8.decode s i).1 (Utf8.decode s i).2 w) := by
  have hbt := Lib.hid (get_bt s i hi)
  have hlt : ((s[i].toNat : Nat) : Int) < 256 := by rw [get_bt s i hi]; have := bt_lt s i; omega
  by_cases c1 : bt s i < 128
  · have hD := Lib.hid (dec_one s i c1)
    generalize Utf8.decode s i = D at *
    have q : ((s[i].toNat : Nat) : Int) < 128 := by rw [get_bt s i hi]; omega
    go_enter Tryz.func32, Tryz.ntmps32
    go_wp2
    exact bodyPost_ret (v := .agg #[.int .i64 ((s[i].toNat : Nat) : Int), .int .i64 1]) (by simp [results, Tryz.results32, go_sem]) rfl (pb_mk (by rw [hD.out, hbt.out]) (by rw [hD.out]; rfl) ((Below.refl _ _).alloc (Nat.le_refl _) _))
  have q : 128 ≤ ((s[i].toNat : Nat) : Int) := by rw [get_bt s i hi]; omega
  by_cases c2 : 194 ≤ bt s i ∧ bt s i ≤ 223
  · have hD := Lib.hid (dec_two s i hi c2)
    have m1 := mo_bd s (i + 1) 128 191 (by omega)
    generalize Utf8.decode s i = D at *
    generalize hx : mo s (i + 1) 128 191 = x at *
    have Hx := Lib.hid hx
    clear hx
    have q2 : 194 ≤ ((s[i].toNat : Nat) : Int) := by rw [get_bt s i hi]; omega
    have q3 : ((s[i].toNat : Nat) : Int) ≤ 223 := by rw [get_bt s i hi]; omega
    clear c1
    by_cases hx0 : x < 0
    · have hD2 := Lib.hid (hD.out.trans (if_pos hx0))
      go_enter Tryz.func32, Tryz.ntmps32
      go_wp2_with fail
      refine (more_at _ _ _ s (i + 1) 128 191 _ (by omega) (by decide) (by decide) (by omega) rfl rfl).mono ?_
      rw [Hx.out]
      rintro e w' ⟨rfl, rfl⟩
      go_wp2
      exact bodyPost_ret (v := .agg #[.int .i64 65533, .int .i64 1]) (by simp [results, Tryz.results32, go_sem]) rfl (pb_mk (by rw [hD2.out]; rfl) (by rw [hD2.out]; rfl) ((Below.refl _ _).alloc (Nat.le_refl _) _))
    · have hD2 := Lib.hid (hD.out.trans (if_neg hx0))
      go_enter Tryz.func32, Tryz.ntmps32
      go_wp2_with fail
      refine (more_at _ _ _ s (i + 1) 128 191 _ (by omega) (by decide) (by decide) (by omega) rfl rfl).mono ?_
      rw [Hx.out]
      rintro e w' ⟨rfl, rfl⟩
      go_wp2
      exact bodyPost_ret (v := .agg #[.int .i64 ((((s[i].toNat : Nat) : Int) - 192) * 64 + x), .int .i64 2]) (by simp [results, Tryz.results32, go_sem]) rfl (pb_mk (by rw [hD2.out, hbt.out]; simp only []; omega) (by rw [hD2.out]; rfl) ((Below.refl _ _).alloc (Nat.le_refl _) _))
  by_cases c3 : 224 ≤ bt s i ∧ bt s i ≤ 239
  · have q2 : 224 ≤ ((s[i].toNat : Nat) : Int) := by rw [get_bt s i hi]; omega
    have q3 : ((s[i].toNat : Nat) : Int) ≤ 239 := by rw [get_bt s i hi]; omega
    have h3 := fun w => three_any s i w hs hi c3
    have H3 := Lib.hid h3
    clear h3 c1 c2
    generalize Utf8.decode s i = D at *
    go_enter Tryz.func32, Tryz.ntmps32
    go_wp2_with fail
    refine (H3.out _).mono ?_
    rintro e w1 ⟨rfl, hb1⟩
    have hz := hb1.size
    have hc0 : w1.cell? ⟨w.heap.size, 0, none⟩ = some (.int .i64 0) := by rw [hb1.cell (p := ⟨w.heap.size, 0, none⟩) (by simp)]; simp
    have hc1 : w1.cell? ⟨w.heap.size, 1, none⟩ = some (.int .i64 0) := by rw [hb1.cell (p := ⟨w.heap.size, 1, none⟩) (by simp)]; simp
    have hf0 : w1.frozen? ⟨w.heap.size, 0, none⟩ = false := by rw [hb1.frozen (p := ⟨w.heap.size, 0, none⟩) (by simp)]; simp
    have hf1 : w1.frozen? ⟨w.heap.size, 1, none⟩ = false := by rw [hb1.frozen (p := ⟨w.heap.size, 1, none⟩) (by simp)]; simp
    have hbw : Below w.heap.size w w1 := ((Below.refl _ w).alloc (Nat.le_refl _) _).trans (hb1.mono (by simp))
    go_wp2
    exact bodyPost_ret (v := .agg #[.int .i64 D.1, .int .i64 D.2]) (by simp [results, Tryz.results32, go_sem, hc0, hc1]) rfl (pb_mk rfl rfl ((hbw.setCell (by simp) _).setCell (by simp) _))
  by_cases c4 : 240 ≤ bt s i ∧ bt s i ≤ 244
  · have q2 : 240 ≤ ((s[i].toNat : Nat) : Int) := by rw [get_bt s i hi]; omega
    have q3 : ((s[i].toNat : Nat) : Int) ≤ 244 := by rw [get_bt s i hi]; omega
    have h3 := fun w => four_any s i w hs hi c4
    have H3 := Lib.hid h3
    clear h3 c1 c2 c3
    generalize Utf8.decode s i = D at *
    go_enter Tryz.func32, Tryz.ntmps32
    go_wp2_with fail
    refine (H3.out _).mono ?_
    rintro e w1 ⟨rfl, hb1⟩
    have hz := hb1.size
    have hc0 : w1.cell? ⟨w.heap.size, 0, none⟩ = some (.int .i64 0) := by rw [hb1.cell (p := ⟨w.heap.size, 0, none⟩) (by simp)]; simp
    have hc1 : w1.cell? ⟨w.heap.size, 1, none⟩ = some (.int .i64 0) := by rw [hb1.cell (p := ⟨w.heap.size, 1, none⟩) (by simp)]; simp
    have hf0 : w1.frozen? ⟨w.heap.size, 0, none⟩ = false := by rw [hb1.frozen (p := ⟨w.heap.size, 0, none⟩) (by simp)]; simp
    have hf1 : w1.frozen? ⟨w.heap.size, 1, none⟩ = false := by rw [hb1.frozen (p := ⟨w.heap.size, 1, none⟩) (by simp)]; simp
    have hbw : Below w.heap.size w w1 := ((Below.refl _ w).alloc (Nat.le_refl _) _).trans (hb1.mono (by simp))
    go_wp2
    exact bodyPost_ret (v := .agg #[.int .i64 D.1, .int .i64 D.2]) (by simp [results, Tryz.results32, go_sem, hc0, hc1]) rfl (pb_mk rfl rfl ((hbw.setCell (by simp) _).setCell (by simp) _))
  have hD := Lib.hid (dec_rest s i c1 c2 c3 c4)
  generalize Utf8.decode s i = D at *
  have c5 : bt s i < 194 ∨ 244 < bt s i := by omega
  clear c2 c3 c4 c1
  rcases c5 with c5 | c5
  · have q2 : ((s[i].toNat : Nat) : Int) < 194 := by rw [get_bt s i hi]; omega
    go_enter Tryz.func32, Tryz.ntmps32
    go_wp2
    exact bodyPost_ret (v := .agg #[.int .i64 65533, .int .i64 1]) (by simp [results, Tryz.results32, go_sem]) rfl (pb_mk (by rw [hD.out]; rfl) (by rw [hD.out]; rfl) ((Below.refl _ _).alloc (Nat.le_refl _) _))
  · have q2 : 244 < ((s[i].toNat : Nat) : Int) := by rw [get_bt s i hi]; omega
    go_enter Tryz.func32, Tryz.ntmps32
    go_wp2
    exact bodyPost_ret (v := .agg #[.int .i64 65533, .int .i64 1]) (by simp [results, Tryz.results32, go_sem]) rfl (pb_mk (by rw [hD.out]; rfl) (by rw [hD.out]; rfl) ((Below.refl _ _).alloc (Nat.le_refl _) _))

end Go.Proofs.YtcjkgmfidkgamaaGreatDoor
namespace Go.Pub
open Go.RowKit
def SliceOwn (e : TypeId) (size n : Nat) (xs : List Value) (w : World) (en : Ending) (w' : World) : Prop := ∃ v, en = .returned v ∧ w'.ownsRow w.heap.size e size v n xs ∧ Below w.heap.size w w'
end Go.Pub
namespace Go.Proofs.YtcjkgmfidkgamaaGreatDoor
open Go.RowKit Go.Pub
theorem ptInfo : (Tryz.prog.info? 61).map (fun i => (i.zero, i.size, i.bytes)) = some (some (.agg #[.int .i64 0, .int .i64 0]), 2, 16) := by kernel_rfl
set_option maxRecDepth 100000 in
set_option maxHeartbeats 4000000 in
theorem points_any (s : ByteArray) (w : World) (hs : s.size ≤ 1000000) : Calls Tryz.prog 29 #[.string s] w (SliceOwn 61 2 (pts s).length (ptCells (pts s)) w) := by
  obtain ⟨i0, hi0, hz0, hz1, hz2⟩ := info_parts ptInfo
  go_enter Tryz.func29, Tryz.ntmps29
  go_wp2
  go_loopw [3, 4] (fun v i wr => ∃ (pos f : Nat) (acc : List (Nat × Nat)), i = .int .i64 pos ∧ wr.ownsRow w.heap.size 61 2 v acc.length (ptCells acc) ∧ Below w.heap.size w wr ∧ acc ++ ptsFrom s f pos = pts s ∧ s.size ≤ pos + f ∧ pos ≤ s.size ∧ acc.length ≤ pos) (fun _ i _ => s.size - (intOf i).toNat)
  case atStart => exact ⟨0, s.size, [], rfl, World.ownsRow_nil _ _ _ _, Below.refl _ w, rfl, by omega, by omega, by simp⟩
  case round =>
    obtain ⟨pos, f, acc, rfl, hown, hbw, hacc, hf, hal, hacl⟩ := hrel
    have Hacc := Lib.hid hacc
    clear hacc
    by_cases hp : pos < s.size
    · have hd := dec_bd s pos hp
      have HN : Hid (∀ W, Calls Tryz.prog 32 #[.string s, .int .i64 pos] W (PointBelow (Utf8.decode s pos).1 (Utf8.decode s pos).2 W)) := Lib.hid fun W => at_any s pos W (by omega) hp
      have hall : Hid ((acc ++ [Utf8.decode s pos]) ++ ptsFrom s (f - 1) (pos + (Utf8.decode s pos).2) = pts s) := Lib.hid (by rw [← Hacc.out, ptsFrom_step s f pos hp hf]; simp)
      generalize Utf8.decode s pos = D at *
      go_wp2_with fail
      refine (HN.out _).mono ?_
      rintro e w1 ⟨rfl, hb1⟩
      have hbw1 : Below w.heap.size w w1 := hbw.trans (hb1.mono hbw.size)
      have hz := hb1.size
      have hzw := hbw.size
      have hown1 := own_below hown hb1
      go_wp2_with (at_builtin; refine wpList_append_own _ rfl _ _ 58 rfl w.heap.size 61 i0 _ 2 16 Tryz.underlying58 hi0 hz0 hz1 hz2 rfl (by decide) _ _ _ rfl ((hown1.alloc _).alloc _) ⟨w1.heap.size + 1, 0, none⟩ 1 1 [.int .i64 D.1, .int .i64 D.2] rfl rfl ?c1 ?c2 ?c3 ?c4 ?c5 ?_)
      case c1 =>
        intro j u hj
        match j, hj with
        | 0, hj => simp at hj; subst hj; simp [Addr.add]
        | 1, hj => simp at hj; subst hj; simp [Addr.add]
      case c2 => intro u hu; simp at hu; rcases hu with rfl | rfl <;> rfl
      case c3 => unfold maxLen; omega
      case c4 => omega
      case c5 => simp; omega
      intro v' w2 hown2 hgrow _
      have hnx : Below w.heap.size w w2 := ((hbw1.alloc (by omega) _).alloc (by simp; omega) _).grown hgrow (by simp; omega) (fun k hk => (hown1.lt k hk).1)
      have hc : w2.cell? ⟨w1.heap.size, 1, none⟩ = some (.int .i64 D.2) := by
        refine hgrow.cell ?_ ?_
        · simp
        · intro e
          have := (hown1.lt _ e.symm).2
          simp at this
      go_wp2
      go_roundw
      case rel =>
        refine ⟨pos + D.2, f - 1, acc ++ [D], by go_num, ?_, hnx, hall.out, by omega, by omega, by simp; omega⟩
        rw [ptCells_append, List.length_append]
        exact hown2
      case measure => simp [intOf]; omega
    · go_wp2
      go_ret
      rw [ptsFrom_end s f pos hp, List.append_nil] at Hacc
      exact ⟨_, rfl, by rw [← Hacc.out]; exact hown, hbw⟩

end Go.Proofs.YtcjkgmfidkgamaaGreatDoor
namespace Go.Pub
theorem add_plain (g k : Nat) : (⟨g, 0, none⟩ : Addr).add k = ⟨g, k, none⟩ := by unfold Addr.add; split <;> simp_all
end Go.Pub
namespace Go.Proofs.YtcjkgmfidkgamaaGreatDoor
open Go.RowKit Go.Pub
set_option maxRecDepth 100000 in
set_option maxHeartbeats 400000 in
theorem rclean_any (c : Int) (w : World) : Calls Tryz.prog 30 #[.int .i64 c] w fun e w' => e = .returned (.bool (!uncleanB c)) ∧ w = w' := by
  have H : Hid ((!uncleanB c) = !((decide (c < 32) && c != 10) || c == 127)) := Lib.hid rfl
  generalize (!uncleanB c) = b at *
  by_cases h2 : c = 10
  · subst h2
    go_enter Tryz.func30, Tryz.ntmps30
    go_wp2
    go_ret
    exact ⟨ret_bool (by rw [H.out]; rfl), rfl⟩
  · have h3 : (c == 10) = false := by simpa using h2
    clear h2
    by_cases h : 32 ≤ c
    · go_enter Tryz.func30, Tryz.ntmps30
      go_wp2
      go_ret
      exact ⟨ret_bool (by rw [H.out]; simp [show ¬ c < 32 by omega]; rfl), rfl⟩
    · go_enter Tryz.func30, Tryz.ntmps30
      go_wp2
      go_ret
      exact ⟨ret_bool (by rw [H.out]; simp at h3; simp; omega), rfl⟩

set_option maxRecDepth 100000 in
set_option maxHeartbeats 4000000 in
theorem rValid_any (s : ByteArray) (w : World) (hs : s.size ≤ 1000000) : Calls Tryz.prog 13 #[.string s] w fun e w' => e = .returned (.bool (validB s)) ∧ Below w.heap.size w w' := by
  have HV : Hid (validB s = (pts s).all okPt) := Lib.hid rfl
  have HP := Lib.hid (points_any s)
  have hlen := pts_length s
  generalize validB s = V at *
  generalize pts s = l at *
  go_enter Tryz.func13, Tryz.ntmps13
  go_wp2_with fail
  refine (HP.out _ hs).mono ?_
  rintro e w1 ⟨v, rfl, hown, hb1⟩
  obtain ⟨A, cp, rfl⟩ := own_slice hown
  have hrd := Reads.of_own hown
  go_wp2
  go_loopw [8] (fun i wr => ∃ k : Nat, i = .int .i64 k ∧ k ≤ l.length ∧ Below w1.heap.size w1 wr ∧ (l.take k).all okPt = true) (fun i _ => l.length - (intOf i).toNat)
  case atStart => exact ⟨0, rfl, by omega, Below.refl _ w1, rfl⟩
  case round =>
    obtain ⟨k, rfl, hk, hb, hok⟩ := hrel
    have Hok := Lib.hid hok
    clear hok
    by_cases hlt : k < l.length
    · obtain ⟨ad, rfl, hadb, hcell⟩ := hrd.2 (by omega)
      obtain ⟨g, hg⟩ : ∃ g, ad = ⟨g, 0, none⟩ := by
        obtain ⟨g, cap, hv, _⟩ := hown.form (by omega)
        injection hv with h1 h2 h3
        injection h1 with h1
        exact ⟨g, h1⟩
      subst hg
      have hp := ptCells_at l k l[k] (List.getElem?_eq_getElem hlt)
      have hc0 : wr.cell? ⟨g, k * 2, none⟩ = some (.int .i64 l[k].1) := (hb.cell (p := ⟨g, k * 2, none⟩) hadb).trans (by rw [← add_plain]; exact hcell _ _ hp.1)
      have hc1 : wr.cell? ⟨g, k * 2 + 1, none⟩ = some (.int .i64 l[k].2) := (hb.cell (p := ⟨g, k * 2 + 1, none⟩) hadb).trans (by rw [← add_plain]; exact hcell _ _ hp.2)
      have hz := hb.size
      have hVf : Hid (okPt l[k] = false → V = false) := Lib.hid fun h => by
        rw [HV.out, ← List.take_append_drop k l, List.drop_eq_getElem_cons hlt, List.all_append, List.all_cons, h]; simp
      have hVt : Hid (okPt l[k] = true → (l.take (k + 1)).all okPt = true) := Lib.hid fun h => by
        rw [List.take_succ_eq_append_getElem hlt, List.all_append, Hok.out]; simp [h]
      have hokp : Hid (okPt l[k] = (!(l[k].1 == 65533 && l[k].2 == 1) && !uncleanB l[k].1)) := Lib.hid rfl
      clear hp hcell
      generalize l[k] = D at *
      by_cases c3 : uncleanB D.1 = true
      · have Hv : Hid (V = false) := Lib.hid (hVf.out (by rw [hokp.out, c3]; simp))
        go_wp2_with (go_at_call 30; refine (rclean_any _ _).mono ?_; rw [c3]; rintro e w' ⟨rfl, rfl⟩)
        go_ret
        exact ⟨ret_bool Hv.out.symm, (hb1.trans (hb.mono hb1.size)).alloc (Nat.le_trans hb1.size hz) _⟩
      · rw [Bool.not_eq_true] at c3
        by_cases c1 : ((D.1 : Int) == 65533) = true
        · by_cases c2 : ((D.2 : Int) == 1) = true
          · have Hv : Hid (V = false) := Lib.hid (hVf.out (by rw [hokp.out, c3]; simp at c1 c2; simp; omega))
            go_wp2_with (go_at_call 30; refine (rclean_any _ _).mono ?_; rw [c3]; rintro e w' ⟨rfl, rfl⟩)
            go_ret
            exact ⟨ret_bool Hv.out.symm, (hb1.trans (hb.mono hb1.size)).alloc (Nat.le_trans hb1.size hz) _⟩
          · rw [Bool.not_eq_true] at c2
            have Hv := Lib.hid (hVt.out (by rw [hokp.out, c3]; simp at c1 c2; simp; omega))
            go_wp2_with (go_at_call 30; refine (rclean_any _ _).mono ?_; rw [c3]; rintro e w' ⟨rfl, rfl⟩)
            go_roundw
            case rel => exact ⟨k + 1, by go_num, by omega, hb.alloc hz _, Hv.out⟩
            case measure => simp [intOf]; omega
        · rw [Bool.not_eq_true] at c1
          have Hv := Lib.hid (hVt.out (by rw [hokp.out, c3]; simp at c1; simp; omega))
          go_wp2_with (go_at_call 30; refine (rclean_any _ _).mono ?_; rw [c3]; rintro e w' ⟨rfl, rfl⟩)
          go_roundw
          case rel => exact ⟨k + 1, by go_num, by omega, hb.alloc hz _, Hv.out⟩
          case measure => simp [intOf]; omega
    · obtain rfl : k = l.length := by omega
      have Hv : Hid (V = true) := Lib.hid (by rw [HV.out]; have := Hok.out; rwa [List.take_length] at this)
      go_wp2
      go_ret
      exact ⟨ret_bool Hv.out.symm, hb1.trans (hb.mono hb1.size)⟩

end Go.Proofs.YtcjkgmfidkgamaaGreatDoor
namespace Go.Pub
open Go.RowKit
def strs (l : List ByteArray) : List Value := l.map Value.string
theorem strs_at (l : List ByteArray) (k : Nat) (h : k < l.length) : (strs l)[k]? = some (.string l[k]) := by
  unfold strs; rw [List.getElem?_map, List.getElem?_eq_getElem h]; rfl
theorem Reads.row {w : World} {B size n : Nat} {A : Option Addr} {xs : List Value} (h : Reads w B size A n xs) (hn : 0 < n) (hs : 0 < size) : ∃ b off, A = some ⟨b, off, none⟩ ∧ b < B ∧ ∀ j u, xs[j]? = some u → w.cell? ⟨b, off + j, none⟩ = some u := by
  obtain ⟨ad, e, hb, hc⟩ := h.2 hn
  obtain ⟨b, off, sp⟩ := ad
  have hl : 0 < xs.length := by rw [h.1]; exact Nat.mul_pos hn hs
  have h0 := hc 0 _ (List.getElem?_eq_getElem hl)
  obtain rfl : sp = none := by simpa [Addr.add] using World.cell?_spot h0
  refine ⟨b, off, e, hb, fun j u hu => ?_⟩
  have := hc j u hu
  unfold Addr.add at this
  by_cases hj : j = 0
  · subst hj; simpa using this
  · simpa [hj] using this
end Go.Pub
namespace Go.Pub
structure AttrL where
  id : ByteArray
  cl : List ByteArray
  pr : List (ByteArray × ByteArray)
def prs (l : List (ByteArray × ByteArray)) : List Value := l.flatMap fun p => [.string p.1, .string p.2]
end Go.Pub
namespace Go.Proofs.YtcjkgmfidkgamaaGreatDoor
open Go.RowKit Go.Pub
end Go.Proofs.YtcjkgmfidkgamaaGreatDoor
namespace Go.Pub
open Go.RowKit
def Blk (w : World) (g : Nat) (t : TypeId) (cs : Array Value) : Prop := w.heap[g]? = some (.cells cs t (0, 0))
section
variable {w w' : World} {g : Nat} {t : TypeId} {cs : Array Value}
theorem Blk.lt (h : Blk w g t cs) : g < w.heap.size := by
  rcases Nat.lt_or_ge g w.heap.size with hlt | hge
  · exact hlt
  · unfold Blk at h; rw [Array.getElem?_eq_none hge] at h; cases h
theorem Blk.cell (h : Blk w g t cs) (i : Nat) : w.cell? ⟨g, i, none⟩ = cs[i]? := cell_of_row w g i cs t (0, 0) h
theorem Blk.frozen (h : Blk w g t cs) (i : Nat) : w.frozen? ⟨g, i, none⟩ = false := by
  unfold Blk at h
  simp [World.frozen?, h]
theorem Blk.new (w : World) (t : TypeId) (cs : Array Value) : Blk (w.alloc (.cells cs t)) w.heap.size t cs := heap_alloc_new w _
theorem Blk.drewN (h : Blk w g t cs) (n : Nat) : Blk (w.drewN n) g t cs := h
theorem Blk.alloc (h : Blk w g t cs) (o : Obj) : Blk (w.alloc o) g t cs := (Below.heap_alloc w o g h.lt).trans h
theorem Blk.set_ (h : Blk w g t cs) (i : Nat) (u : Value) : Blk (w.setCell ⟨g, i, none⟩ u) g t (cs.setIfInBounds i u) := by
  unfold Blk at h ⊢
  simp [World.setCell, Array.getElem?_modify, h]
theorem Blk.far (h : Blk w g t cs) {p : Addr} (hp : g ≠ p.block) (u : Value) : Blk (w.setCell p u) g t cs := (Below.heap_setCell w p u g hp).trans h
theorem Blk.below {B : Nat} (h : Blk w g t cs) (hb : Below B w w') (hg : g < B) : Blk w' g t cs := (hb.block g hg).trans h
theorem Blk.grown {row : Option Nat} (h : Blk w g t cs) (hb : w.grownBy w' row) (hg : some g ≠ row) : Blk w' g t cs := (hb.block g h.lt hg).trans h
end
/-- Below block B all but block g is as it was. -/
structure BelowBut (g B : Nat) (w w' : World) : Prop where
  os : w'.os = w.os
  tape : w'.tape = w.tape
  output : w'.output = w.output
  size : w.heap.size ≤ w'.heap.size
  block : ∀ k, k < B → k ≠ g → w'.heap[k]? = w.heap[k]?
section
variable {g B : Nat} {a b c w w' : World}
theorem BelowBut.of (h : Below B a b) : BelowBut g B a b := ⟨h.os, h.tape, h.output, h.size, fun k hk _ => h.block k hk⟩
theorem BelowBut.refl : BelowBut g B a a := .of (Below.refl _ _)
theorem BelowBut.trans (h : BelowBut g B a b) (k : BelowBut g B b c) : BelowBut g B a c :=
  ⟨k.os.trans h.os, k.tape.trans h.tape, k.output.trans h.output, Nat.le_trans h.size k.size, fun i hi hg => (k.block i hi hg).trans (h.block i hi hg)⟩
theorem BelowBut.below {B' : Nat} (h : BelowBut g B a b) (hB : B' ≤ B) (hg : B' ≤ g) : Below B' a b := ⟨h.os, h.tape, h.output, h.size, fun k hk => h.block k (by omega) (by omega)⟩
theorem BelowBut.blk {g' : Nat} {t : TypeId} {cs : Array Value} (h : BelowBut g B a b) (hk : Blk a g' t cs) (h1 : g' < B) (h2 : g' ≠ g) : Blk b g' t cs := (h.block g' h1 h2).trans hk
end
end Go.Pub
namespace Go.Proofs.YtcjkgmfidkgamaaGreatDoor
open Go.RowKit Go.Pub
structure AttrCells (w : World) (g base : Nat) (a : AttrL) (vC vP : Value) : Prop where
  blk : Blk w g 30 #[.string a.id, vC, vP]
  cls : w.ownsRow base 9 1 vC a.cl.length (strs a.cl)
  prs : w.ownsRow base 112 2 vP a.pr.length (prs a.pr)
  lt : g < base
  le : base ≤ w.heap.size
  c32 : a.cl.length ≤ 32
  p32 : a.pr.length ≤ 32
def AttrAt (w : World) (g base : Nat) (a : AttrL) : Prop := ∃ vC vP, AttrCells w g base a vC vP
theorem AttrCells.below {w w' : World} {g base : Nat} {a : AttrL} {vC vP : Value} (h : AttrCells w g base a vC vP) (hb : Below w.heap.size w w') : AttrCells w' g base a vC vP :=
  ⟨h.blk.below hb (by have := h.lt; have := h.le; omega), own_below h.cls hb, own_below h.prs hb, h.lt, Nat.le_trans h.le hb.size, h.c32, h.p32⟩
theorem str_info : (Tryz.prog.info? 9).map (fun i => (i.zero, i.size, i.bytes)) = some (some (.string ⟨#[]⟩), 1, 16) := by kernel_rfl
end Go.Proofs.YtcjkgmfidkgamaaGreatDoor
namespace Go.Proofs.YtcjkgmfidkgamaaGreatDoor
open Go.RowKit Go.Pub
theorem AttrAt.below {w w' : World} {g base : Nat} {a : AttrL} (h : AttrAt w g base a) (hb : Below w.heap.size w w') : AttrAt w' g base a := by
  obtain ⟨vC, vP, h⟩ := h
  exact ⟨vC, vP, h.below hb⟩
theorem AttrAt.le {w : World} {g base : Nat} {a : AttrL} (h : AttrAt w g base a) : base ≤ w.heap.size := by
  obtain ⟨vC, vP, h⟩ := h
  exact h.le
end Go.Proofs.YtcjkgmfidkgamaaGreatDoor
namespace Go.Pub
open Go.RowKit
def spEnd (s : ByteArray) : Nat → Nat → Nat
  | 0, i => i
  | f + 1, i => if i < s.size ∧ bt s i = 32 then spEnd s f (i + 1) else i
def spAt (s : ByteArray) (i : Nat) : Nat := spEnd s (s.size - i) i
theorem spEnd_step (s : ByteArray) (f i : Nat) (h : i < s.size) (hp : bt s i = 32) (hf : s.size - i ≤ f) : spEnd s f i = spEnd s (f - 1) (i + 1) := by
  obtain ⟨g, rfl⟩ : ∃ g, f = g + 1 := ⟨f - 1, by omega⟩
  simp [spEnd, h, hp]
theorem spEnd_stop (s : ByteArray) (f i : Nat) (h : ¬ (i < s.size ∧ bt s i = 32)) : spEnd s f i = i := by
  cases f with
  | zero => rfl
  | succ f => simp only [spEnd]; rw [if_neg h]
theorem spEnd_bd (s : ByteArray) : ∀ f i, i ≤ spEnd s f i ∧ (i ≤ s.size → spEnd s f i ≤ s.size)
  | 0, i => ⟨Nat.le_refl _, fun h => h⟩
  | f + 1, i => by
    unfold spEnd
    split
    · rename_i h
      have := spEnd_bd s f (i + 1)
      exact ⟨by omega, fun _ => this.2 (by omega)⟩
    · exact ⟨Nat.le_refl _, fun h => h⟩
end Go.Pub
namespace Go.Proofs.YtcjkgmfidkgamaaGreatDoor
open Go.RowKit Go.Pub
end Go.Proofs.YtcjkgmfidkgamaaGreatDoor
namespace Go.Proofs.YtcjkgmfidkgamaaGreatDoor
open Go.RowKit Go.Pub
def emptyA : AttrL := ⟨⟨#[]⟩, [], []⟩
structure AttrVal (w : World) (base : Nat) (v : Value) (a : AttrL) : Prop where
  val : ∃ vC vP, v = .agg #[.string a.id, vC, vP] ∧ w.ownsRow base 9 1 vC a.cl.length (strs a.cl) ∧ w.ownsRow base 112 2 vP a.pr.length (prs a.pr)
  c32 : a.cl.length ≤ 32
  p32 : a.pr.length ≤ 32
end Go.Proofs.YtcjkgmfidkgamaaGreatDoor
namespace Go.Pub
/-- The n bytes from i on of s are those from i' on of s'. -/
def Agr (s : ByteArray) (i : Nat) (s' : ByteArray) (i' n : Nat) : Prop := ∃ p r r', sfx s i = p ++ r ∧ sfx s' i' = p ++ r' ∧ p.length = n
section
variable {s s' : ByteArray} {i i' n : Nat}
theorem sfx_add (s : ByteArray) (i j : Nat) : sfx s (i + j) = (sfx s i).drop j := by unfold sfx; rw [List.drop_drop]
theorem Agr.tail (h : Agr s i s' i' n) {j : Nat} (hj : j ≤ n) : Agr s (i + j) s' (i' + j) (n - j) := by
  obtain ⟨p, r, r', h1, h2, h3⟩ := h
  refine ⟨p.drop j, r, r', ?_, ?_, by rw [List.length_drop]; omega⟩
  · rw [sfx_add, h1, List.drop_append_of_le_length (by omega)]
  · rw [sfx_add, h2, List.drop_append_of_le_length (by omega)]
theorem Agr.at (h : Agr s i s' i' n) {j : Nat} (hj : j < n) : i + j < s.size ∧ i' + j < s'.size ∧ s.get! (i + j) = s'.get! (i' + j) := by
  obtain ⟨p, r, r', h1, h2, h3⟩ := h.tail (Nat.le_of_lt hj)
  cases p with
  | nil => simp at h3; omega
  | cons c p =>
    have l1 : i + j < s.size := by have := congrArg List.length h1; rw [sfx_len, List.length_append, List.length_cons] at this; omega
    have l2 : i' + j < s'.size := by have := congrArg List.length h2; rw [sfx_len, List.length_append, List.length_cons] at this; omega
    rw [sfx_cons s _ l1] at h1
    rw [sfx_cons s' _ l2] at h2
    injection h1 with h1 _
    injection h2 with h2 _
    exact ⟨l1, l2, h1.trans h2.symm⟩
end
theorem wordAt_bd (s : ByteArray) (k : Nat) : k ≤ wordAt s k ∧ (k ≤ s.size → wordAt s k ≤ s.size) := wEnd_bd s _ k
theorem spEnd_spec (s : ByteArray) : ∀ (f k : Nat), s.size ≤ k + f → (∀ j, k ≤ j → j < spEnd s f k → bt s j = 32) ∧ ¬ (spEnd s f k < s.size ∧ bt s (spEnd s f k) = 32)
  | 0, k, h => ⟨fun j h1 h2 => by simp only [spEnd] at h2; omega, fun h2 => by simp only [spEnd] at h2; omega⟩
  | f + 1, k, h => by
    by_cases hk : k < s.size ∧ bt s k = 32
    · have e : spEnd s (f + 1) k = spEnd s f (k + 1) := by simp only [spEnd]; rw [if_pos hk]
      rw [e]
      obtain ⟨h1, h2⟩ := spEnd_spec s f (k + 1) (by omega)
      refine ⟨fun j hj hl => ?_, h2⟩
      by_cases hjk : j = k
      · subst hjk; exact hk.2
      · exact h1 j (by omega) hl
    · have e : spEnd s (f + 1) k = k := spEnd_stop s _ k hk
      rw [e]
      exact ⟨fun j hj hl => by omega, hk⟩
theorem spAt_spec (s : ByteArray) (k : Nat) : (∀ j, k ≤ j → j < spAt s k → bt s j = 32) ∧ ¬ (spAt s k < s.size ∧ bt s (spAt s k) = 32) := by
  unfold spAt
  rcases Nat.lt_or_ge s.size k with h | h
  · have : s.size - k = 0 := by omega
    rw [this]
    exact ⟨fun j h1 h2 => by simp only [spEnd] at h2; omega, fun h2 => by simp only [spEnd] at h2; omega⟩
  · exact spEnd_spec s (s.size - k) k (by omega)
section
variable {s s' : ByteArray} {i i' n : Nat}
end
end Go.Pub
namespace Go.Proofs.YtcjkgmfidkgamaaGreatDoor
open Go.RowKit Go.Pub
section
variable {s s' : ByteArray} {i i' n : Nat}
end
end Go.Proofs.YtcjkgmfidkgamaaGreatDoor
namespace Go.Proofs.YtcjkgmfidkgamaaGreatDoor
open Go.RowKit Go.Pub
/-- Attributes by value, their rows the caller's own. -/
structure OwnA (w : World) (base : Nat) (a : AttrL) (vC vP : Value) : Prop where
  cls : w.ownsRow base 9 1 vC a.cl.length (strs a.cl)
  prs : w.ownsRow base 112 2 vP a.pr.length (prs a.pr)
  le : base ≤ w.heap.size
  c32 : a.cl.length ≤ 32
  p32 : a.pr.length ≤ 32
theorem OwnA.below {w w' : World} {base : Nat} {a : AttrL} {vC vP : Value} (h : OwnA w base a vC vP) (hb : Below w.heap.size w w') : OwnA w' base a vC vP :=
  ⟨own_below h.cls hb, own_below h.prs hb, Nat.le_trans h.le hb.size, h.c32, h.p32⟩
theorem OwnA.val {w : World} {base : Nat} {a : AttrL} {vC vP : Value} (h : OwnA w base a vC vP) : AttrVal w base (.agg #[.string a.id, vC, vP]) a := ⟨⟨vC, vP, rfl, h.cls, h.prs⟩, h.c32, h.p32⟩
theorem OwnA.setCell {w : World} {base : Nat} {a : AttrL} {vC vP : Value} (h : OwnA w base a vC vP) {p : Addr} (h1 : ∀ k, vC.ownBlock = some k → p.block ≠ k) (h2 : ∀ k, vP.ownBlock = some k → p.block ≠ k) (u : Value) : OwnA (w.setCell p u) base a vC vP := by
  have hg : w.grownBy (w.setCell p u) (some p.block) := ⟨rfl, rfl, rfl, by simp [World.setCell], fun k _ hk => Below.heap_setCell _ _ _ _ (fun e => hk (by rw [e]))⟩
  refine ⟨h.cls.kept hg ?_, h.prs.kept hg ?_, by simpa [World.setCell] using h.le, h.c32, h.p32⟩
  · cases hv : vC.ownBlock with
    | none => exact Or.inl rfl
    | some b => right; intro e; injection e with e; exact h1 b hv e.symm
  · cases hv : vP.ownBlock with
    | none => exact Or.inl rfl
    | some b => right; intro e; injection e with e; exact h2 b hv e.symm
end Go.Proofs.YtcjkgmfidkgamaaGreatDoor
namespace Go.Proofs.YtcjkgmfidkgamaaGreatDoor
open Go.RowKit Go.Pub
/-- A mark. -/
structure MkL where
  kind : Nat := 0
  n : Nat := 0
  ch : ByteArray := ⟨#[]⟩
  off : Nat := 0
  info : ByteArray := ⟨#[]⟩
  rest : ByteArray := ⟨#[]⟩
  dest : ByteArray := ⟨#[]⟩
  title : ByteArray := ⟨#[]⟩
  att : AttrL := emptyA
def MkL.cells (m : MkL) (vC vP : Value) : Array Value := #[.int .i64 m.kind, .int .i64 m.n, .string m.ch, .int .i64 m.off, .string m.info, .string m.rest, .string m.dest, .string m.title, .string m.att.id, vC, vP]
end Go.Proofs.YtcjkgmfidkgamaaGreatDoor
