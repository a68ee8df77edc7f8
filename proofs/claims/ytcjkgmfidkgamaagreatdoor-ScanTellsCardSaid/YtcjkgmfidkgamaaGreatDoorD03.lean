/-
  Texts of the proof, put together (what this law reaches): RefA, RefB, MemB, RefC, Strs, AttrC.
-/
import Derived.Test.YtcjkgmfidkgamaaGreatDoorRows
import Derived.Test.YtcjkgmfidkgamaaGreatDoorD01
import Derived.WalkKit
import Derived.WalkSpells
import Derived.WalkLawsBesides
import Derived.Deep.QuietTactic
import Derived.BigQuiet
import Derived.Lib.Hide
import Derived.Laws.BytesArg
import Derived.Lib.UnsafeStr
import Derived.SliceStrings
import Derived.Lib.Builder
import Derived.Lib.FrozenHead
import Derived.Test.YtcjkgmfidkgamaaGreatDoorD02
import Derived.Lib.OthersKept
import Derived.Lib.FrozenHead2
import Derived.Lib.RuneBytes
set_option linter.unusedVariables false
set_option linter.unusedSimpArgs false
namespace Go.Pub
open Go.RowKit
/-- What the reference's more gives. -/
def mo (s : ByteArray) (k lo hi : Nat) : Int := if k < s.size ∧ lo ≤ bt s k ∧ bt s k ≤ hi then (bt s k : Int) - 128 else -1
theorem mo_bd (s : ByteArray) (k lo hi : Nat) (h : 128 ≤ lo) : -1 ≤ mo s k lo hi ∧ mo s k lo hi ≤ 127 := by
  unfold mo
  have := bt_lt s k
  split <;> omega
def PointBelow (c n : Int) (w : World) (e : Ending) (w' : World) : Prop := e = .returned (.agg #[.int .i64 c, .int .i64 n]) ∧ Below w.heap.size w w'
theorem pb_mk {c n : Int} {D : Nat × Nat} {w w' : World} (h1 : c = D.1) (h2 : n = D.2) (hb : Below w.heap.size w w') : PointBelow D.1 D.2 w (.returned (.agg #[.int .i64 c, .int .i64 n])) w' := by
  subst h1 h2; exact ⟨rfl, hb⟩
theorem dec_three (s : ByteArray) (i : Nat) (hi : i < s.size) (h : 224 ≤ bt s i ∧ bt s i ≤ 239) :
    Utf8.decode s i = if mo s (i + 1) (if bt s i = 224 then 160 else 128) (if bt s i = 237 then 159 else 191) < 0 ∨ mo s (i + 2) 128 191 < 0 then (65533, 1)
      else ((((bt s i : Int) - 224) * 4096 + mo s (i + 1) (if bt s i = 224 then 160 else 128) (if bt s i = 237 then 159 else 191) * 64 + mo s (i + 2) 128 191).toNat, 3) := by
  rw [Lib.decode_at]
  show Lib.decodeN _ (bt s i) (bt s (i + 1)) (bt s (i + 2)) (bt s (i + 3)) = _
  unfold mo Lib.decodeN
  have g1 := bt_lt s (i + 1)
  have g2 := bt_lt s (i + 2)
  generalize bt s i = b0 at *
  generalize bt s (i + 1) = b1 at *
  generalize bt s (i + 2) = b2 at *
  rw [if_neg (by omega), if_neg (by omega)]
  by_cases hc : b0 / 16 = 14 ∧ (1 < s.size - i ∧ b1 / 64 = 2) ∧ (2 < s.size - i ∧ b2 / 64 = 2)
  · rw [if_pos hc]
    by_cases e0 : b0 = 224
    · subst e0
      simp only [if_true, show ¬ (224 = 237) by decide, if_false]
      (repeat' split) <;> first | rfl | (exfalso; omega) | (simp only [Prod.mk.injEq, and_true]; omega)
    · by_cases e1 : b0 = 237
      · subst e1
        simp only [if_true, show ¬ (237 = 224) by decide, if_false]
        (repeat' split) <;> first | rfl | (exfalso; omega) | (simp only [Prod.mk.injEq, and_true]; omega)
      · simp only [e0, e1, if_false]
        (repeat' split) <;> first | rfl | (exfalso; omega) | (simp only [Prod.mk.injEq, and_true]; omega)
  · rw [if_neg hc, if_neg (by omega)]
    (repeat' split) <;> first | rfl | (exfalso; omega)
theorem dec_four (s : ByteArray) (i : Nat) (hi : i < s.size) (h : 240 ≤ bt s i ∧ bt s i ≤ 244) :
    Utf8.decode s i = if mo s (i + 1) (if bt s i = 240 then 144 else 128) (if bt s i = 244 then 143 else 191) < 0 ∨ mo s (i + 2) 128 191 < 0 ∨ mo s (i + 3) 128 191 < 0 then (65533, 1)
      else ((((bt s i : Int) - 240) * 262144 + mo s (i + 1) (if bt s i = 240 then 144 else 128) (if bt s i = 244 then 143 else 191) * 4096 + mo s (i + 2) 128 191 * 64 + mo s (i + 3) 128 191).toNat, 4) := by
  rw [Lib.decode_at]
  show Lib.decodeN _ (bt s i) (bt s (i + 1)) (bt s (i + 2)) (bt s (i + 3)) = _
  unfold mo Lib.decodeN
  have g1 := bt_lt s (i + 1)
  have g2 := bt_lt s (i + 2)
  have g3 := bt_lt s (i + 3)
  generalize bt s i = b0 at *
  generalize bt s (i + 1) = b1 at *
  generalize bt s (i + 2) = b2 at *
  generalize bt s (i + 3) = b3 at *
  rw [if_neg (by omega), if_neg (by omega), if_neg (by omega)]
  by_cases hc : b0 / 8 = 30 ∧ (1 < s.size - i ∧ b1 / 64 = 2) ∧ (2 < s.size - i ∧ b2 / 64 = 2) ∧ (3 < s.size - i ∧ b3 / 64 = 2)
  · rw [if_pos hc]
    by_cases e0 : b0 = 240
    · subst e0
      simp only [if_true, show ¬ (240 = 244) by decide, if_false]
      (repeat' split) <;> first | rfl | (exfalso; omega) | (simp only [Prod.mk.injEq, and_true]; omega)
    · by_cases e1 : b0 = 244
      · subst e1
        simp only [if_true, show ¬ (244 = 240) by decide, if_false]
        (repeat' split) <;> first | rfl | (exfalso; omega) | (simp only [Prod.mk.injEq, and_true]; omega)
      · simp only [e0, e1, if_false]
        (repeat' split) <;> first | rfl | (exfalso; omega) | (simp only [Prod.mk.injEq, and_true]; omega)
  · rw [if_neg hc]
    (repeat' split) <;> first | rfl | (exfalso; omega)
theorem dec_two (s : ByteArray) (i : Nat) (hi : i < s.size) (h : 194 ≤ bt s i ∧ bt s i ≤ 223) :
    Utf8.decode s i = if mo s (i + 1) 128 191 < 0 then (65533, 1) else ((((bt s i : Int) - 192) * 64 + mo s (i + 1) 128 191).toNat, 2) := by
  rw [Lib.decode_at]
  show Lib.decodeN _ (bt s i) (bt s (i + 1)) (bt s (i + 2)) (bt s (i + 3)) = _
  unfold mo Lib.decodeN
  have g1 := bt_lt s (i + 1)
  generalize bt s i = b0 at *
  generalize bt s (i + 1) = b1 at *
  rw [if_neg (by omega)]
  by_cases hc : b0 / 32 = 6 ∧ (1 < s.size - i ∧ b1 / 64 = 2)
  · rw [if_pos hc]
    (repeat' split) <;> first | rfl | (exfalso; omega) | (simp only [Prod.mk.injEq, and_true]; omega)
  · rw [if_neg hc, if_neg (by omega), if_neg (by omega)]
    (repeat' split) <;> first | rfl | (exfalso; omega)
end Go.Pub
namespace Go.Proofs.YtcjkgmfidkgamaaGreatDoor
open Go.RowKit Go.Pub
set_option maxRecDepth 100000 in
set_option maxHeartbeats 1000000 in
theorem more_any (s : ByteArray) (k lo hi : Nat) (w : World) (hs : s.size ≤ 9223372036854775807) (hlo : lo ≤ 255) (hhi : hi ≤ 255) :
    Calls Tryz.prog 58 #[.string s, .int .i64 k, .int .i64 lo, .int .i64 hi] w fun e w' => e = .returned (.int .i64 (mo s k lo hi)) ∧ w = w' := by
  by_cases hk : k < s.size
  · have hb := bt_lt s k
    have hlt : ((s[k].toNat : Nat) : Int) < 256 := by rw [get_bt s k hk]; omega
    have hbt := Lib.hid (get_bt s k hk)
    have HM : Hid (mo s k lo hi = if lo ≤ bt s k ∧ bt s k ≤ hi then (bt s k : Int) - 128 else -1) := Lib.hid (by unfold mo; simp [hk])
    generalize mo s k lo hi = m at *
    by_cases h1 : lo ≤ bt s k
    · have h1' : lo ≤ s[k].toNat := by rw [get_bt s k hk]; exact h1
      have d1 : decide (s[k].toNat < lo) = false := by simp; omega
      by_cases h2 : bt s k ≤ hi
      · have h2' : s[k].toNat ≤ hi := by rw [get_bt s k hk]; exact h2
        have d2 : decide (hi < s[k].toNat) = false := by simp; omega
        go_enter Tryz.func58, Tryz.ntmps58
        go_wp2
        go_ret
        exact ⟨ret_int (by rw [HM.out, if_pos ⟨h1, h2⟩, hbt.out]), rfl⟩
      · have h2' : hi < s[k].toNat := by rw [get_bt s k hk]; omega
        have d2 : decide (hi < s[k].toNat) = true := by simp; omega
        go_enter Tryz.func58, Tryz.ntmps58
        go_wp2
        go_ret
        exact ⟨ret_int (by rw [HM.out, if_neg (by omega)]), rfl⟩
    · have h1' : s[k].toNat < lo := by rw [get_bt s k hk]; omega
      have d1 : decide (s[k].toNat < lo) = true := by simp; omega
      go_enter Tryz.func58, Tryz.ntmps58
      go_wp2
      go_ret
      exact ⟨ret_int (by rw [HM.out, if_neg (by omega)]), rfl⟩
  · have hm : mo s k lo hi = -1 := by unfold mo; rw [if_neg (by omega)]
    rw [hm]
    clear hm
    go_enter Tryz.func58, Tryz.ntmps58
    go_wp2
    go_ret
    exact ⟨rfl, rfl⟩

theorem more_at (kI loI hiI : Int) (s : ByteArray) (k lo hi : Nat) (w : World) (hs : s.size ≤ 9223372036854775807) (hlo : lo ≤ 255) (hhi : hi ≤ 255) (ek : kI = k) (el : loI = lo) (eh : hiI = hi) :
    Calls Tryz.prog 58 #[.string s, .int .i64 kI, .int .i64 loI, .int .i64 hiI] w fun e w' => e = .returned (.int .i64 (mo s k lo hi)) ∧ w = w' := by
  subst ek el eh; exact more_any s k lo hi w hs hlo hhi
set_option maxRecDepth 100000 in
set_option maxHeartbeats 2000000 in
theorem three_core (s : ByteArray) (i lo hi : Nat) (w : World) (hs : s.size ≤ 9223372036854775800) (hi' : i < s.size) (h : 224 ≤ bt s i ∧ bt s i ≤ 239) (hlo : lo ≤ 255) (hhi : hi ≤ 255) (hlo' : 128 ≤ lo)
    (z : (lo = 160 ∧ hi = 191 ∧ bt s i = 224) ∨ (lo = 128 ∧ hi = 159 ∧ bt s i = 237) ∨ (lo = 128 ∧ hi = 191 ∧ bt s i ≠ 224 ∧ bt s i ≠ 237)) (D : Nat × Nat)
    (hD : D = if mo s (i + 1) lo hi < 0 ∨ mo s (i + 2) 128 191 < 0 then (65533, 1) else ((((bt s i : Int) - 224) * 4096 + mo s (i + 1) lo hi * 64 + mo s (i + 2) 128 191).toNat, 3)) :
    Calls Tryz.prog 59 #[.string s, .int .i64 i] w (PointBelow D.1 D.2 w) := by
  have m1 := mo_bd s (i + 1) lo hi (by omega)
  have m2 := mo_bd s (i + 2) 128 191 (by omega)
  have HD := Lib.hid hD
  clear hD
  have hlt : ((s[i].toNat : Nat) : Int) ≤ 239 := by rw [get_bt s i hi']; omega
  have hlt0 : 224 ≤ ((s[i].toNat : Nat) : Int) := by rw [get_bt s i hi']; omega
  have hbt := Lib.hid (get_bt s i hi')
  generalize hx : mo s (i + 1) lo hi = x at *
  generalize hy : mo s (i + 2) 128 191 = y at *
  have Hx := Lib.hid hx
  have Hy := Lib.hid hy
  clear hx hy
  have hlt' : bt s i < 256 := bt_lt s i
  have fin : x < 0 ∨ y < 0 ∨ (0 ≤ x ∧ 0 ≤ y) := by omega
  rcases z with ⟨rfl, rfl, e0⟩ | ⟨rfl, rfl, e0⟩ | ⟨rfl, rfl, e0, e1⟩
  all_goals
    first
      | (have z0 : (((s[i].toNat : Nat) : Int) == 224) = true := by rw [get_bt s i hi', e0]; rfl)
      | (have z0 : (((s[i].toNat : Nat) : Int) == 224) = false := by rw [get_bt s i hi']; simp; omega)
    first
      | (have z1 : (((s[i].toNat : Nat) : Int) == 237) = true := by rw [get_bt s i hi', e0]; rfl)
      | (have z1 : (((s[i].toNat : Nat) : Int) == 237) = false := by rw [get_bt s i hi']; simp; omega)
    have E0 := Lib.hid e0
    clear e0
    go_enter Tryz.func59, Tryz.ntmps59
    go_wp2_with fail
    refine (more_at _ _ _ s (i + 1) _ _ _ (by omega) hlo hhi (by omega) rfl rfl).mono ?_
    rw [Hx.out]
    rintro e w' ⟨rfl, rfl⟩
    go_wp2_with fail
    refine (more_at _ _ _ s (i + 2) 128 191 _ (by omega) (by decide) (by decide) (by omega) rfl rfl).mono ?_
    rw [Hy.out]
    rintro e w' ⟨rfl, rfl⟩
    rcases fin with f | f | ⟨f1, f2⟩
    · have hD : D = (65533, 1) := HD.out.trans (if_pos (Or.inl f))
      have HD2 := Lib.hid hD
      clear hD
      go_wp2
      exact bodyPost_ret (v := .agg #[.int .i64 65533, .int .i64 1]) (by simp [results, Tryz.results59, go_sem]) rfl (pb_mk (by rw [HD2.out]; rfl) (by rw [HD2.out]; rfl) ((Below.refl _ _).alloc (Nat.le_refl _) _))
    · have hD : D = (65533, 1) := HD.out.trans (if_pos (Or.inr f))
      have HD2 := Lib.hid hD
      clear hD
      by_cases f0 : x < 0
      all_goals
        go_wp2
        exact bodyPost_ret (v := .agg #[.int .i64 65533, .int .i64 1]) (by simp [results, Tryz.results59, go_sem]) rfl (pb_mk (by rw [HD2.out]; rfl) (by rw [HD2.out]; rfl) ((Below.refl _ _).alloc (Nat.le_refl _) _))
    · have hD := HD.out.trans (if_neg (by omega))
      have HD2 := Lib.hid hD
      clear hD
      go_wp2
      exact bodyPost_ret (v := .agg #[.int .i64 ((((s[i].toNat : Nat) : Int) - 224) * 4096 + x * 64 + y), .int .i64 3]) (by simp [results, Tryz.results59, go_sem]) rfl (pb_mk (by rw [HD2.out, hbt.out]; simp only []; omega) (by rw [HD2.out]; rfl) ((Below.refl _ _).alloc (Nat.le_refl _) _))

theorem three_any (s : ByteArray) (i : Nat) (w : World) (hs : s.size ≤ 9223372036854775800) (hi : i < s.size) (h : 224 ≤ bt s i ∧ bt s i ≤ 239) :
    Calls Tryz.prog 59 #[.string s, .int .i64 i] w (PointBelow (Utf8.decode s i).1 (Utf8.decode s i).2 w) :=
  three_core s i (if bt s i = 224 then 160 else 128) (if bt s i = 237 then 159 else 191) w hs hi h (by split <;> omega) (by split <;> omega) (by split <;> omega)
    (by (repeat' split) <;> omega) _ (dec_three s i hi h)
set_option maxRecDepth 100000 in
set_option maxHeartbeats 2000000 in
theorem four_core (s : ByteArray) (i lo hi : Nat) (w : World) (hs : s.size ≤ 9223372036854775800) (hi' : i < s.size) (h : 240 ≤ bt s i ∧ bt s i ≤ 244) (hlo : lo ≤ 255) (hhi : hi ≤ 255) (hlo' : 128 ≤ lo)
    (z : (lo = 144 ∧ hi = 191 ∧ bt s i = 240) ∨ (lo = 128 ∧ hi = 143 ∧ bt s i = 244) ∨ (lo = 128 ∧ hi = 191 ∧ bt s i ≠ 240 ∧ bt s i ≠ 244)) (D : Nat × Nat)
    (hD : D = if mo s (i + 1) lo hi < 0 ∨ mo s (i + 2) 128 191 < 0 ∨ mo s (i + 3) 128 191 < 0 then (65533, 1) else ((((bt s i : Int) - 240) * 262144 + mo s (i + 1) lo hi * 4096 + mo s (i + 2) 128 191 * 64 + mo s (i + 3) 128 191).toNat, 4)) :
    Calls Tryz.prog 60 #[.string s, .int .i64 i] w (PointBelow D.1 D.2 w) := by
  have m1 := mo_bd s (i + 1) lo hi (by omega)
  have m2 := mo_bd s (i + 2) 128 191 (by omega)
  have m3 := mo_bd s (i + 3) 128 191 (by omega)
  have HD := Lib.hid hD
  clear hD
  have hlt : ((s[i].toNat : Nat) : Int) ≤ 244 := by rw [get_bt s i hi']; omega
  have hlt0 : 240 ≤ ((s[i].toNat : Nat) : Int) := by rw [get_bt s i hi']; omega
  have hbt := Lib.hid (get_bt s i hi')
  generalize hx : mo s (i + 1) lo hi = x at *
  generalize hy : mo s (i + 2) 128 191 = y at *
  generalize hv : mo s (i + 3) 128 191 = v at *
  have Hx := Lib.hid hx
  have Hy := Lib.hid hy
  have Hv := Lib.hid hv
  clear hx hy hv
  have hlt' : bt s i < 256 := bt_lt s i
  have fin : x < 0 ∨ (0 ≤ x ∧ y < 0) ∨ (0 ≤ x ∧ 0 ≤ y ∧ v < 0) ∨ (0 ≤ x ∧ 0 ≤ y ∧ 0 ≤ v) := by omega
  rcases z with ⟨rfl, rfl, e0⟩ | ⟨rfl, rfl, e0⟩ | ⟨rfl, rfl, e0, e1⟩
  all_goals
    first
      | (have z0 : (((s[i].toNat : Nat) : Int) == 240) = true := by rw [get_bt s i hi', e0]; rfl)
      | (have z0 : (((s[i].toNat : Nat) : Int) == 240) = false := by rw [get_bt s i hi']; simp; omega)
    first
      | (have z1 : (((s[i].toNat : Nat) : Int) == 244) = true := by rw [get_bt s i hi', e0]; rfl)
      | (have z1 : (((s[i].toNat : Nat) : Int) == 244) = false := by rw [get_bt s i hi']; simp; omega)
    have E0 := Lib.hid e0
    clear e0
    go_enter Tryz.func60, Tryz.ntmps60
    go_wp2_with fail
    refine (more_at _ _ _ s (i + 1) _ _ _ (by omega) hlo hhi (by omega) rfl rfl).mono ?_
    rw [Hx.out]
    rintro e w' ⟨rfl, rfl⟩
    go_wp2_with fail
    refine (more_at _ _ _ s (i + 2) 128 191 _ (by omega) (by decide) (by decide) (by omega) rfl rfl).mono ?_
    rw [Hy.out]
    rintro e w' ⟨rfl, rfl⟩
    go_wp2_with fail
    refine (more_at _ _ _ s (i + 3) 128 191 _ (by omega) (by decide) (by decide) (by omega) rfl rfl).mono ?_
    rw [Hv.out]
    rintro e w' ⟨rfl, rfl⟩
    rcases fin with f | ⟨f1, f⟩ | ⟨f1, f2, f⟩ | ⟨f1, f2, f⟩
    · have hD : D = (65533, 1) := HD.out.trans (if_pos (by omega))
      have HD2 := Lib.hid hD
      clear hD
      go_wp2
      exact bodyPost_ret (v := .agg #[.int .i64 65533, .int .i64 1]) (by simp [results, Tryz.results60, go_sem]) rfl (pb_mk (by rw [HD2.out]; rfl) (by rw [HD2.out]; rfl) ((Below.refl _ _).alloc (Nat.le_refl _) _))
    · have hD : D = (65533, 1) := HD.out.trans (if_pos (by omega))
      have HD2 := Lib.hid hD
      clear hD
      go_wp2
      exact bodyPost_ret (v := .agg #[.int .i64 65533, .int .i64 1]) (by simp [results, Tryz.results60, go_sem]) rfl (pb_mk (by rw [HD2.out]; rfl) (by rw [HD2.out]; rfl) ((Below.refl _ _).alloc (Nat.le_refl _) _))
    · have hD : D = (65533, 1) := HD.out.trans (if_pos (by omega))
      have HD2 := Lib.hid hD
      clear hD
      go_wp2
      exact bodyPost_ret (v := .agg #[.int .i64 65533, .int .i64 1]) (by simp [results, Tryz.results60, go_sem]) rfl (pb_mk (by rw [HD2.out]; rfl) (by rw [HD2.out]; rfl) ((Below.refl _ _).alloc (Nat.le_refl _) _))
    · have hD := HD.out.trans (if_neg (by omega))
      have HD2 := Lib.hid hD
      clear hD
      go_wp2
      exact bodyPost_ret (v := .agg #[.int .i64 ((((s[i].toNat : Nat) : Int) - 240) * 262144 + x * 4096 + y * 64 + v), .int .i64 4]) (by simp [results, Tryz.results60, go_sem]) rfl (pb_mk (by rw [HD2.out, hbt.out]; simp only []; omega) (by rw [HD2.out]; rfl) ((Below.refl _ _).alloc (Nat.le_refl _) _))

theorem four_any (s : ByteArray) (i : Nat) (w : World) (hs : s.size ≤ 9223372036854775800) (hi : i < s.size) (h : 240 ≤ bt s i ∧ bt s i ≤ 244) :
    Calls Tryz.prog 60 #[.string s, .int .i64 i] w (PointBelow (Utf8.decode s i).1 (Utf8.decode s i).2 w) :=
  four_core s i (if bt s i = 240 then 144 else 128) (if bt s i = 244 then 143 else 191) w hs hi h (by split <;> omega) (by split <;> omega) (by split <;> omega)
    (by (repeat' split) <;> omega) _ (dec_four s i hi h)
end Go.Proofs.YtcjkgmfidkgamaaGreatDoor
namespace Go.Proofs.YtcjkgmfidkgamaaGreatDoor
open Go.RowKit Go.Pub
theorem dec_rest (s : ByteArray) (i : Nat) (h : ¬ bt s i < 128) (h2 : ¬ (194 ≤ bt s i ∧ bt s i ≤ 223)) (h3 : ¬ (224 ≤ bt s i ∧ bt s i ≤ 239)) (h4 : ¬ (240 ≤ bt s i ∧ bt s i ≤ 244)) : Utf8.decode s i = (65533, 1) :=
  dec_bad_width s i (by unfold wd; rw [if_neg h, if_neg h2, if_neg h3, if_neg h4])
set_option maxRecDepth 100000 in
set_option maxHeartbeats 4000000 in
theorem at_any (s : ByteArray) (i : Nat) (w : World) (hs : s.size ≤ 9223372036854775800) (hi : i < s.size) :
    Calls Tryz.prog 32 #[.string s, .int .i64 i] w (PointBelow (Utf8.decode s i).1 (Utf8.decode s i).2 w) := by
  have hbt := Lib.hid (get_bt s i hi)
  have hlt : ((s[i].toNat : Nat) : Int) < 256 := by rw [get_bt s i hi]; have := bt_lt s i; omega
  by_cases c1 : bt s i < 128
  · have hD := Lib.hid (dec_one s i c1)
    generalize Utf8.decode s i = D at *
    have q : ((s[i].toNat : Nat) : Int) < 128 := by rw [get_bt s i hi]; omega
    go_enter Tryz.func32, Tryz.ntmps32
    go_wp2
    exact bodyPost_ret (v := .agg #[.int .i64 ((s[i].toNat : Nat) : Int), .int .i64 1]) (by simp [results, Tryz.results32, go_sem]) rfl (pb_mk (by rw [hD.out, hbt.out]) (by rw [hD.out]; rfl) ((Below.refl _ _).alloc (Nat.le_refl _) _))
  have q : 128 ≤ ((s[i].toNat : Nat) : Int) := by rw [get_bt s i hi]; omega
  by_cases c2 : 194 ≤ bt s i ∧ bt s i ≤ 223
  · have hD := Lib.hid (dec_two s i hi c2)
    have m1 := mo_bd s (i + 1) 128 191 (by omega)
    generalize Utf8.decode s i = D at *
    generalize hx : mo s (i + 1) 128 191 = x at *
    have Hx := Lib.hid hx
    clear hx
    have q2 : 194 ≤ ((s[i].toNat : Nat) : Int) := by rw [get_bt s i hi]; omega
    have q3 : ((s[i].toNat : Nat) : Int) ≤ 223 := by rw [get_bt s i hi]; omega
    clear c1
    by_cases hx0 : x < 0
    · have hD2 := Lib.hid (hD.out.trans (if_pos hx0))
      go_enter Tryz.func32, Tryz.ntmps32
      go_wp2_with fail
      refine (more_at _ _ _ s (i + 1) 128 191 _ (by omega) (by decide) (by decide) (by omega) rfl rfl).mono ?_
      rw [Hx.out]
      rintro e w' ⟨rfl, rfl⟩
      go_wp2
      exact bodyPost_ret (v := .agg #[.int .i64 65533, .int .i64 1]) (by simp [results, Tryz.results32, go_sem]) rfl (pb_mk (by rw [hD2.out]; rfl) (by rw [hD2.out]; rfl) ((Below.refl _ _).alloc (Nat.le_refl _) _))
    · have hD2 := Lib.hid (hD.out.trans (if_neg hx0))
      go_enter Tryz.func32, Tryz.ntmps32
      go_wp2_with fail
      refine (more_at _ _ _ s (i + 1) 128 191 _ (by omega) (by decide) (by decide) (by omega) rfl rfl).mono ?_
      rw [Hx.out]
      rintro e w' ⟨rfl, rfl⟩
      go_wp2
      exact bodyPost_ret (v := .agg #[.int .i64 ((((s[i].toNat : Nat) : Int) - 192) * 64 + x), .int .i64 2]) (by simp [results, Tryz.results32, go_sem]) rfl (pb_mk (by rw [hD2.out, hbt.out]; simp only []; omega) (by rw [hD2.out]; rfl) ((Below.refl _ _).alloc (Nat.le_refl _) _))
  by_cases c3 : 224 ≤ bt s i ∧ bt s i ≤ 239
  · have q2 : 224 ≤ ((s[i].toNat : Nat) : Int) := by rw [get_bt s i hi]; omega
    have q3 : ((s[i].toNat : Nat) : Int) ≤ 239 := by rw [get_bt s i hi]; omega
    have h3 := fun w => three_any s i w hs hi c3
    have H3 := Lib.hid h3
    clear h3 c1 c2
    generalize Utf8.decode s i = D at *
    go_enter Tryz.func32, Tryz.ntmps32
    go_wp2_with fail
    refine (H3.out _).mono ?_
    rintro e w1 ⟨rfl, hb1⟩
    have hz := hb1.size
    have hc0 : w1.cell? ⟨w.heap.size, 0, none⟩ = some (.int .i64 0) := by rw [hb1.cell (p := ⟨w.heap.size, 0, none⟩) (by simp)]; simp
    have hc1 : w1.cell? ⟨w.heap.size, 1, none⟩ = some (.int .i64 0) := by rw [hb1.cell (p := ⟨w.heap.size, 1, none⟩) (by simp)]; simp
    have hf0 : w1.frozen? ⟨w.heap.size, 0, none⟩ = false := by rw [hb1.frozen (p := ⟨w.heap.size, 0, none⟩) (by simp)]; simp
    have hf1 : w1.frozen? ⟨w.heap.size, 1, none⟩ = false := by rw [hb1.frozen (p := ⟨w.heap.size, 1, none⟩) (by simp)]; simp
    have hbw : Below w.heap.size w w1 := ((Below.refl _ w).alloc (Nat.le_refl _) _).trans (hb1.mono (by simp))
    go_wp2
    exact bodyPost_ret (v := .agg #[.int .i64 D.1, .int .i64 D.2]) (by simp [results, Tryz.results32, go_sem, hc0, hc1]) rfl (pb_mk rfl rfl ((hbw.setCell (by simp) _).setCell (by simp) _))
  by_cases c4 : 240 ≤ bt s i ∧ bt s i ≤ 244
  · have q2 : 240 ≤ ((s[i].toNat : Nat) : Int) := by rw [get_bt s i hi]; omega
    have q3 : ((s[i].toNat : Nat) : Int) ≤ 244 := by rw [get_bt s i hi]; omega
    have h3 := fun w => four_any s i w hs hi c4
    have H3 := Lib.hid h3
    clear h3 c1 c2 c3
    generalize Utf8.decode s i = D at *
    go_enter Tryz.func32, Tryz.ntmps32
    go_wp2_with fail
    refine (H3.out _).mono ?_
    rintro e w1 ⟨rfl, hb1⟩
    have hz := hb1.size
    have hc0 : w1.cell? ⟨w.heap.size, 0, none⟩ = some (.int .i64 0) := by rw [hb1.cell (p := ⟨w.heap.size, 0, none⟩) (by simp)]; simp
    have hc1 : w1.cell? ⟨w.heap.size, 1, none⟩ = some (.int .i64 0) := by rw [hb1.cell (p := ⟨w.heap.size, 1, none⟩) (by simp)]; simp
    have hf0 : w1.frozen? ⟨w.heap.size, 0, none⟩ = false := by rw [hb1.frozen (p := ⟨w.heap.size, 0, none⟩) (by simp)]; simp
    have hf1 : w1.frozen? ⟨w.heap.size, 1, none⟩ = false := by rw [hb1.frozen (p := ⟨w.heap.size, 1, none⟩) (by simp)]; simp
    have hbw : Below w.heap.size w w1 := ((Below.refl _ w).alloc (Nat.le_refl _) _).trans (hb1.mono (by simp))
    go_wp2
    exact bodyPost_ret (v := .agg #[.int .i64 D.1, .int .i64 D.2]) (by simp [results, Tryz.results32, go_sem, hc0, hc1]) rfl (pb_mk rfl rfl ((hbw.setCell (by simp) _).setCell (by simp) _))
  have hD := Lib.hid (dec_rest s i c1 c2 c3 c4)
  generalize Utf8.decode s i = D at *
  have c5 : bt s i < 194 ∨ 244 < bt s i := by omega
  clear c2 c3 c4 c1
  rcases c5 with c5 | c5
  · have q2 : ((s[i].toNat : Nat) : Int) < 194 := by rw [get_bt s i hi]; omega
    go_enter Tryz.func32, Tryz.ntmps32
    go_wp2
    exact bodyPost_ret (v := .agg #[.int .i64 65533, .int .i64 1]) (by simp [results, Tryz.results32, go_sem]) rfl (pb_mk (by rw [hD.out]; rfl) (by rw [hD.out]; rfl) ((Below.refl _ _).alloc (Nat.le_refl _) _))
  · have q2 : 244 < ((s[i].toNat : Nat) : Int) := by rw [get_bt s i hi]; omega
    go_enter Tryz.func32, Tryz.ntmps32
    go_wp2
    exact bodyPost_ret (v := .agg #[.int .i64 65533, .int .i64 1]) (by simp [results, Tryz.results32, go_sem]) rfl (pb_mk (by rw [hD.out]; rfl) (by rw [hD.out]; rfl) ((Below.refl _ _).alloc (Nat.le_refl _) _))

def PairBelow (c n : Int) (w : World) (e : Ending) (w' : World) : Prop := e = .returned (.tuple #[.int .i64 c, .int .i64 n]) ∧ Below w.heap.size w w'
theorem pairBelow_mk {c n c' n' : Int} {w w' : World} (hc : c = c') (hn : n = n') (hb : Below w.heap.size w w') : PairBelow c' n' w (.returned (.tuple #[.int .i64 c, .int .i64 n])) w' := by
  subst hc hn; exact ⟨rfl, hb⟩
set_option maxRecDepth 100000 in
set_option maxHeartbeats 1000000 in
theorem rNext_any (s : ByteArray) (i : Int) (w : World) (hs : s.size ≤ 9223372036854775800) :
    Calls Tryz.prog 16 #[.string s, .int .i64 i] w (PairBelow (nextAt s i).1 (nextAt s i).2 w) := by
  by_cases h : 0 ≤ i ∧ i < s.size
  · obtain ⟨k, rfl⟩ := Int.eq_ofNat_of_zero_le h.1
    have hk : k < s.size := by omega
    rw [nextAt_in s k hk]
    have h3 := fun w => at_any s k w hs hk
    have H3 := Lib.hid h3
    clear h3 h
    generalize Utf8.decode s k = D at *
    go_enter Tryz.func16, Tryz.ntmps16
    go_wp2_with fail
    refine (H3.out _).mono ?_
    rintro e w1 ⟨rfl, hb1⟩
    go_wp2
    go_quiet (fail)
    go_wp2
    go_ret2
    exact pairBelow_mk rfl rfl (below_drewN (hb1.alloc hb1.size _) _)
  · rw [nextAt_out s i h]
    by_cases h0 : i < 0
    all_goals
      go_enter Tryz.func16, Tryz.ntmps16
      go_wp2
      go_ret2
      exact pairBelow_mk rfl rfl (Below.refl _ _)

end Go.Proofs.YtcjkgmfidkgamaaGreatDoor
namespace Go.Pub
open Go.RowKit
/-- A slice of bytes as a string. -/
theorem conv_bytes {P : Program} (w : World) (src e : TypeId) (hs : P.underlying src = some (.slice e)) (he : P.underlying e = some (.int .u8)) {B : Nat} {A : Option Addr} {n : Nat} (c : Nat) {l : List UInt8} (hr : Reads w B 1 A n (Lib.byteCells l)) :
    ∀ dst, P.underlying dst = some .string → (convert src dst (.slice A n c)).run P w = .ok (.string ⟨l.toArray⟩) w := by
  intro dst hd
  have hn : l.length = n := by have := hr.1; rw [Lib.byteCells_length] at this; omega
  rcases Nat.eq_zero_or_pos n with h0 | h0
  · subst h0
    have : l = [] := List.eq_nil_of_length_eq_zero hn
    subst this
    rw [run_convert_bytes_string w src dst e _ 0 c hs he hd]
    cases A with
    | none => simp [Conv.bytesToString]; rfl
    | some ad =>
      have := run_bytesToString (P := P) w ad 0 c [] (by rfl)
      rw [this]; rfl
  · obtain ⟨ad, rfl, _, hc⟩ := hr.2 h0
    have hl : (loadCells ad n).run P w = .ok ((l.map fun b => ((b.toNat : Nat) : Int)).map (Value.int .u8)).toArray w := by
      have := run_loadCells_list (P := P) w ad ((l.map fun b => ((b.toNat : Nat) : Int)).map (Value.int .u8)) (fun j v hj => hc j v (by simpa [Lib.byteCells] using hj))
      simpa [hn] using this
    rw [run_convert_bytes_string w src dst e _ n c hs he hd, run_bytesToString w _ n c _ hl, foldl_push_bytes]
    simp only [List.map_map, ByteArray.empty, ByteArray.emptyWithCapacity]
    have e1 : (fun n : Int => UInt8.ofNat n.toNat) ∘ (fun b : UInt8 => ((b.toNat : Nat) : Int)) = id := by
      funext b; simp
    rw [e1, List.map_id]
    simp
    rfl
end Go.Pub
namespace Go.Pub
open Go.RowKit
def SliceOwn (e : TypeId) (size n : Nat) (xs : List Value) (w : World) (en : Ending) (w' : World) : Prop := ∃ v, en = .returned v ∧ w'.ownsRow w.heap.size e size v n xs ∧ Below w.heap.size w w'
end Go.Pub
namespace Go.Proofs.YtcjkgmfidkgamaaGreatDoor
open Go.RowKit Go.Pub
theorem below_new {w : World} {o : Obj} : Below w.heap.size w (w.alloc o) := (Below.refl _ _).alloc (Nat.le_refl _) _
set_option maxRecDepth 100000 in
set_option maxHeartbeats 4000000 in
theorem bytes_good (c : Int) (w : World) (h : 0 ≤ c ∧ c ≤ 1114111 ∧ (c < 55296 ∨ 57343 < c)) : Calls Tryz.prog 126 #[.int .i64 c] w (SliceOwn 5 1 (encL c).length (Lib.byteCells (encL c)) w) := by
  obtain ⟨h0, h1, h2⟩ := h
  by_cases c1 : c < 128
  · have H := Lib.hid (encCells_one c h0 c1)
    have HL := Lib.hid (Lib.byteCells_length (encL c))
    generalize encL c = L at *
    go_enter Tryz.func126, Tryz.ntmps126
    go_wp2
    go_ret
    exact ⟨_, rfl, by rw [← HL.out, H.out]; exact World.ownsRow_lit w _ 1 (Nat.le_refl _) (by unfold maxLen; omega) rfl, below_new⟩
  by_cases c2 : c < 2048
  · have H := Lib.hid (encCells_two c (by omega) c2)
    have HL := Lib.hid (Lib.byteCells_length (encL c))
    generalize encL c = L at *
    go_enter Tryz.func126, Tryz.ntmps126
    go_wp2
    go_ret
    exact ⟨_, rfl, by rw [← HL.out, H.out]; exact World.ownsRow_lit w _ 2 (Nat.le_refl _) (by unfold maxLen; omega) rfl, below_new⟩
  by_cases c3 : c < 65536
  · have H := Lib.hid (encCells_three c (by omega) c3 h2)
    have HL := Lib.hid (Lib.byteCells_length (encL c))
    generalize encL c = L at *
    by_cases c4 : c < 55296
    all_goals
      go_enter Tryz.func126, Tryz.ntmps126
      go_wp2
      go_ret
      exact ⟨_, rfl, by rw [← HL.out, H.out]; exact World.ownsRow_lit w _ 3 (Nat.le_refl _) (by unfold maxLen; omega) rfl, below_new⟩
  · have H := Lib.hid (encCells_four c (by omega) h1)
    have HL := Lib.hid (Lib.byteCells_length (encL c))
    generalize encL c = L at *
    go_enter Tryz.func126, Tryz.ntmps126
    go_wp2
    go_ret
    exact ⟨_, rfl, by rw [← HL.out, H.out]; exact World.ownsRow_lit w _ 4 (Nat.le_refl _) (by unfold maxLen; omega) rfl, below_new⟩

set_option maxRecDepth 100000 in
set_option maxHeartbeats 4000000 in
theorem bytes_any (c : Int) (w : World) : Calls Tryz.prog 126 #[.int .i64 c] w (SliceOwn 5 1 (encL c).length (Lib.byteCells (encL c)) w) := by
  by_cases h : 0 ≤ c ∧ c ≤ 1114111 ∧ (c < 55296 ∨ 57343 < c)
  · exact bytes_good c w h
  · have e : encL c = encL 65533 := by unfold encL; rw [encode_bad c (by omega)]
    rw [e]
    have HB := Lib.hid (bytes_good 65533)
    clear e
    by_cases h0 : c < 0
    all_goals
      try (by_cases h1 : 1114111 < c)
      all_goals
        go_enter Tryz.func126, Tryz.ntmps126
        go_wp2_with fail
        refine (HB.out _ (by omega)).mono ?_
        rintro e w1 ⟨v, rfl, hown, hb⟩
        go_wp2
        go_ret
        exact ⟨_, rfl, hown, hb⟩

set_option maxRecDepth 100000 in
set_option maxHeartbeats 4000000 in
theorem append_ref (s : ByteArray) (c : Int) (w : World) (hs : s.size ≤ 1000000) : Calls Tryz.prog 89 #[.string s, .int .i64 c] w fun e w' => e = .returned (.string (s ++ Utf8.encode c)) ∧ Below w.heap.size w w' := by
  have he := encode_size c
  have HB := Lib.hid (bytes_any c)
  have HE := Lib.hid (enc_mk c)
  generalize encL c = L at *
  generalize Utf8.encode c = E at *
  go_enter Tryz.func89, Tryz.ntmps89
  go_wp2_with fail
  refine (HB.out _).mono ?_
  rintro e w1 ⟨v, rfl, hown, hb⟩
  obtain ⟨A, cp, rfl⟩ := own_slice hown
  have hcv := conv_bytes w1 120 5 Tryz.underlying120 Tryz.underlying5 cp (Reads.of_own hown) 9 Tryz.underlying9
  rw [← HE.out] at hcv
  have hsum : s.size + E.size ≤ 9223372036854775807 := by omega
  go_wp2
  go_ret
  exact ⟨rfl, hb⟩

end Go.Proofs.YtcjkgmfidkgamaaGreatDoor
namespace Go.Pub
open Go.RowKit
def strs (l : List ByteArray) : List Value := l.map Value.string
theorem strs_at (l : List ByteArray) (k : Nat) (h : k < l.length) : (strs l)[k]? = some (.string l[k]) := by
  unfold strs; rw [List.getElem?_map, List.getElem?_eq_getElem h]; rfl
theorem Reads.row {w : World} {B size n : Nat} {A : Option Addr} {xs : List Value} (h : Reads w B size A n xs) (hn : 0 < n) (hs : 0 < size) : ∃ b off, A = some ⟨b, off, none⟩ ∧ b < B ∧ ∀ j u, xs[j]? = some u → w.cell? ⟨b, off + j, none⟩ = some u := by
  obtain ⟨ad, e, hb, hc⟩ := h.2 hn
  obtain ⟨b, off, sp⟩ := ad
  have hl : 0 < xs.length := by rw [h.1]; exact Nat.mul_pos hn hs
  have h0 := hc 0 _ (List.getElem?_eq_getElem hl)
  obtain rfl : sp = none := by simpa [Addr.add] using World.cell?_spot h0
  refine ⟨b, off, e, hb, fun j u hu => ?_⟩
  have := hc j u hu
  unfold Addr.add at this
  by_cases hj : j = 0
  · subst hj; simpa using this
  · simpa [hj] using this
end Go.Pub
namespace Go.Pub
structure AttrL where
  id : ByteArray
  cl : List ByteArray
  pr : List (ByteArray × ByteArray)
def prs (l : List (ByteArray × ByteArray)) : List Value := l.flatMap fun p => [.string p.1, .string p.2]
theorem prs_at (l : List (ByteArray × ByteArray)) (k : Nat) (h : k < l.length) : (prs l)[k * 2]? = some (.string l[k].1) ∧ (prs l)[k * 2 + 1]? = some (.string l[k].2) := by
  induction l generalizing k with
  | nil => exact absurd h (by simp)
  | cons p l ih =>
    cases k with
    | zero => exact ⟨rfl, rfl⟩
    | succ k =>
      have := ih k (by simpa using h)
      unfold prs at this ⊢
      rw [List.flatMap_cons]
      have e1 : (k + 1) * 2 = (k * 2) + 2 := by omega
      rw [e1]
      exact this
end Go.Pub
namespace Go.Proofs.YtcjkgmfidkgamaaGreatDoor
open Go.RowKit Go.Pub
theorem heap_alloc_size (w : World) (o : Obj) : (w.alloc o).heap.size = w.heap.size + 1 := by simp
end Go.Proofs.YtcjkgmfidkgamaaGreatDoor
