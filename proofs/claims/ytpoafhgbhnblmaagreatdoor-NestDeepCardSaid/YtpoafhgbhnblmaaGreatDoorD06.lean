/-
  Texts of the proof, put together (what this law reaches): RefA, RefB, RefC, RefE, AttrB, AttrV.
-/
import Derived.Test.YtpoafhgbhnblmaaGreatDoorRows
import Derived.Test.YtpoafhgbhnblmaaGreatDoorD01
import Derived.Test.YtpoafhgbhnblmaaGreatDoorD02
import Derived.WalkKit
import Derived.WalkSpells
import Derived.WalkLawsBesides
import Derived.Deep.QuietTactic
import Derived.BigQuiet
import Derived.Lib.Hide
import Derived.Laws.BytesArg
import Derived.Lib.UnsafeStr
import Derived.Test.YtpoafhgbhnblmaaGreatDoorD03
import Derived.Test.YtpoafhgbhnblmaaGreatDoorD05
set_option linter.unusedVariables false
set_option linter.unusedSimpArgs false
namespace Go.Pub
open Go.RowKit
/-- What the reference's more gives. -/
def mo (s : ByteArray) (k lo hi : Nat) : Int := if k < s.size ∧ lo ≤ bt s k ∧ bt s k ≤ hi then (bt s k : Int) - 128 else -1
theorem mo_bd (s : ByteArray) (k lo hi : Nat) (h : 128 ≤ lo) : -1 ≤ mo s k lo hi ∧ mo s k lo hi ≤ 127 := by
  unfold mo
  have := bt_lt s k
  split <;> omega
def PointBelow (c n : Int) (w : World) (e : Ending) (w' : World) : Prop := e = .returned (.agg #[.int .i64 c, .int .i64 n]) ∧ Below w.heap.size w w'
theorem pb_mk {c n : Int} {D : Nat × Nat} {w w' : World} (h1 : c = D.1) (h2 : n = D.2) (hb : Below w.heap.size w w') : PointBelow D.1 D.2 w (.returned (.agg #[.int .i64 c, .int .i64 n])) w' := by
  subst h1 h2; exact ⟨rfl, hb⟩
theorem dec_three (s : ByteArray) (i : Nat) (hi : i < s.size) (h : 224 ≤ bt s i ∧ bt s i ≤ 239) :
    Utf8.decode s i = if mo s (i + 1) (if bt s i = 224 then 160 else 128) (if bt s i = 237 then 159 else 191) < 0 ∨ mo s (i + 2) 128 191 < 0 then (65533, 1)
      else ((((bt s i : Int) - 224) * 4096 + mo s (i + 1) (if bt s i = 224 then 160 else 128) (if bt s i = 237 then 159 else 191) * 64 + mo s (i + 2) 128 191).toNat, 3) := by
  rw [Lib.decode_at]
  show Lib.decodeN _ (bt s i) (bt s (i + 1)) (bt s (i + 2)) (bt s (i + 3)) = _
  unfold mo Lib.decodeN
  have g1 := bt_lt s (i + 1)
  have g2 := bt_lt s (i + 2)
  generalize bt s i = b0 at *
  generalize bt s (i + 1) = b1 at *
  generalize bt s (i + 2) = b2 at *
  rw [if_neg (by omega), if_neg (by omega)]
  by_cases hc : b0 / 16 = 14 ∧ (1 < s.size - i ∧ b1 / 64 = 2) ∧ (2 < s.size - i ∧ b2 / 64 = 2)
  · rw [if_pos hc]
    by_cases e0 : b0 = 224
    · subst e0
      simp only [if_true, show ¬ (224 = 237) by decide, if_false]
      (repeat' split) <;> first | rfl | (exfalso; omega) | (simp only [Prod.mk.injEq, and_true]; omega)
    · by_cases e1 : b0 = 237
      · subst e1
        simp only [if_true, show ¬ (237 = 224) by decide, if_false]
        (repeat' split) <;> first | rfl | (exfalso; omega) | (simp only [Prod.mk.injEq, and_true]; omega)
      · simp only [e0, e1, if_false]
        (repeat' split) <;> first | rfl | (exfalso; omega) | (simp only [Prod.mk.injEq, and_true]; omega)
  · rw [if_neg hc, if_neg (by omega)]
    (repeat' split) <;> first | rfl | (exfalso; omega)
theorem dec_four (s : ByteArray) (i : Nat) (hi : i < s.size) (h : 240 ≤ bt s i ∧ bt s i ≤ 244) :
    Utf8.decode s i = if mo s (i + 1) (if bt s i = 240 then 144 else 128) (if bt s i = 244 then 143 else 191) < 0 ∨ mo s (i + 2) 128 191 < 0 ∨ mo s (i + 3) 128 191 < 0 then (65533, 1)
      else ((((bt s i : Int) - 240) * 262144 + mo s (i + 1) (if bt s i = 240 then 144 else 128) (if bt s i = 244 then 143 else 191) * 4096 + mo s (i + 2) 128 191 * 64 + mo s (i + 3) 128 191).toNat, 4) := by
  rw [Lib.decode_at]
  show Lib.decodeN _ (bt s i) (bt s (i + 1)) (bt s (i + 2)) (bt s (i + 3)) = _
  unfold mo Lib.decodeN
  have g1 := bt_lt s (i + 1)
  have g2 := bt_lt s (i + 2)
  have g3 := bt_lt s (i + 3)
  generalize bt s i = b0 at *
  generalize bt s (i + 1) = b1 at *
  generalize bt s (i + 2) = b2 at *
  generalize bt s (i + 3) = b3 at *
  rw [if_neg (by omega), if_neg (by omega), if_neg (by omega)]
  by_cases hc : b0 / 8 = 30 ∧ (1 < s.size - i ∧ b1 / 64 = 2) ∧ (2 < s.size - i ∧ b2 / 64 = 2) ∧ (3 < s.size - i ∧ b3 / 64 = 2)
  · rw [if_pos hc]
    by_cases e0 : b0 = 240
    · subst e0
      simp only [if_true, show ¬ (240 = 244) by decide, if_false]
      (repeat' split) <;> first | rfl | (exfalso; omega) | (simp only [Prod.mk.injEq, and_true]; omega)
    · by_cases e1 : b0 = 244
      · subst e1
        simp only [if_true, show ¬ (244 = 240) by decide, if_false]
        (repeat' split) <;> first | rfl | (exfalso; omega) | (simp only [Prod.mk.injEq, and_true]; omega)
      · simp only [e0, e1, if_false]
        (repeat' split) <;> first | rfl | (exfalso; omega) | (simp only [Prod.mk.injEq, and_true]; omega)
  · rw [if_neg hc]
    (repeat' split) <;> first | rfl | (exfalso; omega)
theorem dec_two (s : ByteArray) (i : Nat) (hi : i < s.size) (h : 194 ≤ bt s i ∧ bt s i ≤ 223) :
    Utf8.decode s i = if mo s (i + 1) 128 191 < 0 then (65533, 1) else ((((bt s i : Int) - 192) * 64 + mo s (i + 1) 128 191).toNat, 2) := by
  rw [Lib.decode_at]
  show Lib.decodeN _ (bt s i) (bt s (i + 1)) (bt s (i + 2)) (bt s (i + 3)) = _
  unfold mo Lib.decodeN
  have g1 := bt_lt s (i + 1)
  generalize bt s i = b0 at *
  generalize bt s (i + 1) = b1 at *
  rw [if_neg (by omega)]
  by_cases hc : b0 / 32 = 6 ∧ (1 < s.size - i ∧ b1 / 64 = 2)
  · rw [if_pos hc]
    (repeat' split) <;> first | rfl | (exfalso; omega) | (simp only [Prod.mk.injEq, and_true]; omega)
  · rw [if_neg hc, if_neg (by omega), if_neg (by omega)]
    (repeat' split) <;> first | rfl | (exfalso; omega)
end Go.Pub
namespace Go.Proofs.YtpoafhgbhnblmaaGreatDoor
open Go.RowKit Go.Pub
set_option maxRecDepth 100000 in
set_option maxHeartbeats 1000000 in
theorem more_any (s : ByteArray) (k lo hi : Nat) (w : World) (hs : s.size ≤ 9223372036854775807) (hlo : lo ≤ 255) (hhi : hi ≤ 255) :
    Calls Tryz.prog 54 #[.string s, .int .i64 k, .int .i64 lo, .int .i64 hi] w fun e w' => e = .returned (.int .i64 (mo s k lo hi)) ∧ w = w' := by
  by_cases hk : k < s.size
  · have hb := bt_lt s k
    have hlt : ((s[k].toNat : Nat) : Int) < 256 := by rw [get_bt s k hk]; omega
    have hbt := Lib.hid (get_bt s k hk)
    have HM : Hid (mo s k lo hi = if lo ≤ bt s k ∧ bt s k ≤ hi then (bt s k : Int) - 128 else -1) := Lib.hid (by unfold mo; simp [hk])
    generalize mo s k lo hi = m at *
    by_cases h1 : lo ≤ bt s k
    · have h1' : lo ≤ s[k].toNat := by rw [get_bt s k hk]; exact h1
      have d1 : decide (s[k].toNat < lo) = false := by simp; omega
      by_cases h2 : bt s k ≤ hi
      · have h2' : s[k].toNat ≤ hi := by rw [get_bt s k hk]; exact h2
        have d2 : decide (hi < s[k].toNat) = false := by simp; omega
        go_enter Tryz.func54, Tryz.ntmps54
        go_wp2
        go_ret
        exact ⟨ret_int (by rw [HM.out, if_pos ⟨h1, h2⟩, hbt.out]), rfl⟩
      · have h2' : hi < s[k].toNat := by rw [get_bt s k hk]; omega
        have d2 : decide (hi < s[k].toNat) = true := by simp; omega
        go_enter Tryz.func54, Tryz.ntmps54
        go_wp2
        go_ret
        exact ⟨ret_int (by rw [HM.out, if_neg (by omega)]), rfl⟩
    · have h1' : s[k].toNat < lo := by rw [get_bt s k hk]; omega
      have d1 : decide (s[k].toNat < lo) = true := by simp; omega
      go_enter Tryz.func54, Tryz.ntmps54
      go_wp2
      go_ret
      exact ⟨ret_int (by rw [HM.out, if_neg (by omega)]), rfl⟩
  · have hm : mo s k lo hi = -1 := by unfold mo; rw [if_neg (by omega)]
    rw [hm]
    clear hm
    go_enter Tryz.func54, Tryz.ntmps54
    go_wp2
    go_ret
    exact ⟨rfl, rfl⟩

theorem more_at (kI loI hiI : Int) (s : ByteArray) (k lo hi : Nat) (w : World) (hs : s.size ≤ 9223372036854775807) (hlo : lo ≤ 255) (hhi : hi ≤ 255) (ek : kI = k) (el : loI = lo) (eh : hiI = hi) :
    Calls Tryz.prog 54 #[.string s, .int .i64 kI, .int .i64 loI, .int .i64 hiI] w fun e w' => e = .returned (.int .i64 (mo s k lo hi)) ∧ w = w' := by
  subst ek el eh; exact more_any s k lo hi w hs hlo hhi
set_option maxRecDepth 100000 in
set_option maxHeartbeats 2000000 in
theorem three_core (s : ByteArray) (i lo hi : Nat) (w : World) (hs : s.size ≤ 9223372036854775800) (hi' : i < s.size) (h : 224 ≤ bt s i ∧ bt s i ≤ 239) (hlo : lo ≤ 255) (hhi : hi ≤ 255) (hlo' : 128 ≤ lo)
    (z : (lo = 160 ∧ hi = 191 ∧ bt s i = 224) ∨ (lo = 128 ∧ hi = 159 ∧ bt s i = 237) ∨ (lo = 128 ∧ hi = 191 ∧ bt s i ≠ 224 ∧ bt s i ≠ 237)) (D : Nat × Nat)
    (hD : D = if mo s (i + 1) lo hi < 0 ∨ mo s (i + 2) 128 191 < 0 then (65533, 1) else ((((bt s i : Int) - 224) * 4096 + mo s (i + 1) lo hi * 64 + mo s (i + 2) 128 191).toNat, 3)) :
    Calls Tryz.prog 55 #[.string s, .int .i64 i] w (PointBelow D.1 D.2 w) := by
  have m1 := mo_bd s (i + 1) lo hi (by omega)
  have m2 := mo_bd s (i + 2) 128 191 (by omega)
  have HD := Lib.hid hD
  clear hD
  have hlt : ((s[i].toNat : Nat) : Int) ≤ 239 := by rw [get_bt s i hi']; omega
  have hlt0 : 224 ≤ ((s[i].toNat : Nat) : Int) := by rw [get_bt s i hi']; omega
  have hbt := Lib.hid (get_bt s i hi')
  generalize hx : mo s (i + 1) lo hi = x at *
  generalize hy : mo s (i + 2) 128 191 = y at *
  have Hx := Lib.hid hx
  have Hy := Lib.hid hy
  clear hx hy
  have hlt' : bt s i < 256 := bt_lt s i
  have fin : x < 0 ∨ y < 0 ∨ (0 ≤ x ∧ 0 ≤ y) := by omega
  rcases z with ⟨rfl, rfl, e0⟩ | ⟨rfl, rfl, e0⟩ | ⟨rfl, rfl, e0, e1⟩
  all_goals
    first
      | (have z0 : (((s[i].toNat : Nat) : Int) == 224) = true := by rw [get_bt s i hi', e0]; rfl)
      | (have z0 : (((s[i].toNat : Nat) : Int) == 224) = false := by rw [get_bt s i hi']; simp; omega)
    first
      | (have z1 : (((s[i].toNat : Nat) : Int) == 237) = true := by rw [get_bt s i hi', e0]; rfl)
      | (have z1 : (((s[i].toNat : Nat) : Int) == 237) = false := by rw [get_bt s i hi']; simp; omega)
    have E0 := Lib.hid e0
    clear e0
    go_enter Tryz.func55, Tryz.ntmps55
    go_wp2_with fail
    refine (more_at _ _ _ s (i + 1) _ _ _ (by omega) hlo hhi (by omega) rfl rfl).mono ?_
    rw [Hx.out]
    rintro e w' ⟨rfl, rfl⟩
    go_wp2_with fail
    refine (more_at _ _ _ s (i + 2) 128 191 _ (by omega) (by decide) (by decide) (by omega) rfl rfl).mono ?_
    rw [Hy.out]
    rintro e w' ⟨rfl, rfl⟩
    rcases fin with f | f | ⟨f1, f2⟩
    · have hD : D = (65533, 1) := HD.out.trans (if_pos (Or.inl f))
      have HD2 := Lib.hid hD
      clear hD
      go_wp2
      exact bodyPost_ret (v := .agg #[.int .i64 65533, .int .i64 1]) (by simp [results, Tryz.results55, go_sem]) rfl (pb_mk (by rw [HD2.out]; rfl) (by rw [HD2.out]; rfl) ((Below.refl _ _).alloc (Nat.le_refl _) _))
    · have hD : D = (65533, 1) := HD.out.trans (if_pos (Or.inr f))
      have HD2 := Lib.hid hD
      clear hD
      by_cases f0 : x < 0
      all_goals
        go_wp2
        exact bodyPost_ret (v := .agg #[.int .i64 65533, .int .i64 1]) (by simp [results, Tryz.results55, go_sem]) rfl (pb_mk (by rw [HD2.out]; rfl) (by rw [HD2.out]; rfl) ((Below.refl _ _).alloc (Nat.le_refl _) _))
    · have hD := HD.out.trans (if_neg (by omega))
      have HD2 := Lib.hid hD
      clear hD
      go_wp2
      exact bodyPost_ret (v := .agg #[.int .i64 ((((s[i].toNat : Nat) : Int) - 224) * 4096 + x * 64 + y), .int .i64 3]) (by simp [results, Tryz.results55, go_sem]) rfl (pb_mk (by rw [HD2.out, hbt.out]; simp only []; omega) (by rw [HD2.out]; rfl) ((Below.refl _ _).alloc (Nat.le_refl _) _))

theorem three_any (s : ByteArray) (i : Nat) (w : World) (hs : s.size ≤ 9223372036854775800) (hi : i < s.size) (h : 224 ≤ bt s i ∧ bt s i ≤ 239) :
    Calls Tryz.prog 55 #[.string s, .int .i64 i] w (PointBelow (Utf8.decode s i).1 (Utf8.decode s i).2 w) :=
  three_core s i (if bt s i = 224 then 160 else 128) (if bt s i = 237 then 159 else 191) w hs hi h (by split <;> omega) (by split <;> omega) (by split <;> omega)
    (by (repeat' split) <;> omega) _ (dec_three s i hi h)
set_option maxRecDepth 100000 in
set_option maxHeartbeats 2000000 in
theorem four_core (s : ByteArray) (i lo hi : Nat) (w : World) (hs : s.size ≤ 9223372036854775800) (hi' : i < s.size) (h : 240 ≤ bt s i ∧ bt s i ≤ 244) (hlo : lo ≤ 255) (hhi : hi ≤ 255) (hlo' : 128 ≤ lo)
    (z : (lo = 144 ∧ hi = 191 ∧ bt s i = 240) ∨ (lo = 128 ∧ hi = 143 ∧ bt s i = 244) ∨ (lo = 128 ∧ hi = 191 ∧ bt s i ≠ 240 ∧ bt s i ≠ 244)) (D : Nat × Nat)
    (hD : D = if mo s (i + 1) lo hi < 0 ∨ mo s (i + 2) 128 191 < 0 ∨ mo s (i + 3) 128 191 < 0 then (65533, 1) else ((((bt s i : Int) - 240) * 262144 + mo s (i + 1) lo hi * 4096 + mo s (i + 2) 128 191 * 64 + mo s (i + 3) 128 191).toNat, 4)) :
    Calls Tryz.prog 56 #[.string s, .int .i64 i] w (PointBelow D.1 D.2 w) := by
  have m1 := mo_bd s (i + 1) lo hi (by omega)
  have m2 := mo_bd s (i + 2) 128 191 (by omega)
  have m3 := mo_bd s (i + 3) 128 191 (by omega)
  have HD := Lib.hid hD
  clear hD
  have hlt : ((s[i].toNat : Nat) : Int) ≤ 244 := by rw [get_bt s i hi']; omega
  have hlt0 : 240 ≤ ((s[i].toNat : Nat) : Int) := by rw [get_bt s i hi']; omega
  have hbt := Lib.hid (get_bt s i hi')
  generalize hx : mo s (i + 1) lo hi = x at *
  generalize hy : mo s (i + 2) 128 191 = y at *
  generalize hv : mo s (i + 3) 128 191 = v at *
  have Hx := Lib.hid hx
  have Hy := Lib.hid hy
  have Hv := Lib.hid hv
  clear hx hy hv
  have hlt' : bt s i < 256 := bt_lt s i
  have fin : x < 0 ∨ (0 ≤ x ∧ y < 0) ∨ (0 ≤ x ∧ 0 ≤ y ∧ v < 0) ∨ (0 ≤ x ∧ 0 ≤ y ∧ 0 ≤ v) := by omega
  rcases z with ⟨rfl, rfl, e0⟩ | ⟨rfl, rfl, e0⟩ | ⟨rfl, rfl, e0, e1⟩
  all_goals
    first
      | (have z0 : (((s[i].toNat : Nat) : Int) == 240) = true := by rw [get_bt s i hi', e0]; rfl)
      | (have z0 : (((s[i].toNat : Nat) : Int) == 240) = false := by rw [get_bt s i hi']; simp; omega)
    first
      | (have z1 : (((s[i].toNat : Nat) : Int) == 244) = true := by rw [get_bt s i hi', e0]; rfl)
      | (have z1 : (((s[i].toNat : Nat) : Int) == 244) = false := by rw [get_bt s i hi']; simp; omega)
    have E0 := Lib.hid e0
    clear e0
    go_enter Tryz.func56, Tryz.ntmps56
    go_wp2_with fail
    refine (more_at _ _ _ s (i + 1) _ _ _ (by omega) hlo hhi (by omega) rfl rfl).mono ?_
    rw [Hx.out]
    rintro e w' ⟨rfl, rfl⟩
    go_wp2_with fail
    refine (more_at _ _ _ s (i + 2) 128 191 _ (by omega) (by decide) (by decide) (by omega) rfl rfl).mono ?_
    rw [Hy.out]
    rintro e w' ⟨rfl, rfl⟩
    go_wp2_with fail
    refine (more_at _ _ _ s (i + 3) 128 191 _ (by omega) (by decide) (by decide) (by omega) rfl rfl).mono ?_
    rw [Hv.out]
    rintro e w' ⟨rfl, rfl⟩
    rcases fin with f | ⟨f1, f⟩ | ⟨f1, f2, f⟩ | ⟨f1, f2, f⟩
    · have hD : D = (65533, 1) := HD.out.trans (if_pos (by omega))
      have HD2 := Lib.hid hD
      clear hD
      go_wp2
      exact bodyPost_ret (v := .agg #[.int .i64 65533, .int .i64 1]) (by simp [results, Tryz.results56, go_sem]) rfl (pb_mk (by rw [HD2.out]; rfl) (by rw [HD2.out]; rfl) ((Below.refl _ _).alloc (Nat.le_refl _) _))
    · have hD : D = (65533, 1) := HD.out.trans (if_pos (by omega))
      have HD2 := Lib.hid hD
      clear hD
      go_wp2
      exact bodyPost_ret (v := .agg #[.int .i64 65533, .int .i64 1]) (by simp [results, Tryz.results56, go_sem]) rfl (pb_mk (by rw [HD2.out]; rfl) (by rw [HD2.out]; rfl) ((Below.refl _ _).alloc (Nat.le_refl _) _))
    · have hD : D = (65533, 1) := HD.out.trans (if_pos (by omega))
      have HD2 := Lib.hid hD
      clear hD
      go_wp2
      exact bodyPost_ret (v := .agg #[.int .i64 65533, .int .i64 1]) (by simp [results, Tryz.results56, go_sem]) rfl (pb_mk (by rw [HD2.out]; rfl) (by rw [HD2.out]; rfl) ((Below.refl _ _).alloc (Nat.le_refl _) _))
    · have hD := HD.out.trans (if_neg (by omega))
      have HD2 := Lib.hid hD
      clear hD
      go_wp2
      exact bodyPost_ret (v := .agg #[.int .i64 ((((s[i].toNat : Nat) : Int) - 240) * 262144 + x * 4096 + y * 64 + v), .int .i64 4]) (by simp [results, Tryz.results56, go_sem]) rfl (pb_mk (by rw [HD2.out, hbt.out]; simp only []; omega) (by rw [HD2.out]; rfl) ((Below.refl _ _).alloc (Nat.le_refl _) _))

theorem four_any (s : ByteArray) (i : Nat) (w : World) (hs : s.size ≤ 9223372036854775800) (hi : i < s.size) (h : 240 ≤ bt s i ∧ bt s i ≤ 244) :
    Calls Tryz.prog 56 #[.string s, .int .i64 i] w (PointBelow (Utf8.decode s i).1 (Utf8.decode s i).2 w) :=
  four_core s i (if bt s i = 240 then 144 else 128) (if bt s i = 244 then 143 else 191) w hs hi h (by split <;> omega) (by split <;> omega) (by split <;> omega)
    (by (repeat' split) <;> omega) _ (dec_four s i hi h)
end Go.Proofs.YtpoafhgbhnblmaaGreatDoor
namespace Go.Proofs.YtpoafhgbhnblmaaGreatDoor
open Go.RowKit Go.Pub
theorem dec_rest (s : ByteArray) (i : Nat) (h : ¬ bt s i < 128) (h2 : ¬ (194 ≤ bt s i ∧ bt s i ≤ 223)) (h3 : ¬ (224 ≤ bt s i ∧ bt s i ≤ 239)) (h4 : ¬ (240 ≤ bt s i ∧ bt s i ≤ 244)) : Utf8.decode s i = (65533, 1) :=
  dec_bad_width s i (by unfold wd; rw [if_neg h, if_neg h2, if_neg h3, if_neg h4])
set_option maxRecDepth 100000 in
set_option maxHeartbeats 4000000 in
theorem at_any (s : ByteArray) (i : Nat) (w : World) (hs : s.size ≤ 9223372036854775800) (hi : i < s.size) :
    Calls Tryz.prog 37 #[.string s, .int .i64 i] w (PointBelow (Utf8.decode s i).1 (Utf8.decode s i).2 w) := by
  have hbt := Lib.hid (get_bt s i hi)
  have hlt : ((s[i].toNat : Nat) : Int) < 256 := by rw [get_bt s i hi]; have := bt_lt s i; omega
  by_cases c1 : bt s i < 128
  · have hD := Lib.hid (dec_one s i c1)
    generalize Utf8.decode s i = D at *
    have q : ((s[i].toNat : Nat) : Int) < 128 := by rw [get_bt s i hi]; omega
    go_enter Tryz.func37, Tryz.ntmps37
    go_wp2
    exact bodyPost_ret (v := .agg #[.int .i64 ((s[i].toNat : Nat) : Int), .int .i64 1]) (by simp [results, Tryz.results37, go_sem]) rfl (pb_mk (by rw [hD.out, hbt.out]) (by rw [hD.out]; rfl) ((Below.refl _ _).alloc (Nat.le_refl _) _))
  have q : 128 ≤ ((s[i].toNat : Nat) : Int) := by rw [get_bt s i hi]; omega
  by_cases c2 : 194 ≤ bt s i ∧ bt s i ≤ 223
  · have hD := Lib.hid (dec_two s i hi c2)
    have m1 := mo_bd s (i + 1) 128 191 (by omega)
    generalize Utf8.decode s i = D at *
    generalize hx : mo s (i + 1) 128 191 = x at *
    have Hx := Lib.hid hx
    clear hx
    have q2 : 194 ≤ ((s[i].toNat : Nat) : Int) := by rw [get_bt s i hi]; omega
    have q3 : ((s[i].toNat : Nat) : Int) ≤ 223 := by rw [get_bt s i hi]; omega
    clear c1
    by_cases hx0 : x < 0
    · have hD2 := Lib.hid (hD.out.trans (if_pos hx0))
      go_enter Tryz.func37, Tryz.ntmps37
      go_wp2_with fail
      refine (more_at _ _ _ s (i + 1) 128 191 _ (by omega) (by decide) (by decide) (by omega) rfl rfl).mono ?_
      rw [Hx.out]
      rintro e w' ⟨rfl, rfl⟩
      go_wp2
      exact bodyPost_ret (v := .agg #[.int .i64 65533, .int .i64 1]) (by simp [results, Tryz.results37, go_sem]) rfl (pb_mk (by rw [hD2.out]; rfl) (by rw [hD2.out]; rfl) ((Below.refl _ _).alloc (Nat.le_refl _) _))
    · have hD2 := Lib.hid (hD.out.trans (if_neg hx0))
      go_enter Tryz.func37, Tryz.ntmps37
      go_wp2_with fail
      refine (more_at _ _ _ s (i + 1) 128 191 _ (by omega) (by decide) (by decide) (by omega) rfl rfl).mono ?_
      rw [Hx.out]
      rintro e w' ⟨rfl, rfl⟩
      go_wp2
      exact bodyPost_ret (v := .agg #[.int .i64 ((((s[i].toNat : Nat) : Int) - 192) * 64 + x), .int .i64 2]) (by simp [results, Tryz.results37, go_sem]) rfl (pb_mk (by rw [hD2.out, hbt.out]; simp only []; omega) (by rw [hD2.out]; rfl) ((Below.refl _ _).alloc (Nat.le_refl _) _))
  by_cases c3 : 224 ≤ bt s i ∧ bt s i ≤ 239
  · have q2 : 224 ≤ ((s[i].toNat : Nat) : Int) := by rw [get_bt s i hi]; omega
    have q3 : ((s[i].toNat : Nat) : Int) ≤ 239 := by rw [get_bt s i hi]; omega
    have h3 := fun w => three_any s i w hs hi c3
    have H3 := Lib.hid h3
    clear h3 c1 c2
    generalize Utf8.decode s i = D at *
    go_enter Tryz.func37, Tryz.ntmps37
    go_wp2_with fail
    refine (H3.out _).mono ?_
    rintro e w1 ⟨rfl, hb1⟩
    have hz := hb1.size
    have hc0 : w1.cell? ⟨w.heap.size, 0, none⟩ = some (.int .i64 0) := by rw [hb1.cell (p := ⟨w.heap.size, 0, none⟩) (by simp)]; simp
    have hc1 : w1.cell? ⟨w.heap.size, 1, none⟩ = some (.int .i64 0) := by rw [hb1.cell (p := ⟨w.heap.size, 1, none⟩) (by simp)]; simp
    have hf0 : w1.frozen? ⟨w.heap.size, 0, none⟩ = false := by rw [hb1.frozen (p := ⟨w.heap.size, 0, none⟩) (by simp)]; simp
    have hf1 : w1.frozen? ⟨w.heap.size, 1, none⟩ = false := by rw [hb1.frozen (p := ⟨w.heap.size, 1, none⟩) (by simp)]; simp
    have hbw : Below w.heap.size w w1 := ((Below.refl _ w).alloc (Nat.le_refl _) _).trans (hb1.mono (by simp))
    go_wp2
    exact bodyPost_ret (v := .agg #[.int .i64 D.1, .int .i64 D.2]) (by simp [results, Tryz.results37, go_sem, hc0, hc1]) rfl (pb_mk rfl rfl ((hbw.setCell (by simp) _).setCell (by simp) _))
  by_cases c4 : 240 ≤ bt s i ∧ bt s i ≤ 244
  · have q2 : 240 ≤ ((s[i].toNat : Nat) : Int) := by rw [get_bt s i hi]; omega
    have q3 : ((s[i].toNat : Nat) : Int) ≤ 244 := by rw [get_bt s i hi]; omega
    have h3 := fun w => four_any s i w hs hi c4
    have H3 := Lib.hid h3
    clear h3 c1 c2 c3
    generalize Utf8.decode s i = D at *
    go_enter Tryz.func37, Tryz.ntmps37
    go_wp2_with fail
    refine (H3.out _).mono ?_
    rintro e w1 ⟨rfl, hb1⟩
    have hz := hb1.size
    have hc0 : w1.cell? ⟨w.heap.size, 0, none⟩ = some (.int .i64 0) := by rw [hb1.cell (p := ⟨w.heap.size, 0, none⟩) (by simp)]; simp
    have hc1 : w1.cell? ⟨w.heap.size, 1, none⟩ = some (.int .i64 0) := by rw [hb1.cell (p := ⟨w.heap.size, 1, none⟩) (by simp)]; simp
    have hf0 : w1.frozen? ⟨w.heap.size, 0, none⟩ = false := by rw [hb1.frozen (p := ⟨w.heap.size, 0, none⟩) (by simp)]; simp
    have hf1 : w1.frozen? ⟨w.heap.size, 1, none⟩ = false := by rw [hb1.frozen (p := ⟨w.heap.size, 1, none⟩) (by simp)]; simp
    have hbw : Below w.heap.size w w1 := ((Below.refl _ w).alloc (Nat.le_refl _) _).trans (hb1.mono (by simp))
    go_wp2
    exact bodyPost_ret (v := .agg #[.int .i64 D.1, .int .i64 D.2]) (by simp [results, Tryz.results37, go_sem, hc0, hc1]) rfl (pb_mk rfl rfl ((hbw.setCell (by simp) _).setCell (by simp) _))
  have hD := Lib.hid (dec_rest s i c1 c2 c3 c4)
  generalize Utf8.decode s i = D at *
  have c5 : bt s i < 194 ∨ 244 < bt s i := by omega
  clear c2 c3 c4 c1
  rcases c5 with c5 | c5
  · have q2 : ((s[i].toNat : Nat) : Int) < 194 := by rw [get_bt s i hi]; omega
    go_enter Tryz.func37, Tryz.ntmps37
    go_wp2
    exact bodyPost_ret (v := .agg #[.int .i64 65533, .int .i64 1]) (by simp [results, Tryz.results37, go_sem]) rfl (pb_mk (by rw [hD.out]; rfl) (by rw [hD.out]; rfl) ((Below.refl _ _).alloc (Nat.le_refl _) _))
  · have q2 : 244 < ((s[i].toNat : Nat) : Int) := by rw [get_bt s i hi]; omega
    go_enter Tryz.func37, Tryz.ntmps37
    go_wp2
    exact bodyPost_ret (v := .agg #[.int .i64 65533, .int .i64 1]) (by simp [results, Tryz.results37, go_sem]) rfl (pb_mk (by rw [hD.out]; rfl) (by rw [hD.out]; rfl) ((Below.refl _ _).alloc (Nat.le_refl _) _))

end Go.Proofs.YtpoafhgbhnblmaaGreatDoor
namespace Go.Pub
open Go.RowKit
def SliceOwn (e : TypeId) (size n : Nat) (xs : List Value) (w : World) (en : Ending) (w' : World) : Prop := ∃ v, en = .returned v ∧ w'.ownsRow w.heap.size e size v n xs ∧ Below w.heap.size w w'
end Go.Pub
namespace Go.Proofs.YtpoafhgbhnblmaaGreatDoor
open Go.RowKit Go.Pub
theorem ptInfo : (Tryz.prog.info? 59).map (fun i => (i.zero, i.size, i.bytes)) = some (some (.agg #[.int .i64 0, .int .i64 0]), 2, 16) := by kernel_rfl
set_option maxRecDepth 100000 in
set_option maxHeartbeats 4000000 in
theorem points_any (s : ByteArray) (w : World) (hs : s.size ≤ 1000000) : Calls Tryz.prog 28 #[.string s] w (SliceOwn 59 2 (pts s).length (ptCells (pts s)) w) := by
  obtain ⟨i0, hi0, hz0, hz1, hz2⟩ := info_parts ptInfo
  go_enter Tryz.func28, Tryz.ntmps28
  go_wp2
  go_loopw [3, 4] (fun v i wr => ∃ (pos f : Nat) (acc : List (Nat × Nat)), i = .int .i64 pos ∧ wr.ownsRow w.heap.size 59 2 v acc.length (ptCells acc) ∧ Below w.heap.size w wr ∧ acc ++ ptsFrom s f pos = pts s ∧ s.size ≤ pos + f ∧ pos ≤ s.size ∧ acc.length ≤ pos) (fun _ i _ => s.size - (intOf i).toNat)
  case atStart => exact ⟨0, s.size, [], rfl, World.ownsRow_nil _ _ _ _, Below.refl _ w, rfl, by omega, by omega, by simp⟩
  case round =>
    obtain ⟨pos, f, acc, rfl, hown, hbw, hacc, hf, hal, hacl⟩ := hrel
    have Hacc := Lib.hid hacc
    clear hacc
    by_cases hp : pos < s.size
    · have hd := dec_bd s pos hp
      have HN : Hid (∀ W, Calls Tryz.prog 37 #[.string s, .int .i64 pos] W (PointBelow (Utf8.decode s pos).1 (Utf8.decode s pos).2 W)) := Lib.hid fun W => at_any s pos W (by omega) hp
      have hall : Hid ((acc ++ [Utf8.decode s pos]) ++ ptsFrom s (f - 1) (pos + (Utf8.decode s pos).2) = pts s) := Lib.hid (by rw [← Hacc.out, ptsFrom_step s f pos hp hf]; simp)
      generalize Utf8.decode s pos = D at *
      go_wp2_with fail
      refine (HN.out _).mono ?_
      rintro e w1 ⟨rfl, hb1⟩
      have hbw1 : Below w.heap.size w w1 := hbw.trans (hb1.mono hbw.size)
      have hz := hb1.size
      have hzw := hbw.size
      have hown1 := own_below hown hb1
      go_wp2_with (at_builtin; refine wpList_append_own _ rfl _ _ 56 rfl w.heap.size 59 i0 _ 2 16 Tryz.underlying56 hi0 hz0 hz1 hz2 rfl (by decide) _ _ _ rfl ((hown1.alloc _).alloc _) ⟨w1.heap.size + 1, 0, none⟩ 1 1 [.int .i64 D.1, .int .i64 D.2] rfl rfl ?c1 ?c2 ?c3 ?c4 ?c5 ?_)
      case c1 =>
        intro j u hj
        match j, hj with
        | 0, hj => simp at hj; subst hj; simp [Addr.add]
        | 1, hj => simp at hj; subst hj; simp [Addr.add]
      case c2 => intro u hu; simp at hu; rcases hu with rfl | rfl <;> rfl
      case c3 => unfold maxLen; omega
      case c4 => omega
      case c5 => simp; omega
      intro v' w2 hown2 hgrow _
      have hnx : Below w.heap.size w w2 := ((hbw1.alloc (by omega) _).alloc (by simp; omega) _).grown hgrow (by simp; omega) (fun k hk => (hown1.lt k hk).1)
      have hc : w2.cell? ⟨w1.heap.size, 1, none⟩ = some (.int .i64 D.2) := by
        refine hgrow.cell ?_ ?_
        · simp
        · intro e
          have := (hown1.lt _ e.symm).2
          simp at this
      go_wp2
      go_roundw
      case rel =>
        refine ⟨pos + D.2, f - 1, acc ++ [D], by go_num, ?_, hnx, hall.out, by omega, by omega, by simp; omega⟩
        rw [ptCells_append, List.length_append]
        exact hown2
      case measure => simp [intOf]; omega
    · go_wp2
      go_ret
      rw [ptsFrom_end s f pos hp, List.append_nil] at Hacc
      exact ⟨_, rfl, by rw [← Hacc.out]; exact hown, hbw⟩

end Go.Proofs.YtpoafhgbhnblmaaGreatDoor
namespace Go.Pub
theorem add_plain (g k : Nat) : (⟨g, 0, none⟩ : Addr).add k = ⟨g, k, none⟩ := by unfold Addr.add; split <;> simp_all
end Go.Pub
namespace Go.Proofs.YtpoafhgbhnblmaaGreatDoor
open Go.RowKit Go.Pub
set_option maxRecDepth 100000 in
set_option maxHeartbeats 400000 in
theorem rclean_any (c : Int) (w : World) : Calls Tryz.prog 29 #[.int .i64 c] w fun e w' => e = .returned (.bool (!uncleanB c)) ∧ w = w' := by
  have H : Hid ((!uncleanB c) = !((decide (c < 32) && c != 10) || c == 127)) := Lib.hid rfl
  generalize (!uncleanB c) = b at *
  by_cases h2 : c = 10
  · subst h2
    go_enter Tryz.func29, Tryz.ntmps29
    go_wp2
    go_ret
    exact ⟨ret_bool (by rw [H.out]; rfl), rfl⟩
  · have h3 : (c == 10) = false := by simpa using h2
    clear h2
    by_cases h : 32 ≤ c
    · go_enter Tryz.func29, Tryz.ntmps29
      go_wp2
      go_ret
      exact ⟨ret_bool (by rw [H.out]; simp [show ¬ c < 32 by omega]; rfl), rfl⟩
    · go_enter Tryz.func29, Tryz.ntmps29
      go_wp2
      go_ret
      exact ⟨ret_bool (by rw [H.out]; simp at h3; simp; omega), rfl⟩

set_option maxRecDepth 100000 in
set_option maxHeartbeats 4000000 in
theorem rValid_any (s : ByteArray) (w : World) (hs : s.size ≤ 1000000) : Calls Tryz.prog 21 #[.string s] w fun e w' => e = .returned (.bool (validB s)) ∧ Below w.heap.size w w' := by
  have HV : Hid (validB s = (pts s).all okPt) := Lib.hid rfl
  have HP := Lib.hid (points_any s)
  have hlen := pts_length s
  generalize validB s = V at *
  generalize pts s = l at *
  go_enter Tryz.func21, Tryz.ntmps21
  go_wp2_with fail
  refine (HP.out _ hs).mono ?_
  rintro e w1 ⟨v, rfl, hown, hb1⟩
  obtain ⟨A, cp, rfl⟩ := own_slice hown
  have hrd := Reads.of_own hown
  go_wp2
  go_loopw [8] (fun i wr => ∃ k : Nat, i = .int .i64 k ∧ k ≤ l.length ∧ Below w1.heap.size w1 wr ∧ (l.take k).all okPt = true) (fun i _ => l.length - (intOf i).toNat)
  case atStart => exact ⟨0, rfl, by omega, Below.refl _ w1, rfl⟩
  case round =>
    obtain ⟨k, rfl, hk, hb, hok⟩ := hrel
    have Hok := Lib.hid hok
    clear hok
    by_cases hlt : k < l.length
    · obtain ⟨ad, rfl, hadb, hcell⟩ := hrd.2 (by omega)
      obtain ⟨g, hg⟩ : ∃ g, ad = ⟨g, 0, none⟩ := by
        obtain ⟨g, cap, hv, _⟩ := hown.form (by omega)
        injection hv with h1 h2 h3
        injection h1 with h1
        exact ⟨g, h1⟩
      subst hg
      have hp := ptCells_at l k l[k] (List.getElem?_eq_getElem hlt)
      have hc0 : wr.cell? ⟨g, k * 2, none⟩ = some (.int .i64 l[k].1) := (hb.cell (p := ⟨g, k * 2, none⟩) hadb).trans (by rw [← add_plain]; exact hcell _ _ hp.1)
      have hc1 : wr.cell? ⟨g, k * 2 + 1, none⟩ = some (.int .i64 l[k].2) := (hb.cell (p := ⟨g, k * 2 + 1, none⟩) hadb).trans (by rw [← add_plain]; exact hcell _ _ hp.2)
      have hz := hb.size
      have hVf : Hid (okPt l[k] = false → V = false) := Lib.hid fun h => by
        rw [HV.out, ← List.take_append_drop k l, List.drop_eq_getElem_cons hlt, List.all_append, List.all_cons, h]; simp
      have hVt : Hid (okPt l[k] = true → (l.take (k + 1)).all okPt = true) := Lib.hid fun h => by
        rw [List.take_succ_eq_append_getElem hlt, List.all_append, Hok.out]; simp [h]
      have hokp : Hid (okPt l[k] = (!(l[k].1 == 65533 && l[k].2 == 1) && !uncleanB l[k].1)) := Lib.hid rfl
      clear hp hcell
      generalize l[k] = D at *
      by_cases c3 : uncleanB D.1 = true
      · have Hv : Hid (V = false) := Lib.hid (hVf.out (by rw [hokp.out, c3]; simp))
        go_wp2_with (go_at_call 29; refine (rclean_any _ _).mono ?_; rw [c3]; rintro e w' ⟨rfl, rfl⟩)
        go_ret
        exact ⟨ret_bool Hv.out.symm, (hb1.trans (hb.mono hb1.size)).alloc (Nat.le_trans hb1.size hz) _⟩
      · rw [Bool.not_eq_true] at c3
        by_cases c1 : ((D.1 : Int) == 65533) = true
        · by_cases c2 : ((D.2 : Int) == 1) = true
          · have Hv : Hid (V = false) := Lib.hid (hVf.out (by rw [hokp.out, c3]; simp at c1 c2; simp; omega))
            go_wp2_with (go_at_call 29; refine (rclean_any _ _).mono ?_; rw [c3]; rintro e w' ⟨rfl, rfl⟩)
            go_ret
            exact ⟨ret_bool Hv.out.symm, (hb1.trans (hb.mono hb1.size)).alloc (Nat.le_trans hb1.size hz) _⟩
          · rw [Bool.not_eq_true] at c2
            have Hv := Lib.hid (hVt.out (by rw [hokp.out, c3]; simp at c1 c2; simp; omega))
            go_wp2_with (go_at_call 29; refine (rclean_any _ _).mono ?_; rw [c3]; rintro e w' ⟨rfl, rfl⟩)
            go_roundw
            case rel => exact ⟨k + 1, by go_num, by omega, hb.alloc hz _, Hv.out⟩
            case measure => simp [intOf]; omega
        · rw [Bool.not_eq_true] at c1
          have Hv := Lib.hid (hVt.out (by rw [hokp.out, c3]; simp at c1; simp; omega))
          go_wp2_with (go_at_call 29; refine (rclean_any _ _).mono ?_; rw [c3]; rintro e w' ⟨rfl, rfl⟩)
          go_roundw
          case rel => exact ⟨k + 1, by go_num, by omega, hb.alloc hz _, Hv.out⟩
          case measure => simp [intOf]; omega
    · obtain rfl : k = l.length := by omega
      have Hv : Hid (V = true) := Lib.hid (by rw [HV.out]; have := Hok.out; rwa [List.take_length] at this)
      go_wp2
      go_ret
      exact ⟨ret_bool Hv.out.symm, hb1.trans (hb.mono hb1.size)⟩

end Go.Proofs.YtpoafhgbhnblmaaGreatDoor
namespace Go.Pub
theorem indexByte_neg (l : List UInt8) (c : UInt8) : -1 ≤ Lib.indexByte l c ∧ (decide (Lib.indexByte l c < 0) = !l.contains c) := by
  induction l with
  | nil => exact ⟨Int.le_refl _, rfl⟩
  | cons b l ih =>
    unfold Lib.indexByte
    by_cases h : b = c
    · subst h; simp
    · have h1 : (b == c) = false := by simpa using h
      have h2 : (c == b) = false := by simpa using fun e => h e.symm
      rw [h1]
      simp only [Bool.false_eq_true, if_false, List.contains_cons, h2, Bool.false_or]
      by_cases h3 : Lib.indexByte l c = -1
      · rw [show (Lib.indexByte l c == -1) = true by simpa using h3, if_pos rfl]
        refine ⟨by decide, ?_⟩
        rw [← ih.2, h3]
      · rw [show (Lib.indexByte l c == -1) = false by simpa using h3, if_neg (by decide)]
        have := ih.1
        refine ⟨by omega, ?_⟩
        rw [← ih.2]
        rw [decide_eq_false (by omega), decide_eq_false (by omega)]
def noLF (s : ByteArray) : Bool := !(bytesL s).contains 10
end Go.Pub
namespace Go.Proofs.YtpoafhgbhnblmaaGreatDoor
open Go.RowKit Go.Pub
def lineB (s : ByteArray) : Bool := validB s && noLF s
set_option maxRecDepth 100000 in
set_option maxHeartbeats 2000000 in
theorem cleanLine_any (s : ByteArray) (w : World) (hs : s.size < 9223372036854775800) : Calls Tryz.prog 98 #[.string s] w fun e w' => e = .returned (.bool (lineB s)) ∧ Below w.heap.size w w' := by
  have HL : Hid (lineB s = (validB s && noLF s)) := Lib.hid rfl
  have HV := Lib.hid (valid_any s)
  have HX : Hid (∀ W, Calls Tryz.prog 91 #[.string s, .int .u8 10] W fun e w' => e = .returned (.int .i64 (Lib.indexByte (bytesL s) 10)) ∧ w' = W) := Lib.hid fun W => Tryz.strings_IndexByte s 10 W
  have HD : Hid (decide (Lib.indexByte (bytesL s) 10 < 0) = noLF s) := Lib.hid (indexByte_neg _ _).2
  generalize lineB s = R at *
  generalize validB s = V at *
  generalize Lib.indexByte (bytesL s) 10 = x at *
  cases V
  · go_enter Tryz.func98, Tryz.ntmps98
    go_wp2_with fail
    refine (HV.out _ hs).mono ?_
    rintro e w1 ⟨rfl, b1⟩
    go_wp2_with fail
    go_ret
    exact ⟨ret_bool (by rw [HL.out]; rfl), b1⟩
  · go_enter Tryz.func98, Tryz.ntmps98
    go_wp2_with fail
    refine (HV.out _ hs).mono ?_
    rintro e w1 ⟨rfl, b1⟩
    go_wp2_with fail
    refine (HX.out _).mono ?_
    rintro e w2 ⟨rfl, rfl⟩
    go_wp2
    go_ret
    exact ⟨ret_bool (by rw [HL.out, ← HD.out]; rfl), b1⟩

end Go.Proofs.YtpoafhgbhnblmaaGreatDoor
namespace Go.Pub
/-- What stands between quotation marks from place i on, and the place behind. -/
def qv (s : ByteArray) : Nat → Nat → List UInt8 → Option (List UInt8 × Nat)
  | 0, _, _ => none
  | f + 1, i, acc =>
    if i < s.size then
      (if bt s i = 34 then some (acc, i + 1)
       else if bt s i = 92 then (if i + 1 < s.size ∧ (bt s (i + 1) = 34 ∨ bt s (i + 1) = 92) then qv s f (i + 2) (acc ++ [s.get! (i + 1)]) else none)
       else qv s f (i + 1) (acc ++ [s.get! i]))
    else none
theorem qv_end (s : ByteArray) (f i : Nat) (acc : List UInt8) (h : ¬ i < s.size) : qv s f i acc = none := by
  cases f <;> simp [qv, h]
theorem qv_quote (s : ByteArray) (f i : Nat) (acc : List UInt8) (h : i < s.size) (hf : s.size ≤ i + f) (hb : bt s i = 34) : qv s f i acc = some (acc, i + 1) := by
  obtain ⟨g, rfl⟩ : ∃ g, f = g + 1 := ⟨f - 1, by omega⟩
  simp [qv, h, hb]
theorem qv_esc (s : ByteArray) (f i : Nat) (acc : List UInt8) (h : i < s.size) (hf : s.size ≤ i + f) (hb : bt s i = 92) : qv s f i acc = if i + 1 < s.size ∧ (bt s (i + 1) = 34 ∨ bt s (i + 1) = 92) then qv s (f - 1) (i + 2) (acc ++ [s.get! (i + 1)]) else none := by
  obtain ⟨g, rfl⟩ : ∃ g, f = g + 1 := ⟨f - 1, by omega⟩
  simp only [qv, if_pos h, if_neg (show ¬ bt s i = 34 by omega), if_pos hb, Nat.add_sub_cancel]
theorem qv_plain (s : ByteArray) (f i : Nat) (acc : List UInt8) (h : i < s.size) (hf : s.size ≤ i + f) (h1 : bt s i ≠ 34) (h2 : bt s i ≠ 92) : qv s f i acc = qv s (f - 1) (i + 1) (acc ++ [s.get! i]) := by
  obtain ⟨g, rfl⟩ : ∃ g, f = g + 1 := ⟨f - 1, by omega⟩
  simp only [qv, if_pos h, if_neg h1, if_neg h2, Nat.add_sub_cancel]
theorem qv_len (s : ByteArray) : ∀ f i acc l j, qv s f i acc = some (l, j) → l.length ≤ acc.length + (s.size - i) ∧ i < j ∧ j ≤ s.size
  | 0, i, acc, l, j, h => by simp [qv] at h
  | f + 1, i, acc, l, j, h => by
    unfold qv at h
    split at h
    · rename_i hi
      split at h
      · injection h with h; injection h with h1 h2; subst h1 h2; omega
      · split at h
        · split at h
          · rename_i hq
            have := qv_len s f _ _ l j h
            simp at this; omega
          · cases h
        · have := qv_len s f _ _ l j h
          simp at this; omega
    · cases h
end Go.Pub
namespace Go.Proofs.YtpoafhgbhnblmaaGreatDoor
open Go.RowKit Go.Pub
def valOf (o : Option (List UInt8 × Nat)) : ByteArray × Nat × Bool :=
  match o with
  | some (l, j) => (mk l, j, lineB (mk l))
  | none => (⟨#[]⟩, 0, false)
def TripleBelow (r : ByteArray × Nat × Bool) (w : World) (e : Ending) (w' : World) : Prop := e = .returned (.tuple #[.string r.1, .int .i64 r.2.1, .bool r.2.2]) ∧ Below w.heap.size w w'
theorem byte_cell (s : ByteArray) (k : Nat) : Lib.byteCells [s.get! k] = [.int .u8 (bt s k)] := rfl
def VRel (s : ByteArray) (R : Option (List UInt8 × Nat)) (w : World) (i : Value) (wr : World) : Prop :=
  ∃ (k f : Nat) (acc : List UInt8), i = .int .i64 k ∧ Lib.IsBuilderF 158 5 w.heap.size w.heap.size (Lib.byteCells acc) wr ∧ Below w.heap.size w wr ∧ qv s f k acc = R ∧ s.size ≤ k + f ∧ acc.length ≤ k ∧ w.heap.size < wr.heap.size
set_option maxRecDepth 100000 in
set_option maxHeartbeats 8000000 in
theorem readValue_q (s : ByteArray) (i : Nat) (w : World) (hs : s.size ≤ 1000000) (hi : i < s.size) (hq : bt s i = 34) : Calls Tryz.prog 232 #[.string s, .int .i64 i] w (TripleBelow (valOf (qv s s.size (i + 1) [])) w) := by
  have hlt0 : ((s[i].toNat : Nat) : Int) < 256 := by rw [get_bt s i hi]; have := bt_lt s i; omega
  have z0 : (((s[i].toNat : Nat) : Int) != 34) = false := by rw [get_bt s i hi, hq]; rfl
  have hlenq : Hid (∀ l j, qv s s.size (i + 1) [] = some (l, j) → l.length ≤ s.size) := Lib.hid fun l j h => by
    have := (qv_len s _ _ _ l j h).1; simp at this; omega
  have Hq := Lib.hid hq
  have d0 : decide (s.size ≤ i) = false := decide_eq_false (by omega)
  clear hq
  generalize hR : qv s s.size (i + 1) [] = R at *
  have HR := Lib.hid hR
  clear hR
  have HVO : Hid (∀ l j, R = some (l, j) → valOf R = (mk l, j, lineB (mk l))) := Lib.hid fun l j h => by rw [h]; rfl
  have HVN : Hid (R = none → valOf R = (⟨#[]⟩, 0, false)) := Lib.hid fun h => by rw [h]; rfl
  generalize valOf R = T at *
  go_enter Tryz.func232, Tryz.ntmps232
  go_wp2
  go_loopw [8] (fun v wr => VRel s R w v wr) (fun v _ => s.size - (intOf v).toNat)
  case atStart => exact ⟨i + 1, s.size, [], by go_num, Lib.IsBuilderF.of (Lib.fresh_isBuilder 158 5 w), (Below.refl _ w).alloc (Nat.le_refl _) _, HR.out, by omega, by simp, by simp⟩
  case round =>
    obtain ⟨k, f, acc, rfl, hI, hbw, hacc, hf, hal, hsz⟩ := hrel
    have Hacc := Lib.hid hacc
    clear hacc
    by_cases hk : k < s.size
    · have hb := bt_lt s k
      have hlt : ((s[k].toNat : Nat) : Int) < 256 := by rw [get_bt s k hk]; omega
      have hbi := Lib.hid (bt_int s k hk)
      by_cases c1 : bt s k = 34
      · have z1 : (((s[k].toNat : Nat) : Int) == 34) = true := by rw [get_bt s k hk, c1]; rfl
        have hT := Lib.hid (HVO.out acc (k + 1) (by rw [← Hacc.out, qv_quote s f k acc hk hf c1]))
        have hll : acc.length ≤ s.size := hlenq.out acc (k + 1) (by rw [← Hacc.out, qv_quote s f k acc hk hf c1])
        have HCL := Lib.hid (cleanLine_any (mk acc))
        have hms : (mk acc).size ≤ 1000000 := by rw [← bytesL_length, bytesL_mk']; omega
        clear c1
        go_wp2_with fail
        refine (Tryz.Builder_String_any_k w.heap.size w.heap.size acc _ hI (by omega)).mono ?_
        rintro e W1 ⟨rfl, h1, b1, _⟩
        have hz1 := b1.size
        go_wp2_with fail
        refine (Tryz.Builder_String_any_k w.heap.size w.heap.size acc _ h1 (by omega)).mono ?_
        rintro e W2 ⟨rfl, h2, b2, _⟩
        have hz2 := b2.size
        go_wp2_with fail
        refine (HCL.out _ (by omega)).mono ?_
        rintro e W3 ⟨rfl, b3⟩
        go_wp2
        go_ret3
        refine ⟨?_, (((hbw.trans b1).trans b2).trans (b3.mono (by omega)))⟩
        rw [hT.out]; rfl
      · have z1 : (((s[k].toNat : Nat) : Int) == 34) = false := by rw [get_bt s k hk, beq_eq_false_iff_ne]; omega
        by_cases c2 : bt s k = 92
        · have z2 : (((s[k].toNat : Nat) : Int) == 92) = true := by rw [get_bt s k hk, c2]; rfl
          have hst := Lib.hid (qv_esc s f k acc hk hf c2)
          clear c1 c2
          by_cases hk1 : k + 1 < s.size
          · have hb1 := bt_lt s (k + 1)
            have hlt1 : ((s[k + 1].toNat : Nat) : Int) < 256 := by rw [get_bt s _ hk1]; omega
            have hbi1 := Lib.hid (bt_int s (k + 1) hk1)
            by_cases c3 : bt s (k + 1) = 34 ∨ bt s (k + 1) = 92
            · have hR1 := Lib.hid (hst.out.symm.trans Hacc.out)
              have hR2 : Hid (qv s (f - 1) (k + 2) (acc ++ [s.get! (k + 1)]) = R) := Lib.hid (by rw [← hR1.out, if_pos ⟨hk1, c3⟩])
              have cc : (((s[k + 1].toNat : Nat) : Int) != 34) = false ∨ ((((s[k + 1].toNat : Nat) : Int) != 34) = true ∧ (((s[k + 1].toNat : Nat) : Int) != 92) = false) := by
                rw [get_bt s _ hk1]
                rcases c3 with c | c
                · left; rw [c]; rfl
                · right; rw [c]; exact ⟨rfl, rfl⟩
              clear c3
              rcases cc with z3 | ⟨z3, z4⟩
              all_goals
                go_wp2_with fail
                refine (writeByte_k w.heap.size w.heap.size _ _ _ hI (by rw [Lib.byteCells_length]; omega) (by omega)).mono ?_
                rintro e W1 ⟨rfl, h1, b1, _⟩
                have hz1 := b1.size
                go_wp2
                go_roundw
                case rel => exact ⟨k + 2, f - 1, acc ++ [s.get! (k + 1)], by go_num, by rw [Lib.byteCells_append, byte_cell, ← hbi1.out]; exact Or.inr h1, hbw.trans b1, hR2.out, by omega, by simp; omega, by omega⟩
                case measure => simp [intOf]; omega
            · have hRn : Hid (T = (⟨#[]⟩, 0, false)) := Lib.hid (HVN.out (by rw [← Hacc.out, hst.out, if_neg (by intro h; exact c3 h.2)]))
              have z3 : (((s[k + 1].toNat : Nat) : Int) != 34) = true := by rw [get_bt s _ hk1]; simp; omega
              have z4 : (((s[k + 1].toNat : Nat) : Int) != 92) = true := by rw [get_bt s _ hk1]; simp; omega
              clear c3
              go_wp2_with fail
              go_ret3
              refine ⟨?_, hbw⟩
              rw [hRn.out]; rfl
          · have hRn : Hid (T = (⟨#[]⟩, 0, false)) := Lib.hid (HVN.out (by rw [← Hacc.out, hst.out, if_neg (by intro h; exact hk1 h.1)]))
            go_wp2_with fail
            go_ret3
            refine ⟨?_, hbw⟩
            rw [hRn.out]; rfl
        · have z2 : (((s[k].toNat : Nat) : Int) == 92) = false := by rw [get_bt s k hk, beq_eq_false_iff_ne]; omega
          have hR2 : Hid (qv s (f - 1) (k + 1) (acc ++ [s.get! k]) = R) := Lib.hid (by rw [← Hacc.out, qv_plain s f k acc hk hf c1 c2])
          clear c1 c2
          go_wp2_with fail
          refine (writeByte_k w.heap.size w.heap.size _ _ _ hI (by rw [Lib.byteCells_length]; omega) (by omega)).mono ?_
          rintro e W1 ⟨rfl, h1, b1, _⟩
          have hz1 := b1.size
          go_wp2
          go_roundw
          case rel => exact ⟨k + 1, f - 1, acc ++ [s.get! k], by go_num, by rw [Lib.byteCells_append, byte_cell, ← hbi.out]; exact Or.inr h1, hbw.trans b1, hR2.out, by omega, by simp; omega, by omega⟩
          case measure => simp [intOf]; omega
    · have hRn : Hid (T = (⟨#[]⟩, 0, false)) := Lib.hid (HVN.out (by rw [← Hacc.out, qv_end s f k acc hk]))
      go_wp2
      go_ret3
      refine ⟨?_, hbw⟩
      rw [hRn.out]; rfl

end Go.Proofs.YtpoafhgbhnblmaaGreatDoor
