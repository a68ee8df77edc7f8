/-
  Texts of the proof, put together: RefA.
-/
import Derived.Test.YthfienjmigidbaaGreatDoorRows
import Derived.Test.YthfienjmigidbaaGreatDoorB01
import Derived.Test.YthfienjmigidbaaGreatDoorB02
import Derived.WalkKit
import Derived.WalkSpells
import Derived.WalkLawsBesides
import Derived.Deep.QuietTactic
import Derived.BigQuiet
import Derived.Lib.Hide
set_option linter.unusedVariables false
set_option linter.unusedSimpArgs false
namespace Go.Pub
open Go.RowKit
/-- What the reference's more gives. -/
def mo (s : ByteArray) (k lo hi : Nat) : Int := if k < s.size ∧ lo ≤ bt s k ∧ bt s k ≤ hi then (bt s k : Int) - 128 else -1
theorem mo_bd (s : ByteArray) (k lo hi : Nat) (h : 128 ≤ lo) : -1 ≤ mo s k lo hi ∧ mo s k lo hi ≤ 127 := by
  unfold mo
  have := bt_lt s k
  split <;> omega
def PointBelow (c n : Int) (w : World) (e : Ending) (w' : World) : Prop := e = .returned (.agg #[.int .i64 c, .int .i64 n]) ∧ Below w.heap.size w w'

theorem pb_mk {c n : Int} {D : Nat × Nat} {w w' : World} (h1 : c = D.1) (h2 : n = D.2) (hb : Below w.heap.size w w') : PointBelow D.1 D.2 w (.returned (.agg #[.int .i64 c, .int .i64 n])) w' := by
  subst h1 h2; exact ⟨rfl, hb⟩

theorem dec_three (s : ByteArray) (i : Nat) (hi : i < s.size) (h : 224 ≤ bt s i ∧ bt s i ≤ 239) :
    Utf8.decode s i = if mo s (i + 1) (if bt s i = 224 then 160 else 128) (if bt s i = 237 then 159 else 191) < 0 ∨ mo s (i + 2) 128 191 < 0 then (65533, 1)
      else ((((bt s i : Int) - 224) * 4096 + mo s (i + 1) (if bt s i = 224 then 160 else 128) (if bt s i = 237 then 159 else 191) * 64 + mo s (i + 2) 128 191).toNat, 3) := by
  rw [Lib.decode_at]
  show Lib.decodeN _ (bt s i) (bt s (i + 1)) (bt s (i + 2)) (bt s (i + 3)) = _
  unfold mo Lib.decodeN
  have g1 := bt_lt s (i + 1)
  have g2 := bt_lt s (i + 2)
  generalize bt s i = b0 at *
  generalize bt s (i + 1) = b1 at *
  generalize bt s (i + 2) = b2 at *
  rw [if_neg (by omega), if_neg (by omega)]
  by_cases hc : b0 / 16 = 14 ∧ (1 < s.size - i ∧ b1 / 64 = 2) ∧ (2 < s.size - i ∧ b2 / 64 = 2)
  · rw [if_pos hc]
    by_cases e0 : b0 = 224
    · subst e0
      simp only [if_true, show ¬ (224 = 237) by decide, if_false]
      (repeat' split) <;> first | rfl | (exfalso; omega) | (simp only [Prod.mk.injEq, and_true]; omega)
    · by_cases e1 : b0 = 237
      · subst e1
        simp only [if_true, show ¬ (237 = 224) by decide, if_false]
        (repeat' split) <;> first | rfl | (exfalso; omega) | (simp only [Prod.mk.injEq, and_true]; omega)
      · simp only [e0, e1, if_false]
        (repeat' split) <;> first | rfl | (exfalso; omega) | (simp only [Prod.mk.injEq, and_true]; omega)
  · rw [if_neg hc, if_neg (by omega)]
    (repeat' split) <;> first | rfl | (exfalso; omega)

theorem dec_four (s : ByteArray) (i : Nat) (hi : i < s.size) (h : 240 ≤ bt s i ∧ bt s i ≤ 244) :
    Utf8.decode s i = if mo s (i + 1) (if bt s i = 240 then 144 else 128) (if bt s i = 244 then 143 else 191) < 0 ∨ mo s (i + 2) 128 191 < 0 ∨ mo s (i + 3) 128 191 < 0 then (65533, 1)
      else ((((bt s i : Int) - 240) * 262144 + mo s (i + 1) (if bt s i = 240 then 144 else 128) (if bt s i = 244 then 143 else 191) * 4096 + mo s (i + 2) 128 191 * 64 + mo s (i + 3) 128 191).toNat, 4) := by
  rw [Lib.decode_at]
  show Lib.decodeN _ (bt s i) (bt s (i + 1)) (bt s (i + 2)) (bt s (i + 3)) = _
  unfold mo Lib.decodeN
  have g1 := bt_lt s (i + 1)
  have g2 := bt_lt s (i + 2)
  have g3 := bt_lt s (i + 3)
  generalize bt s i = b0 at *
  generalize bt s (i + 1) = b1 at *
  generalize bt s (i + 2) = b2 at *
  generalize bt s (i + 3) = b3 at *
  rw [if_neg (by omega), if_neg (by omega), if_neg (by omega)]
  by_cases hc : b0 / 8 = 30 ∧ (1 < s.size - i ∧ b1 / 64 = 2) ∧ (2 < s.size - i ∧ b2 / 64 = 2) ∧ (3 < s.size - i ∧ b3 / 64 = 2)
  · rw [if_pos hc]
    by_cases e0 : b0 = 240
    · subst e0
      simp only [if_true, show ¬ (240 = 244) by decide, if_false]
      (repeat' split) <;> first | rfl | (exfalso; omega) | (simp only [Prod.mk.injEq, and_true]; omega)
    · by_cases e1 : b0 = 244
      · subst e1
        simp only [if_true, show ¬ (244 = 240) by decide, if_false]
        (repeat' split) <;> first | rfl | (exfalso; omega) | (simp only [Prod.mk.injEq, and_true]; omega)
      · simp only [e0, e1, if_false]
        (repeat' split) <;> first | rfl | (exfalso; omega) | (simp only [Prod.mk.injEq, and_true]; omega)
  · rw [if_neg hc]
    (repeat' split) <;> first | rfl | (exfalso; omega)

theorem dec_two (s : ByteArray) (i : Nat) (hi : i < s.size) (h : 194 ≤ bt s i ∧ bt s i ≤ 223) :
    Utf8.decode s i = if mo s (i + 1) 128 191 < 0 then (65533, 1) else ((((bt s i : Int) - 192) * 64 + mo s (i + 1) 128 191).toNat, 2) := by
  rw [Lib.decode_at]
  show Lib.decodeN _ (bt s i) (bt s (i + 1)) (bt s (i + 2)) (bt s (i + 3)) = _
  unfold mo Lib.decodeN
  have g1 := bt_lt s (i + 1)
  generalize bt s i = b0 at *
  generalize bt s (i + 1) = b1 at *
  rw [if_neg (by omega)]
  by_cases hc : b0 / 32 = 6 ∧ (1 < s.size - i ∧ b1 / 64 = 2)
  · rw [if_pos hc]
    (repeat' split) <;> first | rfl | (exfalso; omega) | (simp only [Prod.mk.injEq, and_true]; omega)
  · rw [if_neg hc, if_neg (by omega), if_neg (by omega)]
    (repeat' split) <;> first | rfl | (exfalso; omega)
end Go.Pub

namespace Go.Proofs.YthfienjmigidbaaGreatDoor
open Go.RowKit Go.Pub



set_option maxRecDepth 100000 in
set_option maxHeartbeats 1000000 in
theorem more_any (s : ByteArray) (k lo hi : Nat) (w : World) (hs : s.size ≤ 9223372036854775807) (hlo : lo ≤ 255) (hhi : hi ≤ 255) :
    Calls Tryz.prog 130 #[.string s, .int .i64 k, .int .i64 lo, .int .i64 hi] w fun e w' => e = .returned (.int .i64 (mo s k lo hi)) ∧ w = w' := by
  by_cases hk : k < s.size
  · have hb := bt_lt s k
    have hlt : ((s[k].toNat : Nat) : Int) < 256 := by rw [get_bt s k hk]; omega
    have hbt := Lib.hid (get_bt s k hk)
    have HM : Hid (mo s k lo hi = if lo ≤ bt s k ∧ bt s k ≤ hi then (bt s k : Int) - 128 else -1) := Lib.hid (by unfold mo; simp [hk])
    generalize mo s k lo hi = m at *
    by_cases h1 : lo ≤ bt s k
    · have h1' : lo ≤ s[k].toNat := by rw [get_bt s k hk]; exact h1
      have d1 : decide (s[k].toNat < lo) = false := by simp; omega
      by_cases h2 : bt s k ≤ hi
      · have h2' : s[k].toNat ≤ hi := by rw [get_bt s k hk]; exact h2
        have d2 : decide (hi < s[k].toNat) = false := by simp; omega
        go_enter Tryz.func130, Tryz.ntmps130
        go_wp2
        go_ret
        exact ⟨ret_int (by rw [HM.out, if_pos ⟨h1, h2⟩, hbt.out]), rfl⟩
      · have h2' : hi < s[k].toNat := by rw [get_bt s k hk]; omega
        have d2 : decide (hi < s[k].toNat) = true := by simp; omega
        go_enter Tryz.func130, Tryz.ntmps130
        go_wp2
        go_ret
        exact ⟨ret_int (by rw [HM.out, if_neg (by omega)]), rfl⟩
    · have h1' : s[k].toNat < lo := by rw [get_bt s k hk]; omega
      have d1 : decide (s[k].toNat < lo) = true := by simp; omega
      go_enter Tryz.func130, Tryz.ntmps130
      go_wp2
      go_ret
      exact ⟨ret_int (by rw [HM.out, if_neg (by omega)]), rfl⟩
  · have hm : mo s k lo hi = -1 := by unfold mo; rw [if_neg (by omega)]
    rw [hm]
    clear hm
    go_enter Tryz.func130, Tryz.ntmps130
    go_wp2
    go_ret
    exact ⟨rfl, rfl⟩

theorem more_at (kI loI hiI : Int) (s : ByteArray) (k lo hi : Nat) (w : World) (hs : s.size ≤ 9223372036854775807) (hlo : lo ≤ 255) (hhi : hi ≤ 255) (ek : kI = k) (el : loI = lo) (eh : hiI = hi) :
    Calls Tryz.prog 130 #[.string s, .int .i64 kI, .int .i64 loI, .int .i64 hiI] w fun e w' => e = .returned (.int .i64 (mo s k lo hi)) ∧ w = w' := by
  subst ek el eh; exact more_any s k lo hi w hs hlo hhi

set_option maxRecDepth 100000 in
set_option maxHeartbeats 2000000 in
theorem three_core (s : ByteArray) (i lo hi : Nat) (w : World) (hs : s.size ≤ 9223372036854775800) (hi' : i < s.size) (h : 224 ≤ bt s i ∧ bt s i ≤ 239) (hlo : lo ≤ 255) (hhi : hi ≤ 255) (hlo' : 128 ≤ lo)
    (z : (lo = 160 ∧ hi = 191 ∧ bt s i = 224) ∨ (lo = 128 ∧ hi = 159 ∧ bt s i = 237) ∨ (lo = 128 ∧ hi = 191 ∧ bt s i ≠ 224 ∧ bt s i ≠ 237)) (D : Nat × Nat)
    (hD : D = if mo s (i + 1) lo hi < 0 ∨ mo s (i + 2) 128 191 < 0 then (65533, 1) else ((((bt s i : Int) - 224) * 4096 + mo s (i + 1) lo hi * 64 + mo s (i + 2) 128 191).toNat, 3)) :
    Calls Tryz.prog 131 #[.string s, .int .i64 i] w (PointBelow D.1 D.2 w) := by
  have m1 := mo_bd s (i + 1) lo hi (by omega)
  have m2 := mo_bd s (i + 2) 128 191 (by omega)
  have HD := Lib.hid hD
  clear hD
  have hlt : ((s[i].toNat : Nat) : Int) ≤ 239 := by rw [get_bt s i hi']; omega
  have hlt0 : 224 ≤ ((s[i].toNat : Nat) : Int) := by rw [get_bt s i hi']; omega
  have hbt := Lib.hid (get_bt s i hi')
  generalize hx : mo s (i + 1) lo hi = x at *
  generalize hy : mo s (i + 2) 128 191 = y at *
  have Hx := Lib.hid hx
  have Hy := Lib.hid hy
  clear hx hy
  have hlt' : bt s i < 256 := bt_lt s i
  have fin : x < 0 ∨ y < 0 ∨ (0 ≤ x ∧ 0 ≤ y) := by omega
  rcases z with ⟨rfl, rfl, e0⟩ | ⟨rfl, rfl, e0⟩ | ⟨rfl, rfl, e0, e1⟩
  all_goals
    first
      | (have z0 : (((s[i].toNat : Nat) : Int) == 224) = true := by rw [get_bt s i hi', e0]; rfl)
      | (have z0 : (((s[i].toNat : Nat) : Int) == 224) = false := by rw [get_bt s i hi']; simp; omega)
    first
      | (have z1 : (((s[i].toNat : Nat) : Int) == 237) = true := by rw [get_bt s i hi', e0]; rfl)
      | (have z1 : (((s[i].toNat : Nat) : Int) == 237) = false := by rw [get_bt s i hi']; simp; omega)
    have E0 := Lib.hid e0
    clear e0
    go_enter Tryz.func131, Tryz.ntmps131
    go_wp2_with fail
    refine (more_at _ _ _ s (i + 1) _ _ _ (by omega) hlo hhi (by omega) rfl rfl).mono ?_
    rw [Hx.out]
    rintro e w' ⟨rfl, rfl⟩
    go_wp2_with fail
    refine (more_at _ _ _ s (i + 2) 128 191 _ (by omega) (by decide) (by decide) (by omega) rfl rfl).mono ?_
    rw [Hy.out]
    rintro e w' ⟨rfl, rfl⟩
    rcases fin with f | f | ⟨f1, f2⟩
    · have hD : D = (65533, 1) := HD.out.trans (if_pos (Or.inl f))
      have HD2 := Lib.hid hD
      clear hD
      go_wp2
      exact bodyPost_ret (v := .agg #[.int .i64 65533, .int .i64 1]) (by simp [results, Tryz.results131, go_sem]) rfl (pb_mk (by rw [HD2.out]; rfl) (by rw [HD2.out]; rfl) ((Below.refl _ _).alloc (Nat.le_refl _) _))
    · have hD : D = (65533, 1) := HD.out.trans (if_pos (Or.inr f))
      have HD2 := Lib.hid hD
      clear hD
      by_cases f0 : x < 0
      all_goals
        go_wp2
        exact bodyPost_ret (v := .agg #[.int .i64 65533, .int .i64 1]) (by simp [results, Tryz.results131, go_sem]) rfl (pb_mk (by rw [HD2.out]; rfl) (by rw [HD2.out]; rfl) ((Below.refl _ _).alloc (Nat.le_refl _) _))
    · have hD := HD.out.trans (if_neg (by omega))
      have HD2 := Lib.hid hD
      clear hD
      go_wp2
      exact bodyPost_ret (v := .agg #[.int .i64 ((((s[i].toNat : Nat) : Int) - 224) * 4096 + x * 64 + y), .int .i64 3]) (by simp [results, Tryz.results131, go_sem]) rfl (pb_mk (by rw [HD2.out, hbt.out]; simp only []; omega) (by rw [HD2.out]; rfl) ((Below.refl _ _).alloc (Nat.le_refl _) _))

theorem three_any (s : ByteArray) (i : Nat) (w : World) (hs : s.size ≤ 9223372036854775800) (hi : i < s.size) (h : 224 ≤ bt s i ∧ bt s i ≤ 239) :
    Calls Tryz.prog 131 #[.string s, .int .i64 i] w (PointBelow (Utf8.decode s i).1 (Utf8.decode s i).2 w) :=
  three_core s i (if bt s i = 224 then 160 else 128) (if bt s i = 237 then 159 else 191) w hs hi h (by split <;> omega) (by split <;> omega) (by split <;> omega)
    (by (repeat' split) <;> omega) _ (dec_three s i hi h)

set_option maxRecDepth 100000 in
set_option maxHeartbeats 2000000 in
theorem four_core (s : ByteArray) (i lo hi : Nat) (w : World) (hs : s.size ≤ 9223372036854775800) (hi' : i < s.size) (h : 240 ≤ bt s i ∧ bt s i ≤ 244) (hlo : lo ≤ 255) (hhi : hi ≤ 255) (hlo' : 128 ≤ lo)
    (z : (lo = 144 ∧ hi = 191 ∧ bt s i = 240) ∨ (lo = 128 ∧ hi = 143 ∧ bt s i = 244) ∨ (lo = 128 ∧ hi = 191 ∧ bt s i ≠ 240 ∧ bt s i ≠ 244)) (D : Nat × Nat)
    (hD : D = if mo s (i + 1) lo hi < 0 ∨ mo s (i + 2) 128 191 < 0 ∨ mo s (i + 3) 128 191 < 0 then (65533, 1) else ((((bt s i : Int) - 240) * 262144 + mo s (i + 1) lo hi * 4096 + mo s (i + 2) 128 191 * 64 + mo s (i + 3) 128 191).toNat, 4)) :
    Calls Tryz.prog 132 #[.string s, .int .i64 i] w (PointBelow D.1 D.2 w) := by
  have m1 := mo_bd s (i + 1) lo hi (by omega)
  have m2 := mo_bd s (i + 2) 128 191 (by omega)
  have m3 := mo_bd s (i + 3) 128 191 (by omega)
  have HD := Lib.hid hD
  clear hD
  have hlt : ((s[i].toNat : Nat) : Int) ≤ 244 := by rw [get_bt s i hi']; omega
  have hlt0 : 240 ≤ ((s[i].toNat : Nat) : Int) := by rw [get_bt s i hi']; omega
  have hbt := Lib.hid (get_bt s i hi')
  generalize hx : mo s (i + 1) lo hi = x at *
  generalize hy : mo s (i + 2) 128 191 = y at *
  generalize hv : mo s (i + 3) 128 191 = v at *
  have Hx := Lib.hid hx
  have Hy := Lib.hid hy
  have Hv := Lib.hid hv
  clear hx hy hv
  have hlt' : bt s i < 256 := bt_lt s i
  have fin : x < 0 ∨ (0 ≤ x ∧ y < 0) ∨ (0 ≤ x ∧ 0 ≤ y ∧ v < 0) ∨ (0 ≤ x ∧ 0 ≤ y ∧ 0 ≤ v) := by omega
  rcases z with ⟨rfl, rfl, e0⟩ | ⟨rfl, rfl, e0⟩ | ⟨rfl, rfl, e0, e1⟩
  all_goals
    first
      | (have z0 : (((s[i].toNat : Nat) : Int) == 240) = true := by rw [get_bt s i hi', e0]; rfl)
      | (have z0 : (((s[i].toNat : Nat) : Int) == 240) = false := by rw [get_bt s i hi']; simp; omega)
    first
      | (have z1 : (((s[i].toNat : Nat) : Int) == 244) = true := by rw [get_bt s i hi', e0]; rfl)
      | (have z1 : (((s[i].toNat : Nat) : Int) == 244) = false := by rw [get_bt s i hi']; simp; omega)
    have E0 := Lib.hid e0
    clear e0
    go_enter Tryz.func132, Tryz.ntmps132
    go_wp2_with fail
    refine (more_at _ _ _ s (i + 1) _ _ _ (by omega) hlo hhi (by omega) rfl rfl).mono ?_
    rw [Hx.out]
    rintro e w' ⟨rfl, rfl⟩
    go_wp2_with fail
    refine (more_at _ _ _ s (i + 2) 128 191 _ (by omega) (by decide) (by decide) (by omega) rfl rfl).mono ?_
    rw [Hy.out]
    rintro e w' ⟨rfl, rfl⟩
    go_wp2_with fail
    refine (more_at _ _ _ s (i + 3) 128 191 _ (by omega) (by decide) (by decide) (by omega) rfl rfl).mono ?_
    rw [Hv.out]
    rintro e w' ⟨rfl, rfl⟩
    rcases fin with f | ⟨f1, f⟩ | ⟨f1, f2, f⟩ | ⟨f1, f2, f⟩
    · have hD : D = (65533, 1) := HD.out.trans (if_pos (by omega))
      have HD2 := Lib.hid hD
      clear hD
      go_wp2
      exact bodyPost_ret (v := .agg #[.int .i64 65533, .int .i64 1]) (by simp [results, Tryz.results132, go_sem]) rfl (pb_mk (by rw [HD2.out]; rfl) (by rw [HD2.out]; rfl) ((Below.refl _ _).alloc (Nat.le_refl _) _))
    · have hD : D = (65533, 1) := HD.out.trans (if_pos (by omega))
      have HD2 := Lib.hid hD
      clear hD
      go_wp2
      exact bodyPost_ret (v := .agg #[.int .i64 65533, .int .i64 1]) (by simp [results, Tryz.results132, go_sem]) rfl (pb_mk (by rw [HD2.out]; rfl) (by rw [HD2.out]; rfl) ((Below.refl _ _).alloc (Nat.le_refl _) _))
    · have hD : D = (65533, 1) := HD.out.trans (if_pos (by omega))
      have HD2 := Lib.hid hD
      clear hD
      go_wp2
      exact bodyPost_ret (v := .agg #[.int .i64 65533, .int .i64 1]) (by simp [results, Tryz.results132, go_sem]) rfl (pb_mk (by rw [HD2.out]; rfl) (by rw [HD2.out]; rfl) ((Below.refl _ _).alloc (Nat.le_refl _) _))
    · have hD := HD.out.trans (if_neg (by omega))
      have HD2 := Lib.hid hD
      clear hD
      go_wp2
      exact bodyPost_ret (v := .agg #[.int .i64 ((((s[i].toNat : Nat) : Int) - 240) * 262144 + x * 4096 + y * 64 + v), .int .i64 4]) (by simp [results, Tryz.results132, go_sem]) rfl (pb_mk (by rw [HD2.out, hbt.out]; simp only []; omega) (by rw [HD2.out]; rfl) ((Below.refl _ _).alloc (Nat.le_refl _) _))

theorem four_any (s : ByteArray) (i : Nat) (w : World) (hs : s.size ≤ 9223372036854775800) (hi : i < s.size) (h : 240 ≤ bt s i ∧ bt s i ≤ 244) :
    Calls Tryz.prog 132 #[.string s, .int .i64 i] w (PointBelow (Utf8.decode s i).1 (Utf8.decode s i).2 w) :=
  four_core s i (if bt s i = 240 then 144 else 128) (if bt s i = 244 then 143 else 191) w hs hi h (by split <;> omega) (by split <;> omega) (by split <;> omega)
    (by (repeat' split) <;> omega) _ (dec_four s i hi h)
end Go.Proofs.YthfienjmigidbaaGreatDoor
