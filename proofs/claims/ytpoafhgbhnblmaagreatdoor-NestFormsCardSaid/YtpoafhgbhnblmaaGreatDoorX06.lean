/-
  Texts of the proof, put together (what this law reaches): AttrA.
-/
import Derived.Test.YtpoafhgbhnblmaaGreatDoorX03
import Derived.Test.YtpoafhgbhnblmaaGreatDoorX02
set_option linter.unusedVariables false
set_option linter.unusedSimpArgs false
namespace Go.Pub
def letterN (b : Nat) : Bool := (decide (97 ≤ b) && decide (b ≤ 122)) || (decide (65 ≤ b) && decide (b ≤ 90))
def partN (b : Nat) : Bool := letterN b || (decide (48 ≤ b) && decide (b ≤ 57)) || b == 45 || b == 95 || b == 46 || b == 58
def wEnd (s : ByteArray) : Nat → Nat → Nat
  | 0, i => i
  | f + 1, i => if i < s.size ∧ partN (bt s i) = true then wEnd s f (i + 1) else i
def wordAt (s : ByteArray) (i : Nat) : Nat := wEnd s (s.size - i) i
theorem wEnd_step (s : ByteArray) (f i : Nat) (h : i < s.size) (hp : partN (bt s i) = true) (hf : s.size - i ≤ f) : wEnd s f i = wEnd s (f - 1) (i + 1) := by
  obtain ⟨g, rfl⟩ : ∃ g, f = g + 1 := ⟨f - 1, by omega⟩
  simp [wEnd, h, hp]
theorem wEnd_stop (s : ByteArray) (f i : Nat) (h : ¬ (i < s.size ∧ partN (bt s i) = true)) : wEnd s f i = i := by
  cases f with
  | zero => rfl
  | succ f => simp only [wEnd]; rw [if_neg h]
theorem wEnd_bd (s : ByteArray) : ∀ f i, i ≤ wEnd s f i ∧ (i ≤ s.size → wEnd s f i ≤ s.size)
  | 0, i => ⟨Nat.le_refl _, fun h => h⟩
  | f + 1, i => by
    unfold wEnd
    split
    · rename_i h
      have := wEnd_bd s f (i + 1)
      exact ⟨by omega, fun _ => this.2 (by omega)⟩
    · exact ⟨Nat.le_refl _, fun h => h⟩
def nameB (s : ByteArray) : Bool := decide (1 ≤ s.size) && decide (s.size ≤ 60) && letterN (bt s 0) && (wordAt s 0 == s.size)
end Go.Pub
namespace Go.Proofs.YtpoafhgbhnblmaaGreatDoor
open Go.RowKit Go.Pub
set_option maxRecDepth 100000 in
set_option maxHeartbeats 1000000 in
theorem aletter_any (b : Nat) (hb : b < 256) (w : World) : Calls Tryz.prog 96 #[.int .u8 b] w fun e w' => e = .returned (.bool (letterN b)) ∧ w = w' := by
  have H : Hid (letterN b = ((decide (97 ≤ b) && decide (b ≤ 122)) || (decide (65 ≤ b) && decide (b ≤ 90)))) := Lib.hid rfl
  generalize letterN b = r at *
  by_cases h1 : 97 ≤ b
  · by_cases h2 : b ≤ 122
    all_goals
      go_enter Tryz.func96, Tryz.ntmps96
      go_wp2
      go_ret
      exact ⟨ret_bool (by rw [H.out]; first | rfl | (rw [Bool.eq_iff_iff]; simp; omega)), rfl⟩
  · by_cases h2 : 65 ≤ b
    all_goals
      go_enter Tryz.func96, Tryz.ntmps96
      go_wp2
      go_ret
      exact ⟨ret_bool (by rw [H.out]; first | rfl | (rw [Bool.eq_iff_iff]; simp; omega)), rfl⟩

set_option maxRecDepth 100000 in
set_option maxHeartbeats 2000000 in
theorem inName_any (b : Nat) (hb : b < 256) (w : World) : Calls Tryz.prog 156 #[.int .u8 b] w fun e w' => e = .returned (.bool (partN b)) ∧ w = w' := by
  have H : Hid (partN b = (letterN b || (decide (48 ≤ b) && decide (b ≤ 57)) || b == 45 || b == 95 || b == 46 || b == 58)) := Lib.hid rfl
  have HL := Lib.hid (aletter_any b hb)
  generalize partN b = r at *
  generalize letterN b = l at *
  by_cases c1 : b = 45
  · subst c1
    go_enter Tryz.func156, Tryz.ntmps156
    go_wp2_with fail
    go_ret
    exact ⟨ret_bool (by rw [H.out]; simp), rfl⟩
  have z1 : ((b : Int) == 45) = false := by simp; omega
  by_cases c2 : b = 95
  · subst c2
    go_enter Tryz.func156, Tryz.ntmps156
    go_wp2_with fail
    go_ret
    exact ⟨ret_bool (by rw [H.out]; simp), rfl⟩
  have z2 : ((b : Int) == 95) = false := by simp; omega
  by_cases c3 : b = 46
  · subst c3
    go_enter Tryz.func156, Tryz.ntmps156
    go_wp2_with fail
    go_ret
    exact ⟨ret_bool (by rw [H.out]; simp), rfl⟩
  have z3 : ((b : Int) == 46) = false := by simp; omega
  by_cases c4 : b = 58
  · subst c4
    go_enter Tryz.func156, Tryz.ntmps156
    go_wp2_with fail
    go_ret
    exact ⟨ret_bool (by rw [H.out]; simp), rfl⟩
  have z4 : ((b : Int) == 58) = false := by simp; omega
  have H2 : Hid (r = (l || (decide (48 ≤ b) && decide (b ≤ 57)))) := Lib.hid (by
    have b1 : (b == 45) = false := by simpa using c1
    have b2 : (b == 95) = false := by simpa using c2
    have b3 : (b == 46) = false := by simpa using c3
    have b4 : (b == 58) = false := by simpa using c4
    rw [H.out, b1, b2, b3, b4]; simp only [Bool.or_false])
  clear c1 c2 c3 c4
  cases l
  · by_cases h1 : 48 ≤ b
    all_goals
      go_enter Tryz.func156, Tryz.ntmps156
      go_wp2_with fail
      refine (HL.out _).mono ?_
      rintro e w1 ⟨rfl, rfl⟩
      go_wp2
      go_ret
      exact ⟨ret_bool (by rw [H2.out]; first | rfl | (simp [show ¬ 48 ≤ b by omega]; done) | (rw [Bool.eq_iff_iff, Bool.or_eq_true, Bool.and_eq_true]; simp only [decide_eq_true_eq, Bool.false_eq_true, false_or]; omega)), rfl⟩
  · go_enter Tryz.func156, Tryz.ntmps156
    go_wp2_with fail
    refine (HL.out _).mono ?_
    rintro e w1 ⟨rfl, rfl⟩
    go_wp2
    go_ret
    exact ⟨ret_bool (by rw [H2.out]; rfl), rfl⟩

set_option maxRecDepth 100000 in
set_option maxHeartbeats 2000000 in
theorem wordEnd_any (s : ByteArray) (i : Nat) (w : World) (hs : s.size < 9223372036854775807) : Calls Tryz.prog 97 #[.string s, .int .i64 i] w fun e w' => e = .returned (.int .i64 (wordAt s i)) ∧ w = w' := by
  have HW : Hid (wEnd s (s.size - i) i = wordAt s i) := Lib.hid rfl
  generalize wordAt s i = R at *
  go_enter Tryz.func97, Tryz.ntmps97
  go_wp2
  go_loop [1] (fun v => ∃ k f : Nat, v = .int .i64 k ∧ wEnd s f k = R ∧ s.size - k ≤ f) (fun v => s.size - (intOf v).toNat)
  case atStart => exact ⟨i, s.size - i, rfl, HW.out, Nat.le_refl _⟩
  case round =>
    obtain ⟨k, f, rfl, hR, hf⟩ := hrel
    have HR := Lib.hid hR
    clear hR
    by_cases hk : k < s.size
    · have hb := bt_lt s k
      have hbt := Lib.hid (get_bt s k hk)
      have hst := Lib.hid (wEnd_step s f k hk)
      have hsp := Lib.hid (wEnd_stop s f k)
      have HP : Hid (∀ W, Calls Tryz.prog 156 #[.int .u8 s[k].toNat] W fun e w' => e = .returned (.bool (partN (bt s k))) ∧ W = w') := Lib.hid fun W => by rw [get_bt s k hk]; exact inName_any _ hb W
      generalize partN (bt s k) = p at *
      cases p
      · go_wp2_with fail
        refine (HP.out _).mono ?_
        rintro e w1 ⟨rfl, rfl⟩
        go_wp2
        go_ret
        exact ⟨ret_int (by rw [← HR.out, hsp.out (by simp)]), rfl⟩
      · go_wp2_with fail
        refine (HP.out _).mono ?_
        rintro e w1 ⟨rfl, rfl⟩
        go_wp2
        go_round
        case rel => exact ⟨k + 1, f - 1, by go_num, by rw [← HR.out, hst.out (by first | rfl | trivial) hf], by omega⟩
        case measure => simp [intOf]; omega
    · have hsp := Lib.hid (wEnd_stop s f k (by omega))
      go_wp2
      go_ret
      exact ⟨ret_int (by rw [← HR.out, hsp.out]), rfl⟩

set_option maxRecDepth 100000 in
set_option maxHeartbeats 2000000 in
theorem name_any (s : ByteArray) (w : World) (hs : s.size < 9223372036854775807) : Calls Tryz.prog 51 #[.string s] w fun e w' => e = .returned (.bool (nameB s)) ∧ w = w' := by
  have H : Hid (nameB s = (decide (1 ≤ s.size) && decide (s.size ≤ 60) && letterN (bt s 0) && (wordAt s 0 == s.size))) := Lib.hid rfl
  have HW := Lib.hid (wordEnd_any s 0)
  generalize nameB s = R at *
  by_cases h0 : s.size = 0
  · have z0 : ((s.size : Int) == 0) = true := by rw [h0]; rfl
    have hR : Hid (R = false) := Lib.hid (by rw [H.out, h0]; rfl)
    clear h0
    go_enter Tryz.func51, Tryz.ntmps51
    go_wp2_with fail
    go_ret
    exact ⟨ret_bool hR.out.symm, rfl⟩
  have hp : 0 < s.size := by omega
  have z0 : ((s.size : Int) == 0) = false := by rw [beq_eq_false_iff_ne]; omega
  clear h0
  by_cases h1 : 60 < s.size
  · have hR : Hid (R = false) := Lib.hid (by rw [H.out, show decide (s.size ≤ 60) = false by simpa using h1]; simp)
    go_enter Tryz.func51, Tryz.ntmps51
    go_wp2_with fail
    go_ret
    exact ⟨ret_bool hR.out.symm, rfl⟩
  have hb := bt_lt s 0
  have HL : Hid (∀ W, Calls Tryz.prog 96 #[.int .u8 s[0].toNat] W fun e w' => e = .returned (.bool (letterN (bt s 0))) ∧ W = w') := Lib.hid fun W => by rw [get_bt s 0 hp]; exact aletter_any _ hb W
  have H2 : Hid (R = (letterN (bt s 0) && (wordAt s 0 == s.size))) := Lib.hid (by rw [H.out]; simp [show 1 ≤ s.size by omega, show s.size ≤ 60 by omega])
  have d1 : decide (60 < s.size) = false := by simpa using h1
  generalize letterN (bt s 0) = l at *
  generalize wordAt s 0 = e0 at *
  cases l
  · go_enter Tryz.func51, Tryz.ntmps51
    go_wp2_with fail
    refine (HL.out _).mono ?_
    rintro e w1 ⟨rfl, rfl⟩
    go_wp2_with fail
    go_ret
    exact ⟨ret_bool (by rw [H2.out]; rfl), rfl⟩
  · go_enter Tryz.func51, Tryz.ntmps51
    go_wp2_with fail
    refine (HL.out _).mono ?_
    rintro e w1 ⟨rfl, rfl⟩
    go_wp2_with fail
    refine (HW.out _ hs).mono ?_
    rintro e w1 ⟨rfl, rfl⟩
    go_wp2
    go_ret
    exact ⟨ret_bool (by rw [H2.out, Bool.eq_iff_iff]; simp; try omega), rfl⟩

end Go.Proofs.YtpoafhgbhnblmaaGreatDoor
