/-
  Texts of the proof, put together: RmF.
-/
import Derived.Test.YthfienjmigidbaaGreatDoorB35
set_option linter.unusedVariables false
set_option linter.unusedSimpArgs false
namespace Go.Proofs.YthfienjmigidbaaGreatDoor
open Go.RowKit Go.Pub

set_option maxRecDepth 100000 in
set_option maxHeartbeats 1000000 in
theorem r5_letter (b : Nat) (hb : b < 256) (w : World) : Calls Tryz.prog 127 #[.int .u8 (b : Nat)] w fun e w' => e = .returned (.bool (letterN b)) ∧ w = w' := by
  have HR : Hid (letterN b = ((decide (97 ≤ b) && decide (b ≤ 122)) || (decide (65 ≤ b) && decide (b ≤ 90)))) := Lib.hid rfl
  generalize letterN b = R at *
  have hcase : (decide (97 ≤ (b : Int)) = true ∧ decide (97 ≤ b) = true ∧ ((decide ((b : Int) ≤ 122) = true ∧ decide (b ≤ 122) = true ∧ Hid (R = true)) ∨ (decide ((b : Int) ≤ 122) = false ∧ decide (b ≤ 122) = false ∧ decide (65 ≤ (b : Int)) = true ∧ decide (65 ≤ b) = true ∧ decide ((b : Int) ≤ 90) = false ∧ decide (b ≤ 90) = false ∧ Hid (R = false)))) ∨
      (decide (97 ≤ (b : Int)) = false ∧ decide (97 ≤ b) = false ∧ ((decide (65 ≤ (b : Int)) = false ∧ decide (65 ≤ b) = false ∧ Hid (R = false)) ∨ (decide (65 ≤ (b : Int)) = true ∧ decide (65 ≤ b) = true ∧ ((decide ((b : Int) ≤ 90) = true ∧ decide (b ≤ 90) = true ∧ Hid (R = true)) ∨ (decide ((b : Int) ≤ 90) = false ∧ decide (b ≤ 90) = false ∧ Hid (R = false)))))) := by
    by_cases a1 : 97 ≤ b
    · left
      refine ⟨decide_eq_true (by omega), decide_eq_true a1, ?_⟩
      by_cases a2 : b ≤ 122
      · left; exact ⟨decide_eq_true (by omega), decide_eq_true a2, Lib.hid (by rw [HR.out, decide_eq_true a1, decide_eq_true a2]; rfl)⟩
      · right; exact ⟨decide_eq_false (by omega), decide_eq_false a2, decide_eq_true (by omega), decide_eq_true (by omega), decide_eq_false (by omega), decide_eq_false (by omega), Lib.hid (by rw [HR.out, decide_eq_true a1, decide_eq_false a2, decide_eq_false (show ¬ b ≤ 90 by omega)]; simp)⟩
    · right
      refine ⟨decide_eq_false (by omega), decide_eq_false a1, ?_⟩
      by_cases a3 : 65 ≤ b
      · right
        refine ⟨decide_eq_true (by omega), decide_eq_true a3, ?_⟩
        by_cases a4 : b ≤ 90
        · left; exact ⟨decide_eq_true (by omega), decide_eq_true a4, Lib.hid (by rw [HR.out, decide_eq_true a3, decide_eq_true a4]; simp)⟩
        · right; exact ⟨decide_eq_false (by omega), decide_eq_false a4, Lib.hid (by rw [HR.out, decide_eq_false a1, decide_eq_false a4]; simp)⟩
      · left; exact ⟨decide_eq_false (by omega), decide_eq_false a3, Lib.hid (by rw [HR.out, decide_eq_false a1, decide_eq_false a3]; simp)⟩
  clear HR
  rcases hcase with ⟨a1, a1', ⟨a2, a2', HF⟩ | ⟨a2, a2', a3, a3', a4, a4', HF⟩⟩ | ⟨a1, a1', ⟨a3, a3', HF⟩ | ⟨a3, a3', ⟨a4, a4', HF⟩ | ⟨a4, a4', HF⟩⟩⟩
  all_goals
    go_enter Tryz.func127, Tryz.ntmps127
    go_wp2_with fail
    go_ret
    exact ⟨ret_bool HF.out.symm, rfl⟩

theorem part_case (b : Nat) : (letterN b = true ∧ partN b = true) ∨ (letterN b = false ∧ ((48 ≤ b ∧ b ≤ 57 ∧ partN b = true) ∨ ((b < 48 ∨ 57 < b) ∧ (b = 45 ∨ b = 95 ∨ b = 46 ∨ b = 58 ∨ (b ≠ 45 ∧ b ≠ 95 ∧ b ≠ 46 ∧ b ≠ 58 ∧ partN b = false))))) := by
  cases hl : letterN b
  · right
    refine ⟨rfl, ?_⟩
    by_cases h : 48 ≤ b ∧ b ≤ 57
    · left; exact ⟨h.1, h.2, by unfold partN; rw [hl, decide_eq_true h.1, decide_eq_true h.2]; rfl⟩
    · right
      refine ⟨by omega, ?_⟩
      by_cases h45 : b = 45
      · exact Or.inl h45
      by_cases h95 : b = 95
      · exact Or.inr (Or.inl h95)
      by_cases h46 : b = 46
      · exact Or.inr (Or.inr (Or.inl h46))
      by_cases h58 : b = 58
      · exact Or.inr (Or.inr (Or.inr (Or.inl h58)))
      · refine Or.inr (Or.inr (Or.inr (Or.inr ⟨h45, h95, h46, h58, ?_⟩)))
        unfold partN
        rw [hl, beq_eq_false_iff_ne.2 h45, beq_eq_false_iff_ne.2 h95, beq_eq_false_iff_ne.2 h46, beq_eq_false_iff_ne.2 h58]
        have : (decide (48 ≤ b) && decide (b ≤ 57)) = false := by
          rcases (by omega : ¬ 48 ≤ b ∨ ¬ b ≤ 57) with e | e
          · rw [decide_eq_false e]; rfl
          · rw [decide_eq_false e, Bool.and_false]
        rw [this]; rfl
  · left; exact ⟨rfl, by unfold partN; rw [hl]; rfl⟩

set_option maxRecDepth 100000 in
set_option maxHeartbeats 8000000 in
theorem r5_word (s : ByteArray) (i : Nat) (w : World) (hs : s.size ≤ 1000000) (hi : i ≤ s.size) : Calls Tryz.prog 94 #[.string s, .int .i64 i] w fun e w' => e = .returned (.int .i64 (runF s i partN)) ∧ w = w' := by
  have HR : Hid (∀ j : Nat, j = 0 → j + runF s (i + j) partN = runF s i partN) := Lib.hid (by intro j hj; rw [hj, Nat.zero_add]; rfl)
  have HLt := Lib.hid fun (b : Nat) (hb : b < 256) W => r5_letter b hb W
  have H45 : Hid (∀ W, Calls Tryz.prog 127 #[.int .u8 45] W fun e w' => e = .returned (.bool false) ∧ W = w') := Lib.hid fun W => r5_letter 45 (by omega) W
  have H95 : Hid (∀ W, Calls Tryz.prog 127 #[.int .u8 95] W fun e w' => e = .returned (.bool false) ∧ W = w') := Lib.hid fun W => r5_letter 95 (by omega) W
  have H46 : Hid (∀ W, Calls Tryz.prog 127 #[.int .u8 46] W fun e w' => e = .returned (.bool false) ∧ W = w') := Lib.hid fun W => r5_letter 46 (by omega) W
  have H58 : Hid (∀ W, Calls Tryz.prog 127 #[.int .u8 58] W fun e w' => e = .returned (.bool false) ∧ W = w') := Lib.hid fun W => r5_letter 58 (by omega) W
  generalize runF s i partN = R at *
  go_enter Tryz.func94, Tryz.ntmps94
  go_wp2
  go_loop [5] (fun v => ∃ k : Nat, i + k ≤ s.size ∧ v = .int .i64 k ∧ Hid (k + runF s (i + k) partN = R)) (fun v => s.size - (intOf v).toNat)
  case atStart => exact ⟨0, by omega, rfl, Lib.hid (HR.out 0 rfl)⟩
  case round =>
    obtain ⟨k, hk, rfl, Hk⟩ := hrel
    clear HR
    have hci : ((i : Int) + (k : Int)) = ((i + k : Nat) : Int) := by omega
    have hcn : ((i : Int) + (k : Int)).toNat = i + k := by omega
    by_cases hlt : i + k < s.size
    · have hg := get_bt s (i + k) hlt
      have hbl := bt_lt s (i + k)
      have y0 : decide ((i : Int) + (k : Int) < (s.size : Int)) = true := decide_eq_true (by omega)
      have y0' : decide (i + k < s.size) = true := decide_eq_true hlt
      have hcase : (Hid (partN (bt s (i + k)) = true) ∧ (
            (Hid (∀ W, Calls Tryz.prog 127 #[.int .u8 (s[i + k].toNat : Nat)] W fun e w' => e = .returned (.bool true) ∧ W = w')) ∨
            (Hid (∀ W, Calls Tryz.prog 127 #[.int .u8 (s[i + k].toNat : Nat)] W fun e w' => e = .returned (.bool false) ∧ W = w') ∧ decide (48 ≤ ((s[i + k].toNat : Nat) : Int)) = true ∧ decide (48 ≤ s[i + k].toNat) = true ∧ decide (((s[i + k].toNat : Nat) : Int) ≤ 57) = true ∧ decide (s[i + k].toNat ≤ 57) = true) ∨
            (Hid (∀ W, Calls Tryz.prog 127 #[.int .u8 (s[i + k].toNat : Nat)] W fun e w' => e = .returned (.bool false) ∧ W = w') ∧ (((s[i + k].toNat : Nat) : Int) == 45) = true) ∨ (Hid (∀ W, Calls Tryz.prog 127 #[.int .u8 (s[i + k].toNat : Nat)] W fun e w' => e = .returned (.bool false) ∧ W = w') ∧ (((s[i + k].toNat : Nat) : Int) == 95) = true) ∨ (Hid (∀ W, Calls Tryz.prog 127 #[.int .u8 (s[i + k].toNat : Nat)] W fun e w' => e = .returned (.bool false) ∧ W = w') ∧ (((s[i + k].toNat : Nat) : Int) == 46) = true) ∨ (Hid (∀ W, Calls Tryz.prog 127 #[.int .u8 (s[i + k].toNat : Nat)] W fun e w' => e = .returned (.bool false) ∧ W = w') ∧ (((s[i + k].toNat : Nat) : Int) == 58) = true))) ∨
          (Hid (partN (bt s (i + k)) = false) ∧ Hid (∀ W, Calls Tryz.prog 127 #[.int .u8 (s[i + k].toNat : Nat)] W fun e w' => e = .returned (.bool false) ∧ W = w') ∧
            ((((s[i + k].toNat : Nat) : Int) == 45) = false) ∧ ((((s[i + k].toNat : Nat) : Int) == 95) = false) ∧ ((((s[i + k].toNat : Nat) : Int) == 46) = false) ∧ ((((s[i + k].toNat : Nat) : Int) == 58) = false) ∧
            ((decide (48 ≤ ((s[i + k].toNat : Nat) : Int)) = false ∧ decide (48 ≤ s[i + k].toNat) = false) ∨ (decide (48 ≤ ((s[i + k].toNat : Nat) : Int)) = true ∧ decide (48 ≤ s[i + k].toNat) = true ∧ decide (((s[i + k].toNat : Nat) : Int) ≤ 57) = false ∧ decide (s[i + k].toNat ≤ 57) = false))) := by
        rw [hg]
        generalize bt s (i + k) = b at *
        rcases part_case b with ⟨h1, h2⟩ | ⟨h1, ⟨h2, h3, h4⟩ | ⟨hd, h2⟩⟩
        · exact Or.inl ⟨Lib.hid h2, Or.inl (Lib.hid fun W => h1 ▸ HLt.out b hbl W)⟩
        · exact Or.inl ⟨Lib.hid h4, Or.inr (Or.inl ⟨Lib.hid fun W => h1 ▸ HLt.out b hbl W, decide_eq_true (by omega), decide_eq_true h2, decide_eq_true (by omega), decide_eq_true h3⟩)⟩
        · rcases h2 with h2 | h2 | h2 | h2 | ⟨n1, n2, n3, n4, h2⟩
          · subst h2; exact Or.inl ⟨Lib.hid (by decide), Or.inr (Or.inr (Or.inl ⟨Lib.hid fun W => H45.out W, rfl⟩))⟩
          · subst h2; exact Or.inl ⟨Lib.hid (by decide), Or.inr (Or.inr (Or.inr (Or.inl ⟨Lib.hid fun W => H95.out W, rfl⟩)))⟩
          · subst h2; exact Or.inl ⟨Lib.hid (by decide), Or.inr (Or.inr (Or.inr (Or.inr (Or.inl ⟨Lib.hid fun W => H46.out W, rfl⟩))))⟩
          · subst h2; exact Or.inl ⟨Lib.hid (by decide), Or.inr (Or.inr (Or.inr (Or.inr (Or.inr ⟨Lib.hid fun W => H58.out W, rfl⟩))))⟩
          · refine Or.inr ⟨Lib.hid h2, Lib.hid fun W => h1 ▸ HLt.out b hbl W, beq_eq_false_iff_ne.2 (by omega), beq_eq_false_iff_ne.2 (by omega), beq_eq_false_iff_ne.2 (by omega), beq_eq_false_iff_ne.2 (by omega), ?_⟩
            by_cases h48 : 48 ≤ b
            · exact Or.inr ⟨decide_eq_true (by omega), decide_eq_true h48, decide_eq_false (by omega), decide_eq_false (by omega)⟩
            · exact Or.inl ⟨decide_eq_false (by omega), decide_eq_false h48⟩
      clear HLt
      rcases hcase with ⟨Hp, hc⟩ | ⟨Hp, HL, z1, z2, z3, z4, hd⟩
      · have HF : Hid (k + 1 + runF s (i + (k + 1)) partN = R) := Lib.hid (by rw [← Hk.out, runF_yes s (i + k) partN hlt Hp.out]; simp only [Nat.add_assoc, Nat.add_comm, Nat.add_left_comm])
        clear Hp hg hbl
        rcases hc with HL | ⟨HL, d1, d2, d3, d4⟩ | ⟨HL, z⟩ | ⟨HL, z⟩ | ⟨HL, z⟩ | ⟨HL, z⟩
        all_goals
          clear hci
          go_wp2_with fail
          ((with_reducible refine (HL.out _).mono ?_))
          rintro e w0 ⟨rfl, rfl⟩
          go_wp2_with fail
          all_goals exact ⟨⟨k + 1, by omega, by go_num, HF⟩, by simp [intOf]; omega⟩
      · have HF : Hid (k = R) := Lib.hid (by rw [← Hk.out, runF_no s (i + k) partN hlt Hp.out]; rfl)
        clear Hp hg hbl
        rcases hd with ⟨d1, d2⟩ | ⟨d1, d2, d3, d4⟩
        all_goals
          clear hci
          go_wp2_with fail
          ((with_reducible refine (HL.out _).mono ?_))
          rintro e w0 ⟨rfl, rfl⟩
          go_wp2_with fail
          go_ret
          exact ⟨ret_int (by rw [HF.out]), rfl⟩
    · have HF : Hid (k = R) := Lib.hid (by rw [← Hk.out, runF_end s (i + k) partN (by omega)]; rfl)
      have y0 : decide ((i : Int) + (k : Int) < (s.size : Int)) = false := decide_eq_false (by omega)
      have y0' : decide (i + k < s.size) = false := decide_eq_false hlt
      clear hci
      go_wp2_with fail
      go_ret
      exact ⟨ret_int (by rw [HF.out]), rfl⟩
end Go.Proofs.YthfienjmigidbaaGreatDoor
