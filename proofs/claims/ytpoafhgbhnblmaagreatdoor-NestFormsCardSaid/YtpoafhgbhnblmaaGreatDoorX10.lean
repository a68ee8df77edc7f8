/-
  Texts of the proof, put together (what this law reaches): CharsP.
-/
import Derived.Test.YtpoafhgbhnblmaaGreatDoorX03
set_option linter.unusedVariables false
set_option linter.unusedSimpArgs false
namespace Go.Proofs.YtpoafhgbhnblmaaGreatDoor
open Go.RowKit Go.Pub
set_option maxRecDepth 100000 in
set_option maxHeartbeats 4000000 in
theorem punct_any (c : Int) (w : World) : Calls Tryz.prog 211 #[.int .i64 c] w fun e w' => e = .returned (.bool (inB c punctL)) ∧ w = w' := by
  have H : Hid (inB c punctL = true ↔ ((33 ≤ c ∧ c ≤ 47) ∨ (58 ≤ c ∧ c ≤ 64) ∨ (91 ≤ c ∧ c ≤ 96) ∨ (123 ≤ c ∧ c ≤ 126) ∨ (161 ≤ c ∧ c ≤ 169) ∨ (171 ≤ c ∧ c ≤ 180) ∨ (182 ≤ c ∧ c ≤ 185) ∨ (187 ≤ c ∧ c ≤ 191) ∨ (215 ≤ c ∧ c ≤ 215) ∨ (247 ≤ c ∧ c ≤ 247) ∨ (8208 ≤ c ∧ c ≤ 8231) ∨ (8240 ≤ c ∧ c ≤ 8286) ∨ (12289 ≤ c ∧ c ≤ 12291))) := Lib.hid (by simp [punctL, inB])
  generalize inB c punctL = b at *
  go_enter Tryz.func211, Tryz.ntmps211
  go_wp2
  all_goals
    go_ret
    refine ⟨ret_bool ?_, rfl⟩
    have h := H.out
    try simp only [beq_iff_eq, bne_iff_ne, beq_eq_false_iff_ne, bne_eq_false_iff_eq, ne_eq] at *
    cases b
    · first | rfl | (exfalso; have := h.2 (by omega); cases this)
    · first | rfl | (exfalso; have := h.1 rfl; omega)

set_option maxRecDepth 100000 in
set_option maxHeartbeats 4000000 in
theorem letter_any (c : Int) (w : World) : Calls Tryz.prog 100 #[.int .i64 c] w fun e w' => e = .returned (.bool (inB c letterL)) ∧ w = w' := by
  have H : Hid (inB c letterL = true ↔ ((65 ≤ c ∧ c ≤ 90) ∨ (97 ≤ c ∧ c ≤ 122) ∨ (170 ≤ c ∧ c ≤ 170) ∨ (181 ≤ c ∧ c ≤ 181) ∨ (186 ≤ c ∧ c ≤ 186) ∨ (192 ≤ c ∧ c ≤ 214) ∨ (216 ≤ c ∧ c ≤ 246) ∨ (248 ≤ c ∧ c ≤ 687) ∨ (880 ≤ c ∧ c ≤ 1327) ∨ (4256 ≤ c ∧ c ≤ 4351) ∨ (7680 ≤ c ∧ c ≤ 8191) ∨ (12353 ≤ c ∧ c ≤ 12538) ∨ (19968 ≤ c ∧ c ≤ 40959) ∨ (44032 ≤ c ∧ c ≤ 55203))) := Lib.hid (by simp [letterL, inB])
  generalize inB c letterL = b at *
  go_enter Tryz.func100, Tryz.ntmps100
  go_wp2
  all_goals
    go_ret
    refine ⟨ret_bool ?_, rfl⟩
    have h := H.out
    try simp only [beq_iff_eq, bne_iff_ne, beq_eq_false_iff_ne, bne_eq_false_iff_eq, ne_eq] at *
    cases b
    · first | rfl | (exfalso; have := h.2 (by omega); cases this)
    · first | rfl | (exfalso; have := h.1 rfl; omega)

end Go.Proofs.YtpoafhgbhnblmaaGreatDoor
