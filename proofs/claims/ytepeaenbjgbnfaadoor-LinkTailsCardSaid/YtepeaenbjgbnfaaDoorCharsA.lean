/-
  chars.Next for every string and index; the classes; sequence, Append; Count; Valid.
-/
import Derived.Test.YtepeaenbjgbnfaaDoorNext
import Derived.Test.YtepeaenbjgbnfaaDoorPts
import Derived.Test.YtepeaenbjgbnfaaDoorFold
import Derived.Test.YtepeaenbjgbnfaaDoorMem
set_option linter.unusedVariables false
set_option linter.unusedSimpArgs false
namespace Go.Pub
def digitB (c : Int) : Bool := decide (48 ≤ c) && decide (c ≤ 57)
def inB (c : Int) (l : List (Int × Int)) : Bool := l.any fun r => decide (r.1 ≤ c) && decide (c ≤ r.2)
def punctL : List (Int × Int) := [(33, 47), (58, 64), (91, 96), (123, 126), (161, 169), (171, 180), (182, 185), (187, 191), (215, 215), (247, 247), (8208, 8231), (8240, 8286), (12289, 12291)]
def letterL : List (Int × Int) := [(65, 90), (97, 122), (170, 170), (181, 181), (186, 186), (192, 214), (216, 246), (248, 687), (880, 1327), (4256, 4351), (7680, 8191), (12353, 12538), (19968, 40959), (44032, 55203)]
end Go.Pub
namespace Go.Proofs.YtepeaenbjgbnfaaDoor
open Go.RowKit Go.Pub

theorem wd_cases (b : Nat) : wd b = 0 ∨ (wd b = 1 ∧ b < 128) ∨ wd b = 2 ∨ wd b = 3 ∨ wd b = 4 := by
  unfold wd; (repeat' split) <;> simp_all

set_option maxRecDepth 100000 in
set_option maxHeartbeats 400000 in
theorem space_any (c : Int) (w : World) : Calls Tryd.prog 44 #[.int .i64 c] w fun e w' => e = .returned (.bool (spaceB c)) ∧ w = w' := by
  have H : Hid (spaceB c = (c == 32 || c == 10)) := Lib.hid rfl
  generalize spaceB c = b at *
  go_enter Tryd.func44, Tryd.ntmps44
  go_wp2
  all_goals
    go_ret
    exact ⟨ret_bool (by rw [H.out] <;> simp_all), rfl⟩

set_option maxRecDepth 100000 in
set_option maxHeartbeats 400000 in
theorem digit_any (c : Int) (w : World) : Calls Tryd.prog 36 #[.int .i64 c] w fun e w' => e = .returned (.bool (digitB c)) ∧ w = w' := by
  have H : Hid (digitB c = (decide (48 ≤ c) && decide (c ≤ 57))) := Lib.hid rfl
  generalize digitB c = b at *
  by_cases h : 48 ≤ c
  all_goals
    go_enter Tryd.func36, Tryd.ntmps36
    go_wp2
  all_goals
    go_ret
    exact ⟨ret_bool (by rw [H.out]; first | rfl | (simp; omega)), rfl⟩


set_option maxRecDepth 100000 in
set_option maxHeartbeats 2000000 in
theorem lower_any (c : Int) (w : World) : Calls Tryd.prog 55 #[.int .i64 c] w fun e w' => e = .returned (.int .i64 (lowerZ c)) ∧ w = w' := by
  have H : Hid (lowerZ c = if (65 ≤ c ∧ c ≤ 90) ∨ (192 ≤ c ∧ c ≤ 222 ∧ c ≠ 215) ∨ (913 ≤ c ∧ c ≤ 939 ∧ c ≠ 930) ∨ (1040 ≤ c ∧ c ≤ 1071) then c + 32 else if 1024 ≤ c ∧ c ≤ 1039 then c + 80 else c) := Lib.hid rfl
  generalize lowerZ c = b at *
  go_enter Tryd.func55, Tryd.ntmps55
  go_wp2
  all_goals
    go_ret
    refine ⟨ret_int ?_, rfl⟩
    rw [H.out]
    try simp only [beq_iff_eq, bne_iff_ne, beq_eq_false_iff_ne, bne_eq_false_iff_eq, ne_eq] at *
    (repeat' split) <;> omega

end Go.Proofs.YtepeaenbjgbnfaaDoor
