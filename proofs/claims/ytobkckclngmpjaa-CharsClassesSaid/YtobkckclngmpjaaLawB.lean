/-
  The walk of CharsClasses.
-/
import Derived.Test.YtobkckclngmpjaaLawA
import Derived.Test.YtobkckclngmpjaaRefD
set_option linter.unusedVariables false
set_option linter.unusedSimpArgs false
namespace Go.Proofs.Ytobkckclngmpjaa
open Go.RowKit Go.Pub

set_option maxRecDepth 100000 in
set_option maxHeartbeats 4000000 in
theorem lawClasses_any (c : Int) (w : World) : Calls Try.prog 5 #[.int .i64 c] w fun e w' => e = .returned (.bool true) ∧ Below w.heap.size w w' := by
  have H1 := Lib.hid (space_any c)
  have H2 := Lib.hid (rSpace_any c)
  have H3 := Lib.hid (punct_any c)
  have H4 := Lib.hid (rPunct_any c)
  have H5 := Lib.hid (letter_any c)
  have H6 := Lib.hid (rLetter_any c)
  have H7 := Lib.hid (digit_any c)
  have H8 := Lib.hid (rDigit_any c)
  have H9 := Lib.hid (lower_any c)
  have H10 := Lib.hid (rLower_any c)
  generalize spaceB c = x1 at *
  generalize inB c punctL = x2 at *
  generalize inB c letterL = x3 at *
  generalize digitB c = x4 at *
  generalize lowerZ c = x5 at *
  go_enter Try.func5, Try.ntmps5
  go_wp2_with fail
  refine (H1.out _).mono ?_
  rintro e w1 ⟨rfl, rfl⟩
  go_wp2_with fail
  refine (H2.out _).mono ?_
  rintro e w1 ⟨rfl, rfl⟩
  go_wp2_with fail
  refine (H3.out _).mono ?_
  rintro e w1 ⟨rfl, rfl⟩
  go_wp2_with fail
  refine (H4.out _).mono ?_
  rintro e w1 ⟨rfl, b1⟩
  go_wp2_with fail
  refine (H5.out _).mono ?_
  rintro e w2 ⟨rfl, rfl⟩
  go_wp2_with fail
  refine (H6.out _).mono ?_
  rintro e w2 ⟨rfl, b2⟩
  go_wp2_with fail
  refine (H7.out _).mono ?_
  rintro e w3 ⟨rfl, rfl⟩
  go_wp2_with fail
  refine (H8.out _).mono ?_
  rintro e w3 ⟨rfl, rfl⟩
  go_wp2_with fail
  refine (H9.out _).mono ?_
  rintro e w3 ⟨rfl, rfl⟩
  go_wp2_with fail
  refine (H10.out _).mono ?_
  rintro e w3 ⟨rfl, rfl⟩
  go_wp2_with fail
  refine (awake_any _).mono ?_
  rintro e w3 ⟨rfl, b3⟩
  go_wp2
  go_ret
  exact ⟨rfl, (b1.trans (b2.mono b1.size)).trans (b3.mono (Nat.le_trans b1.size b2.size))⟩
end Go.Proofs.Ytobkckclngmpjaa
