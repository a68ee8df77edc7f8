/-
  The walks of awake, CharsNext and CharsAppend.
-/
import Derived.Test.YtobkckclngmpjaaCharsD
import Derived.Test.YtobkckclngmpjaaCharsP
import Derived.Test.YtobkckclngmpjaaRefC
set_option linter.unusedVariables false
set_option linter.unusedSimpArgs false
namespace Go.Proofs.Ytobkckclngmpjaa
open Go.RowKit Go.Pub

theorem aw1 (W : World) : Calls Try.prog 12 #[.string ⟨#[237, 160, 128]⟩, .int .i64 0] W (PairQuiet 65533 1 W) := by
  have h := next_any ⟨#[237, 160, 128]⟩ 0 W (by decide)
  rw [show nextAt ⟨#[237, 160, 128]⟩ 0 = (65533, 1) from by decide +kernel] at h
  exact h
theorem aw2 (W : World) : Calls Try.prog 12 #[.string ⟨#[195, 169]⟩, .int .i64 0] W (PairQuiet 233 2 W) := by
  have h := next_any ⟨#[195, 169]⟩ 0 W (by decide)
  rw [show nextAt ⟨#[195, 169]⟩ 0 = (233, 2) from by decide +kernel] at h
  exact h
theorem aw3 (W : World) : Calls Try.prog 14 #[.string ⟨#[237, 160, 128]⟩] W fun e w' => e = .returned (.int .i64 3) ∧ Below W.heap.size W w' := by
  have h := count_any ⟨#[237, 160, 128]⟩ W (by decide)
  rw [show (pts ⟨#[237, 160, 128]⟩).length = 3 from by decide +kernel] at h
  exact h
theorem aw4 (W : World) : Calls Try.prog 16 #[.string ⟨#[97]⟩, .int .i64 233] W fun e w' => e = .returned (.string ⟨#[97, 195, 169]⟩) ∧ W = w' := by
  have h := append_any ⟨#[97]⟩ 233 W (by decide)
  rw [show (⟨#[97]⟩ : ByteArray) ++ Utf8.encode 233 = ⟨#[97, 195, 169]⟩ from by decide +kernel] at h
  exact h
theorem aw5 (W : World) : Calls Try.prog 30 #[.string ⟨#[97, 13, 10, 9, 98]⟩] W fun e w' => e = .returned (.string ⟨#[97, 10, 32, 32, 32, 32, 98]⟩) ∧ Below W.heap.size W w' := by
  have h := clean_any ⟨#[97, 13, 10, 9, 98]⟩ W (by decide)
  rw [show cleanL ⟨#[97, 13, 10, 9, 98]⟩ = [97, 10, 32, 32, 32, 32, 98] from by decide +kernel] at h
  exact h
theorem aw6 (W : World) : Calls Try.prog 32 #[.string ⟨#[32, 32, 65, 10, 32, 66]⟩] W fun e w' => e = .returned (.string ⟨#[97, 32, 98]⟩) ∧ Below W.heap.size W w' := by
  have h := fold_any ⟨#[32, 32, 65, 10, 32, 66]⟩ W (by decide)
  rw [show foldL ⟨#[32, 32, 65, 10, 32, 66]⟩ = [97, 32, 98] from by decide +kernel] at h
  exact h
theorem aw7 (W : World) : Calls Try.prog 28 #[.string ⟨#[9]⟩] W fun e w' => e = .returned (.bool false) ∧ Below W.heap.size W w' := by
  have h := valid_any ⟨#[9]⟩ W (by decide)
  rw [show validB ⟨#[9]⟩ = false from by decide +kernel] at h
  exact h
theorem aw8 (W : World) : Calls Try.prog 28 #[.string ⟨#[10]⟩] W fun e w' => e = .returned (.bool true) ∧ Below W.heap.size W w' := by
  have h := valid_any ⟨#[10]⟩ W (by decide)
  rw [show validB ⟨#[10]⟩ = true from by decide +kernel] at h
  exact h

set_option maxRecDepth 100000 in
set_option maxHeartbeats 4000000 in
theorem awake_any (w : World) : Calls Try.prog 11 #[] w fun e w' => e = .returned (.bool true) ∧ Below w.heap.size w w' := by
  go_enter Try.func11, Try.ntmps11
  go_wp2_with fail
  refine (aw1 _).mono ?_
  rintro e w1 ⟨rfl, k1, rfl⟩
  go_wp2_with fail
  refine (aw2 _).mono ?_
  rintro e w1 ⟨rfl, k2, rfl⟩
  go_wp2_with fail
  refine (aw3 _).mono ?_
  rintro e w1 ⟨rfl, b1⟩
  go_wp2_with fail
  refine (aw4 _).mono ?_
  rintro e w2 ⟨rfl, rfl⟩
  go_wp2_with fail
  refine (aw5 _).mono ?_
  rintro e w2 ⟨rfl, b2⟩
  go_wp2_with fail
  refine (aw6 _).mono ?_
  rintro e w3 ⟨rfl, b3⟩
  go_wp2_with fail
  refine (aw7 _).mono ?_
  rintro e w4 ⟨rfl, b4⟩
  go_wp2_with fail
  refine (aw8 _).mono ?_
  rintro e w5 ⟨rfl, b5⟩
  go_wp2_with fail
  refine (punct_any _ _).mono ?_
  rw [show inB 8212 punctL = true from by decide]
  rintro e w6 ⟨rfl, rfl⟩
  go_wp2_with fail
  refine (letter_any _ _).mono ?_
  rw [show inB 233 letterL = true from by decide]
  rintro e w6 ⟨rfl, rfl⟩
  go_wp2_with fail
  refine (lower_any _ _).mono ?_
  rw [show lowerZ 201 = 233 from by decide]
  rintro e w6 ⟨rfl, rfl⟩
  go_wp2_with fail
  refine (space_any _ _).mono ?_
  rw [show spaceB 10 = true from by decide]
  rintro e w6 ⟨rfl, rfl⟩
  go_wp2_with fail
  refine (digit_any _ _).mono ?_
  rw [show digitB 55 = true from by decide]
  rintro e w6 ⟨rfl, rfl⟩
  go_wp2
  go_ret
  have z1 := b1.size
  have z2 := b2.size
  have z3 := b3.size
  have z4 := b4.size
  simp at z1
  have hb : Below w.heap.size w w1 := (below_drewN (Below.refl _ w) _).trans b1
  exact ⟨rfl, (((hb.trans (b2.mono (by omega))).trans (b3.mono (by omega))).trans (b4.mono (by omega))).trans (b5.mono (by omega))⟩

set_option maxRecDepth 100000 in
set_option maxHeartbeats 4000000 in
theorem lawNext_any (s : ByteArray) (i : Int) (w : World) (hs : s.size ≤ 9223372036854775807) : Calls Try.prog 3 #[.string s, .int .i64 i] w fun e w' => e = .returned (.bool true) ∧ Below w.heap.size w w' := by
  by_cases h : 2000 < s.size
  · go_enter Try.func3, Try.ntmps3
    go_wp2_with (go_at_call 11; refine (awake_any _).mono ?_; rintro e w1 ⟨rfl, b1⟩)
    go_ret
    exact ⟨rfl, b1⟩
  · have HN := Lib.hid (next_any s i)
    have HR := Lib.hid (rNext_any s i)
    have HC := Lib.hid (count_any s)
    have HD := Lib.hid (count_ref s)
    generalize nextAt s i = P at *
    generalize (pts s).length = L at *
    go_enter Try.func3, Try.ntmps3
    go_wp2_with fail
    refine (HN.out _ hs).mono ?_
    rintro e w1 ⟨rfl, k1, rfl⟩
    go_wp2_with fail
    refine (HR.out _ (by omega)).mono ?_
    rintro e w1 ⟨rfl, b1⟩
    go_wp2_with fail
    refine (HC.out _ (by omega)).mono ?_
    rintro e w2 ⟨rfl, b2⟩
    go_wp2_with fail
    refine (HD.out _ (by omega)).mono ?_
    rintro e w3 ⟨rfl, b3⟩
    go_wp2_with fail
    refine (awake_any _).mono ?_
    rintro e w4 ⟨rfl, b4⟩
    go_wp2
    go_ret
    have z1 := b1.size
    have z2 := b2.size
    have z3 := b3.size
    simp at z1
    have hb : Below w.heap.size w w1 := (below_drewN (Below.refl _ w) _).trans b1
    exact ⟨rfl, ((hb.trans (b2.mono (by omega))).trans (b3.mono (by omega))).trans (b4.mono (by omega))⟩

set_option maxRecDepth 100000 in
set_option maxHeartbeats 4000000 in
theorem lawAppend_any (s : ByteArray) (c : Int) (w : World) (hs : s.size ≤ 9223372036854775807) : Calls Try.prog 4 #[.string s, .int .i64 c] w fun e w' => e = .returned (.bool true) ∧ Below w.heap.size w w' := by
  by_cases h : 2000 < s.size
  · go_enter Try.func4, Try.ntmps4
    go_wp2_with (go_at_call 11; refine (awake_any _).mono ?_; rintro e w1 ⟨rfl, b1⟩)
    go_ret
    exact ⟨rfl, b1⟩
  · have HA := Lib.hid (append_any s c)
    have HR := Lib.hid (append_ref s c)
    generalize s ++ Utf8.encode c = X at *
    go_enter Try.func4, Try.ntmps4
    go_wp2_with fail
    refine (HA.out _ (by omega)).mono ?_
    rintro e w1 ⟨rfl, rfl⟩
    go_wp2_with fail
    refine (HR.out _ (by omega)).mono ?_
    rintro e w1 ⟨rfl, b1⟩
    go_wp2_with fail
    refine (awake_any _).mono ?_
    rintro e w2 ⟨rfl, b2⟩
    go_wp2
    go_ret
    exact ⟨rfl, b1.trans (b2.mono b1.size)⟩
end Go.Proofs.Ytobkckclngmpjaa
