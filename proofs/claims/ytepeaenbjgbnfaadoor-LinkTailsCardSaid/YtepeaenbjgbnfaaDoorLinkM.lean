/-
  The examples of chapter 8.
-/
import Derived.Test.YtepeaenbjgbnfaaDoorLinkL
set_option linter.unusedVariables false
set_option linter.unusedSimpArgs false
namespace Go.Proofs.YtepeaenbjgbnfaaDoor
open Go.RowKit Go.Pub

theorem ex_dest : destR ⟨#[40, 97, 40, 98, 41, 99, 41, 32, 100]⟩ 1 = some ([97, 40, 98, 41, 99], 6) := by kernel_rfl
theorem ex_title : titleR ⟨#[34, 120, 92, 34, 121, 34]⟩ 0 = some ([120, 34, 121], 6) := by kernel_rfl
theorem ex_tail1 : tailR ⟨#[40, 120, 32, 34, 84, 34, 41]⟩ 0 = some ⟨[120], [84], [], 7⟩ := by kernel_rfl
theorem ex_tail2 : tailR ⟨#[91, 65, 93]⟩ 0 = some ⟨[], [], [97], 3⟩ := by kernel_rfl
theorem ex_tail3 : tailR ⟨#[40, 97, 32, 98, 41]⟩ 0 = none := by kernel_rfl
theorem ex_def : defR ⟨#[91, 97, 93, 58, 32, 120]⟩ = some ([97], [120], []) := by kernel_rfl
theorem ex_lab1 : labelL (bytesL ⟨#[32, 65, 32, 32, 98]⟩) = [97, 32, 98] := by kernel_rfl
theorem ex_lab2 : labelL (bytesL ⟨#[97, 42]⟩) = [] := by kernel_rfl
theorem ex_in1 : insideL (bytesL ⟨#[97, 32, 98]⟩) (bytesL ⟨#[]⟩) = [60, 97, 32, 98, 62] := by kernel_rfl
theorem ex_in2 : insideL (bytesL ⟨#[102, 40, 120, 41]⟩) (bytesL ⟨#[84]⟩) = [102, 92, 40, 120, 92, 41, 32, 34, 84, 34] := by kernel_rfl

set_option maxRecDepth 100000 in
set_option maxHeartbeats 4000000 in
theorem awake_any (w : World) : Calls Tryd.prog 7 #[] w fun e w' => e = .returned (.bool true) ∧ Below w.heap.size w w' := by
  have H1 : Hid (∀ W, Calls Tryd.prog 8 #[.string ⟨#[40, 97, 40, 98, 41, 99, 41, 32, 100]⟩, .int .i64 1] W fun e w' => e = .returned (.tuple #[.string ⟨#[97, 40, 98, 41, 99]⟩, .int .i64 6, .bool true]) ∧ Below W.heap.size W w') := Lib.hid fun W => by
    have h := l_dest ⟨#[40, 97, 40, 98, 41, 99, 41, 32, 100]⟩ 1 W (by decide)
    rw [ex_dest] at h
    exact h
  have H2 : Hid (∀ W, Calls Tryd.prog 9 #[.string ⟨#[34, 120, 92, 34, 121, 34]⟩, .int .i64 0] W fun e w' => e = .returned (.tuple #[.string ⟨#[120, 34, 121]⟩, .int .i64 6, .bool true]) ∧ Below W.heap.size W w') := Lib.hid fun W => by
    have h := l_title ⟨#[34, 120, 92, 34, 121, 34]⟩ 0 W (by decide)
    rw [ex_title] at h
    exact h
  have H3 : Hid (∀ W, Calls Tryd.prog 12 #[.string ⟨#[40, 120, 32, 34, 84, 34, 41]⟩, .int .i64 0] W fun e w' => e = .returned (.tuple #[.string ⟨#[120]⟩, .string ⟨#[84]⟩, .string ⟨#[]⟩, .int .i64 7, .bool true]) ∧ Below W.heap.size W w') := Lib.hid fun W => by
    have h := l_tail ⟨#[40, 120, 32, 34, 84, 34, 41]⟩ 0 W (by decide)
    rw [ex_tail1] at h
    exact h
  have H4 : Hid (∀ W, Calls Tryd.prog 12 #[.string ⟨#[91, 65, 93]⟩, .int .i64 0] W fun e w' => e = .returned (.tuple #[.string ⟨#[]⟩, .string ⟨#[]⟩, .string ⟨#[97]⟩, .int .i64 3, .bool true]) ∧ Below W.heap.size W w') := Lib.hid fun W => by
    have h := l_tail ⟨#[91, 65, 93]⟩ 0 W (by decide)
    rw [ex_tail2] at h
    exact h
  have H5 : Hid (∀ W, Calls Tryd.prog 12 #[.string ⟨#[40, 97, 32, 98, 41]⟩, .int .i64 0] W fun e w' => e = .returned (.tuple #[.string ⟨#[]⟩, .string ⟨#[]⟩, .string ⟨#[]⟩, .int .i64 0, .bool false]) ∧ Below W.heap.size W w') := Lib.hid fun W => by
    have h := l_tail ⟨#[40, 97, 32, 98, 41]⟩ 0 W (by decide)
    rw [ex_tail3] at h
    exact h
  have H6 : Hid (∀ W, Calls Tryd.prog 17 #[.string ⟨#[91, 97, 93, 58, 32, 120]⟩] W fun e w' => e = .returned (.tuple #[.string ⟨#[97]⟩, .string ⟨#[120]⟩, .string ⟨#[]⟩, .bool true]) ∧ Below W.heap.size W w') := Lib.hid fun W => by
    have h := l_def ⟨#[91, 97, 93, 58, 32, 120]⟩ W (by decide)
    rw [ex_def] at h
    exact h
  have H7 : Hid (∀ W, Calls Tryd.prog 18 #[.string ⟨#[32, 65, 32, 32, 98]⟩] W fun e w' => e = .returned (.string ⟨#[97, 32, 98]⟩) ∧ Below W.heap.size W w') := Lib.hid fun W => by
    have h := l_label ⟨#[32, 65, 32, 32, 98]⟩ W (by decide)
    rw [ex_lab1] at h
    exact h
  have H8 : Hid (∀ W, Calls Tryd.prog 18 #[.string ⟨#[97, 42]⟩] W fun e w' => e = .returned (.string ⟨#[]⟩) ∧ Below W.heap.size W w') := Lib.hid fun W => by
    have h := l_label ⟨#[97, 42]⟩ W (by decide)
    rw [ex_lab2] at h
    exact h
  have H9 : Hid (∀ W, Calls Tryd.prog 14 #[.string ⟨#[97, 32, 98]⟩, .string ⟨#[]⟩] W fun e w' => e = .returned (.string ⟨#[60, 97, 32, 98, 62]⟩) ∧ Below W.heap.size W w') := Lib.hid fun W => by
    have h := l_inside ⟨#[97, 32, 98]⟩ ⟨#[]⟩ W (by decide) (by decide)
    rw [ex_in1] at h
    exact h
  have H10 : Hid (∀ W, Calls Tryd.prog 14 #[.string ⟨#[102, 40, 120, 41]⟩, .string ⟨#[84]⟩] W fun e w' => e = .returned (.string ⟨#[102, 92, 40, 120, 92, 41, 32, 34, 84, 34]⟩) ∧ Below W.heap.size W w') := Lib.hid fun W => by
    have h := l_inside ⟨#[102, 40, 120, 41]⟩ ⟨#[84]⟩ W (by decide) (by decide)
    rw [ex_in2] at h
    exact h
  have q0 : ((⟨#[97, 40, 98, 41, 99]⟩ : ByteArray).toList == (⟨#[97, 40, 98, 41, 99]⟩ : ByteArray).toList) = true := beq_self_eq_true _
  have r0 : ((⟨#[97, 40, 98, 41, 99]⟩ : ByteArray).toList != (⟨#[97, 40, 98, 41, 99]⟩ : ByteArray).toList) = false := by simp
  have q1 : ((⟨#[120, 34, 121]⟩ : ByteArray).toList == (⟨#[120, 34, 121]⟩ : ByteArray).toList) = true := beq_self_eq_true _
  have r1 : ((⟨#[120, 34, 121]⟩ : ByteArray).toList != (⟨#[120, 34, 121]⟩ : ByteArray).toList) = false := by simp
  have q2 : ((⟨#[120]⟩ : ByteArray).toList == (⟨#[120]⟩ : ByteArray).toList) = true := beq_self_eq_true _
  have r2 : ((⟨#[120]⟩ : ByteArray).toList != (⟨#[120]⟩ : ByteArray).toList) = false := by simp
  have q3 : ((⟨#[84]⟩ : ByteArray).toList == (⟨#[84]⟩ : ByteArray).toList) = true := beq_self_eq_true _
  have r3 : ((⟨#[84]⟩ : ByteArray).toList != (⟨#[84]⟩ : ByteArray).toList) = false := by simp
  have q4 : ((⟨#[97]⟩ : ByteArray).toList == (⟨#[97]⟩ : ByteArray).toList) = true := beq_self_eq_true _
  have r4 : ((⟨#[97]⟩ : ByteArray).toList != (⟨#[97]⟩ : ByteArray).toList) = false := by simp
  have q5 : ((⟨#[97, 32, 98]⟩ : ByteArray).toList == (⟨#[97, 32, 98]⟩ : ByteArray).toList) = true := beq_self_eq_true _
  have r5 : ((⟨#[97, 32, 98]⟩ : ByteArray).toList != (⟨#[97, 32, 98]⟩ : ByteArray).toList) = false := by simp
  have q6 : ((⟨#[60, 97, 32, 98, 62]⟩ : ByteArray).toList == (⟨#[60, 97, 32, 98, 62]⟩ : ByteArray).toList) = true := beq_self_eq_true _
  have r6 : ((⟨#[60, 97, 32, 98, 62]⟩ : ByteArray).toList != (⟨#[60, 97, 32, 98, 62]⟩ : ByteArray).toList) = false := by simp
  have q7 : ((⟨#[102, 92, 40, 120, 92, 41, 32, 34, 84, 34]⟩ : ByteArray).toList == (⟨#[102, 92, 40, 120, 92, 41, 32, 34, 84, 34]⟩ : ByteArray).toList) = true := beq_self_eq_true _
  have r7 : ((⟨#[102, 92, 40, 120, 92, 41, 32, 34, 84, 34]⟩ : ByteArray).toList != (⟨#[102, 92, 40, 120, 92, 41, 32, 34, 84, 34]⟩ : ByteArray).toList) = false := by simp
  go_enter Tryd.func7, Tryd.ntmps7
  go_wp2_with fail
  ((with_reducible refine (H1.out _).mono ?_))
  rintro e w1 ⟨rfl, b1⟩
  go_wp2_with fail
  ((with_reducible refine (H2.out _).mono ?_))
  rintro e w2 ⟨rfl, b2⟩
  go_wp2_with fail
  ((with_reducible refine (H3.out _).mono ?_))
  rintro e w3 ⟨rfl, b3⟩
  go_wp2_with fail
  ((with_reducible refine (H4.out _).mono ?_))
  rintro e w4 ⟨rfl, b4⟩
  go_wp2_with fail
  ((with_reducible refine (H5.out _).mono ?_))
  rintro e w5 ⟨rfl, b5⟩
  go_wp2_with fail
  ((with_reducible refine (H6.out _).mono ?_))
  rintro e w6 ⟨rfl, b6⟩
  go_wp2_with fail
  ((with_reducible refine (H7.out _).mono ?_))
  rintro e w7 ⟨rfl, b7⟩
  go_wp2_with fail
  ((with_reducible refine (H8.out _).mono ?_))
  rintro e w8 ⟨rfl, b8⟩
  go_wp2_with fail
  ((with_reducible refine (H9.out _).mono ?_))
  rintro e w9 ⟨rfl, b9⟩
  go_wp2_with fail
  ((with_reducible refine (H10.out _).mono ?_))
  rintro e w10 ⟨rfl, b10⟩
  go_wp2_with fail
  go_ret
  have c2 := b1.trans (b2.mono b1.size)
  have c3 := c2.trans (b3.mono c2.size)
  have c4 := c3.trans (b4.mono c3.size)
  have c5 := c4.trans (b5.mono c4.size)
  have c6 := c5.trans (b6.mono c5.size)
  have c7 := c6.trans (b7.mono c6.size)
  have c8 := c7.trans (b8.mono c7.size)
  have c9 := c8.trans (b9.mono c8.size)
  have c10 := c9.trans (b10.mono c9.size)
  exact ⟨rfl, c10⟩
end Go.Proofs.YtepeaenbjgbnfaaDoor
