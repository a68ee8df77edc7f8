/-
  attr.readValue without quotation marks; the reference's value.
-/
import Derived.Test.YtkcfcdnchlmekaaAttrV
set_option linter.unusedVariables false
set_option linter.unusedSimpArgs false
namespace Go.Proofs.Ytkcfcdnchlmekaa
open Go.RowKit Go.Pub

/-- The value that attr.readValue gives where no quotation mark stands. -/
def bareVal (s : ByteArray) (i : Nat) : ByteArray × Nat × Bool := (s.extract i (wordAt s i), wordAt s i, nameB (s.extract i (wordAt s i)))

theorem extract_size (s : ByteArray) (i j : Nat) (h : i ≤ j) (hj : j ≤ s.size) : (s.extract i j).size = j - i := by
  rw [ByteArray.size_extract]; omega

set_option maxRecDepth 100000 in
set_option maxHeartbeats 1000000 in
theorem readValue_n (s : ByteArray) (i : Nat) (w : World) (hs : s.size ≤ 1000000) (hi : i ≤ s.size) (hq : ¬ (i < s.size ∧ bt s i = 34)) : Calls Try.prog 56 #[.string s, .int .i64 i] w (TripleBelow (bareVal s i) w) := by
  have hwb := wEnd_bd s (s.size - i) i
  have hw1 : i ≤ wordAt s i := hwb.1
  have hw2 : wordAt s i ≤ s.size := hwb.2 hi
  clear hwb
  have HW := Lib.hid (wordEnd_any s i)
  have HN := Lib.hid (name_any (s.extract i (wordAt s i)))
  have hsz : (s.extract i (wordAt s i)).size ≤ 1000000 := by rw [extract_size s i _ hw1 hw2]; omega
  have HB : Hid (bareVal s i = (s.extract i (wordAt s i), wordAt s i, nameB (s.extract i (wordAt s i)))) := Lib.hid rfl
  generalize bareVal s i = T at *
  generalize wordAt s i = j at *
  have HM : ∀ w : World, (Builtin.min_ #[3, 3] 3 #[.int .i64 i, .int .i64 s.size]).run Try.prog w = .ok (.int .i64 i) w := fun w => by rw [run_min_int2, if_neg (by omega)]
  by_cases h1 : i < s.size
  · have hne : bt s i ≠ 34 := fun e => hq ⟨h1, e⟩
    have hlt0 : ((s[i].toNat : Nat) : Int) < 256 := by rw [get_bt s i h1]; have := bt_lt s i; omega
    have z0 : (((s[i].toNat : Nat) : Int) != 34) = true := by rw [get_bt s i h1]; simp; omega
    have d0 : decide (s.size ≤ i) = false := decide_eq_false (by omega)
    clear hq hne
    go_enter Try.func56, Try.ntmps56
    go_wp2_with fail
    ((with_reducible refine (HW.out _ (by omega)).mono ?_))
    rintro e w1 ⟨rfl, rfl⟩
    go_wp2_with fail
    ((with_reducible refine (HN.out _ (by omega)).mono ?_))
    rintro e w1 ⟨rfl, rfl⟩
    go_wp2
    go_ret3
    refine ⟨?_, Below.refl _ _⟩
    rw [HB.out]; rfl
  · obtain rfl : i = s.size := by omega
    have d0 : decide (s.size ≤ s.size) = true := decide_eq_true (Nat.le_refl _)
    clear hq
    go_enter Try.func56, Try.ntmps56
    go_wp2_with fail
    ((with_reducible refine (HW.out _ (by omega)).mono ?_))
    rintro e w1 ⟨rfl, rfl⟩
    go_wp2_with fail
    ((with_reducible refine (HN.out _ (by omega)).mono ?_))
    rintro e w1 ⟨rfl, rfl⟩
    go_wp2
    go_ret3
    refine ⟨?_, Below.refl _ _⟩
    rw [HB.out]; rfl
end Go.Proofs.Ytkcfcdnchlmekaa
