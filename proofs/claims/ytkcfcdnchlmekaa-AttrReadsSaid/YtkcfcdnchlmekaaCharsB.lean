/-
  chars.sequence, Append, Count, Valid.
-/
import Derived.Test.YtkcfcdnchlmekaaCharsA
import Derived.Lib.RuneBytes
set_option linter.unusedVariables false
set_option linter.unusedSimpArgs false
namespace Go.Proofs.Ytkcfcdnchlmekaa
open Go.RowKit Go.Pub

theorem encode_bad (c : Int) (h : c < 0 ∨ 1114111 < c ∨ (55296 ≤ c ∧ c ≤ 57343)) : Utf8.encode c = Utf8.encode 65533 := by
  have hv : Utf8.valid c = false := by unfold Utf8.valid; simp; omega
  have hv' : Utf8.valid 65533 = true := by decide
  unfold Utf8.encode
  simp only [hv, hv', Bool.false_eq_true, if_false, if_true, Utf8.runeError, show (65533 : Int).toNat = 65533 from rfl]

theorem encode_size (c : Int) : 1 ≤ (Utf8.encode c).size ∧ (Utf8.encode c).size ≤ 4 := by
  unfold Utf8.encode
  simp only []
  generalize (if Utf8.valid c = true then c.toNat else Utf8.runeError) = x
  (repeat' split) <;> simp [ByteArray.size]


/-- A code point that clean text can have. -/
def okPt (p : Nat × Nat) : Bool := !(p.1 == 65533 && p.2 == 1) && !uncleanB p.1
def validB (s : ByteArray) : Bool := (pts s).all okPt

set_option maxRecDepth 100000 in
set_option maxHeartbeats 4000000 in
theorem valid_any (s : ByteArray) (w : World) (hs : s.size < 9223372036854775800) : Calls Try.prog 48 #[.string s] w fun e w' => e = .returned (.bool (validB s)) ∧ Below w.heap.size w w' := by
  have HV : Hid (validB s = (pts s).all okPt) := Lib.hid rfl
  generalize validB s = V at *
  go_enter Try.func48, Try.ntmps48
  go_wp2
  go_loopw [3] (fun i wr => ∃ (pos f : Nat) (acc : List (Nat × Nat)), i = .int .i64 pos ∧ Below w.heap.size w wr ∧ acc ++ ptsFrom s f pos = pts s ∧ acc.all okPt = true ∧ s.size ≤ pos + f ∧ pos ≤ s.size) (fun i _ => s.size - (intOf i).toNat)
  case atStart =>
    exact ⟨0, s.size, [], rfl, Below.refl _ w, rfl, rfl, by omega, by omega⟩
  case round =>
    obtain ⟨pos, f, acc, rfl, hbw, hacc, hok, hf, hal⟩ := hrel
    have Hacc := Lib.hid hacc
    have Hok := Lib.hid hok
    clear hacc hok
    by_cases hp : pos < s.size
    · have hd := dec_bd s pos hp
      have HN : Hid (∀ W, Calls Try.prog 61 #[.string s, .int .i64 pos] W (PairQuiet (Utf8.decode s pos).1 (Utf8.decode s pos).2 W)) := Lib.hid fun W => by
        have h := next_any s pos W (by omega)
        rw [nextAt_in s pos hp] at h
        exact h
      have hall : Hid (pts s = (acc ++ [Utf8.decode s pos]) ++ ptsFrom s (f - 1) (pos + (Utf8.decode s pos).2)) := Lib.hid (by rw [← Hacc.out, ptsFrom_step s f pos hp hf]; simp)
      have hokp : Hid (okPt (Utf8.decode s pos) = (!((Utf8.decode s pos).1 == 65533 && (Utf8.decode s pos).2 == 1) && !uncleanB (Utf8.decode s pos).1)) := Lib.hid rfl
      generalize Utf8.decode s pos = D at *
      have fals : okPt D = false → V = false := fun h => by rw [HV.out, hall.out]; simp [h]
      have Hfals := Lib.hid fals
      clear fals
      by_cases c1 : ((D.1 : Int) == 65533) = true
      · by_cases c2 : ((D.2 : Int) == 1) = true
        · have hv : okPt D = false := by rw [hokp.out]; simp at c1 c2; simp; omega
          have Hv := Lib.hid hv
          clear hv
          go_wp2_with (go_at_call 61; refine (HN.out _).mono ?_; rintro e w' ⟨rfl, kq, rfl⟩)
          go_ret
          exact ⟨ret_bool (Hfals.out Hv.out).symm, below_drewN hbw _⟩
        · rw [Bool.not_eq_true] at c2
          by_cases c3 : uncleanB D.1 = true
          · have Hv : Hid (okPt D = false) := Lib.hid (by rw [hokp.out, c3]; simp)
            go_wp2_with (first | (go_at_call 61; refine (HN.out _).mono ?_; rintro e w' ⟨rfl, kq, rfl⟩) | (go_at_call 62; refine (unclean_any _ _).mono ?_; rintro e w' ⟨rfl, rfl⟩))
            go_ret
            exact ⟨ret_bool (Hfals.out Hv.out).symm, below_drewN hbw _⟩
          · rw [Bool.not_eq_true] at c3
            have Hv : Hid (okPt D = true) := Lib.hid (by rw [hokp.out, c3]; simp at c1 c2; simp; omega)
            go_wp2_with (first | (go_at_call 61; refine (HN.out _).mono ?_; rintro e w' ⟨rfl, kq, rfl⟩) | (go_at_call 62; refine (unclean_any _ _).mono ?_; rintro e w' ⟨rfl, rfl⟩))
            go_roundw
            case rel => exact ⟨pos + D.2, f - 1, acc ++ [D], by go_num, below_drewN hbw _, hall.out.symm, by rw [List.all_append, Hok.out]; simp [Hv.out], by omega, by omega⟩
            case measure => simp [intOf]; omega
      · rw [Bool.not_eq_true] at c1
        by_cases c3 : uncleanB D.1 = true
        · have Hv : Hid (okPt D = false) := Lib.hid (by rw [hokp.out, c3]; simp)
          go_wp2_with (first | (go_at_call 61; refine (HN.out _).mono ?_; rintro e w' ⟨rfl, kq, rfl⟩) | (go_at_call 62; refine (unclean_any _ _).mono ?_; rintro e w' ⟨rfl, rfl⟩))
          go_ret
          exact ⟨ret_bool (Hfals.out Hv.out).symm, below_drewN hbw _⟩
        · rw [Bool.not_eq_true] at c3
          have Hv : Hid (okPt D = true) := Lib.hid (by rw [hokp.out, c3]; simp at c1; simp; omega)
          go_wp2_with (first | (go_at_call 61; refine (HN.out _).mono ?_; rintro e w' ⟨rfl, kq, rfl⟩) | (go_at_call 62; refine (unclean_any _ _).mono ?_; rintro e w' ⟨rfl, rfl⟩))
          go_roundw
          case rel => exact ⟨pos + D.2, f - 1, acc ++ [D], by go_num, below_drewN hbw _, hall.out.symm, by rw [List.all_append, Hok.out]; simp [Hv.out], by omega, by omega⟩
          case measure => simp [intOf]; omega
    · have hv : V = true := by rw [HV.out, ← Hacc.out, ptsFrom_end s f pos hp, List.append_nil]; exact Hok.out
      have Hv := Lib.hid hv
      clear hv
      go_wp2
      go_ret
      exact ⟨ret_bool Hv.out.symm, hbw⟩
end Go.Proofs.Ytkcfcdnchlmekaa
