/-
  The walks of CharsSteps, CharsOnce and CharsJoin.
-/
import Derived.Test.YtobkckclngmpjaaLawA
import Derived.Test.YtobkckclngmpjaaPureC
set_option linter.unusedVariables false
set_option linter.unusedSimpArgs false
namespace Go.Proofs.Ytobkckclngmpjaa
open Go.RowKit Go.Pub

theorem mk_enc (l : List UInt8) (c : Int) : mk l ++ Utf8.encode c = mk (l ++ encL c) := by
  rw [enc_mk c]; exact ByteArray.mk_append_mk _ _
theorem mk_size (l : List UInt8) : (mk l).size = l.length := by rw [← bytesL_length, bytesL_mk']

def StRel (s : ByteArray) (w : World) (t i k : Value) (wr : World) : Prop :=
  ∃ (pos f : Nat) (acc : List (Nat × Nat)), t = .string (mk ((acc.map (·.1)).flatMap enc)) ∧ i = .int .i64 pos ∧ k = .int .i64 acc.length ∧ Below w.heap.size w wr ∧ acc ++ ptsFrom s f pos = pts s ∧ s.size ≤ pos + f ∧ pos ≤ s.size ∧ ((acc.map (·.1)).flatMap enc).length ≤ 4 * pos ∧ acc.length ≤ pos

set_option maxRecDepth 100000 in
set_option maxHeartbeats 8000000 in
theorem lawSteps_any (s : ByteArray) (w : World) (hs : s.size ≤ 9223372036854775807) : Calls Try.prog 8 #[.string s] w fun e w' => e = .returned (.bool true) ∧ Below w.heap.size w w' := by
  by_cases h : 2000 < s.size
  · go_enter Try.func8, Try.ntmps8
    go_wp2_with (go_at_call 11; refine (awake_any _).mono ?_; rintro e w1 ⟨rfl, b1⟩)
    go_ret
    exact ⟨rfl, b1⟩
  · have HC := Lib.hid (count_any s)
    have HT := Lib.hid (count_any (again s))
    have HV := Lib.hid (valid_any s)
    have hcnt := Lib.hid (again_count s)
    have hval := Lib.hid (again_valid s)
    have hagain : Hid (again s = mk (((pts s).map (·.1)).flatMap enc)) := Lib.hid rfl
    have dsz : decide (2000 < s.size) = false := by simpa using h
    go_enter Try.func8, Try.ntmps8
    go_wp2
    go_loopw [3, 4, 5] (fun t i k wr => StRel s w t i k wr) (fun _ i _ _ => s.size - (intOf i).toNat)
    case atStart => exact ⟨0, s.size, [], rfl, rfl, rfl, Below.refl _ w, rfl, by omega, by omega, by simp, by simp⟩
    case round =>
      obtain ⟨pos, f, acc, rfl, rfl, rfl, hbw, hacc, hf, hps, hal, hkl⟩ := hrel
      have Hacc := Lib.hid hacc
      clear hacc
      have hz := hbw.size
      by_cases hp : pos < s.size
      · have hd := dec_bd s pos hp
        have HN : Hid (∀ W, Calls Try.prog 12 #[.string s, .int .i64 pos] W (PairQuiet (Utf8.decode s pos).1 (Utf8.decode s pos).2 W)) := Lib.hid fun W => by
          have h := next_any s pos W (by omega)
          rw [nextAt_in s pos hp] at h
          exact h
        have hall : Hid ((acc ++ [Utf8.decode s pos]) ++ ptsFrom s (f - 1) (pos + (Utf8.decode s pos).2) = pts s) := Lib.hid (by rw [← Hacc.out, ptsFrom_step s f pos hp hf]; simp)
        generalize Utf8.decode s pos = D at *
        have hel := encL_length (D.1 : Int)
        have hap : Hid (∀ W, Calls Try.prog 16 #[.string (mk ((acc.map (·.1)).flatMap enc)), .int .i64 D.1] W fun e w' => e = .returned (.string (mk (((acc ++ [D]).map (·.1)).flatMap enc))) ∧ W = w') := Lib.hid fun W => by
          have h := append_any (mk ((acc.map (·.1)).flatMap enc)) D.1 W (by rw [mk_size]; omega)
          rw [mk_enc] at h
          have e : ((acc ++ [D]).map (·.1)).flatMap enc = (acc.map (·.1)).flatMap enc ++ encL D.1 := by simp [enc]
          rw [e]; exact h
        have hnl : Hid ((((acc ++ [D]).map (·.1)).flatMap enc).length ≤ 4 * (pos + D.2)) := Lib.hid (by
          have e : ((acc ++ [D]).map (·.1)).flatMap enc = (acc.map (·.1)).flatMap enc ++ encL D.1 := by simp [enc]
          rw [e, List.length_append]; omega)
        have hlen : (acc ++ [D]).length = acc.length + 1 := by simp
        have Hlen := Lib.hid hlen
        clear hlen hal
        generalize hA : acc ++ [D] = acc' at *
        have HA := Lib.hid hA
        clear hA
        generalize mk ((acc.map (·.1)).flatMap enc) = T at *
        generalize hT' : mk ((acc'.map (·.1)).flatMap enc) = T' at *
        have HT' := Lib.hid hT'
        clear hT'
        go_wp2_with fail
        refine (HN.out _).mono ?_
        rintro e w' ⟨rfl, kq, rfl⟩
        go_wp2_with fail
        refine (hap.out _).mono ?_
        rintro e w' ⟨rfl, rfl⟩
        go_wp2
        go_roundw
        case rel => exact ⟨pos + D.2, f - 1, acc', by rw [HT'.out], by go_num, by rw [Hlen.out]; go_num, below_drewN hbw _, hall.out, by omega, by omega, hnl.out, by rw [Hlen.out]; omega⟩
        case measure => simp [intOf]; omega
      · have hpts : Hid (acc = pts s) := Lib.hid (by rw [← Hacc.out, ptsFrom_end s f pos hp, List.append_nil])
        have hTs : mk ((acc.map (·.1)).flatMap enc) = again s := by rw [hagain.out, hpts.out]
        rw [hTs]
        have hks : acc.length = (pts s).length := by rw [hpts.out]
        have hksz : (again s).size ≤ 8000 := by rw [← hTs, mk_size]; omega
        rw [hks]
        clear hTs hks hpts
        have hcs : (pts (again s)).length = (pts s).length := hcnt.out
        rw [hcs] at HT
        clear hcs
        generalize again s = T at *
        generalize (pts s).length = L at *
        generalize validB s = V at *
        cases V
        · go_wp2_with fail
          refine (HC.out _ (by omega)).mono ?_
          rintro e w1 ⟨rfl, b1⟩
          go_wp2_with fail
          refine (HV.out _ (by omega)).mono ?_
          rintro e w2 ⟨rfl, b2⟩
          go_wp2_with fail
          refine (HT.out _ (by omega)).mono ?_
          rintro e w3 ⟨rfl, b3⟩
          go_wp2_with fail
          refine (awake_any _).mono ?_
          rintro e w4 ⟨rfl, b4⟩
          go_wp2
          go_ret
          have z1 := b1.size
          have z2 := b2.size
          have z3 := b3.size
          exact ⟨rfl, (((hbw.trans (b1.mono (by omega))).trans (b2.mono (by omega))).trans (b3.mono (by omega))).trans (b4.mono (by omega))⟩
        · have hTe := hval.out rfl
          subst hTe
          go_wp2_with fail
          refine (HC.out _ (by omega)).mono ?_
          rintro e w1 ⟨rfl, b1⟩
          go_wp2_with fail
          refine (HV.out _ (by omega)).mono ?_
          rintro e w2 ⟨rfl, b2⟩
          go_wp2_with fail
          refine (HT.out _ (by omega)).mono ?_
          rintro e w3 ⟨rfl, b3⟩
          go_wp2_with fail
          refine (awake_any _).mono ?_
          rintro e w4 ⟨rfl, b4⟩
          go_wp2
          go_ret
          have z1 := b1.size
          have z2 := b2.size
          have z3 := b3.size
          exact ⟨rfl, (((hbw.trans (b1.mono (by omega))).trans (b2.mono (by omega))).trans (b3.mono (by omega))).trans (b4.mono (by omega))⟩
end Go.Proofs.Ytobkckclngmpjaa
