/-
  Texts of the proof, put together (what this law reaches): ScTF.
-/
import Derived.Test.YtcjkgmfidkgamaaGreatDoorD20
import Derived.Test.YtcjkgmfidkgamaaGreatDoorD21
import Derived.Test.YtcjkgmfidkgamaaGreatDoorD04
set_option linter.unusedVariables false
set_option linter.unusedSimpArgs false
namespace Go.Pub
/-- The piece that one or two signs, or a run, make. -/
def marksI (s : ByteArray) (i : Nat) : Option PcL :=
  if bt s i = 91 then some { kind := 2, bg := i, nd := i + 1 }
  else if bt s i = 33 then if i + 1 < s.size ∧ bt s (i + 1) = 91 then some { kind := 2, img := true, bg := i, nd := i + 2 } else none
  else if bt s i = 93 then some { kind := 3, bg := i, nd := i + 1 }
  else if bt s i = 42 ∨ bt s i = 95 ∨ bt s i = 126 ∧ runE s i - i = 2 then some (runI s i)
  else none
theorem beg_not {s : ByteArray} {i : Nat} {x : UInt8} {t : List UInt8} (h : bt s i ≠ x.toNat) : begB s i (x :: t) = false := by
  cases hb : begB s i (x :: t)
  · rfl
  · exact absurd (begB_at hb) h
end Go.Pub
namespace Go.Proofs.YtcjkgmfidkgamaaGreatDoor
open Go.RowKit Go.Pub
set_option maxRecDepth 100000 in
set_option maxHeartbeats 8000000 in
theorem r9_marks (s : ByteArray) (i : Nat) (w : World) (hs : s.size ≤ 1000000) (hi : i < s.size) : Calls Tryz.prog 56 #[.string s, .int .i64 i] w (RfPost (marksI s i) w) := by
  obtain ⟨R, hR⟩ : ∃ R, R = marksI s i := ⟨_, rfl⟩
  rw [← hR]
  have hg := get_bt s i hi
  have HRn := Lib.hid fun W => r9_run s i W hs hi
  obtain ⟨hE1, hE2⟩ := runE_bd s i hi
  obtain ⟨n, hn⟩ : ∃ n, n = runE s i - i := ⟨_, rfl⟩
  have hE : runE s i = i + n := by omega
  rw [← hn] at HRn
  have hn1 : i + n ≤ s.size := by omega
  have HBg : Hid (∀ W, Calls Tryz.prog 87 #[.string s, .int .i64 i, .string ⟨#[33, 91]⟩] W fun e w' => e = .returned (.bool (begB s i [33, 91])) ∧ W = w') := Lib.hid fun W => r9_beg s ⟨#[33, 91]⟩ i W hs (by omega) (by decide) (by decide)
  have K0 : Hid (Kp w (w.alloc (.cells zPc 36))) := Lib.hid (Kp.init w)
  clear hE1 hE2
  by_cases h33 : bt s i = 33
  · have hq := beg_two (x := 33) 91 hi h33
    by_cases c : i + 1 < s.size ∧ bt s (i + 1) = 91
    · have HF : Hid (R = some { kind := 2, img := true, bg := i, nd := i + 2 }) := Lib.hid (by rw [hR]; unfold marksI; rw [if_neg (by omega), if_pos h33, if_pos c])
      rw [hq, decide_eq_true c.1, c.2, show (true && (91 == (91 : UInt8).toNat)) = true from rfl] at HBg
      clear hR hE hn hq c h33 HRn hg
      go_enter Tryz.func56, Tryz.ntmps56
      go_wp2_with fail
      ((with_reducible refine (HBg.out _).mono ?_))
      rintro e w1 ⟨rfl, rfl⟩
      go_wp2_with (refine wpList_store_row rfl 36 (.tmp 4) _ rfl _ _ rfl rfl _ _ K0.out.1 pc_size (by rfl) (by simp [pcC, Value.oneCell']) ?_)
      exact rf_yes Tryz.results56 K0.out HF.out rfl rfl rfl rfl rfl rfl
    · have HF : Hid (R = none) := Lib.hid (by rw [hR]; unfold marksI; rw [if_neg (by omega), if_pos h33, if_neg c])
      have hq2 : begB s i [33, 91] = false := by
        rw [hq]
        by_cases h1 : i + 1 < s.size
        · rw [decide_eq_true h1, Bool.true_and, beq_eq_false_iff_ne]; exact fun e => c ⟨h1, e⟩
        · rw [decide_eq_false h1, Bool.false_and]
      rw [hq2] at HBg
      rw [h33] at hg
      clear hR hE hn hq hq2 c h33
      go_enter Tryz.func56, Tryz.ntmps56
      go_wp2_with fail
      ((with_reducible refine (HBg.out _).mono ?_))
      rintro e w1 ⟨rfl, rfl⟩
      go_wp2_with fail
      ((with_reducible refine (HRn.out _).mono ?_))
      rintro e W1 ⟨rfl, b1⟩
      have K1 := Lib.hid (K0.out.next b1)
      clear b1
      go_wp2_with (refine wpList_store_row rfl 36 (.tmp 4) _ rfl _ _ rfl rfl _ _ K1.out.1 pc_size (by rfl) (by simp [pcC, Value.oneCell']) ?_)
      exact rf_no Tryz.results56 K1.out HF.out rfl rfl rfl rfl
  · rw [beg_not (x := 33) h33] at HBg
    by_cases h91 : bt s i = 91
    · have HF : Hid (R = some { kind := 2, bg := i, nd := i + 1 }) := Lib.hid (by rw [hR]; unfold marksI; rw [if_pos h91])
      rw [h91] at hg
      clear hR hE hn h33 h91 HRn
      go_enter Tryz.func56, Tryz.ntmps56
      go_wp2_with fail
      ((with_reducible refine (HBg.out _).mono ?_))
      rintro e w1 ⟨rfl, rfl⟩
      go_wp2_with (refine wpList_store_row rfl 36 (.tmp 4) _ rfl _ _ rfl rfl _ _ K0.out.1 pc_size (by rfl) (by simp [pcC, Value.oneCell']) ?_)
      exact rf_yes Tryz.results56 K0.out HF.out rfl rfl rfl rfl rfl rfl
    · by_cases h93 : bt s i = 93
      · have HF : Hid (R = some { kind := 3, bg := i, nd := i + 1 }) := Lib.hid (by rw [hR]; unfold marksI; rw [if_neg h91, if_neg h33, if_pos h93])
        rw [h93] at hg
        clear hR hE hn h33 h91 h93 HRn
        go_enter Tryz.func56, Tryz.ntmps56
        go_wp2_with fail
        ((with_reducible refine (HBg.out _).mono ?_))
        rintro e w1 ⟨rfl, rfl⟩
        go_wp2_with (refine wpList_store_row rfl 36 (.tmp 4) _ rfl _ _ rfl rfl _ _ K0.out.1 pc_size (by rfl) (by simp [pcC, Value.oneCell']) ?_)
        exact rf_yes Tryz.results56 K0.out HF.out rfl rfl rfl rfl rfl rfl
      · by_cases hc : bt s i = 42 ∨ bt s i = 95 ∨ bt s i = 126 ∧ n = 2
        · have HNx : Hid (∀ W, Calls Tryz.prog 16 #[.string s, .int .i64 ((i : Int) + (n : Int))] W (PairBelow (nextAt s ((i + n : Nat) : Int)).1 (nextAt s ((i + n : Nat) : Int)).2 W)) := Lib.hid fun W => by
            have h := rNext_any s ((i + n : Nat) : Int) W (by omega)
            rwa [show (Value.int .i64 ((i + n : Nat) : Int)) = .int .i64 ((i : Int) + (n : Int)) by congr 1] at h
          have HBf := Lib.hid fun W => r9_bef s i W hs (by omega)
          have HFl := Lib.hid fun W => r9_flank (s.extract i (i + 1)) (befC s i) (nextAt s ((i + n : Nat) : Int)).1 W
          have HF : Hid (R = some { kind := 1, ch := s.extract i (i + 1), n := n, opn := (flankL (s.extract i (i + 1)) (befC s i) (nextAt s ((i + n : Nat) : Int)).1).1, clo := (flankL (s.extract i (i + 1)) (befC s i) (nextAt s ((i + n : Nat) : Int)).1).2, bg := i, nd := i + n }) := Lib.hid (by
            rw [hR]; unfold marksI; rw [if_neg h91, if_neg h33, if_neg h93, if_pos (by rw [← hn]; exact hc)]; unfold runI; rw [hE, show i + n - i = n by omega])
          generalize (flankL (s.extract i (i + 1)) (befC s i) (nextAt s ((i + n : Nat) : Int)).1).1 = f1 at *
          generalize (flankL (s.extract i (i + 1)) (befC s i) (nextAt s ((i + n : Nat) : Int)).1).2 = f2 at *
          generalize (nextAt s ((i + n : Nat) : Int)).1 = af at *
          generalize (nextAt s ((i + n : Nat) : Int)).2 = aw at *
          generalize befC s i = bf at *
          have hsl : i ≤ i + 1 := by omega
          have hw1 : IntKind.i64.wrap ((i : Int) + 1) = (i : Int) + 1 := IntWalk.i64_in _ (by omega)
          have hw2 : (0 : Int) ≤ (i : Int) + 1 := by omega
          have hw3 : (i : Int) + 1 ≤ (s.size : Int) := by omega
          have hw4 : (i : Int) ≤ (i : Int) + 1 := by omega
          clear hR hE hn h33 h91 h93
          rcases hc with h | h | ⟨h, h2⟩
          all_goals
            (try have z2 : ((n : Int) != 2) = false := by rw [h2]; rfl)
            (try clear h2)
            rw [h] at hg
            clear h
            go_enter Tryz.func56, Tryz.ntmps56
            go_wp2_with fail
            ((with_reducible refine (HBg.out _).mono ?_))
            rintro e w1 ⟨rfl, rfl⟩
            go_wp2_with fail
            ((with_reducible refine (HRn.out _).mono ?_))
            rintro e W1 ⟨rfl, b1⟩
            have K1 := Lib.hid (K0.out.next b1)
            clear b1
            go_wp2_with fail
            ((with_reducible refine (HNx.out _).mono ?_))
            rintro e W2 ⟨rfl, b2⟩
            have K2 := Lib.hid (K1.out.next b2)
            clear b2
            go_upto_region 11 with fail
            refine wp_region_held_drew (S := fun W' => Kp w W') (by kernel_rfl) (K2.out.next (Below.refl _ _).drew) (fun hHeld => ?_)
            refine tk 0 (.string s) rfl hHeld (fun W' hSw => ?_) ?_
            · go_simp
            refine tk 1 (.int .i64 i) rfl hHeld (fun W' hSw => ?_) ?_
            · go_simp
            refine tk 2 (.int .i64 i) rfl hHeld (fun W' hSw => ?_) ?_
            · go_simp
            refine tk 3 (.int .i64 ((i : Int) + 1)) rfl hHeld (fun W' hSw => ?_) ?_
            · go_simp
            refine tk 4 (.string (s.extract i (i + 1))) rfl hHeld (fun W' hSw => ?_) ?_
            · go_simp
            refine tk 5 (.string s) rfl hHeld (fun W' hSw => ?_) ?_
            · go_simp
            refine tk 6 (.int .i64 i) rfl hHeld (fun W' hSw => ?_) ?_
            · go_simp
            refine tk 8 (.int .i64 af) rfl hHeld (fun W' hSw => ?_) ?_
            · go_simp
            refine rd1 7 rfl (fun K hK => ?_)
            go_simp
            ((with_reducible refine (HBf.out _).mono ?_))
            rintro e W3 ⟨rfl, b3⟩
            have K3 := Lib.hid ((K2.out.next (Below.refl _ _).drew).next b3)
            clear b3
            go_simp
            refine hK.out _ _ K3.out (fun hHeld => ?_)
            clear hK K
            refine rd1 9 rfl (fun K hK => ?_)
            go_simp
            ((with_reducible refine (HFl.out _).mono ?_))
            rintro e W4 ⟨rfl, b4⟩
            have K4 := Lib.hid (K3.out.next b4)
            clear b4
            go_simp
            refine hK.out _ _ K4.out (fun hHeld => ?_)
            clear hK K
            refine tk 10 (.tuple #[.bool f1, .bool f2]) rfl hHeld (fun W' hSw => ?_) ?_
            · go_simp
            refine tk 11 (.bool f1) rfl hHeld (fun W' hSw => ?_) ?_
            · go_simp
            refine tk 12 (.bool f2) rfl hHeld (fun W' hSw => ?_) ?_
            · go_simp
            refine rd1 13 rfl (fun K hK => ?_)
            go_simp
            refine hK.out _ _ hHeld (fun hHeld => ?_)
            clear hK K
            refine rd1 14 rfl (fun K hK => ?_)
            go_simp
            refine hK.out _ _ hHeld (fun _ => ?_)
            clear hK K
            refine wpAnyH_done (by kernel_rfl) ?_ _
            go_wp2_with (refine wpList_store_row rfl 36 (.tmp 4) _ rfl _ _ rfl rfl _ _ K4.out.1 pc_size (by rfl) (by simp [pcC, Value.oneCell']) ?_)
            exact rf_yes Tryz.results56 K4.out HF.out rfl rfl rfl rfl rfl rfl
        · have HF : Hid (R = none) := Lib.hid (by rw [hR]; unfold marksI; rw [if_neg h91, if_neg h33, if_neg h93, if_neg (by rw [← hn]; exact hc)])
          by_cases h126 : bt s i = 126
          · have hn2 : n ≠ 2 := fun e => hc (.inr (.inr ⟨h126, e⟩))
            have z : ((n : Int) != 2) = true := bne_iff_ne.2 (by omega)
            rw [h126] at hg
            clear hR hE hn h33 h91 h93 hc h126
            go_enter Tryz.func56, Tryz.ntmps56
            go_wp2_with fail
            ((with_reducible refine (HBg.out _).mono ?_))
            rintro e w1 ⟨rfl, rfl⟩
            go_wp2_with fail
            ((with_reducible refine (HRn.out _).mono ?_))
            rintro e W1 ⟨rfl, b1⟩
            have K1 := Lib.hid (K0.out.next b1)
            clear b1
            go_wp2_with (refine wpList_store_row rfl 36 (.tmp 4) _ rfl _ _ rfl rfl _ _ K1.out.1 pc_size (by rfl) (by simp [pcC, Value.oneCell']) ?_)
            exact rf_no Tryz.results56 K1.out HF.out rfl rfl rfl rfl
          · have n1 : ((bt s i : Int) == 91) = false := beq_eq_false_iff_ne.2 (by omega)
            have n2 : ((bt s i : Int) == 93) = false := beq_eq_false_iff_ne.2 (by omega)
            have n3 : ((bt s i : Int) != 42) = true := bne_iff_ne.2 (by omega)
            have n4 : ((bt s i : Int) != 95) = true := bne_iff_ne.2 (by omega)
            have n5 : ((bt s i : Int) != 126) = true := bne_iff_ne.2 (by omega)
            clear hR hE hn h33 h91 h93 hc h126
            generalize bt s i = b at *
            go_enter Tryz.func56, Tryz.ntmps56
            go_wp2_with fail
            ((with_reducible refine (HBg.out _).mono ?_))
            rintro e w1 ⟨rfl, rfl⟩
            go_wp2_with fail
            ((with_reducible refine (HRn.out _).mono ?_))
            rintro e W1 ⟨rfl, b1⟩
            have K1 := Lib.hid (K0.out.next b1)
            clear b1
            go_wp2_with (refine wpList_store_row rfl 36 (.tmp 4) _ rfl _ _ rfl rfl _ _ K1.out.1 pc_size (by rfl) (by simp [pcC, Value.oneCell']) ?_)
            exact rf_no Tryz.results56 K1.out HF.out rfl rfl rfl rfl

end Go.Proofs.YtcjkgmfidkgamaaGreatDoor
