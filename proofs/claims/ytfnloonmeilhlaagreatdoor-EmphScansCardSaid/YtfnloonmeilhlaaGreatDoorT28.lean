/-
  Texts of the proof, put together (what this law reaches): ScL, ScR.
-/
import Derived.Test.YtfnloonmeilhlaaGreatDoorT27
import Derived.Deep.DeepCutAuto
import Derived.Deep.CutRange
set_option linter.unusedVariables false
set_option linter.unusedSimpArgs false
namespace Go.Proofs.YtfnloonmeilhlaaGreatDoor
open Go.RowKit Go.Pub
set_option maxRecDepth 100000 in
set_option maxHeartbeats 2000000 in
theorem s_back (s : ByteArray) (i : Nat) (w : World) (hs : s.size ≤ 1000000) (hi : i < s.size) : Calls Tryz.prog 29 #[.string s, .int .i64 i] w (InPost (escI s i) w) := by
  have HS := Lib.hid fun W => s_skip s (i + 2) W hs
  have HP := Lib.hid fun W => punct_any (bt s (i + 1)) W
  obtain ⟨R, hR⟩ : ∃ R, R = escI s i := ⟨_, rfl⟩
  rw [← hR]
  unfold escI at hR
  have HR := Lib.hid hR
  clear hR
  by_cases h1 : i + 1 < s.size
  · have hg := get_bt s (i + 1) h1
    generalize spAt s (i + 2) = E at *
    have hx : ∃ X, X = s.extract (i + 1) (i + 2) := ⟨_, rfl⟩
    rw [if_pos h1] at HR
    generalize inB (bt s (i + 1) : Int) punctL = q at *
    generalize bt s (i + 1) = b at *
    by_cases h10 : b = 10
    · have z : ((b : Int) == 10) = true := by rw [h10]; rfl
      have HQ : Hid (R = some ({ kind := 3 }, E)) := Lib.hid (by rw [HR.out, if_pos h10])
      clear HR h10
      go_enter Tryz.func29, Tryz.ntmps29
      go_wp2_with fail
      (refine (HS.out _).mono ?_)
      rintro e w1 ⟨rfl, rfl⟩
      go_wp2_with fail
      exact in_ret Tryz.results29 (Blk.new w _ _) rfl rfl rfl (in_some HQ.out rfl rfl ((Below.refl _ w).alloc (Nat.le_refl _) _) rfl rfl)
    · have z : ((b : Int) == 10) = false := beq_eq_false_iff_ne.2 (by omega)
      rw [if_neg h10] at HR
      clear h10
      by_cases h128 : b < 128
      · have d : decide ((b : Int) < 128) = true := decide_eq_true (by omega)
        cases q
        · have HQ : Hid (R = none) := Lib.hid (by rw [HR.out, if_neg (by simp)])
          clear HR
          go_enter Tryz.func29, Tryz.ntmps29
          go_wp2_with fail
          (refine (HP.out _).mono ?_)
          rintro e w1 ⟨rfl, rfl⟩
          go_wp2_with fail
          exact in_ret Tryz.results29 (Blk.new w _ _) rfl rfl rfl (in_none HQ.out ((Below.refl _ w).alloc (Nat.le_refl _) _))
        · have HQ : Hid (R = some (spn 1 (s.extract (i + 1) (i + 2)), i + 2)) := Lib.hid (by rw [HR.out, if_pos (by simp [h128])])
          clear HR
          go_enter Tryz.func29, Tryz.ntmps29
          go_wp2_with fail
          (refine (HP.out _).mono ?_)
          rintro e w1 ⟨rfl, rfl⟩
          go_wp2_with fail
          exact in_ret Tryz.results29 (Blk.new w _ _) rfl rfl rfl (in_some HQ.out rfl rfl ((Below.refl _ w).alloc (Nat.le_refl _) _) rfl (by omega))
      · have d : decide ((b : Int) < 128) = false := decide_eq_false (by omega)
        have HQ : Hid (R = none) := Lib.hid (by rw [HR.out, if_neg (by simp [h128])])
        clear HR
        go_enter Tryz.func29, Tryz.ntmps29
        go_wp2_with fail
        exact in_ret Tryz.results29 (Blk.new w _ _) rfl rfl rfl (in_none HQ.out ((Below.refl _ w).alloc (Nat.le_refl _) _))
  · have HQ : Hid (R = none) := Lib.hid (by rw [HR.out, if_neg h1])
    clear HR
    go_enter Tryz.func29, Tryz.ntmps29
    go_wp2_with fail
    exact in_ret Tryz.results29 (Blk.new w _ _) rfl rfl rfl (in_none HQ.out ((Below.refl _ w).alloc (Nat.le_refl _) _))

end Go.Proofs.YtfnloonmeilhlaaGreatDoor
namespace Go.Pub
theorem begB_len {s : ByteArray} {i : Nat} {t : List UInt8} (h : begB s i t = true) (ht : t ≠ []) : i + t.length ≤ s.size := by
  unfold begB at h
  have h2 := (List.isPrefixOf_iff_prefix.1 h).length_le
  rw [sfx_len] at h2
  have : 0 < t.length := List.length_pos_iff.2 ht
  omega
theorem begB_at {s : ByteArray} {i : Nat} {b : UInt8} {t : List UInt8} (h : begB s i (b :: t) = true) : bt s i = b.toNat := by
  unfold begB at h
  obtain ⟨r, hr⟩ := List.isPrefixOf_iff_prefix.1 h
  exact (sfx_head hr.symm).2.1
theorem namI_eq (s : ByteArray) (i : Nat) : namI s i = if i + 1 < s.size ∧ (bt s (i + 1) = 94 ∨ bt s (i + 1) = 35) then
    (if nameB (s.extract (i + 2) (wordAt s (i + 2))) = true then
      if begB s (wordAt s (i + 2)) [93] = true then some (spn (if bt s (i + 1) = 94 then 12 else 14) (s.extract (i + 2) (wordAt s (i + 2))), wordAt s (i + 2) + 1)
      else if bt s (i + 1) = 35 ∧ begB s (wordAt s (i + 2)) [32, 112, 97, 103, 101, 93] = true then some ({ kind := 14, text := s.extract (i + 2) (wordAt s (i + 2)), title := ⟨#[112, 97, 103, 101]⟩ }, wordAt s (i + 2) + 6)
      else none
    else none)
  else none := by
  unfold namI nmEnd
  by_cases h : nameB (s.extract (i + 2) (wordAt s (i + 2))) = true
  · rw [if_pos h, if_pos h]; rfl
  · rw [if_neg h, if_neg h]; rfl
theorem useI_eq (s : ByteArray) (i : Nat) : useI s i = if begB s i [123, 123] = true then
    (if nameB (s.extract (i + 2) (wordAt s (i + 2))) = true then
      if begB s (argsF s 8 (wordAt s (i + 2))).2 [125, 125] = true then some ({ kind := 15, text := s.extract (i + 2) (wordAt s (i + 2)), args := (argsF s 8 (wordAt s (i + 2))).1 }, (argsF s 8 (wordAt s (i + 2))).2 + 2) else none
    else none)
  else none := by
  unfold useI nmEnd
  by_cases h : nameB (s.extract (i + 2) (wordAt s (i + 2))) = true
  · rw [if_pos h, if_pos h]; rfl
  · rw [if_neg h, if_neg h]; rfl
end Go.Pub
namespace Go.Proofs.YtfnloonmeilhlaaGreatDoor
open Go.RowKit Go.Pub
theorem pre_any (s : ByteArray) (k : Nat) (p : ByteArray) (W : World) : Calls Tryz.prog 50 #[.string (s.extract k s.size), .string p] W fun e w' => e = .returned (.bool (begB s k (bytesL p))) ∧ W = w' := by
  refine (Tryz.strings_HasPrefix (s.extract k s.size) p W).mono ?_
  rintro e w' ⟨rfl, rfl⟩
  exact ⟨ret_bool (by rw [begB_bytes]; rfl), rfl⟩
set_option maxRecDepth 100000 in
set_option maxHeartbeats 4000000 in
theorem s_named (s : ByteArray) (i : Nat) (w : World) (hs : s.size ≤ 1000000) (hi : i < s.size) : Calls Tryz.prog 38 #[.string s, .int .i64 i] w (InPost (namI s i) w) := by
  have HN := Lib.hid fun W => s_nameEnd s (i + 2) W hs
  have HA := Lib.hid fun W => name_any (s.extract (i + 2) (wordAt s (i + 2))) W (by rw [ByteArray.size_extract]; omega)
  have HP1 := Lib.hid fun W => pre_any s (wordAt s (i + 2)) ⟨#[93]⟩ W
  have HP2 := Lib.hid fun W => pre_any s (wordAt s (i + 2)) ⟨#[32, 112, 97, 103, 101, 93]⟩ W
  rw [show bytesL (⟨#[93]⟩ : ByteArray) = [93] from rfl] at HP1
  rw [show bytesL (⟨#[32, 112, 97, 103, 101, 93]⟩ : ByteArray) = [32, 112, 97, 103, 101, 93] from rfl] at HP2
  obtain ⟨R, hR⟩ : ∃ R, R = namI s i := ⟨_, rfl⟩
  rw [← hR]
  rw [namI_eq] at hR
  by_cases h1 : i + 1 < s.size
  · have hg := get_bt s (i + 1) h1
    have hk1 := (wordAt_bd s (i + 2)).1
    have hk2 := (wordAt_bd s (i + 2)).2 (by omega)
    generalize wordAt s (i + 2) = K at *
    generalize begB s K [93] = q1 at *
    generalize begB s K [32, 112, 97, 103, 101, 93] = q2 at *
    have HY : Hid (∃ Y, Y = s.extract (i + 2) K) := Lib.hid ⟨_, rfl⟩
    generalize bt s (i + 1) = b at *
    generalize hnm : nameB (s.extract (i + 2) K) = nm at *
    by_cases hb : b = 94 ∨ b = 35
    · rw [if_pos ⟨h1, hb⟩] at hR
      cases nm
      · have HF : Hid (R = none) := Lib.hid (by rw [hR, if_neg (by simp)])
        clear hR hnm
        rcases hb with rfl | rfl
        all_goals
          go_enter Tryz.func38, Tryz.ntmps38
          go_wp2_with fail
          (refine (HN.out _).mono ?_)
          rintro e w1 ⟨rfl, rfl⟩
          go_wp2_with fail
          ((with_reducible refine (HA.out _).mono ?_))
          rintro e w1 ⟨rfl, rfl⟩
          go_wp2_with fail
          exact in_ret Tryz.results38 (Blk.new w _ _) rfl rfl rfl (in_none HF.out ((Below.refl _ w).alloc (Nat.le_refl _) _))
      · clear hnm
        rw [if_pos rfl] at hR
        cases q1
        · rw [if_neg (by simp)] at hR
          rcases hb with rfl | rfl
          · have HF : Hid (R = none) := Lib.hid (by rw [hR]; rfl)
            clear hR
            go_enter Tryz.func38, Tryz.ntmps38
            go_wp2_with fail
            (refine (HN.out _).mono ?_)
            rintro e w1 ⟨rfl, rfl⟩
            go_wp2_with fail
            ((with_reducible refine (HA.out _).mono ?_))
            rintro e w1 ⟨rfl, rfl⟩
            go_wp2_with fail
            ((with_reducible refine (HP1.out _).mono ?_))
            rintro e w1 ⟨rfl, rfl⟩
            go_wp2_with fail
            exact in_ret Tryz.results38 (Blk.new w _ _) rfl rfl rfl (in_none HF.out ((Below.refl _ w).alloc (Nat.le_refl _) _))
          · cases q2
            · have HF : Hid (R = none) := Lib.hid (by rw [hR]; rfl)
              clear hR
              go_enter Tryz.func38, Tryz.ntmps38
              go_wp2_with fail
              (refine (HN.out _).mono ?_)
              rintro e w1 ⟨rfl, rfl⟩
              go_wp2_with fail
              ((with_reducible refine (HA.out _).mono ?_))
              rintro e w1 ⟨rfl, rfl⟩
              go_wp2_with fail
              ((with_reducible refine (HP1.out _).mono ?_))
              rintro e w1 ⟨rfl, rfl⟩
              go_wp2_with fail
              ((with_reducible refine (HP2.out _).mono ?_))
              rintro e w1 ⟨rfl, rfl⟩
              go_wp2_with fail
              exact in_ret Tryz.results38 (Blk.new w _ _) rfl rfl rfl (in_none HF.out ((Below.refl _ w).alloc (Nat.le_refl _) _))
            · have HF : Hid (R = some ({ kind := 14, text := s.extract (i + 2) K, title := ⟨#[112, 97, 103, 101]⟩ }, K + 6)) := Lib.hid (by rw [hR]; rfl)
              clear hR
              go_enter Tryz.func38, Tryz.ntmps38
              go_wp2_with fail
              (refine (HN.out _).mono ?_)
              rintro e w1 ⟨rfl, rfl⟩
              go_wp2_with fail
              ((with_reducible refine (HA.out _).mono ?_))
              rintro e w1 ⟨rfl, rfl⟩
              go_wp2_with fail
              ((with_reducible refine (HP1.out _).mono ?_))
              rintro e w1 ⟨rfl, rfl⟩
              go_wp2_with fail
              ((with_reducible refine (HP2.out _).mono ?_))
              rintro e w1 ⟨rfl, rfl⟩
              go_wp2_with fail
              exact in_ret Tryz.results38 (Blk.new w _ _) rfl rfl rfl (in_some HF.out rfl rfl ((Below.refl _ w).alloc (Nat.le_refl _) _) rfl (by omega))
        · rw [if_pos rfl] at hR
          rcases hb with rfl | rfl
          · have HF : Hid (R = some (spn 12 (s.extract (i + 2) K), K + 1)) := Lib.hid (by rw [hR]; rfl)
            clear hR
            go_enter Tryz.func38, Tryz.ntmps38
            go_wp2_with fail
            (refine (HN.out _).mono ?_)
            rintro e w1 ⟨rfl, rfl⟩
            go_wp2_with fail
            ((with_reducible refine (HA.out _).mono ?_))
            rintro e w1 ⟨rfl, rfl⟩
            go_wp2_with fail
            ((with_reducible refine (HP1.out _).mono ?_))
            rintro e w1 ⟨rfl, rfl⟩
            go_wp2_with fail
            exact in_ret Tryz.results38 (Blk.new w _ _) rfl rfl rfl (in_some HF.out rfl rfl ((Below.refl _ w).alloc (Nat.le_refl _) _) rfl (by omega))
          · have HF : Hid (R = some (spn 14 (s.extract (i + 2) K), K + 1)) := Lib.hid (by rw [hR]; rfl)
            clear hR
            go_enter Tryz.func38, Tryz.ntmps38
            go_wp2_with fail
            (refine (HN.out _).mono ?_)
            rintro e w1 ⟨rfl, rfl⟩
            go_wp2_with fail
            ((with_reducible refine (HA.out _).mono ?_))
            rintro e w1 ⟨rfl, rfl⟩
            go_wp2_with fail
            ((with_reducible refine (HP1.out _).mono ?_))
            rintro e w1 ⟨rfl, rfl⟩
            go_wp2_with fail
            exact in_ret Tryz.results38 (Blk.new w _ _) rfl rfl rfl (in_some HF.out rfl rfl ((Below.refl _ w).alloc (Nat.le_refl _) _) rfl (by omega))
    · rw [if_neg fun c => hb c.2] at hR
      have HF := Lib.hid hR
      have n1 : ((b : Int) != 94) = true := bne_iff_ne.2 (by omega)
      have n2 : ((b : Int) != 35) = true := bne_iff_ne.2 (by omega)
      clear hR hb hnm
      go_enter Tryz.func38, Tryz.ntmps38
      go_wp2_with fail
      exact in_ret Tryz.results38 (Blk.new w _ _) rfl rfl rfl (in_none HF.out ((Below.refl _ w).alloc (Nat.le_refl _) _))
  · rw [if_neg fun c => h1 c.1] at hR
    have HF := Lib.hid hR
    clear hR HN HA HP1 HP2
    go_enter Tryz.func38, Tryz.ntmps38
    go_wp2_with fail
    exact in_ret Tryz.results38 (Blk.new w _ _) rfl rfl rfl (in_none HF.out ((Below.refl _ w).alloc (Nat.le_refl _) _))

end Go.Proofs.YtfnloonmeilhlaaGreatDoor
