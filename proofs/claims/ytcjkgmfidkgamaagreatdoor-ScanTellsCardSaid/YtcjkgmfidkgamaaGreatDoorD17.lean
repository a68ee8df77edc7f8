/-
  Texts of the proof, put together (what this law reaches): ScTB, ScTC.
-/
import Derived.Test.YtcjkgmfidkgamaaGreatDoorD09
import Derived.Test.YtcjkgmfidkgamaaGreatDoorD16
import Derived.Test.YtcjkgmfidkgamaaGreatDoorD03
import Derived.Deep.DeepCutAuto
import Derived.BigQuiet
set_option linter.unusedVariables false
set_option linter.unusedSimpArgs false
namespace Go.Proofs.YtcjkgmfidkgamaaGreatDoor
open Go.RowKit Go.Pub
set_option maxRecDepth 100000 in
set_option maxHeartbeats 2000000 in
theorem r9_run (s : ByteArray) (i : Nat) (w : World) (hs : s.size ≤ 1000000) (hi : i < s.size) : Calls Tryz.prog 27 #[.string s, .int .i64 i] w fun e w' => e = .returned (.int .i64 (runE s i - i : Nat)) ∧ Below w.heap.size w w' := by
  have HR := Lib.hid fun n (h : i + n ≤ s.size) h1 h2 => run_done (s := s) (i := i) (n := n) h h1 h2
  generalize runE s i - i = R at *
  have hgi := get_bt s i hi
  obtain ⟨c, hc⟩ : ∃ c, bt s i = c := ⟨_, rfl⟩
  rw [hc] at hgi
  have HC := Lib.hid hc
  have HB0 := Lib.hid (Below.refl w.heap.size w)
  clear hc
  go_enter Tryz.func27, Tryz.ntmps27
  go_wp2_with fail
  go_loopw [5] (fun v5 wr => ∃ n : Nat, v5 = .int .i64 n ∧ i + n ≤ s.size ∧ Hid (∀ j, i ≤ j → j < i + n → bt s j = bt s i) ∧ Hid (Below w.heap.size w wr)) (fun v5 _ => s.size - (intOf v5).toNat)
  case atStart => exact ⟨0, rfl, by omega, Lib.hid fun j h1 h2 => by omega, HB0⟩
  case round =>
    clear HB0
    obtain ⟨n, rfl, hn, HJ, HB⟩ := hrel
    have hw1 : IntKind.i64.wrap ((i : Int) + (n : Int)) = (i : Int) + (n : Int) := IntWalk.i64_in _ (by omega)
    have hw2 : ((i : Int) + (n : Int)).toNat = i + n := by omega
    have hw3 : (0 : Int) ≤ (i : Int) + (n : Int) := by omega
    by_cases hl : i + n < s.size
    · have hg := get_bt s (i + n) hl
      have hw4 : decide ((i : Int) + (n : Int) < (s.size : Int)) = true := decide_eq_true (by omega)
      have hw5 : (i : Int) + (n : Int) < (s.size : Int) := by omega
      by_cases hb : bt s (i + n) = c
      · have HJ2 : Hid (∀ j, i ≤ j → j < i + (n + 1) → bt s j = bt s i) := Lib.hid fun j h1 h2 => by
          rcases (by omega : j < i + n ∨ j = i + n) with h | rfl
          · exact HJ.out j h1 h
          · rw [HC.out]; exact hb
        have z : ((bt s (i + n) : Int) == (c : Int)) = true := by rw [hb]; exact beq_self_eq_true _
        clear HJ HR HC hb
        generalize bt s (i + n) = b at *
        go_wp2_with fail
        go_quiet (fail)
        go_wp2_with fail
        go_roundw
        case rel => exact ⟨n + 1, by go_num, by omega, HJ2, Lib.hid (below_drewN HB.out _)⟩
        case measure => simp [intOf]; omega
      · have HF : Hid (R = n) := Lib.hid (HR.out n hn HJ.out fun _ e => hb (by rw [e, HC.out]))
        have z : ((bt s (i + n) : Int) == (c : Int)) = false := beq_eq_false_iff_ne.2 (by omega)
        clear HJ HR HC hb
        generalize bt s (i + n) = b at *
        go_wp2_with fail
        go_quiet (fail)
        go_wp2_with fail
        go_ret
        exact ⟨ret_int (by rw [HF.out]), below_drewN HB.out _⟩
    · have HF : Hid (R = n) := Lib.hid (HR.out n hn HJ.out fun h _ => hl h)
      have z : decide (((i : Int) + (n : Int)) < (s.size : Int)) = false := decide_eq_false (by omega)
      clear HJ HR HC
      go_wp2_with fail
      go_quiet (fail)
      go_wp2_with fail
      go_ret
      exact ⟨ret_int (by rw [HF.out]), below_drewN HB.out _⟩

set_option maxRecDepth 100000 in
set_option maxHeartbeats 1000000 in
theorem r9_sps (s : ByteArray) (i : Nat) (w : World) (hs : s.size ≤ 1000000) : Calls Tryz.prog 47 #[.string s, .int .i64 i] w fun e w' => e = .returned (.int .i64 (spAt s i - i : Nat)) ∧ Below w.heap.size w w' := by
  by_cases hi : i < s.size
  · have hg := get_bt s i hi
    have hlt := bt_lt s i
    by_cases hb : bt s i = 32
    · have HC := Lib.hid fun W => r9_run s i W hs hi
      rw [sp_run hi hb] at HC
      generalize spAt s i - i = R at *
      rw [hb] at hg
      clear hb
      go_enter Tryz.func47, Tryz.ntmps47
      go_wp2_with fail
      ((with_reducible refine (HC.out _).mono ?_))
      rintro e w1 ⟨rfl, b1⟩
      go_wp2_with fail
      go_ret
      exact ⟨rfl, b1⟩
    · have HF : Hid (spAt s i - i = 0) := Lib.hid (by rw [sp_stay (fun h => hb h.2)]; omega)
      have n1 : ((bt s i : Int) == 32) = false := beq_eq_false_iff_ne.2 (by omega)
      generalize spAt s i - i = R at *
      clear hb
      generalize bt s i = b at *
      go_enter Tryz.func47, Tryz.ntmps47
      go_wp2_with fail
      go_ret
      exact ⟨ret_int (by rw [HF.out]; rfl), Below.refl _ _⟩
  · have HF : Hid (spAt s i - i = 0) := Lib.hid (by rw [sp_stay (fun h => hi h.1)]; omega)
    generalize spAt s i - i = R at *
    go_enter Tryz.func47, Tryz.ntmps47
    go_wp2_with fail
    go_ret
    exact ⟨ret_int (by rw [HF.out]; rfl), Below.refl _ _⟩

set_option maxRecDepth 100000 in
set_option maxHeartbeats 1000000 in
theorem r9_beg (s t : ByteArray) (i : Nat) (w : World) (hs : s.size ≤ 1000000) (hi : i ≤ 2000000) (ht : 0 < t.size) (ht2 : t.size ≤ 1000) : Calls Tryz.prog 87 #[.string s, .int .i64 i, .string t] w fun e w' => e = .returned (.bool (begB s i (bytesL t))) ∧ w = w' := by
  by_cases h : i + t.size ≤ s.size
  · rw [begB_eq h]
    have h1 : i ≤ i + t.size := by omega
    generalize hq : ((s.extract i (i + t.size)).toList == t.toList) = q at *
    go_enter Tryz.func87, Tryz.ntmps87
    go_wp2_with fail
    go_ret
    exact ⟨rfl, rfl⟩
  · rw [begB_short h ht]
    go_enter Tryz.func87, Tryz.ntmps87
    go_wp2_with fail
    go_ret
    exact ⟨rfl, rfl⟩

set_option maxRecDepth 100000 in
set_option maxHeartbeats 1000000 in
theorem r9_text (t : ByteArray) (a b : Nat) (x y : Int) (hx : x = a) (hy : y = b) (w : World) : Calls Tryz.prog 28 #[.string t, .int .i64 x, .int .i64 y] w fun r w' => r = .returned (.agg (pcC { inl := spn 1 t, bg := a, nd := b } none 0 none 0)) ∧ Below w.heap.size w w' := by
  subst hx hy
  go_enter Tryz.func28, Tryz.ntmps28
  go_wp2_with (refine wpList_store_row rfl 36 (.tmp 6) _ rfl _ _ rfl rfl _ _ (Blk.new w 36 _) pc_size (by rfl) (by simp [Value.oneCell']) ?_)
  exact pc_ret1 Tryz.results28 (row_blk (Blk.new w 36 _) _) rfl rfl ⟨rfl, row_below ((Below.refl _ w).alloc (Nat.le_refl _) _) (Nat.le_refl _) _⟩

set_option maxRecDepth 100000 in
set_option maxHeartbeats 1000000 in
theorem r9_span (k : Nat) (t : ByteArray) (a b : Nat) (z x y : Int) (hz : z = k) (hx : x = a) (hy : y = b) (w : World) : Calls Tryz.prog 48 #[.int .i64 z, .string t, .int .i64 x, .int .i64 y] w fun r w' => r = .returned (.agg (pcC { inl := spn k t, bg := a, nd := b } none 0 none 0)) ∧ Below w.heap.size w w' := by
  subst hz hx hy
  go_enter Tryz.func48, Tryz.ntmps48
  go_wp2_with (refine wpList_store_row rfl 36 (.tmp 8) _ rfl _ _ rfl rfl _ _ (Blk.new w 36 _) pc_size (by rfl) (by simp [Value.oneCell']) ?_)
  exact pc_ret1 Tryz.results48 (row_blk (Blk.new w 36 _) _) rfl rfl ⟨rfl, row_below ((Below.refl _ w).alloc (Nat.le_refl _) _) (Nat.le_refl _) _⟩

set_option maxRecDepth 100000 in
set_option maxHeartbeats 2000000 in
theorem r9_later (s : ByteArray) (i n : Nat) (d : Bool) (w : World) (hs : s.size ≤ 1000000) (hi : i ≤ s.size) (hn : n ≤ 1000000) : Calls Tryz.prog 51 #[.string s, .int .i64 i, .int .i64 n, .bool d] w fun e w' => e = .returned (.int .i64 (endV (laterA s i n d))) ∧ Below w.heap.size w w' := by
  obtain ⟨R, hR⟩ : ∃ R, R = laterA s i n d := ⟨_, rfl⟩
  rw [← hR]
  have H0 : Hid (laterA s i n d = R) := Lib.hid hR.symm
  have HRun := Lib.hid fun j (hj : j < s.size) W => r9_run s j W hs hj
  have HBD := Lib.hid fun j (hj : j < s.size) => runE_bd s j hj
  have HB0 := Lib.hid (Below.refl w.heap.size w)
  clear hR
  go_enter Tryz.func51, Tryz.ntmps51
  go_wp2_with fail
  go_loopw [1] (fun v1 wr => ∃ j : Nat, v1 = .int .i64 j ∧ j ≤ s.size ∧ Hid (laterA s j n d = R) ∧ Hid (Below w.heap.size w wr)) (fun v1 _ => s.size - (intOf v1).toNat)
  case atStart => exact ⟨i, rfl, hi, H0, HB0⟩
  case round =>
    clear H0 HB0
    obtain ⟨j, rfl, hj, HJ, HB⟩ := hrel
    by_cases hl : j < s.size
    · have hg := get_bt s j hl
      by_cases hb : bt s j = 96
      · obtain ⟨hd1, hd2⟩ := HBD.out j hl
        have HRj := Lib.hid (HRun.out j hl)
        have HMiss : Hid (¬ (runE s j - j = n ∧ (d = true → j + n < s.size ∧ bt s (j + n) = 36)) → laterA s (runE s j) n d = R) := Lib.hid fun h => by rw [← HJ.out, later_miss hl hb h]
        have HHit : Hid ((runE s j - j = n ∧ (d = true → j + n < s.size ∧ bt s (j + n) = 36)) → R = some j) := Lib.hid fun h => by rw [← HJ.out, later_hit hl hb h.1 h.2]
        obtain ⟨k, hk⟩ : ∃ k, k = runE s j - j := ⟨_, rfl⟩
        obtain ⟨E, hE⟩ : ∃ E, E = runE s j := ⟨_, rfl⟩
        rw [← hE] at hk hd1 hd2
        rw [← hE, ← hk] at HRj HMiss HHit
        have HEk : Hid (j + k = E) := Lib.hid (by omega)
        have hk1 : j + k ≤ s.size := by omega
        have hk0 : 0 < k := by omega
        rw [hb] at hg
        clear HBD HRun HJ hE hk hd1 hd2 hb
        by_cases hkn : k = n
        · subst hkn
          have z : ((k : Int) == (k : Int)) = true := beq_self_eq_true _
          cases d
          · have HF := Lib.hid (HHit.out ⟨rfl, fun h => by cases h⟩)
            clear HMiss HHit HEk
            go_wp2_with fail
            ((with_reducible refine (HRj.out _).mono ?_))
            rintro e w1 ⟨rfl, b1⟩
            have HB1 := Lib.hid (HB.out.trans (b1.mono HB.out.size))
            clear b1
            go_wp2_with fail
            go_ret
            exact ⟨by rw [HF.out]; rfl, HB1.out⟩
          · by_cases h3 : j + k < s.size
            · have hg3 := get_bt s (j + k) h3
              by_cases h4 : bt s (j + k) = 36
              · have HF := Lib.hid (HHit.out ⟨rfl, fun h => ⟨h3, h4⟩⟩)
                rw [h4] at hg3
                clear HMiss HHit HEk h4
                go_wp2_with fail
                ((with_reducible refine (HRj.out _).mono ?_))
                rintro e w1 ⟨rfl, b1⟩
                have HB1 := Lib.hid (HB.out.trans (b1.mono HB.out.size))
                clear b1
                go_wp2_with fail
                go_ret
                exact ⟨by rw [HF.out]; rfl, HB1.out⟩
              · have HF := Lib.hid (HMiss.out fun c => h4 (c.2 rfl).2)
                have n1 : ((bt s (j + k) : Int) == 36) = false := beq_eq_false_iff_ne.2 (by omega)
                clear HMiss HHit h4
                generalize bt s (j + k) = b at *
                go_wp2_with fail
                ((with_reducible refine (HRj.out _).mono ?_))
                rintro e w1 ⟨rfl, b1⟩
                have HB1 := Lib.hid (HB.out.trans (b1.mono HB.out.size))
                clear b1
                go_wp2_with fail
                go_roundw
                case rel => exact ⟨j + k, by go_num, hk1, Lib.hid (by rw [HEk.out]; exact HF.out), HB1⟩
                case measure => simp [intOf]; omega
            · have HF := Lib.hid (HMiss.out fun c => h3 (c.2 rfl).1)
              clear HMiss HHit
              go_wp2_with fail
              ((with_reducible refine (HRj.out _).mono ?_))
              rintro e w1 ⟨rfl, b1⟩
              have HB1 := Lib.hid (HB.out.trans (b1.mono HB.out.size))
              clear b1
              go_wp2_with fail
              go_roundw
              case rel => exact ⟨j + k, by go_num, hk1, Lib.hid (by rw [HEk.out]; exact HF.out), HB1⟩
              case measure => simp [intOf]; omega
        · have HF := Lib.hid (HMiss.out fun c => hkn c.1)
          have z : ((k : Int) == (n : Int)) = false := beq_eq_false_iff_ne.2 (by omega)
          clear HMiss HHit
          go_wp2_with fail
          ((with_reducible refine (HRj.out _).mono ?_))
          rintro e w1 ⟨rfl, b1⟩
          have HB1 := Lib.hid (HB.out.trans (b1.mono HB.out.size))
          clear b1
          go_wp2_with fail
          go_roundw
          case rel => exact ⟨j + k, by go_num, hk1, Lib.hid (by rw [HEk.out]; exact HF.out), HB1⟩
          case measure => simp [intOf]; omega
      · have HF : Hid (laterA s (j + 1) n d = R) := Lib.hid (by rw [← HJ.out, later_no n d hl hb])
        have n1 : ((bt s j : Int) != 96) = true := bne_iff_ne.2 (by omega)
        clear HJ HBD HRun hb
        generalize bt s j = b at *
        go_wp2_with fail
        go_roundw
        case rel => exact ⟨j + 1, by go_num, by omega, HF, HB⟩
        case measure => simp [intOf]; omega
    · have HF : Hid (R = none) := Lib.hid (by rw [← HJ.out, later_end n d hl])
      clear HJ HBD HRun
      go_wp2_with fail
      go_ret
      exact ⟨by rw [HF.out]; rfl, HB.out⟩

set_option maxRecDepth 100000 in
set_option maxHeartbeats 2000000 in
theorem r9_codeT (s : ByteArray) (w : World) (hs : s.size ≤ 1000000) : Calls Tryz.prog 52 #[.string s] w fun e w' => e = .returned (.string (mk (codeT (bytesL s)))) ∧ w = w' := by
  have HU1 := Lib.hid fun i (hi : i < s.size) (h : bt s i = 10) => unT_lf hi h
  have HU2 := Lib.hid fun i (hi : i < s.size) (h : bt s i ≠ 10) => unT_no hi h
  have HC1 := Lib.hid fun i (hi : i < s.size) (h : bt s i = 10) => cbl_lf hi h
  have HC2 := Lib.hid fun i (hi : i < s.size) (h : bt s i ≠ 10) => cbl_no hi h
  have HL := Lib.hid fun i (hi : i ≤ s.size) => unT_len s i hi
  have HE1 := Lib.hid (code_blank (s := s))
  have HE2 := Lib.hid (code_stay (s := s))
  have HE3 := Lib.hid (code_trim (s := s))
  have HE4 := Lib.hid (cbl_pos (s := s))
  have HE5 := Lib.hid (cbl_two (s := s))
  obtain ⟨R, hR⟩ : ∃ R, R = mk (codeT (bytesL s)) := ⟨_, rfl⟩
  rw [← hR] at HE1 HE2 HE3 ⊢
  clear hR
  have h0 : Hid (cbl s 0 = true) := Lib.hid rfl
  have h1 : Hid (mk (unT s 0) = ⟨#[]⟩) := Lib.hid rfl
  go_enter Tryz.func52, Tryz.ntmps52
  go_wp2_with fail
  go_loop [3, 4, 5] (fun v3 v4 v5 => ∃ i : Nat, v5 = .int .i64 i ∧ i ≤ s.size ∧ v3 = .string (mk (unT s i)) ∧ v4 = .bool (cbl s i)) (fun _ _ v5 => s.size - (intOf v5).toNat)
  case atStart => exact ⟨0, rfl, Nat.zero_le _, by rw [h1.out], by rw [h0.out]⟩
  case round =>
    clear h0 h1
    obtain ⟨i, rfl, hi, rfl, rfl⟩ := hrel
    have hul := HL.out i hi
    by_cases hl : i < s.size
    · have hg := get_bt s i hl
      by_cases hb : bt s i = 10
      · have HX : Hid (unT s (i + 1) = unT s i ++ [32]) := Lib.hid (HU1.out i hl hb)
        have HY : Hid (cbl s (i + 1) = cbl s i) := Lib.hid (HC1.out i hl hb)
        have cat1 : ∀ w : World, (Op.stringOp .add (mk (unT s i)) ⟨#[32]⟩).run Tryz.prog w = .ok (.string (mk (unT s i ++ [32]))) w := fun w => cat_mk w _ _ _ (by have e : (⟨#[32]⟩ : ByteArray).size = 1 := rfl; rw [e]; omega) rfl
        rw [hb] at hg
        clear HU1 HU2 HC1 HC2 HL HE1 HE2 HE3 HE4 HE5 hb hul
        generalize mk (unT s i) = X at *
        generalize hZ : mk (unT s i ++ [32]) = Z at *
        have HZ := Lib.hid hZ
        generalize cbl s i = q at *
        clear hZ
        go_wp2_with fail
        go_round
        case rel => exact ⟨i + 1, by go_num, by omega, by rw [← HZ.out, HX.out], by rw [HY.out]⟩
        case measure => simp [intOf]; omega
      · have n1 : ((bt s i : Int) == 10) = false := beq_eq_false_iff_ne.2 (by omega)
        have HX : Hid (unT s (i + 1) = unT s i ++ [s.get! i]) := Lib.hid (HU2.out i hl hb)
        have HY : Hid (cbl s (i + 1) = (cbl s i && (bt s i == 32))) := Lib.hid (HC2.out i hl hb)
        have hz1 : (s.extract i (i + 1)).size = 1 := by rw [ByteArray.size_extract]; omega
        have cat1 : ∀ w : World, (Op.stringOp .add (mk (unT s i)) (s.extract i (i + 1))).run Tryz.prog w = .ok (.string (mk (unT s i ++ [s.get! i]))) w := fun w => cat_mk w _ _ _ (by rw [hz1]; omega) (by rw [byte_ext s i hl])
        have hsl : i ≤ i + 1 := by omega
        clear HU1 HU2 HC1 HC2 HL HE1 HE2 HE3 HE4 HE5 hul hz1
        generalize mk (unT s i) = X at *
        generalize hZ : mk (unT s i ++ [s.get! i]) = Z at *
        have HZ := Lib.hid hZ
        generalize cbl s i = q at *
        clear hZ
        by_cases h32 : bt s i = 32
        · have HY2 : Hid (cbl s (i + 1) = q) := Lib.hid (by rw [HY.out, h32]; cases q <;> rfl)
          rw [h32] at hg
          clear HY n1 hb h32
          cases q
          all_goals
            go_wp2_with fail
            go_round
            case rel => exact ⟨i + 1, by go_num, by omega, by rw [← HZ.out, HX.out], by rw [HY2.out]⟩
            case measure => simp [intOf]; omega
        · have HY2 : Hid (cbl s (i + 1) = false) := Lib.hid (by rw [HY.out, beq_eq_false_iff_ne.2 h32, Bool.and_false])
          have n2 : ((bt s i : Int) == 32) = false := beq_eq_false_iff_ne.2 (by omega)
          clear HY hb h32
          generalize bt s i = b at *
          cases q
          all_goals
            go_wp2_with fail
            go_round
            case rel => exact ⟨i + 1, by go_num, by omega, by rw [← HZ.out, HX.out], by rw [HY2.out]⟩
            case measure => simp [intOf]; omega
    · obtain rfl : i = s.size := by omega
      have hz : (mk (unT s s.size)).size = s.size := by rw [mk_size, hul]
      clear HU1 HU2 HC1 HC2 HL hul
      obtain ⟨X, hX⟩ : ∃ X, X = mk (unT s s.size) := ⟨_, rfl⟩
      rw [← hX] at hz HE1 HE2 HE3 HE5 ⊢
      clear hX
      cases hq : cbl s s.size
      · have hp := HE4.out hq
        have hgA := get_bt X 0 (by omega)
        have hgB := get_bt X (s.size - 1) (by omega)
        by_cases c1 : bt X 0 = 32
        · have h2 := HE5.out hq c1
          by_cases c2 : bt X (s.size - 1) = 32
          · have HF := Lib.hid (HE3.out hq c1 c2 hp)
            rw [c1] at hgA
            rw [c2] at hgB
            clear HE1 HE2 HE3 HE4 HE5 hq c1 c2
            have f1 : (X.size : Int) - 1 = ((s.size - 1 : Nat) : Int) := by omega
            have f2 : ((X.size : Int) - 1).toNat = s.size - 1 := by omega
            have f3 : 1 ≤ s.size - 1 := by omega
            go_wp2_with fail
            go_ret
            exact ⟨ret_str HF.out.symm, rfl⟩
          · have HF := Lib.hid (HE2.out (.inr c2) hp)
            have n1 : ((bt X (s.size - 1) : Int) == 32) = false := beq_eq_false_iff_ne.2 (by omega)
            rw [c1] at hgA
            clear HE1 HE2 HE3 HE4 HE5 hq c1 c2
            generalize bt X (s.size - 1) = b at *
            have f1 : (X.size : Int) - 1 = ((s.size - 1 : Nat) : Int) := by omega
            have f2 : ((X.size : Int) - 1).toNat = s.size - 1 := by omega
            go_wp2_with fail
            go_ret
            exact ⟨ret_str HF.out.symm, rfl⟩
        · have HF := Lib.hid (HE2.out (.inl c1) hp)
          have n1 : ((bt X 0 : Int) == 32) = false := beq_eq_false_iff_ne.2 (by omega)
          clear HE1 HE2 HE3 HE4 HE5 hq c1 hgB
          generalize bt X 0 = b at *
          go_wp2_with fail
          go_ret
          exact ⟨ret_str HF.out.symm, rfl⟩
      · have HF := Lib.hid (HE1.out hq)
        clear HE1 HE2 HE3 HE4 HE5 hq
        go_wp2_with fail
        go_ret
        exact ⟨ret_str HF.out.symm, rfl⟩

set_option maxRecDepth 100000 in
set_option maxHeartbeats 2000000 in
theorem r9_bef (s : ByteArray) (i : Nat) (w : World) (hs : s.size ≤ 1000000) (hi : i ≤ s.size) : Calls Tryz.prog 92 #[.string s, .int .i64 i] w fun e w' => e = .returned (.int .i64 (befC s i)) ∧ Below w.heap.size w w' := by
  rw [← befR_eq]
  by_cases h0 : i = 0
  · subst h0
    go_enter Tryz.func92, Tryz.ntmps92
    go_wp2_with fail
    go_ret
    exact ⟨rfl, Below.refl _ _⟩
  · have n0 : ((i : Int) == 0) = false := beq_eq_false_iff_ne.2 (by omega)
    have f1 : (i : Int) - 1 = ((i - 1 : Nat) : Int) := by omega
    have f2 : ((i : Int) - 1).toNat = i - 1 := by omega
    have hg := get_bt s (i - 1) (by omega)
    have hlt := bt_lt s (i - 1)
    have hi1 : i - 1 < s.size := by omega
    by_cases hb : bt s (i - 1) < 128
    · have HF : Hid (befR s i = bt s (i - 1)) := Lib.hid (by unfold befR; rw [if_neg h0, if_pos hb])
      generalize befR s i = R at *
      generalize bt s (i - 1) = b at *
      go_enter Tryz.func92, Tryz.ntmps92
      go_wp2_with fail
      go_ret
      exact ⟨ret_int (by rw [HF.out]), Below.refl _ _⟩
    · have HF : Hid (befG s i (6 - 2) 2 = befR s i) := Lib.hid (by unfold befR; rw [if_neg h0, if_neg hb])
      generalize befR s i = R at *
      have HST := Lib.hid fun k (h2 : 2 ≤ k) (h4 : k ≤ 4) (hk : k ≤ i) hd => befG_step (s := s) (i := i) h2 h4 hk hd
      have HHT := Lib.hid fun k (h2 : 2 ≤ k) (h4 : k ≤ 4) (hk : k ≤ i) hd => befG_hit (s := s) (i := i) h2 h4 hk hd
      have HEN := Lib.hid fun k (h5 : k ≤ 5) h => befG_end (s := s) (i := i) (k := k) h5 h
      have HNx : Hid (∀ (j : Nat), j < s.size → ∀ W, Calls Tryz.prog 16 #[.string s, .int .i64 j] W (PairBelow ((Utf8.decode s j).1 : Int) ((Utf8.decode s j).2 : Int) W)) := Lib.hid fun j hj W => by
        have h := rNext_any s j W (by omega)
        rwa [nextAt_in s j hj] at h
      have HB0 := Lib.hid (Below.refl w.heap.size w)
      have nb : ¬ bt s (i - 1) < 128 := hb
      generalize bt s (i - 1) = b at *
      go_enter Tryz.func92, Tryz.ntmps92
      go_wp2_with fail
      go_loopw [5] (fun v5 wr => ∃ k : Nat, v5 = .int .i64 k ∧ 2 ≤ k ∧ k ≤ 5 ∧ Hid (befG s i (6 - k) k = R) ∧ Hid (Below w.heap.size w wr)) (fun v5 _ => 5 - (intOf v5).toNat)
      case atStart => exact ⟨2, rfl, by omega, by omega, HF, HB0⟩
      case round =>
        clear HF HB0 hg hlt hb nb hi1 f1 f2 n0
        obtain ⟨k, rfl, hk2, hk5, HK, HB⟩ := hrel
        by_cases h4 : k ≤ 4
        · by_cases hki : k ≤ i
          · have HNk := Lib.hid (HNx.out (i - k) (by omega))
            have f3 : (i : Int) - (k : Int) = ((i - k : Nat) : Int) := by omega
            have HS := Lib.hid (HST.out k hk2 h4 hki)
            have HH := Lib.hid (HHT.out k hk2 h4 hki)
            clear HST HHT HEN HNx
            generalize (Utf8.decode s (i - k)).1 = c at *
            generalize (Utf8.decode s (i - k)).2 = n at *
            by_cases hn : n = k
            · have HF : Hid (R = c) := Lib.hid (by rw [← HK.out, HH.out hn])
              have z : ((n : Int) == (k : Int)) = true := by rw [hn]; exact beq_self_eq_true _
              clear HS HH HK
              go_wp2_with fail
              ((with_reducible refine (HNk.out _).mono ?_))
              rintro e w1 ⟨rfl, b1⟩
              have HB1 := Lib.hid (HB.out.trans (b1.mono HB.out.size))
              clear b1
              go_wp2_with fail
              go_ret
              exact ⟨ret_int (by rw [HF.out]), HB1.out⟩
            · have HF : Hid (befG s i (6 - (k + 1)) (k + 1) = R) := Lib.hid (by rw [← HK.out, HS.out hn])
              have z : ((n : Int) == (k : Int)) = false := beq_eq_false_iff_ne.2 (by omega)
              clear HS HH HK
              go_wp2_with fail
              ((with_reducible refine (HNk.out _).mono ?_))
              rintro e w1 ⟨rfl, b1⟩
              have HB1 := Lib.hid (HB.out.trans (b1.mono HB.out.size))
              clear b1
              go_wp2_with fail
              go_roundw
              case rel => exact ⟨k + 1, by go_num, by omega, by omega, HF, HB1⟩
              case measure => simp [intOf]; omega
          · have HF : Hid (R = 65533) := Lib.hid (by rw [← HK.out, HEN.out k hk5 fun c => hki c.1])
            clear HST HHT HEN HNx HK
            go_wp2_with fail
            go_ret
            exact ⟨ret_int (by rw [HF.out]), HB.out⟩
        · have HF : Hid (R = 65533) := Lib.hid (by rw [← HK.out, HEN.out k hk5 fun c => h4 c.2])
          clear HST HHT HEN HNx HK
          go_wp2_with fail
          go_ret
          exact ⟨ret_int (by rw [HF.out]), HB.out⟩

set_option maxRecDepth 100000 in
set_option maxHeartbeats 2000000 in
theorem r9_punct (b : Nat) (hb : b < 256) (w : World) : Calls Tryz.prog 86 #[.int .u8 (b : Nat)] w fun e w' => e = .returned (.bool (decide (b < 128) && inB (b : Int) punctL)) ∧ w = w' := by
  rw [pun_eq b hb]
  obtain ⟨R, hR⟩ : ∃ R, R = ((decide (33 ≤ b) && decide (b ≤ 47)) || (decide (58 ≤ b) && decide (b ≤ 64)) || (decide (91 ≤ b) && decide (b ≤ 96)) || (decide (123 ≤ b) && decide (b ≤ 126))) := ⟨_, rfl⟩
  rw [← hR]
  have Y : ∃ q0 q1 q2 q3 q4 q5 q6 q7 : Bool, decide (33 ≤ (b : Int)) = q0 ∧ decide ((b : Int) ≤ 47) = q1 ∧ decide (58 ≤ (b : Int)) = q2 ∧ decide ((b : Int) ≤ 64) = q3 ∧ decide (91 ≤ (b : Int)) = q4 ∧ decide ((b : Int) ≤ 96) = q5 ∧ decide (123 ≤ (b : Int)) = q6 ∧ decide ((b : Int) ≤ 126) = q7 ∧ R = ((q0 && q1) || (q2 && q3) || (q4 && q5) || (q6 && q7)) := by
    refine ⟨_, _, _, _, _, _, _, _, rfl, rfl, rfl, rfl, rfl, rfl, rfl, rfl, ?_⟩
    have e : ∀ k : Nat, decide ((k : Int) ≤ (b : Int)) = decide (k ≤ b) := fun k => by rw [decide_eq_decide]; omega
    have e2 : ∀ k : Nat, decide ((b : Int) ≤ (k : Int)) = decide (b ≤ k) := fun k => by rw [decide_eq_decide]; omega
    rw [hR, ← e 33, ← e 58, ← e 91, ← e 123, ← e2 47, ← e2 64, ← e2 96, ← e2 126]; rfl
  obtain ⟨q0, q1, q2, q3, q4, q5, q6, q7, y0, y1, y2, y3, y4, y5, y6, y7, hq⟩ := Y
  have HR := Lib.hid hq
  clear hR hq hb
  cases q0 <;> cases q1 <;> cases q2 <;> cases q3 <;> cases q4 <;> cases q5 <;> cases q6 <;> cases q7
  all_goals first
    | (exfalso; simp only [decide_eq_true_eq, decide_eq_false_iff_not] at y0 y1 y2 y3 y4 y5 y6 y7; omega)
    | (go_enter Tryz.func86, Tryz.ntmps86
       go_wp2_with fail
       go_ret
       exact ⟨ret_bool (by rw [HR.out]; rfl), rfl⟩)

end Go.Proofs.YtcjkgmfidkgamaaGreatDoor
namespace Go.Proofs.YtcjkgmfidkgamaaGreatDoor
open Go.RowKit Go.Pub
/-- The result's block, and all that lay below it. -/
def Kp (w W : World) : Prop := Blk W w.heap.size 36 zPc ∧ Below w.heap.size w W
theorem Kp.init (w : World) : Kp w (w.alloc (.cells zPc 36)) := ⟨Blk.new w _ _, (Below.refl _ w).alloc (Nat.le_refl _) _⟩
theorem Kp.next {w W W' : World} (h : Kp w W) (hb : Below W.heap.size W W') : Kp w W' := ⟨h.1.below hb h.1.lt, h.2.trans (hb.mono h.2.size)⟩
/-- A reader of the reference: a piece, or none. -/
def RfPost (o : Option PcL) (w : World) : Ending → World → Prop := PcPost (o.getD {}) o.isSome w
theorem rf_ret {F : Func} {w W : World} {o : Option PcL} {p : PcL} {q : Bool} {A1 : Option Addr} {c1 : Nat} {A2 : Option Addr} {c2 : Nat} {cs : Array Value} {act : Act} (hF : F.results = #[ResultVar.cell 4 36, ResultVar.tmp 5]) (h : Kp w W) (hcs : cs = pcC p A1 c1 A2 c2) (hi : InR W (Rg (w.heap.size + 1) W) p.inl A1 A2) (ho : o.getD {} = p) (hq : o.isSome = q)
    (h4 : act.tmps.getD 4 undef = .pointer (some ⟨w.heap.size, 0, none⟩)) (h5 : act.tmps.getD 5 undef = .bool q) (hd : act.defers = []) : bodyPost Tryz.prog F (RfPost o w) Exit.ret act (W.setRow w.heap.size cs) := by
  subst hcs ho hq
  refine pc_ret hF (row_blk h.1 _) h4 h5 hd ?_
  refine ⟨row_below h.2 (Nat.le_refl _) _, A1, c1, A2, c2, rfl, ?_⟩
  exact InR.keep hi (fun g hg => row_far _ _ _ _ (by have := hg.1; omega)) fun g hg => ⟨by have := hg.1; omega, by rw [row_size]; exact hg.2⟩
theorem rf_no {F : Func} {w W : World} {o : Option PcL} {cs : Array Value} {act : Act} (hF : F.results = #[ResultVar.cell 4 36, ResultVar.tmp 5]) (h : Kp w W) (ho : o = none) (hcs : cs = pcC {} none 0 none 0)
    (h4 : act.tmps.getD 4 undef = .pointer (some ⟨w.heap.size, 0, none⟩)) (h5 : act.tmps.getD 5 undef = .bool false) (hd : act.defers = []) : bodyPost Tryz.prog F (RfPost o w) Exit.ret act (W.setRow w.heap.size cs) := by
  subst ho
  exact rf_ret hF h hcs (InR.plain _ _ _ _ _ rfl rfl) rfl rfl h4 h5 hd
theorem rf_yes {F : Func} {w W : World} {o : Option PcL} {p : PcL} {cs : Array Value} {act : Act} (hF : F.results = #[ResultVar.cell 4 36, ResultVar.tmp 5]) (h : Kp w W) (ho : o = some p) (hcs : cs = pcC p none 0 none 0) (h1 : p.inl.args = []) (h2 : p.inl.cites = [])
    (h4 : act.tmps.getD 4 undef = .pointer (some ⟨w.heap.size, 0, none⟩)) (h5 : act.tmps.getD 5 undef = .bool true) (hd : act.defers = []) : bodyPost Tryz.prog F (RfPost o w) Exit.ret act (W.setRow w.heap.size cs) := by
  subst ho
  exact rf_ret hF h hcs (InR.plain _ _ _ _ _ h1 h2) rfl rfl h4 h5 hd
set_option maxRecDepth 100000 in
set_option maxHeartbeats 2000000 in
theorem r9_escape (s : ByteArray) (i : Nat) (w : World) (hs : s.size ≤ 1000000) (hi : i < s.size) : Calls Tryz.prog 46 #[.string s, .int .i64 i] w (RfPost ((escI s i).map (pcI · i)) w) := by
  obtain ⟨R, hR⟩ : ∃ R, R = (escI s i).map (pcI · i) := ⟨_, rfl⟩
  rw [← hR]
  have K0 : Hid (Kp w (w.alloc (.cells zPc 36))) := Lib.hid (Kp.init w)
  by_cases h1 : i + 1 < s.size
  · have hg := get_bt s (i + 1) h1
    have hlt := bt_lt s (i + 1)
    have HP := Lib.hid fun W => r9_punct (bt s (i + 1)) hlt W
    by_cases hb : bt s (i + 1) = 10
    · have HF : Hid (R = some { inl := spn 3 ⟨#[]⟩, bg := i, nd := spAt s (i + 2) }) := Lib.hid (by rw [hR]; unfold escI; rw [if_pos h1, if_pos hb]; rfl)
      have hsp := (spAt_bd' s (i + 2)).1
      have HS : Hid (∀ W, Calls Tryz.prog 47 #[.string s, .int .i64 ((i : Int) + 2)] W fun e w' => e = .returned (.int .i64 (spAt s (i + 2) - (i + 2) : Nat)) ∧ Below W.heap.size W w') := Lib.hid fun W => r9_sps s (i + 2) W hs
      obtain ⟨n, hn⟩ : ∃ n, n = spAt s (i + 2) - (i + 2) := ⟨_, rfl⟩
      have hle : i + 2 + n ≤ 2000000 := by have := (spAt_bd' s (i + 2)).2 (by omega); omega
      have HSp := Lib.hid fun W => r9_span 3 ⟨#[]⟩ i (spAt s (i + 2)) 3 i ((i : Int) + 2 + (n : Int)) rfl rfl (by omega) W
      rw [← hn] at HS
      rw [hb, show (decide (10 < 128) && inB ((10 : Nat) : Int) punctL) = false from by decide +kernel] at HP
      rw [hb] at hg
      clear hR hb hn hlt
      generalize spAt s (i + 2) = e9 at *
      go_enter Tryz.func46, Tryz.ntmps46
      go_wp2_with fail
      (refine (HP.out _).mono ?_)
      rintro e w1 ⟨rfl, rfl⟩
      go_wp2_with fail
      ((with_reducible refine (HS.out _).mono ?_))
      rintro e W1 ⟨rfl, b1⟩
      have K1 := Lib.hid (K0.out.next b1)
      clear b1
      go_wp2_with fail
      ((with_reducible refine (HSp.out _).mono ?_))
      rintro e W2 ⟨rfl, b2⟩
      have K2 := Lib.hid (K1.out.next b2)
      clear b2
      go_wp2_with (refine wpList_store_row rfl 36 (.tmp 4) _ rfl _ _ rfl rfl _ _ K2.out.1 pc_size (by rfl) (by simp [pcC, Value.oneCell']) ?_)
      exact rf_yes Tryz.results46 K2.out HF.out rfl rfl rfl rfl rfl rfl
    · have n10 : ((bt s (i + 1) : Int) == 10) = false := beq_eq_false_iff_ne.2 (by omega)
      cases hp : (decide (bt s (i + 1) < 128) && inB (bt s (i + 1) : Int) punctL)
      · have HF : Hid (R = none) := Lib.hid (by rw [hR]; unfold escI; rw [if_pos h1, if_neg hb, if_neg (by rw [hp]; exact Bool.false_ne_true)]; rfl)
        rw [hp] at HP
        clear hR hb hp
        generalize bt s (i + 1) = b at *
        go_enter Tryz.func46, Tryz.ntmps46
        go_wp2_with fail
        ((with_reducible refine (HP.out _).mono ?_))
        rintro e w1 ⟨rfl, rfl⟩
        go_wp2_with (refine wpList_store_row rfl 36 (.tmp 4) _ rfl _ _ rfl rfl _ _ K0.out.1 pc_size (by rfl) (by simp [pcC, Value.oneCell']) ?_)
        exact rf_no Tryz.results46 K0.out HF.out rfl rfl rfl rfl
      · have HF : Hid (R = some { inl := spn 1 (s.extract (i + 1) (i + 2)), bg := i, nd := i + 2 }) := Lib.hid (by rw [hR]; unfold escI; rw [if_pos h1, if_neg hb, if_pos hp]; rfl)
        have HTx := Lib.hid fun W => r9_text (s.extract (i + 1) (i + 2)) i (i + 2) i ((i : Int) + 2) rfl (by omega) W
        rw [hp] at HP
        have hsl : i + 1 ≤ i + 2 := by omega
        clear hR hb hp
        generalize bt s (i + 1) = b at *
        go_enter Tryz.func46, Tryz.ntmps46
        go_wp2_with fail
        ((with_reducible refine (HP.out _).mono ?_))
        rintro e w1 ⟨rfl, rfl⟩
        go_wp2_with fail
        ((with_reducible refine (HTx.out _).mono ?_))
        rintro e W2 ⟨rfl, b2⟩
        have K2 := Lib.hid (K0.out.next b2)
        clear b2
        go_wp2_with (refine wpList_store_row rfl 36 (.tmp 4) _ rfl _ _ rfl rfl _ _ K2.out.1 pc_size (by rfl) (by simp [pcC, Value.oneCell']) ?_)
        exact rf_yes Tryz.results46 K2.out HF.out rfl rfl rfl rfl rfl rfl
  · have HF : Hid (R = none) := Lib.hid (by rw [hR]; unfold escI; rw [if_neg h1]; rfl)
    clear hR
    go_enter Tryz.func46, Tryz.ntmps46
    go_wp2_with (refine wpList_store_row rfl 36 (.tmp 4) _ rfl _ _ rfl rfl _ _ K0.out.1 pc_size (by rfl) (by simp [pcC, Value.oneCell']) ?_)
    exact rf_no Tryz.results46 K0.out HF.out rfl rfl rfl rfl

end Go.Proofs.YtcjkgmfidkgamaaGreatDoor
