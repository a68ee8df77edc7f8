/-
  Texts of the proof, put together (what this law reaches): ScAU, ScG, ScAW, ScAX, ScAY.
-/
import Derived.Test.YtcjkgmfidkgamaaGreatDoorC10
import Derived.Test.YtcjkgmfidkgamaaGreatDoorC11
import Derived.Test.YtcjkgmfidkgamaaGreatDoorC09
import Derived.Test.YtcjkgmfidkgamaaGreatDoorC01
import Derived.Test.YtcjkgmfidkgamaaGreatDoorC03
import Derived.Test.YtcjkgmfidkgamaaGreatDoorC02
set_option linter.unusedVariables false
set_option linter.unusedSimpArgs false
namespace Go.Pub
def lfB (s : ByteArray) : Bool := (bytesL s).any (· == 10)
theorem lf_some {s : ByteArray} {i : Nat} (hi : i < s.size) (h : bt s i = 10) : lfB s = true := by
  unfold lfB
  rw [List.any_eq_true]
  exact ⟨s.get! i, List.mem_of_getElem? (byte9_at s i hi), by rw [beq_iff_eq]; exact (g10 s i).2 h⟩
theorem lf_no {s : ByteArray} (h : ∀ j, j < s.size → bt s j ≠ 10) : lfB s = false := by
  unfold lfB
  rw [List.any_eq_false]
  intro b hb e
  obtain ⟨j, hj, rfl⟩ := byte_of s hb
  exact h j hj ((g10 s j).1 (beq_iff_eq.1 e))
theorem lf_line {s : ByteArray} (h : lfB s = false) : ∀ b ∈ bytesL s, b ≠ 10 := by
  intro b hb e
  unfold lfB at h
  rw [List.any_eq_false] at h
  exact h b hb (by rw [e]; rfl)
def blkB (s : ByteArray) (i : Nat) : Bool := ((bytesL s).take i).all (· == 32)
theorem blk_step {s : ByteArray} {i : Nat} (hi : i < s.size) : blkB s (i + 1) = (blkB s i && (bt s i == 32)) := by
  unfold blkB
  rw [take_step s i hi, List.all_append]
  congr 1
  show ((s.get! i == 32) && true) = _
  rw [Bool.and_true, Bool.eq_iff_iff, beq_iff_eq, beq_iff_eq]
  exact bt_u8 s i 32 (by decide)
theorem blk_end {s : ByteArray} (h : blkB s s.size = false) : (bytesL s).any (· != 32) = true := by
  unfold blkB at h
  rw [List.take_of_length_le (by rw [bytesL_length]; exact Nat.le_refl _)] at h
  rw [List.any_eq_true]
  rw [List.all_eq_false] at h
  obtain ⟨b, h1, h2⟩ := h
  exact ⟨b, h1, by simpa using h2⟩
end Go.Pub
namespace Go.Proofs.YtcjkgmfidkgamaaGreatDoor
open Go.RowKit Go.Pub
set_option maxRecDepth 100000 in
set_option maxHeartbeats 1000000 in
theorem l9_line (s : ByteArray) (w : World) (hs : s.size ≤ 1000000) : Calls Tryz.prog 15 #[.string s] w fun e w' => e = .returned (.bool (!lfB s && validB s)) ∧ Below w.heap.size w w' := by
  have HV := Lib.hid fun W => rValid_any s W hs
  have H1 := Lib.hid fun i (hi : i < s.size) h => lf_some (s := s) hi h
  have H2 := Lib.hid fun h => lf_no (s := s) h
  generalize lfB s = L at *
  generalize validB s = V at *
  go_enter Tryz.func15, Tryz.ntmps15
  go_wp2_with fail
  go_loop [3] (fun v => ∃ i : Nat, v = .int .i64 i ∧ i ≤ s.size ∧ Hid (∀ j, j < i → bt s j ≠ 10)) (fun v => s.size - (intOf v).toNat)
  case atStart => exact ⟨0, rfl, Nat.zero_le _, Lib.hid fun j h => by omega⟩
  case round =>
    obtain ⟨i, rfl, hi, HJ⟩ := hrel
    by_cases hl : i < s.size
    · have hg := get_bt s i hl
      by_cases hb : bt s i = 10
      · have HL := Lib.hid (H1.out i hl hb)
        rw [hb] at hg
        clear hb HV H1 H2
        go_wp2_with fail
        go_ret
        exact ⟨by rw [HL.out]; rfl, Below.refl _ _⟩
      · have n1 : ((bt s i : Int) == 10) = false := beq_eq_false_iff_ne.2 (by omega)
        have HJ2 : Hid (∀ j, j < i + 1 → bt s j ≠ 10) := Lib.hid fun j h => by
          rcases (by omega : j < i ∨ j = i) with h | rfl
          · exact HJ.out j h
          · exact hb
        clear HJ hb
        generalize bt s i = b at *
        go_wp2_with fail
        go_round
        case rel => exact ⟨i + 1, by go_num, by omega, HJ2⟩
        case measure => simp [intOf]; omega
    · have HL := Lib.hid (H2.out fun j hj => HJ.out j (by omega))
      clear H1 H2 HJ
      go_wp2_with fail
      ((with_reducible refine (HV.out _).mono ?_))
      rintro e w1 ⟨rfl, b1⟩
      go_wp2_with fail
      go_ret
      exact ⟨by rw [HL.out]; simp, b1⟩

set_option maxRecDepth 100000 in
set_option maxHeartbeats 2000000 in
theorem l9_fence (s : ByteArray) (w : World) (hs : s.size ≤ 100000) : Calls Tryz.prog 18 #[.string s] w fun e w' => e = .returned (.string (mk (List.replicate (fenN 0 1 (bytesL s)) 96))) ∧ w = w' := by
  obtain ⟨R, hR⟩ : ∃ R, R = fenN 0 1 (bytesL s) := ⟨_, rfl⟩
  rw [← hR]
  have HR : Hid (fenN 0 1 (sfx s 0) = R) := Lib.hid (by rw [hR]; rfl)
  clear hR
  have hX1 : ∀ k : Nat, (mk (List.replicate k 96)).size = k := fun k => by rw [mk_size, List.length_replicate]
  have HX := Lib.hid hX1
  have HZ : Hid (∀ w : World, ∀ k : Nat, k ≤ 1000000 → (Op.stringOp .add (mk (List.replicate k 96)) ⟨#[96]⟩).run Tryz.prog w = .ok (.string (mk (List.replicate (k + 1) 96))) w) := Lib.hid fun w k hk => cat_mk w _ _ _ (by rw [List.length_replicate]; show k + 1 ≤ _; omega) (by rw [List.replicate_succ']; rfl)
  clear hX1
  go_enter Tryz.func18, Tryz.ntmps18
  go_wp2_with fail
  go_loop [3, 4, 5] (fun v3 v4 v5 => ∃ i n k : Nat, v5 = .int .i64 i ∧ v4 = .int .i64 n ∧ v3 = .string (mk (List.replicate k 96)) ∧ i ≤ s.size ∧ n ≤ i ∧ k ≤ i + 1 ∧ Hid (fenN n k (sfx s i) = R)) (fun _ _ v5 => s.size - (intOf v5).toNat)
  case atStart => exact ⟨0, 0, 1, rfl, rfl, rfl, Nat.zero_le _, Nat.le_refl _, Nat.le_refl _, HR⟩
  case round =>
    clear HR
    obtain ⟨i, n, k, rfl, rfl, rfl, hi, hn, hk, HF⟩ := hrel
    have hxs := HX.out k
    by_cases hl : i < s.size
    · have hg := get_bt s i hl
      have cat1 := fun w => HZ.out w k (by omega)
      have HS : Hid (fenN (if bt s i = 96 then n + 1 else 0) (if k ≤ (if bt s i = 96 then n + 1 else 0) then k + 1 else k) (sfx s (i + 1)) = R) := Lib.hid (by
        have h := HF.out
        rw [sfx_cons s i hl] at h
        unfold fenN at h
        have e : (s.get! i = 96) = (bt s i = 96) := propext (bt_u8 s i 96 (by decide))
        simp only [e] at h
        exact h)
      clear HF HZ
      by_cases hb : bt s i = 96
      · rw [if_pos hb] at HS
        rw [hb] at hg
        clear hb
        by_cases hc : k ≤ n + 1
        · rw [if_pos hc] at HS
          generalize mk (List.replicate k 96) = X at *
          generalize hY : mk (List.replicate (k + 1) 96) = Y at *
          have HY := Lib.hid hY
          clear hY
          go_wp2_with fail
          go_round
          case rel => exact ⟨i + 1, n + 1, k + 1, by go_num, by go_num, by rw [HY.out], by omega, by omega, by omega, HS⟩
          case measure => simp [intOf]; omega
        · rw [if_neg hc] at HS
          generalize hY : mk (List.replicate k 96) = X at *
          have HY := Lib.hid hY
          clear hY cat1
          go_wp2_with fail
          go_round
          case rel => exact ⟨i + 1, n + 1, k, by go_num, by go_num, by rw [HY.out], by omega, by omega, by omega, HS⟩
          case measure => simp [intOf]; omega
      · have n1 : ((bt s i : Int) != 96) = true := bne_iff_ne.2 (by omega)
        rw [if_neg hb] at HS
        clear hb
        generalize bt s i = b at *
        by_cases hc : k ≤ 0
        · rw [if_pos hc] at HS
          generalize mk (List.replicate k 96) = X at *
          generalize hY : mk (List.replicate (k + 1) 96) = Y at *
          have HY := Lib.hid hY
          clear hY
          go_wp2_with fail
          go_round
          case rel => exact ⟨i + 1, 0, k + 1, by go_num, rfl, by rw [HY.out], by omega, by omega, by omega, HS⟩
          case measure => simp [intOf]; omega
        · rw [if_neg hc] at HS
          generalize hY : mk (List.replicate k 96) = X at *
          have HY := Lib.hid hY
          clear hY cat1
          go_wp2_with fail
          go_round
          case rel => exact ⟨i + 1, 0, k, by go_num, rfl, by rw [HY.out], by omega, by omega, by omega, HS⟩
          case measure => simp [intOf]; omega
    · have HE : Hid (k = R) := Lib.hid (by
        have h := HF.out
        rw [sfx_nil s i (by omega)] at h
        exact h)
      clear HF HZ
      generalize hY : mk (List.replicate k 96) = X at *
      have HY := Lib.hid hY
      clear hY
      go_wp2_with fail
      go_ret
      exact ⟨ret_str (by rw [← HY.out, HE.out]), rfl⟩

set_option maxRecDepth 100000 in
set_option maxHeartbeats 4000000 in
theorem law9_code (s : ByteArray) (hz : s.size ≤ 9223372036854775807) (m : Int) (w : World) (hm : w.cell? ⟨0, 0, none⟩ = some (.int .i64 m)) : Calls Tryz.prog 6 #[.string s] w fun e w' => e = .returned (.bool true) ∧ Below w.heap.size w w' := by
  have h0 := World.block_lt_of_cell? _ _ hm
  have HA : Hid (∀ W : World, Below w.heap.size w W → Calls Tryz.prog 9 #[] W fun e w' => e = .returned (.bool true) ∧ Below W.heap.size W w') := Lib.hid fun W hb => l9_awake m W ((hb.cell (p := ⟨0, 0, none⟩) h0).trans hm)
  by_cases h2 : s.size ≤ 200
  case neg =>
    clear hm h0
    go_enter Tryz.func6, Tryz.ntmps6
    go_wp2_with fail
    ((with_reducible refine (HA.out _ (Below.refl _ _)).mono ?_))
    rintro e w3 ⟨rfl, b3⟩
    go_wp2_with fail
    go_ret
    exact ⟨rfl, b3⟩
  have HL := Lib.hid fun W => l9_line s W (by omega)
  by_cases hln : (!lfB s && validB s) = true
  case neg =>
    rw [Bool.not_eq_true] at hln
    rw [hln] at HL
    clear hm h0 hln
    go_enter Tryz.func6, Tryz.ntmps6
    go_wp2_with fail
    ((with_reducible refine (HL.out _).mono ?_))
    rintro e w1 ⟨rfl, b1⟩
    have HB1 := Lib.hid b1
    clear b1
    go_wp2_with fail
    ((with_reducible refine (HA.out _ HB1.out).mono ?_))
    rintro e w3 ⟨rfl, b3⟩
    go_wp2_with fail
    go_ret
    exact ⟨rfl, HB1.out.trans (b3.mono HB1.out.size)⟩
  rw [hln] at HL
  have hlf : lfB s = false := by
    cases h : lfB s
    · rfl
    · rw [h] at hln; simp at hln
  have HF := Lib.hid fun W => l9_fence s W (by omega)
  obtain ⟨M, hM⟩ : ∃ M, M = fenN 0 1 (bytesL s) := ⟨_, rfl⟩
  rw [← hM] at HF
  have hM1 := fenN_le (bytesL s) 0 1
  have hok := fenN_ok (bytesL s) 0 1 (by omega)
  rw [← hM, bytesL_length] at hM1
  rw [← hM] at hok
  have hlen : (fencL M (bytesL s)).length = M + 1 + s.size + 1 + M := by unfold fencL; simp [bytesL_length]; omega
  have HSc : Hid ((bytesL s).any (· != 32) = true → ∀ W, Below w.heap.size w W → Calls Tryz.prog 11 #[.string (mk (fencL M (bytesL s)))] W fun e w' => Below W.heap.size W w' ∧ ∃ v, e = .returned v ∧ PcOwn w' W.heap.size v [{ inl := spn 4 s, bg := 0, nd := (fencL M (bytesL s)).length }]) := Lib.hid fun ha W hb => by
    have h := s_Scan (mk (fencL M (bytesL s))) m W (by rw [mk_size]; omega) ((hb.cell (p := ⟨0, 0, none⟩) h0).trans hm)
    unfold ScanPost at h
    rwa [fence_code M (by omega) (bytesL s) hok (lf_line hlf) ha, mk_bytesL] at h
  have HSd : Hid ((bytesL s).any (· != 32) = true → ∀ W, Below w.heap.size w W → Calls Tryz.prog 11 #[.string (mk (36 :: (fencL M (bytesL s) ++ [36])))] W fun e w' => Below W.heap.size W w' ∧ ∃ v, e = .returned v ∧ PcOwn w' W.heap.size v [{ inl := spn 5 s, bg := 0, nd := (fencL M (bytesL s)).length + 2 }]) := Lib.hid fun ha W hb => by
    have h := s_Scan (mk (36 :: (fencL M (bytesL s) ++ [36]))) m W (by rw [mk_size]; simp; omega) ((hb.cell (p := ⟨0, 0, none⟩) h0).trans hm)
    unfold ScanPost at h
    rwa [fence_math M (by omega) (bytesL s) hok (lf_line hlf) ha, mk_bytesL] at h
  have hTz : (mk (fencL M (bytesL s))).size = (fencL M (bytesL s)).length := mk_size _
  have cat1 : ∀ w : World, (Op.stringOp .add (mk (List.replicate M 96)) ⟨#[32]⟩).run Tryz.prog w = .ok (.string (mk (List.replicate M 96 ++ [32]))) w := fun w => cat_mk w _ _ _ (by rw [List.length_replicate]; show M + 1 ≤ _; omega) rfl
  have cat2 : ∀ w : World, (Op.stringOp .add (mk (List.replicate M 96 ++ [32])) s).run Tryz.prog w = .ok (.string (mk (List.replicate M 96 ++ [32] ++ bytesL s))) w := fun w => cat_mk w _ _ _ (by simp; omega) rfl
  have cat3 : ∀ w : World, (Op.stringOp .add (mk (List.replicate M 96 ++ [32] ++ bytesL s)) ⟨#[32]⟩).run Tryz.prog w = .ok (.string (mk (List.replicate M 96 ++ [32] ++ bytesL s ++ [32]))) w := fun w => cat_mk w _ _ _ (by have e : (⟨#[32]⟩ : ByteArray).size = 1 := rfl; rw [e]; simp [bytesL_length]; omega) rfl
  have cat4 : ∀ w : World, (Op.stringOp .add (mk (List.replicate M 96 ++ [32] ++ bytesL s ++ [32])) (mk (List.replicate M 96))).run Tryz.prog w = .ok (.string (mk (fencL M (bytesL s)))) w := fun w => cat_mk w _ _ _ (by rw [mk_size]; simp [bytesL_length]; omega) (by rw [bytesL_mk']; unfold fencL; simp)
  have cat5 : ∀ w : World, (Op.stringOp .add ⟨#[36]⟩ (mk (fencL M (bytesL s)))).run Tryz.prog w = .ok (.string (mk (36 :: fencL M (bytesL s)))) w := fun w => cat_mk w [36] _ _ (by rw [hTz]; simp; omega) (by rw [bytesL_mk']; rfl)
  have cat6 : ∀ w : World, (Op.stringOp .add (mk (36 :: fencL M (bytesL s))) ⟨#[36]⟩).run Tryz.prog w = .ok (.string (mk (36 :: (fencL M (bytesL s) ++ [36])))) w := fun w => cat_mk w _ _ _ (by have e : (⟨#[36]⟩ : ByteArray).size = 1 := rfl; rw [e]; simp; omega) rfl
  have HBE := Lib.hid fun h => blk_end (s := s) h
  have HBS := Lib.hid fun i (hi : i < s.size) => blk_step (s := s) hi
  have hb0 : Hid (blkB s 0 = true) := Lib.hid rfl
  rw [← hTz] at HSc HSd
  have hT2 : (mk (fencL M (bytesL s))).size ≤ 1000000 := by omega
  clear hm h0 hln hlf hM hok hTz hlen
  generalize mk (36 :: (fencL M (bytesL s) ++ [36])) = U at *
  generalize mk (36 :: fencL M (bytesL s)) = U1 at *
  generalize mk (fencL M (bytesL s)) = T at *
  generalize mk (List.replicate M 96 ++ [32] ++ bytesL s ++ [32]) = T3 at *
  generalize mk (List.replicate M 96 ++ [32] ++ bytesL s) = T2 at *
  generalize mk (List.replicate M 96 ++ [32]) = T1 at *
  generalize mk (List.replicate M 96) = F at *
  generalize (bytesL s).any (· != 32) = an at *
  go_enter Tryz.func6, Tryz.ntmps6
  go_wp2_with fail
  ((with_reducible refine (HL.out _).mono ?_))
  rintro e w1 ⟨rfl, b1⟩
  have HB1 := Lib.hid b1
  clear b1 HL
  go_wp2_with fail
  go_loop [3, 4] (fun v3 v4 => ∃ i : Nat, v4 = .int .i64 i ∧ i ≤ s.size ∧ v3 = .bool (blkB s i)) (fun _ v4 => s.size - (intOf v4).toNat)
  case atStart => exact ⟨0, rfl, Nat.zero_le _, by rw [hb0.out]⟩
  case round =>
    clear hb0
    obtain ⟨i, rfl, hi, rfl⟩ := hrel
    by_cases hl : i < s.size
    · have hg := get_bt s i hl
      have HST := Lib.hid (HBS.out i hl)
      clear HBS HBE HSc HSd HF cat1 cat2 cat3 cat4 cat5 cat6 HA
      generalize blkB s i = x at *
      by_cases hb : bt s i = 32
      · have HY : Hid (blkB s (i + 1) = x) := Lib.hid (by rw [HST.out, hb]; cases x <;> rfl)
        rw [hb] at hg
        clear hb HST
        cases x
        all_goals
          go_wp2_with fail
          go_round
          case rel => exact ⟨i + 1, by go_num, by omega, by rw [HY.out]⟩
          case measure => simp [intOf]; omega
      · have HY : Hid (blkB s (i + 1) = false) := Lib.hid (by rw [HST.out, show (bt s i == 32) = false from beq_eq_false_iff_ne.2 hb, Bool.and_false])
        have n32 : ((bt s i : Int) == 32) = false := beq_eq_false_iff_ne.2 (by omega)
        clear hb HST
        generalize bt s i = b at *
        cases x
        all_goals
          go_wp2_with fail
          go_round
          case rel => exact ⟨i + 1, by go_num, by omega, by rw [HY.out]⟩
          case measure => simp [intOf]; omega
    · obtain rfl : i = s.size := by omega
      cases hb : blkB s s.size
      · have HS1 := Lib.hid (HSc.out (HBE.out hb))
        have HS2 := Lib.hid (HSd.out (HBE.out hb))
        clear HBE HBS HSc HSd hb
        go_wp2_with fail
        ((with_reducible refine (HF.out _).mono ?_))
        rintro e w2 ⟨rfl, rfl⟩
        go_wp2_with fail
        ((with_reducible refine (HF.out _).mono ?_))
        rintro e w2 ⟨rfl, rfl⟩
        go_wp2_with fail
        ((with_reducible refine (HS1.out _ HB1.out).mono ?_))
        rintro e w2 ⟨b2, v, rfl, ho⟩
        have HB2 := Lib.hid (HB1.out.trans (b2.mono HB1.out.size))
        have HO := Lib.hid (s_one 4 T.size s ho rfl rfl rfl rfl rfl)
        clear b2 ho cat1 cat2 cat3 cat4 HS1
        go_wp2_with fail
        ((refine (HO.out).mono ?_))
        rintro e w3 ⟨rfl, rfl⟩
        go_wp2_with fail
        ((with_reducible refine (HS2.out _ HB2.out).mono ?_))
        rintro e w3 ⟨b3, v3, rfl, ho3⟩
        have HB3 := Lib.hid (HB2.out.trans (b3.mono HB2.out.size))
        have HO3 := Lib.hid (s_one 5 (T.size + 2) s ho3 rfl rfl rfl rfl rfl)
        rw [show ((T.size + 2 : Nat) : Int) = (T.size : Int) + 2 by omega] at HO3
        clear b3 ho3 cat5 cat6 HS2 HO
        go_wp2_with fail
        ((refine (HO3.out).mono ?_))
        rintro e w4 ⟨rfl, rfl⟩
        go_wp2_with fail
        ((with_reducible refine (HA.out _ HB3.out).mono ?_))
        rintro e w5 ⟨rfl, b5⟩
        go_wp2_with fail
        go_ret
        exact ⟨rfl, HB3.out.trans (b5.mono HB3.out.size)⟩
      · clear HBE HBS HSc HSd hb cat1 cat2 cat3 cat4 cat5 cat6
        go_wp2_with fail
        ((with_reducible refine (HA.out _ HB1.out).mono ?_))
        rintro e w3 ⟨rfl, b3⟩
        go_wp2_with fail
        go_ret
        exact ⟨rfl, HB1.out.trans (b3.mono HB1.out.size)⟩

end Go.Proofs.YtcjkgmfidkgamaaGreatDoor
namespace Go.Pub
def dig (n : Nat) : UInt8 := UInt8.ofNat (48 + n % 10)
/-- The digits of a number ahead of others. -/
def numF : Nat → Nat → List UInt8 → List UInt8
  | 0, _, a => a
  | f + 1, n, a => if 10 ≤ n then numF f (n / 10) (dig (n / 10) :: a) else a
def numL (n : Nat) : List UInt8 := numF 20 n [dig n]
def codL (c : Nat) : List UInt8 := 38 :: 35 :: (numL c ++ [59])
def codP : Nat → List Nat → List PcL
  | _, [] => []
  | i, c :: l => { inl := spn 1 (Utf8.encode (c : Int)), bg := i, nd := i + (codL c).length } :: codP (i + (codL c).length) l
theorem dig_nat (n : Nat) : (dig n).toNat = 48 + n % 10 := by unfold dig; rw [ofNat_toNat _ (by omega)]
theorem numV_from (l : List UInt8) : ∀ k, l.foldl (fun n (b : UInt8) => 10 * n + (b.toNat - 48)) k = k * 10 ^ l.length + numV l := by
  unfold numV
  induction l with
  | nil => intro k; simp
  | cons b l ih =>
    intro k
    rw [List.foldl_cons, List.foldl_cons, ih, ih (10 * 0 + (b.toNat - 48)), List.length_cons, Nat.pow_succ]
    have e1 : (10 * k + (b.toNat - 48)) * 10 ^ l.length = 10 * k * 10 ^ l.length + (b.toNat - 48) * 10 ^ l.length := Nat.add_mul _ _ _
    have e2 : k * (10 ^ l.length * 10) = 10 * k * 10 ^ l.length := by rw [Nat.mul_comm (10 ^ l.length) 10, ← Nat.mul_assoc, Nat.mul_comm k 10]
    rw [e1, e2, Nat.mul_zero, Nat.zero_add, Nat.add_assoc]
theorem numV_cons (x : Nat) (l : List UInt8) : numV (dig x :: l) = x % 10 * 10 ^ l.length + numV l := by
  have h : numV (dig x :: l) = l.foldl (fun n (b : UInt8) => 10 * n + (b.toNat - 48)) (10 * 0 + ((dig x).toNat - 48)) := rfl
  rw [h, numV_from, dig_nat]
  congr 2; omega
theorem numF_val : ∀ (f n : Nat) (a : List UInt8), n < 10 ^ (f + 1) → numV (numF f n a) = n / 10 * 10 ^ a.length + numV a
  | 0, n, a, h => by
    have : n / 10 = 0 := by omega
    rw [this]; simp [numF]
  | f + 1, n, a, h => by
    unfold numF
    by_cases h1 : 10 ≤ n
    · rw [if_pos h1, numF_val f (n / 10) _ (by rw [Nat.pow_succ] at h; omega), numV_cons, List.length_cons, Nat.pow_succ]
      have e : n / 10 / 10 * (10 ^ a.length * 10) + n / 10 % 10 * 10 ^ a.length = n / 10 * 10 ^ a.length := by
        rw [Nat.mul_comm (10 ^ a.length) 10, ← Nat.mul_assoc, ← Nat.add_mul]
        congr 1; omega
      rw [← Nat.add_assoc, e]
    · rw [if_neg h1]
      have : n / 10 = 0 := by omega
      rw [this]; simp
theorem numL_val (n : Nat) (h : n ≤ 1114111) : numV (numL n) = n := by
  unfold numL
  rw [numF_val 20 n _ (by omega), numV_cons]
  show n / 10 * 10 ^ 1 + (n % 10 * 10 ^ 0 + numV []) = n
  have : numV [] = 0 := rfl
  rw [this]; omega
theorem numF_len : ∀ (f n k : Nat) (a : List UInt8), n < 10 ^ (k + 1) → (numF f n a).length ≤ a.length + k ∧ a.length ≤ (numF f n a).length
  | 0, n, k, a, h => by unfold numF; omega
  | f + 1, n, k, a, h => by
    unfold numF
    by_cases h1 : 10 ≤ n
    · rw [if_pos h1]
      cases k with
      | zero => omega
      | succ k =>
        have := numF_len f (n / 10) k (dig (n / 10) :: a) (by rw [Nat.pow_succ] at h; omega)
        rw [List.length_cons] at this
        omega
    · rw [if_neg h1]; omega
theorem numL_len (n : Nat) (h : n ≤ 1114111) : 1 ≤ (numL n).length ∧ (numL n).length ≤ 7 := by
  have := numF_len 20 n 6 [dig n] (by omega)
  unfold numL
  simp only [List.length_cons, List.length_nil] at this
  omega
theorem numF_dig : ∀ (f n : Nat) (a : List UInt8), (∀ b ∈ a, dgN b.toNat = true) → ∀ b ∈ numF f n a, dgN b.toNat = true
  | 0, n, a, h => h
  | f + 1, n, a, h => by
    unfold numF
    by_cases h1 : 10 ≤ n
    · rw [if_pos h1]
      refine numF_dig f (n / 10) _ fun b hb => ?_
      rw [List.mem_cons] at hb
      rcases hb with rfl | hb
      · rw [dig_nat]; unfold dgN; simp; omega
      · exact h b hb
    · rw [if_neg h1]; exact h
theorem numL_dig (n : Nat) : ∀ b ∈ numL n, dgN b.toNat = true := numF_dig 20 n _ fun b hb => by
  simp at hb; subst hb
  rw [dig_nat]; unfold dgN; simp; omega
theorem cntW_run (p : Nat → Bool) : ∀ (l : List UInt8) (x : UInt8) (r : List UInt8), (∀ b ∈ l, p b.toNat = true) → p x.toNat = false → cntW p (l ++ x :: r) = l.length
  | [], x, r, _, hx => by
    show (if p x.toNat = true then _ else _) = 0
    rw [if_neg (by rw [hx]; exact Bool.false_ne_true)]
  | b :: l, x, r, h, hx => by
    show (if p b.toNat = true then cntW p (l ++ x :: r) + 1 else 0) = _
    rw [if_pos (h b List.mem_cons_self), cntW_run p l x r (fun c hc => h c (List.mem_cons_of_mem _ hc)) hx]; rfl
theorem cod_spec {s : ByteArray} {i c : Nat} {r : List UInt8} (h : sfx s i = codL c ++ r) (hg : goodC c = true) : spec s i = some { inl := spn 1 (Utf8.encode (c : Int)), bg := i, nd := i + (codL c).length } := by
  have hc : c ≤ 1114111 := by unfold goodC at hg; simp at hg; omega
  have h' : sfx s i = 38 :: (35 :: (numL c ++ 59 :: r)) := by rw [h]; unfold codL; simp
  obtain ⟨h1, h2, h3⟩ := sfx_head h'
  obtain ⟨h4, h5, h6⟩ := sfx_head h3
  have hl := numL_len c hc
  have hk : digK s i = (numL c).length := by
    unfold digK runF
    rw [show i + 2 = i + 1 + 1 from rfl, h6, cntW_run dgN _ 59 r (numL_dig c) (by decide)]
    omega
  have hs := sfx_app h6
  obtain ⟨h7, h8, _⟩ := sfx_head hs
  have hsub : sub s (i + 2) (i + 2 + (numL c).length) = numL c := sub_run h6
  have e : entI s i = some (spn 1 (Utf8.encode (c : Int)), i + (codL c).length) := by
    unfold entI
    have b1 : begB s i [38, 97, 109, 112, 59] = false := by unfold begB; rw [h']; rfl
    have b2 : begB s i [38, 108, 116, 59] = false := by unfold begB; rw [h']; rfl
    have b3 : begB s i [38, 103, 116, 59] = false := by unfold begB; rw [h']; rfl
    have b4 : begB s i [38, 113, 117, 111, 116, 59] = false := by unfold begB; rw [h']; rfl
    have b5 : begB s i [38, 35] = true := by unfold begB; rw [h']; rfl
    rw [b1, b2, b3, b4, b5, hk, hsub, numL_val c hc]
    simp only [Bool.false_eq_true, if_false, if_true]
    rw [if_pos ⟨by omega, h7, h8, hg⟩]
    congr 2
    unfold codL
    simp; omega
  unfold spec
  have h2 : bt s i = 38 := h2
  rw [h2, if_neg (by decide), if_neg (by decide), if_pos rfl, e]
  rfl
theorem cod_scanF (s : ByteArray) : ∀ (l : List Nat) (f i : Nat) (j : Bool) (acc : List PcL), sfx s i = l.flatMap codL → (∀ c ∈ l, goodC c = true) → s.size - i ≤ f → scanF s f i j acc = acc ++ codP i l
  | [], f, i, j, acc, h, _, hf => by
    have : (sfx s i).length = 0 := by rw [h]; rfl
    rw [sfx_len] at this
    rw [scanF_end (by omega)]
    unfold codP; simp
  | c :: l, f, i, j, acc, h, hg, hf => by
    have h' : sfx s i = codL c ++ l.flatMap codL := by rw [h]; rfl
    have hz : 0 < (codL c).length := by unfold codL; simp
    have hi : i < s.size := by
      have := congrArg List.length h'
      rw [sfx_len, List.length_append] at this
      omega
    obtain ⟨g, rfl⟩ : ∃ g, f = g + 1 := ⟨f - 1, by omega⟩
    rw [scanF_one hi (cod_spec h' (hg c List.mem_cons_self))]
    rw [cod_scanF s l g _ false _ (sfx_app h') (fun x hx => hg x (List.mem_cons_of_mem _ hx)) (by show s.size - (i + (codL c).length) ≤ g; omega)]
    rw [List.append_assoc]; rfl
theorem cod_scan (l : List Nat) (h : ∀ c ∈ l, goodC c = true) : scanP (mk (l.flatMap codL)) = codP 0 l := by
  unfold scanP
  rw [cod_scanF _ l _ 0 false [] (by unfold sfx; rw [bytesL_mk']; rfl) h (by omega)]
  rfl
theorem codP_len : ∀ (l : List Nat) (i : Nat), (codP i l).length = l.length
  | [], _ => rfl
  | c :: l, i => by unfold codP; rw [List.length_cons, List.length_cons, codP_len l]
theorem codP_at : ∀ (l : List Nat) (i k c : Nat), l[k]? = some c → ∃ a b, (codP i l)[k]? = some { inl := spn 1 (Utf8.encode (c : Int)), bg := a, nd := b }
  | [], _, k, b, h => by simp at h
  | x :: l, i, 0, b, h => by simp at h; subst h; exact ⟨_, _, rfl⟩
  | x :: l, i, k + 1, b, h => by
    unfold codP
    rw [List.getElem?_cons_succ]
    exact codP_at l _ k b (by simpa using h)
theorem codL_len (c : Nat) (h : c ≤ 1114111) : (codL c).length ≤ 10 := by
  have := numL_len c h
  unfold codL; simp; omega
end Go.Pub
namespace Go.Pub
theorem dig_ext (k : Nat) : (⟨#[48, 49, 50, 51, 52, 53, 54, 55, 56, 57]⟩ : ByteArray).extract (k % 10) (k % 10 + 1) = mk [dig k] := by
  have key : ∀ r : Fin 10, (⟨#[48, 49, 50, 51, 52, 53, 54, 55, 56, 57]⟩ : ByteArray).extract r.1 (r.1 + 1) = mk [UInt8.ofNat (48 + r.1)] := by decide +kernel
  exact key ⟨k % 10, Nat.mod_lt _ (by decide)⟩
/-- Where the digits of n stand still: k is left, ahead of the digits a. -/
def NumW (n k : Nat) (a : List UInt8) : Prop := ∃ f, numF f k a = numL n ∧ k < 10 ^ (f + 1)
theorem NumW.start (n : Nat) (h : n ≤ 1114111) : NumW n n [dig n] := ⟨20, rfl, by omega⟩
theorem NumW.step {n k : Nat} {a : List UInt8} (h : NumW n k a) (hk : 10 ≤ k) : NumW n (k / 10) (dig (k / 10) :: a) := by
  obtain ⟨f, h1, h2⟩ := h
  cases f with
  | zero => simp at h2; omega
  | succ f =>
    refine ⟨f, ?_, ?_⟩
    · unfold numF at h1
      rw [if_pos hk] at h1
      exact h1
    · rw [Nat.div_lt_iff_lt_mul (by decide)]
      rw [Nat.pow_succ] at h2
      exact h2
theorem NumW.stop {n k : Nat} {a : List UInt8} (h : NumW n k a) (hk : ¬ 10 ≤ k) : a = numL n := by
  obtain ⟨f, h1, h2⟩ := h
  cases f with
  | zero => exact h1
  | succ f =>
    unfold numF at h1
    rw [if_neg hk] at h1
    exact h1
end Go.Pub
namespace Go.Pub
/-- How far the characters of a line have been written: up to i, the characters cs. -/
def CodW (s : ByteArray) (i : Nat) (cs : List Nat) : Prop :=
  i ≤ s.size ∧ cs.length ≤ i ∧ (∀ c ∈ cs, goodC c = true) ∧ (∀ p ∈ ptsL (sfx s i), p ≠ (65533, 1) ∧ uncleanB p.1 = false) ∧ lfB s = false
theorem CodW.start {s : ByteArray} (hv : ∀ p ∈ pts s, p ≠ (65533, 1) ∧ uncleanB p.1 = false) (hl : lfB s = false) : CodW s 0 [] := by
  refine ⟨Nat.zero_le _, Nat.le_refl _, fun c h => (List.not_mem_nil h).elim, fun p hp => hv p ?_, hl⟩
  rw [pts_ptsL]
  exact hp
theorem CodW.step {s : ByteArray} {i : Nat} {cs : List Nat} (h : CodW s i cs) (hi : i < s.size) :
    CodW s (i + (Utf8.decode s i).2) (cs ++ [(Utf8.decode s i).1]) ∧ s.extract i (i + (Utf8.decode s i).2) = Utf8.encode ((Utf8.decode s i).1 : Int) ∧ 1 ≤ (Utf8.decode s i).2 ∧ i + (Utf8.decode s i).2 ≤ s.size ∧ (Utf8.decode s i).1 ≤ 1114111 := by
  obtain ⟨h1, h2, h3, h4, h5⟩ := h
  have hd := dec_bd s i hi
  have hne : sfx s i ≠ [] := by rw [sfx_cons s i hi]; simp
  have hdl : Utf8.decode s i = decL (sfx s i) := decode_decL s i
  have hcons := ptsL_cons (sfx s i) hne
  have hdrop : (sfx s i).drop (decL (sfx s i)).2 = sfx s (i + (decL (sfx s i)).2) := by
    unfold sfx; rw [List.drop_drop]
  rw [hdrop] at hcons
  have hp := h4 (decL (sfx s i)) (by rw [hcons]; exact List.mem_cons_self)
  have hsc := decL_scalar (sfx s i) hne
  have hlf : (decL (sfx s i)).1 ≠ 10 := by
    intro e
    have := lf_at s i hi
    rw [hdl, e] at this
    have h10 : bt s i = 10 := by simpa using this.symm
    have := lf_some hi h10
    rw [h5] at this
    cases this
  have hg : goodC (decL (sfx s i)).1 = true := by
    unfold Scalar at hsc
    have hu := hp.2
    unfold uncleanB at hu
    unfold goodC
    simp at hu ⊢
    omega
  rw [hdl] at hd ⊢
  refine ⟨⟨hd.2.2.1, by simp; omega, fun c hc => ?_, fun p hpp => h4 p (by rw [hcons]; exact List.mem_cons_of_mem _ hpp), h5⟩, ?_, hd.1, hd.2.2.1, hd.2.2.2⟩
  · rcases List.mem_append.1 hc with hc | hc
    · exact h3 c hc
    · simp at hc; subst hc; exact hg
  · have he := enc_decL (sfx s i) hne hp.1
    have hx : bytesL (s.extract i (i + (decL (sfx s i)).2)) = (sfx s i).take (decL (sfx s i)).2 := by
      rw [bytesL_sub]
      have h1 : sub s i (i + (decL (sfx s i)).2) = (sfx s i).take (i + (decL (sfx s i)).2 - i) := rfl
      rw [h1, Nat.add_sub_cancel_left]
    rw [← mk_bytesL (s.extract i (i + (decL (sfx s i)).2)), hx, ← he, encL, mk_bytesL]
/-- What the characters are written as, and what is wanted. -/
def codT (cs : List Nat) : ByteArray := mk (cs.flatMap codL)
def codV (cs : List Nat) : List Value := strs (cs.map fun c : Nat => Utf8.encode (c : Int))
theorem codV_snoc (cs : List Nat) (c : Nat) : codV (cs ++ [c]) = codV cs ++ [.string (Utf8.encode (c : Int))] := by
  unfold codV strs; simp
theorem codV_at (cs : List Nat) (k : Nat) (h : k < cs.length) : (codV cs)[k]? = some (.string (Utf8.encode (cs[k] : Int))) := by
  unfold codV strs; simp [h]
theorem codT_len {s : ByteArray} {i : Nat} {cs : List Nat} (h : CodW s i cs) : (codT cs).size ≤ 10 * cs.length := by
  have key : ∀ l : List Nat, (∀ c ∈ l, goodC c = true) → (l.flatMap codL).length ≤ 10 * l.length := by
    intro l
    induction l with
    | nil => intro _; simp
    | cons c l ih =>
      intro hg
      have h1 := ih fun x hx => hg x (List.mem_cons_of_mem _ hx)
      have h2 : c ≤ 1114111 := by
        have := hg c List.mem_cons_self
        unfold goodC at this; simp at this; omega
      have h3 := codL_len c h2
      rw [List.flatMap_cons, List.length_append, List.length_cons]
      omega
  unfold codT
  rw [mk_size]
  exact key cs h.2.2.1
theorem codT_snoc (cs : List Nat) (c : Nat) : codT (cs ++ [c]) = mk (cs.flatMap codL ++ codL c) := by
  unfold codT; rw [List.flatMap_append]; simp
/-- What scan makes of it: the character at every place. -/
theorem cod_look (cs : List Nat) (k : Nat) (h : k < cs.length) : ∃ a b, (codP 0 cs)[k]'(by rw [codP_len]; exact h) = { inl := spn 1 (Utf8.encode (cs[k] : Int)), bg := a, nd := b } := by
  obtain ⟨a, b, e⟩ := codP_at cs 0 k cs[k] (List.getElem?_eq_getElem h)
  rw [List.getElem?_eq_getElem (by rw [codP_len]; exact h)] at e
  exact ⟨a, b, Option.some.inj e⟩
end Go.Pub
namespace Go.Pub
theorem NumW.len {n k : Nat} {a : List UInt8} (h : NumW n k a) (hn : n ≤ 1114111) : a.length ≤ 7 := by
  obtain ⟨f, h1, h2⟩ := h
  have h3 := (numF_len f k f a h2).2
  rw [h1] at h3
  exact Nat.le_trans h3 (numL_len n hn).2
theorem cod_own {w : World} {base : Nat} {t : TypeId} {v : Value} {cs : List Nat} {c : Nat} (h : w.ownsRow base t 1 v (cs.length + 1) (codV cs ++ [.string (Utf8.encode (c : Int))])) : w.ownsRow base t 1 v (cs ++ [c]).length (codV (cs ++ [c])) := by
  rw [List.length_append, codV_snoc]; exact h
end Go.Pub
namespace Go.Proofs.YtcjkgmfidkgamaaGreatDoor
open Go.RowKit Go.Pub
set_option maxRecDepth 100000 in
set_option maxHeartbeats 1000000 in
theorem l9_num (n : Nat) (hn : n ≤ 1114111) (w : World) : Calls Tryz.prog 17 #[.int .i64 n] w fun e w' => e = .returned (.string (mk (numL n))) ∧ w = w' := by
  have H0 : Hid (NumW n n [dig n]) := Lib.hid (NumW.start n hn)
  have HS := Lib.hid fun k a (h : NumW n k a) (hk : 10 ≤ k) => h.step hk
  have HL := Lib.hid fun k a (h : NumW n k a) => h.len hn
  have HE := Lib.hid fun k a (h : NumW n k a) (hk : ¬ 10 ≤ k) => h.stop hk
  have HX := Lib.hid dig_ext
  have hr : n % 10 ≤ n % 10 + 1 ∧ n % 10 + 1 ≤ 10 := by omega
  obtain ⟨hr1, hr2⟩ := hr
  go_enter Tryz.func17, Tryz.ntmps17
  go_wp2_with fail
  go_loop [0, 3] (fun v0 v3 => ∃ (k : Nat) (a : List UInt8), v0 = .int .i64 k ∧ k ≤ 1114111 ∧ v3 = .string (mk a) ∧ Hid (NumW n k a)) (fun v0 _ => (intOf v0).toNat)
  case atStart => exact ⟨n, [dig n], rfl, hn, congrArg Value.string (HX.out n), H0⟩
  case round =>
    clear H0 hr1 hr2
    obtain ⟨k, a, rfl, hk, rfl, HN⟩ := hrel
    by_cases h10 : 10 ≤ k
    · have HN2 := Lib.hid (HS.out k a HN.out h10)
      have hlen := HL.out k a HN.out
      have cat1 : ∀ w : World, (Op.stringOp .add ((⟨#[48, 49, 50, 51, 52, 53, 54, 55, 56, 57]⟩ : ByteArray).extract (k / 10 % 10) (k / 10 % 10 + 1)) (mk a)).run Tryz.prog w = .ok (.string (mk (dig (k / 10) :: a))) w := fun w => by
        rw [HX.out]
        exact cat_mk w [dig (k / 10)] _ _ (by rw [mk_size]; simp; omega) (by rw [bytesL_mk']; rfl)
      have hr1 : k / 10 % 10 ≤ k / 10 % 10 + 1 := by omega
      have hr2 : k / 10 % 10 + 1 ≤ 10 := by omega
      clear HS HE HX HL HN hlen
      generalize mk a = X at *
      generalize hY : mk (dig (k / 10) :: a) = Y at *
      have HY := Lib.hid hY
      clear hY
      go_wp2_with fail
      go_round
      case rel => exact ⟨k / 10, dig (k / 10) :: a, by go_num, by omega, by rw [HY.out], HN2⟩
      case measure => simp [intOf]; omega
    · have HR : Hid (a = numL n) := Lib.hid (HE.out k a HN.out h10)
      clear HS HE HX HL HN
      generalize hY : mk a = Y at *
      have HY := Lib.hid hY
      clear hY
      go_wp2_with fail
      go_ret
      exact ⟨ret_str (by rw [← HY.out, HR.out]), rfl⟩

set_option maxRecDepth 100000 in
set_option maxHeartbeats 4000000 in
theorem law9_coded (s : ByteArray) (hz : s.size ≤ 9223372036854775807) (m : Int) (w : World) (hm : w.cell? ⟨0, 0, none⟩ = some (.int .i64 m)) : Calls Tryz.prog 5 #[.string s] w fun e w' => e = .returned (.bool true) ∧ Below w.heap.size w w' := by
  have h0 := World.block_lt_of_cell? _ _ hm
  have HA : Hid (∀ W : World, Below w.heap.size w W → Calls Tryz.prog 9 #[] W fun e w' => e = .returned (.bool true) ∧ Below W.heap.size W w') := Lib.hid fun W hb => l9_awake m W ((hb.cell (p := ⟨0, 0, none⟩) h0).trans hm)
  by_cases h2 : s.size ≤ 120
  case neg =>
    clear hm h0
    go_enter Tryz.func5, Tryz.ntmps5
    go_wp2_with fail
    ((with_reducible refine (HA.out _ (Below.refl _ _)).mono ?_))
    rintro e w3 ⟨rfl, b3⟩
    go_wp2_with fail
    go_ret
    exact ⟨rfl, b3⟩
  have HL := Lib.hid fun W => l9_line s W (by omega)
  by_cases hln : (!lfB s && validB s) = true
  case neg =>
    rw [Bool.not_eq_true] at hln
    rw [hln] at HL
    clear hm h0 hln
    go_enter Tryz.func5, Tryz.ntmps5
    go_wp2_with fail
    ((with_reducible refine (HL.out _).mono ?_))
    rintro e w1 ⟨rfl, b1⟩
    have HB1 := Lib.hid b1
    clear b1
    go_wp2_with fail
    ((with_reducible refine (HA.out _ HB1.out).mono ?_))
    rintro e w3 ⟨rfl, b3⟩
    go_wp2_with fail
    go_ret
    exact ⟨rfl, HB1.out.trans (b3.mono HB1.out.size)⟩
  rw [hln] at HL
  have hcw : Hid (CodW s 0 []) := Lib.hid (by
    rw [Bool.and_eq_true, Bool.not_eq_true'] at hln
    exact CodW.start (valid_pts s hln.2) hln.1)
  have HNx : Hid (∀ (i : Nat), i < s.size → ∀ W, Calls Tryz.prog 16 #[.string s, .int .i64 i] W (PairBelow ((Utf8.decode s i).1 : Int) ((Utf8.decode s i).2 : Int) W)) := Lib.hid fun i hi W => by
    have h := rNext_any s i W (by omega)
    rwa [nextAt_in s i hi] at h
  have HNm := Lib.hid fun c (hc : c ≤ 1114111) W => l9_num c hc W
  have HST := Lib.hid fun i cs (h : CodW s i cs) (hi : i < s.size) => h.step hi
  have HTL := Lib.hid fun i cs (h : CodW s i cs) => codT_len h
  have HSc : Hid (∀ cs, (∀ c ∈ cs, goodC c = true) → cs.length ≤ 120 → (codT cs).size ≤ 1200 → ∀ W, Below w.heap.size w W → Calls Tryz.prog 11 #[.string (codT cs)] W fun e w' => Below W.heap.size W w' ∧ ∃ v, e = .returned v ∧ PcOwn w' W.heap.size v (codP 0 cs)) := Lib.hid fun cs hg hl ht W hb => by
    have h := s_Scan (codT cs) m W (by omega) ((hb.cell (p := ⟨0, 0, none⟩) h0).trans hm)
    unfold ScanPost codT at h
    rwa [cod_scan cs hg] at h
  obtain ⟨i0, hi0, hz0, hz1, hz2⟩ := info_parts str_info
  have HO0 : Hid (∀ W : World, W.ownsRow w.heap.size 9 1 (.slice none 0 0) ([] : List Nat).length (codV [])) := Lib.hid fun W => World.ownsRow_nil _ _ _ _
  clear hm h0 hln
  go_enter Tryz.func5, Tryz.ntmps5
  go_wp2_with fail
  ((with_reducible refine (HL.out _).mono ?_))
  rintro e w1 ⟨rfl, b1⟩
  have HB1 := Lib.hid b1
  clear b1 HL
  go_wp2_with fail
  go_loopw [3, 4, 5] (fun v3 v4 v5 wr => ∃ (i : Nat) (cs : List Nat), v5 = .int .i64 i ∧ v3 = .string (codT cs) ∧ i ≤ s.size ∧ Hid (CodW s i cs) ∧ Hid (wr.ownsRow w.heap.size 9 1 v4 cs.length (codV cs)) ∧ Hid (Below w.heap.size w wr)) (fun _ _ v5 _ => s.size - (intOf v5).toNat)
  case atStart => exact ⟨0, [], rfl, rfl, Nat.zero_le _, hcw, Lib.hid (HO0.out _), HB1⟩
  case round =>
    clear hcw HO0 HB1
    obtain ⟨i, cs, rfl, rfl, hi, HC, HO, HB⟩ := hrel
    have hcl : cs.length ≤ i := HC.out.2.1
    have htl := HTL.out i cs HC.out
    by_cases hl : i < s.size
    · obtain ⟨hC2, hx, h1, h3, h4⟩ := HST.out i cs HC.out hl
      have HNi := Lib.hid (HNx.out i hl)
      generalize (Utf8.decode s i).1 = c at *
      generalize (Utf8.decode s i).2 = n at *
      have HNc := Lib.hid (HNm.out c h4)
      have hnl := numL_len c h4
      have htl2 := HTL.out _ _ hC2
      rw [List.length_append] at htl2
      simp only [List.length_singleton] at htl2
      have cat1 : ∀ w : World, (Op.stringOp .add ⟨#[38, 35]⟩ (mk (numL c))).run Tryz.prog w = .ok (.string (mk (38 :: 35 :: numL c))) w := fun w => cat_mk w [38, 35] _ _ (by rw [mk_size]; simp; omega) (by rw [bytesL_mk']; rfl)
      have cat2 : ∀ w : World, (Op.stringOp .add (mk (38 :: 35 :: numL c)) ⟨#[59]⟩).run Tryz.prog w = .ok (.string (mk (codL c))) w := fun w => cat_mk w _ _ _ (by have e : (⟨#[59]⟩ : ByteArray).size = 1 := rfl; rw [e]; simp; omega) rfl
      have cat3 : ∀ w : World, (Op.stringOp .add (codT cs) (mk (codL c))).run Tryz.prog w = .ok (.string (codT (cs ++ [c]))) w := fun w => by
        rw [codT_snoc]
        exact cat_mk w _ _ _ (by have hs := codT_snoc cs c; rw [hs, mk_size, List.length_append] at htl2; rw [mk_size]; omega) (by rw [bytesL_mk'])
      have HC2 := Lib.hid hC2
      have HX := Lib.hid hx
      have hin : i ≤ i + n := by omega
      have ho1 := HO.out
      obtain ⟨A, cp, rfl⟩ := own_slice ho1
      clear HST HTL HNx HNm HSc HA hC2 hx hnl HC HO htl htl2
      generalize codT cs = X at *
      generalize hY : codT (cs ++ [c]) = Y at *
      generalize mk (codL c) = X1 at *
      generalize mk (38 :: 35 :: numL c) = X2 at *
      generalize mk (numL c) = X3 at *
      have HY := Lib.hid hY
      clear hY
      go_wp2_with fail
      ((with_reducible refine (HNi.out _).mono ?_))
      rintro e w2 ⟨rfl, b2⟩
      have HB2 := Lib.hid (HB.out.trans (b2.mono HB.out.size))
      have ho2 := own_below ho1 b2
      have hzz := HB2.out.size
      clear b2 HB ho1
      go_wp2_with fail
      ((with_reducible refine (HNc.out _).mono ?_))
      rintro e w3 ⟨rfl, rfl⟩
      have hlt := ho2.lt
      go_wp2_with (at_builtin; refine wpList_append_lies _ rfl _ _ 27 rfl w.heap.size 9 i0 _ 1 16 Tryz.underlying27 hi0 hz0 hz1 hz2 rfl (by decide) _ _ _ rfl (ho2.alloc _) ⟨w2.heap.size, 0, none⟩ 1 1 [.string (s.extract i (i + n))] rfl rfl ?c1 ?c2 (by decide) ?c3 ?c4 ?c5 (w2.heap.size + 1) ?c6 ?_)
      case c1 => exact World.news_of_block (t := 9) (fr := (0, 0)) (cs := #[.string (s.extract i (i + n))]) (heap_alloc_new w2 (.cells #[.string (s.extract i (i + n))] 9))
      case c2 => intro u hu; simp at hu; subst hu; rfl
      case c3 => unfold maxLen; omega
      case c4 => omega
      case c5 => simp; omega
      case c6 => simp
      intro g7 cap7 w4 hown3 hgrow hlies hlt3
      have HB4 := Lib.hid ((HB2.out.alloc (by omega) (.cells #[.string (s.extract i (i + n))] 9)).grown hgrow (by simp; omega) fun k hk => (hlt k hk).1)
      have HO4 : Hid (w4.ownsRow w.heap.size 9 1 (.slice (some ⟨g7, 0, none⟩) (cs.length + 1) cap7) (cs ++ [c]).length (codV (cs ++ [c]))) := Lib.hid (cod_own (by rw [← HX.out]; exact hown3))
      clear hown3 hgrow hlies ho2 hlt HB2
      go_wp2_with fail
      go_roundw
      case rel => exact ⟨i + n, cs ++ [c], by go_num, by rw [HY.out], h3, HC2, HO4, HB4⟩
      case measure => simp [intOf]; omega
    · obtain rfl : i = s.size := by omega
      have HSw := Lib.hid (HSc.out cs HC.out.2.2.1 (by omega) (by omega) wr HB.out)
      have ho := HO.out
      obtain ⟨A, cp, rfl⟩ := own_slice ho
      clear HSc HST HTL HNx HNm HC htl ho
      generalize codT cs = X at *
      go_wp2_with fail
      ((with_reducible refine (HSw.out).mono ?_))
      rintro e w2 ⟨b2, v, rfl, hp⟩
      obtain ⟨A2, c2, rfl⟩ := hp.shape
      have HB2 := Lib.hid (HB.out.trans (b2.mono HB.out.size))
      have HP := Lib.hid hp
      have HO2 := Lib.hid (own_below HO.out b2)
      rw [codP_len]
      clear b2 hp HSw HB HO
      have z1 : ((cs.length : Int) != (cs.length : Int)) = false := by simp
      go_wp2_with fail
      go_loopw [9] (fun v9 wz => ∃ i : Nat, v9 = .int .i64 i ∧ i ≤ cs.length ∧ Hid (Below w2.heap.size w2 wz)) (fun v9 _ => cs.length - (intOf v9).toNat)
      case atStart => exact ⟨0, rfl, Nat.zero_le _, Lib.hid (Below.refl _ _)⟩
      case round =>
        obtain ⟨k, rfl, hk, HBz⟩ := hrel
        by_cases hl2 : k < cs.length
        · obtain ⟨g, rfl, _, _, _, hp⟩ := (HP.out.below HBz.out).look (by rw [codP_len]; omega)
          have hat := hp k (by rw [codP_len]; omega)
          obtain ⟨xa, xb, hpe⟩ := cod_look cs k hl2
          rw [hpe] at hat
          obtain ⟨q, qc, hq, _⟩ := (own_below HO2.out HBz.out).form (by omega)
          have hd := (own_below HO2.out HBz.out)
          rw [hq] at hd
          have d0 := hd.cellAt k (by omega)
          rw [codV_at cs k hl2] at d0
          have c0 := hat.kind
          have c1 := hat.ik
          have c2 := hat.text
          simp only [spn] at c0 c1 c2
          rw [hq]
          have hkA : (k : Int) < (cs.length : Int) := by omega
          have zt : ((Utf8.encode (cs[k] : Int)).toList != (Utf8.encode (cs[k] : Int)).toList) = false := by simp
          generalize Utf8.encode (cs[k] : Int) = T at *
          clear hp hat hpe hd hq HA HP HO2
          go_wp2_with fail
          go_quiet (fail)
          go_wp2_with fail
          go_roundw
          case rel => exact ⟨k + 1, by go_num, by omega, Lib.hid (below_drewN HBz.out _)⟩
          case measure => simp [intOf]; omega
        · obtain rfl : k = cs.length := by omega
          have HB3 := Lib.hid (HB2.out.trans (HBz.out.mono HB2.out.size))
          clear HO2 HP
          go_wp2_with fail
          ((with_reducible refine (HA.out _ HB3.out).mono ?_))
          rintro e w3 ⟨rfl, b3⟩
          go_wp2_with fail
          go_ret
          exact ⟨rfl, HB3.out.trans (b3.mono HB3.out.size)⟩

end Go.Proofs.YtcjkgmfidkgamaaGreatDoor
