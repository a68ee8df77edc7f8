/-
  Texts of the proof, put together (what this law reaches): ScS.
-/
import Derived.Test.YtfnloonmeilhlaaGreatDoorT28
import Derived.Test.YtfnloonmeilhlaaGreatDoorT27
import Derived.Test.YtfnloonmeilhlaaGreatDoorT34
import Derived.Test.YtfnloonmeilhlaaGreatDoorT03
import Derived.Test.YtfnloonmeilhlaaGreatDoorT02
set_option linter.unusedVariables false
set_option linter.unusedSimpArgs false
namespace Go.Pub
theorem suffix_bt (s : ByteArray) (i k : Nat) (h : i + k < s.size) : bt (s.extract i s.size) k = bt s (i + k) := extract_bt s i s.size (Nat.le_refl _) k h
theorem goodC_ways (n : Nat) : (goodC n = true ∧ 32 ≤ n ∧ n ≠ 127 ∧ n ≤ 1114111 ∧ (n < 55296 ∨ (55296 ≤ n ∧ 57343 < n))) ∨ (goodC n = false ∧ (n < 32 ∨ (32 ≤ n ∧ n = 127) ∨ (32 ≤ n ∧ n ≠ 127 ∧ 1114111 < n) ∨ (32 ≤ n ∧ n ≠ 127 ∧ n ≤ 1114111 ∧ 55296 ≤ n ∧ n ≤ 57343))) := by
  cases h : goodC n
  · refine .inr ⟨rfl, ?_⟩; unfold goodC at h; simp at h; omega
  · refine .inl ⟨rfl, ?_⟩; unfold goodC at h; simp at h; omega
theorem dgN_ways (b : Nat) : (dgN b = true ∧ 48 ≤ b ∧ b ≤ 57) ∨ (dgN b = false ∧ (b < 48 ∨ 57 < b)) := by
  cases h : dgN b
  · refine .inr ⟨rfl, ?_⟩; unfold dgN at h; simp at h; omega
  · refine .inl ⟨rfl, ?_⟩; unfold dgN at h; simpa using h
end Go.Pub
namespace Go.Proofs.YtfnloonmeilhlaaGreatDoor
open Go.RowKit Go.Pub
set_option maxRecDepth 100000 in
set_option maxHeartbeats 8000000 in
theorem s_reference (s : ByteArray) (i : Nat) (w : World) (hs : s.size ≤ 1000000) (hi : i < s.size) : Calls Tryz.prog 32 #[.string s, .int .i64 i] w (InPost (entI s i) w) := by
  have HP0 := Lib.hid fun W => pre_any s i ⟨#[38, 97, 109, 112, 59]⟩ W
  rw [show bytesL (⟨#[38, 97, 109, 112, 59]⟩ : ByteArray) = [38, 97, 109, 112, 59] from rfl] at HP0
  have HP1 := Lib.hid fun W => pre_any s i ⟨#[38, 108, 116, 59]⟩ W
  rw [show bytesL (⟨#[38, 108, 116, 59]⟩ : ByteArray) = [38, 108, 116, 59] from rfl] at HP1
  have HP2 := Lib.hid fun W => pre_any s i ⟨#[38, 103, 116, 59]⟩ W
  rw [show bytesL (⟨#[38, 103, 116, 59]⟩ : ByteArray) = [38, 103, 116, 59] from rfl] at HP2
  have HP3 := Lib.hid fun W => pre_any s i ⟨#[38, 113, 117, 111, 116, 59]⟩ W
  rw [show bytesL (⟨#[38, 113, 117, 111, 116, 59]⟩ : ByteArray) = [38, 113, 117, 111, 116, 59] from rfl] at HP3
  have HP4 := Lib.hid fun W => pre_any s i ⟨#[38, 35]⟩ W
  rw [show bytesL (⟨#[38, 35]⟩ : ByteArray) = [38, 35] from rfl] at HP4
  have HL : Hid (begB s i [38, 35] = true → i + 2 ≤ s.size) := Lib.hid fun h => begB_len h (by simp)
  have HDG := Lib.hid fun (c : Int) W => digit_any c W
  have HG : Hid (∀ b : Nat, digitB (b : Int) = dgN b) := Lib.hid fun b => by unfold digitB dgN; rw [Bool.eq_iff_iff]; simp; omega
  have HAP : Hid (∀ (n : Nat) W, Calls Tryz.prog 55 #[.string ⟨#[]⟩, .int .i64 n] W fun e w' => e = .returned (.string (Utf8.encode (n : Int))) ∧ W = w') := Lib.hid fun n W => by
    have h := append_any ⟨#[]⟩ (n : Int) W (by decide)
    rwa [show (⟨#[]⟩ : ByteArray) ++ Utf8.encode (n : Int) = Utf8.encode (n : Int) from ByteArray.empty_append] at h
  have HDK := Lib.hid fun k h1 h2 h3 h4 h5 => digK_eq s i k h1 h2 h3 h4 h5
  have HSB : Hid (∀ k, i + k < s.size → bt (s.extract i s.size) k = bt s (i + k)) := Lib.hid fun k h => suffix_bt s i k h
  have hsz : (s.extract i s.size).size = s.size - i := by rw [ByteArray.size_extract]; omega
  obtain ⟨R, hR⟩ : ∃ R, R = entI s i := ⟨_, rfl⟩
  rw [← hR]
  unfold entI at hR
  have HR := Lib.hid hR
  clear hR
  generalize begB s i [38, 97, 109, 112, 59] = q0 at *
  generalize begB s i [38, 108, 116, 59] = q1 at *
  generalize begB s i [38, 103, 116, 59] = q2 at *
  generalize begB s i [38, 113, 117, 111, 116, 59] = q3 at *
  generalize begB s i [38, 35] = q4 at *
  have hIL : i ≤ s.size := by omega
  generalize digK s i = DK at *
  have ix0 : ∀ w, (Instr.index 108 (.agg #[.string ⟨#[38, 97, 109, 112, 59]⟩, .string ⟨#[38]⟩, .string ⟨#[38, 108, 116, 59]⟩, .string ⟨#[60]⟩, .string ⟨#[38, 103, 116, 59]⟩, .string ⟨#[62]⟩, .string ⟨#[38, 113, 117, 111, 116, 59]⟩, .string ⟨#[34]⟩]) (.int .i64 0)).run Tryz.prog w = .ok (.agg #[.string ⟨#[38, 97, 109, 112, 59]⟩, .string ⟨#[38]⟩]) w := fun _ => by kernel_rfl
  have ix1 : ∀ w, (Instr.index 108 (.agg #[.string ⟨#[38, 97, 109, 112, 59]⟩, .string ⟨#[38]⟩, .string ⟨#[38, 108, 116, 59]⟩, .string ⟨#[60]⟩, .string ⟨#[38, 103, 116, 59]⟩, .string ⟨#[62]⟩, .string ⟨#[38, 113, 117, 111, 116, 59]⟩, .string ⟨#[34]⟩]) (.int .i64 1)).run Tryz.prog w = .ok (.agg #[.string ⟨#[38, 108, 116, 59]⟩, .string ⟨#[60]⟩]) w := fun _ => by kernel_rfl
  have ix2 : ∀ w, (Instr.index 108 (.agg #[.string ⟨#[38, 97, 109, 112, 59]⟩, .string ⟨#[38]⟩, .string ⟨#[38, 108, 116, 59]⟩, .string ⟨#[60]⟩, .string ⟨#[38, 103, 116, 59]⟩, .string ⟨#[62]⟩, .string ⟨#[38, 113, 117, 111, 116, 59]⟩, .string ⟨#[34]⟩]) (.int .i64 2)).run Tryz.prog w = .ok (.agg #[.string ⟨#[38, 103, 116, 59]⟩, .string ⟨#[62]⟩]) w := fun _ => by kernel_rfl
  have ix3 : ∀ w, (Instr.index 108 (.agg #[.string ⟨#[38, 97, 109, 112, 59]⟩, .string ⟨#[38]⟩, .string ⟨#[38, 108, 116, 59]⟩, .string ⟨#[60]⟩, .string ⟨#[38, 103, 116, 59]⟩, .string ⟨#[62]⟩, .string ⟨#[38, 113, 117, 111, 116, 59]⟩, .string ⟨#[34]⟩]) (.int .i64 3)).run Tryz.prog w = .ok (.agg #[.string ⟨#[38, 113, 117, 111, 116, 59]⟩, .string ⟨#[34]⟩]) w := fun _ => by kernel_rfl
  go_enter Tryz.func32, Tryz.ntmps32
  go_wp2_with fail
  generalize s.extract i s.size = T at *
  refine wp_loop_rounds 5 ?_
  rw [rounds_succ]
  go_wp2_with fail
  ((with_reducible refine (HP0.out _).mono ?_))
  rintro e w1 ⟨rfl, rfl⟩
  cases q0
  · have HR1 := Lib.hid (HR.out.trans (if_neg (by simp)))
    clear HR
    go_wp2_with fail
    rw [rounds_succ]
    go_wp2_with fail
    ((with_reducible refine (HP1.out _).mono ?_))
    rintro e w1 ⟨rfl, rfl⟩
    cases q1
    · have HR2 := Lib.hid (HR1.out.trans (if_neg (by simp)))
      clear HR1
      go_wp2_with fail
      rw [rounds_succ]
      go_wp2_with fail
      ((with_reducible refine (HP2.out _).mono ?_))
      rintro e w1 ⟨rfl, rfl⟩
      cases q2
      · have HR3 := Lib.hid (HR2.out.trans (if_neg (by simp)))
        clear HR2
        go_wp2_with fail
        rw [rounds_succ]
        go_wp2_with fail
        ((with_reducible refine (HP3.out _).mono ?_))
        rintro e w1 ⟨rfl, rfl⟩
        cases q3
        · have HR4 := Lib.hid (HR3.out.trans (if_neg (by simp)))
          clear HR3
          go_wp2_with fail
          rw [rounds_succ]
          go_wp2_with fail
          ((with_reducible refine (HP4.out _).mono ?_))
          rintro e w1 ⟨rfl, rfl⟩
          cases q4
          · have HF : Hid (R = none) := Lib.hid (HR4.out.trans (if_neg (by simp)))
            clear HR4 HDK HSB HAP HDG HG HL
            go_wp2_with fail
            exact in_ret Tryz.results32 (Blk.alloc (Blk.alloc (Blk.alloc (Blk.alloc (Blk.new w _ _) _) _) _) _) rfl rfl rfl (in_none HF.out (((((Below.refl _ w).alloc (Nat.le_refl _) _).alloc (by simp) _).alloc (by simp <;> omega) _).alloc (by simp <;> omega) _ |>.alloc (by simp <;> omega) _))
          · have HQ := Lib.hid (HR4.out.trans (if_pos rfl))
            have hl2 := HL.out rfl
            have HZ0 : Hid (Blk ((((( w.alloc (.cells #[.int .i64 0, .string ⟨#[]⟩, .string ⟨#[]⟩, .string ⟨#[]⟩, .string ⟨#[]⟩, .slice none 0 0, .slice none 0 0, .slice none 0 0, .slice none 0 0, .slice none 0 0] 32)).alloc (.cells #[.string ⟨#[38, 97, 109, 112, 59]⟩, .string ⟨#[38]⟩] 107)).alloc (.cells #[.string ⟨#[38, 108, 116, 59]⟩, .string ⟨#[60]⟩] 107)).alloc (.cells #[.string ⟨#[38, 103, 116, 59]⟩, .string ⟨#[62]⟩] 107)).alloc (.cells #[.string ⟨#[38, 113, 117, 111, 116, 59]⟩, .string ⟨#[34]⟩] 107)) w.heap.size 32 zIn) := Lib.hid (Blk.alloc (Blk.alloc (Blk.alloc (Blk.alloc (Blk.new w _ _) _) _) _) _)
            have HZw : Hid (Below w.heap.size w ((((( w.alloc (.cells #[.int .i64 0, .string ⟨#[]⟩, .string ⟨#[]⟩, .string ⟨#[]⟩, .string ⟨#[]⟩, .slice none 0 0, .slice none 0 0, .slice none 0 0, .slice none 0 0, .slice none 0 0] 32)).alloc (.cells #[.string ⟨#[38, 97, 109, 112, 59]⟩, .string ⟨#[38]⟩] 107)).alloc (.cells #[.string ⟨#[38, 108, 116, 59]⟩, .string ⟨#[60]⟩] 107)).alloc (.cells #[.string ⟨#[38, 103, 116, 59]⟩, .string ⟨#[62]⟩] 107)).alloc (.cells #[.string ⟨#[38, 113, 117, 111, 116, 59]⟩, .string ⟨#[34]⟩] 107))) := Lib.hid (((((Below.refl _ w).alloc (Nat.le_refl _) _).alloc (by simp) _).alloc (by simp <;> omega) _).alloc (by simp <;> omega) _ |>.alloc (by simp <;> omega) _)
            clear HR4 HL
            go_wp2_with fail
            generalize ((((( w.alloc (.cells #[.int .i64 0, .string ⟨#[]⟩, .string ⟨#[]⟩, .string ⟨#[]⟩, .string ⟨#[]⟩, .slice none 0 0, .slice none 0 0, .slice none 0 0, .slice none 0 0, .slice none 0 0] 32)).alloc (.cells #[.string ⟨#[38, 97, 109, 112, 59]⟩, .string ⟨#[38]⟩] 107)).alloc (.cells #[.string ⟨#[38, 108, 116, 59]⟩, .string ⟨#[60]⟩] 107)).alloc (.cells #[.string ⟨#[38, 103, 116, 59]⟩, .string ⟨#[62]⟩] 107)).alloc (.cells #[.string ⟨#[38, 113, 117, 111, 116, 59]⟩, .string ⟨#[34]⟩] 107)) = W0 at *
            go_loop [9, 10] (fun v9 v10 => ∃ n k : Nat, v9 = .int .i64 n ∧ v10 = .int .i64 k ∧ 2 ≤ k ∧ k ≤ 9 ∧ i + k ≤ s.size ∧ Hid (n = numV (sub s (i + 2) (i + k))) ∧ n < 10 ^ (k - 2) ∧ Hid (∀ j, i + 2 ≤ j → j < i + k → dgN (bt s j) = true)) (fun _ v => 9 - (intOf v).toNat)
            case atStart => exact ⟨0, 2, rfl, rfl, Nat.le_refl _, by omega, hl2, Lib.hid (by unfold sub; simp [numV]), by decide, Lib.hid fun j h1 h2 => by omega⟩
            case round =>
              obtain ⟨n, k, rfl, rfl, hk2, hk9, hik, HN, hnb, HD⟩ := hrel
              obtain ⟨q, hq⟩ : ∃ q, q = (decide (k < T.size) && decide (k < 9) && dgN (bt T k)) := ⟨_, rfl⟩
              have HQq := Lib.hid hq
              clear hq
              go_upto_region 11 with fail
              go_cut [53] from 39 to 63 (fun s53 wx => s53 = .bool q ∧ W0 = wx)
              case first =>
                clear HQ HDK HAP HD HN hnb HZ0 HZw
                by_cases hl : k < T.size
                · by_cases h9 : k < 9
                  · have hg := get_bt T k hl
                    have hb := bt_lt T k
                    have HDGk : Hid (∀ W, Calls Tryz.prog 54 #[.int .i64 (bt T k)] W fun e w' => e = .returned (.bool (dgN (bt T k))) ∧ W = w') := Lib.hid fun W => by rw [← HG.out]; exact HDG.out _ W
                    have HQ2 : Hid (q = dgN (bt T k)) := Lib.hid (by rw [HQq.out, decide_eq_true hl, decide_eq_true h9]; simp)
                    clear HQq HG HDG HSB
                    generalize dgN (bt T k) = d at *
                    generalize bt T k = b at *
                    go_wp2_with fail
                    ((with_reducible refine (HDGk.out _).mono ?_))
                    rintro e w1 ⟨rfl, rfl⟩
                    go_wp2_with fail
                    go_meet
                    case rel => exact ⟨by rw [HQ2.out], rfl⟩
                  · have HQ2 : Hid (q = false) := Lib.hid (by rw [HQq.out, decide_eq_false h9]; simp)
                    clear HQq HG HDG HSB
                    go_wp2_with fail
                    go_meet
                    case rel => exact ⟨by rw [HQ2.out], rfl⟩
                · have HQ2 : Hid (q = false) := Lib.hid (by rw [HQq.out, decide_eq_false hl]; simp)
                  clear HQq HG HDG HSB
                  go_wp2_with fail
                  go_meet
                  case rel => exact ⟨by rw [HQ2.out], rfl⟩
              case rest =>
              obtain ⟨rfl, rfl⟩ := hcut
              have hn7 : n < 10000000 := by
                have h1 : 10 ^ (k - 2) ≤ 10 ^ 7 := Nat.pow_le_pow_right (by omega) (by omega)
                have h2 : (10 : Nat) ^ 7 = 10000000 := by decide
                omega
              cases q
              · have HK : Hid (DK = k - 2) := Lib.hid (HDK.out k hk2 hk9 hik HD.out fun h h9 => by
                  have h1 := HQq.out
                  rw [decide_eq_true (show k < T.size by omega), decide_eq_true h9, HSB.out k h] at h1
                  simpa using h1.symm)
                have HQ2 : Hid (R = if k ≠ 2 ∧ i + k < s.size ∧ bt T k = 59 ∧ goodC n = true then some (spn 1 (Utf8.encode (n : Int)), i + k + 1) else none) := Lib.hid (by
                  rw [HQ.out, HK.out, show i + 2 + (k - 2) = i + k by omega, ← HN.out]
                  by_cases h : k ≠ 2 ∧ i + k < s.size ∧ bt T k = 59 ∧ goodC n = true
                  · rw [if_pos h, if_pos ⟨by omega, h.2.1, by rw [← HSB.out k h.2.1]; exact h.2.2.1, h.2.2.2⟩]
                  · rw [if_neg h, if_neg fun c => h ⟨by omega, c.2.1, by rw [HSB.out k c.2.1]; exact c.2.2.1, c.2.2.2⟩])
                clear HQ HK HDK HN HD HQq HSB HDG HG hnb
                obtain ⟨c0, c1, c2, c3, c4, c5, c6, c7, c8, c9, f0, f1, f2, f3, f4, f5, f6, f7, f8, f9⟩ := in_facts HZ0.out
                by_cases x1 : k = 2
                · have HF : Hid (R = none) := Lib.hid (HQ2.out.trans (if_neg fun c => c.1 x1))
                  subst x1
                  clear HQ2
                  go_wp2_with fail
                  exact in_ret Tryz.results32 (blk10 HZ0.out _ _ _ _ _ _ _ _ _ _) rfl rfl rfl (in_none HF.out (below10 HZw.out (Nat.le_refl _) _ _ _ _ _ _ _ _ _ _))
                · have z2 : ((k : Int) == 2) = false := beq_eq_false_iff_ne.2 (by omega)
                  by_cases x2 : k < T.size
                  · have hg := get_bt T k x2
                    by_cases x3 : bt T k = 59
                    · rw [x3] at hg
                      have hw := goodC_ways n
                      rcases hw with ⟨hgc, y1, y2, y3, y4 | ⟨y4, y5⟩⟩ | ⟨hgc, y⟩
                      · have HF : Hid (R = some (spn 1 (Utf8.encode (n : Int)), i + k + 1)) := Lib.hid (HQ2.out.trans (if_pos ⟨x1, by omega, x3, hgc⟩))
                        have HAPn := Lib.hid fun W => HAP.out n W
                        have z127 : ((n : Int) == 127) = false := beq_eq_false_iff_ne.2 (by omega)
                        clear HQ2 hgc x3 HAP
                        generalize Utf8.encode (n : Int) = Y at *
                        go_wp2_with fail
                        ((with_reducible refine (HAPn.out _).mono ?_))
                        rintro e w1 ⟨rfl, rfl⟩
                        go_wp2_with fail
                        exact in_ret Tryz.results32 (blk10 HZ0.out _ _ _ _ _ _ _ _ _ _) rfl rfl rfl (in_some HF.out rfl rfl (below10 HZw.out (Nat.le_refl _) _ _ _ _ _ _ _ _ _ _) rfl (by omega))
                      · have HF : Hid (R = some (spn 1 (Utf8.encode (n : Int)), i + k + 1)) := Lib.hid (HQ2.out.trans (if_pos ⟨x1, by omega, x3, hgc⟩))
                        have HAPn := Lib.hid fun W => HAP.out n W
                        have z127 : ((n : Int) == 127) = false := beq_eq_false_iff_ne.2 (by omega)
                        clear HQ2 hgc x3 HAP
                        generalize Utf8.encode (n : Int) = Y at *
                        go_wp2_with fail
                        ((with_reducible refine (HAPn.out _).mono ?_))
                        rintro e w1 ⟨rfl, rfl⟩
                        go_wp2_with fail
                        exact in_ret Tryz.results32 (blk10 HZ0.out _ _ _ _ _ _ _ _ _ _) rfl rfl rfl (in_some HF.out rfl rfl (below10 HZw.out (Nat.le_refl _) _ _ _ _ _ _ _ _ _ _) rfl (by omega))
                      · have HF : Hid (R = none) := Lib.hid (HQ2.out.trans (if_neg fun c => by have := c.2.2.2; rw [hgc] at this; cases this))
                        clear HQ2 hgc x3 HAP
                        rcases y with y | ⟨y1, rfl⟩ | ⟨y1, y2, y3⟩ | ⟨y1, y2, y3, y4, y5⟩
                        all_goals
                          try have z127 : ((n : Int) == 127) = false := beq_eq_false_iff_ne.2 (by omega)
                          go_wp2_with fail
                          exact in_ret Tryz.results32 (blk10 HZ0.out _ _ _ _ _ _ _ _ _ _) rfl rfl rfl (in_none HF.out (below10 HZw.out (Nat.le_refl _) _ _ _ _ _ _ _ _ _ _))
                    · have HF : Hid (R = none) := Lib.hid (HQ2.out.trans (if_neg fun c => x3 c.2.2.1))
                      have n1 : ((bt T k : Int) != 59) = true := bne_iff_ne.2 (by omega)
                      clear HQ2 x3 HAP
                      generalize bt T k = b at *
                      go_wp2_with fail
                      exact in_ret Tryz.results32 (blk10 HZ0.out _ _ _ _ _ _ _ _ _ _) rfl rfl rfl (in_none HF.out (below10 HZw.out (Nat.le_refl _) _ _ _ _ _ _ _ _ _ _))
                  · have HF : Hid (R = none) := Lib.hid (HQ2.out.trans (if_neg fun c => by omega))
                    clear HQ2 HAP
                    go_wp2_with fail
                    exact in_ret Tryz.results32 (blk10 HZ0.out _ _ _ _ _ _ _ _ _ _) rfl rfl rfl (in_none HF.out (below10 HZw.out (Nat.le_refl _) _ _ _ _ _ _ _ _ _ _))
              · have hl : k < T.size ∧ k < 9 ∧ dgN (bt T k) = true := by have := HQq.out; simp [and_assoc] at this; exact this
                obtain ⟨hl1, hl2', hl3⟩ := hl
                have hlt : i + k < s.size := by omega
                have hw := dgN_ways (bt T k)
                rw [hl3] at hw
                have h57 : 48 ≤ bt T k ∧ bt T k ≤ 57 := hw.elim (fun h => h.2) (fun h => by cases h.1)
                obtain ⟨h48, h57⟩ := h57
                have hg := get_bt T k hl1
                have HN2 : Hid (10 * n + (bt T k - 48) = numV (sub s (i + 2) (i + (k + 1)))) := Lib.hid (by
                  rw [show i + (k + 1) = i + k + 1 by omega, numV_step s (i + 2) (i + k) (by omega) hlt, ← HN.out, HSB.out k hlt])
                have HD2 : Hid (∀ j, i + 2 ≤ j → j < i + (k + 1) → dgN (bt s j) = true) := Lib.hid fun j h1 h2 => by
                  by_cases e : j = i + k
                  · rw [e, ← HSB.out k hlt]; exact hl3
                  · exact HD.out j h1 (by omega)
                have hnb2 : 10 * n + (bt T k - 48) < 10 ^ (k + 1 - 2) := by
                  rw [show k + 1 - 2 = (k - 2) + 1 by omega, Nat.pow_succ]; omega
                clear hw hl3 HD HN HQq HSB HQ HDK HAP HDG HG hnb
                generalize bt T k = b at *
                go_wp2_with fail
                go_round
                case rel => exact ⟨10 * n + (b - 48), k + 1, by go_num, by go_num, by omega, by omega, by omega, HN2, hnb2, HD2⟩
                case measure => simp [intOf]; omega
        · have HF : Hid (R = some (spn 1 ⟨#[34]⟩, i + 6)) := Lib.hid (HR3.out.trans (if_pos rfl))
          clear HR3 HDK HSB HAP HDG HG HL HP0 HP1 HP2 HP3 HP4
          go_wp2_with fail
          go_region
          all_goals
            go_wp2_with fail
            exact in_ret Tryz.results32 (Blk.drewN (Blk.alloc (Blk.alloc (Blk.alloc (Blk.alloc (Blk.new w _ _) _) _) _) _) 1) rfl rfl rfl (in_some HF.out rfl rfl (below_drewN (Below.alloc (Below.alloc (Below.alloc (Below.alloc ((Below.refl _ w).alloc (Nat.le_refl _) _) (by simp <;> omega) _) (by simp <;> omega) _) (by simp <;> omega) _) (by simp <;> omega) _) 1) rfl (by omega))
      · have HF : Hid (R = some (spn 1 ⟨#[62]⟩, i + 4)) := Lib.hid (HR2.out.trans (if_pos rfl))
        clear HR2 HDK HSB HAP HDG HG HL HP0 HP1 HP2 HP3 HP4
        go_wp2_with fail
        go_region
        all_goals
          go_wp2_with fail
          exact in_ret Tryz.results32 (Blk.drewN (Blk.alloc (Blk.alloc (Blk.alloc (Blk.new w _ _) _) _) _) 1) rfl rfl rfl (in_some HF.out rfl rfl (below_drewN (Below.alloc (Below.alloc (Below.alloc ((Below.refl _ w).alloc (Nat.le_refl _) _) (by simp <;> omega) _) (by simp <;> omega) _) (by simp <;> omega) _) 1) rfl (by omega))
    · have HF : Hid (R = some (spn 1 ⟨#[60]⟩, i + 4)) := Lib.hid (HR1.out.trans (if_pos rfl))
      clear HR1 HDK HSB HAP HDG HG HL HP0 HP1 HP2 HP3 HP4
      go_wp2_with fail
      go_region
      all_goals
        go_wp2_with fail
        exact in_ret Tryz.results32 (Blk.drewN (Blk.alloc (Blk.alloc (Blk.new w _ _) _) _) 1) rfl rfl rfl (in_some HF.out rfl rfl (below_drewN (Below.alloc (Below.alloc ((Below.refl _ w).alloc (Nat.le_refl _) _) (by simp <;> omega) _) (by simp <;> omega) _) 1) rfl (by omega))
  · have HF : Hid (R = some (spn 1 ⟨#[38]⟩, i + 5)) := Lib.hid (HR.out.trans (if_pos rfl))
    clear HR HDK HSB HAP HDG HG HL HP0 HP1 HP2 HP3 HP4
    go_wp2_with fail
    go_region
    all_goals
      go_wp2_with fail
      exact in_ret Tryz.results32 (Blk.drewN (Blk.alloc (Blk.new w _ _) _) 1) rfl rfl rfl (in_some HF.out rfl rfl (below_drewN (Below.alloc ((Below.refl _ w).alloc (Nat.le_refl _) _) (by simp <;> omega) _) 1) rfl (by omega))

end Go.Proofs.YtfnloonmeilhlaaGreatDoor
