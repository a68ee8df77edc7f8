/-
  Texts of the proof, put together (what this law reaches): ScTD.
-/
import Derived.Test.YtcjkgmfidkgamaaGreatDoorD17
import Derived.Test.YtcjkgmfidkgamaaGreatDoorD12
import Derived.Test.YtcjkgmfidkgamaaGreatDoorD13
set_option linter.unusedVariables false
set_option linter.unusedSimpArgs false
namespace Go.Proofs.YtcjkgmfidkgamaaGreatDoor
open Go.RowKit Go.Pub
set_option maxRecDepth 100000 in
set_option maxHeartbeats 4000000 in
theorem r9_auto (s : ByteArray) (i : Nat) (w : World) (hs : s.size ≤ 1000000) (hi : i < s.size) : Calls Tryz.prog 53 #[.string s, .int .i64 i] w (RfPost ((autI s i).map (pcI · i)) w) := by
  have HK := Lib.hid fun e h1 h2 h3 h4 => autK_eq s i e h1 h2 h3 h4
  have HE := Lib.hid fun e h1 h2 h3 h4 => toE_eq s (autK s i) (fun b => b == 32 || b == 10 || b == 60 || b == 62) e h1 h2 h3 h4
  have hEd : toE s (autK s i) (fun b => b == 32 || b == 10 || b == 60 || b == 62) = autE s i := rfl
  rw [hEd] at HE
  clear hEd
  obtain ⟨R, hR⟩ : ∃ R, R = (autI s i).map (pcI · i) := ⟨_, rfl⟩
  rw [← hR]
  unfold autI at hR
  have HR := Lib.hid hR
  clear hR
  generalize autE s i = E at *
  generalize autK s i = K at *
  have HC := Lib.hid fun (b : Nat) (hb : b < 256) W => r9_letter b hb W
  have K0 : Hid (Kp w (w.alloc (.cells zPc 36))) := Lib.hid (Kp.init w)
  go_enter Tryz.func53, Tryz.ntmps53
  go_wp2_with fail
  go_loopw [6] (fun v wr => ∃ k : Nat, v = .int .i64 k ∧ i + 1 ≤ k ∧ k ≤ s.size ∧ Hid (∀ j, i + 1 ≤ j → j < k → letterN (bt s j) = true) ∧ Hid (Kp w wr)) (fun v _ => s.size - (intOf v).toNat)
  case atStart => exact ⟨i + 1, by go_num, Nat.le_refl _, hi, Lib.hid (fun j h1 h2 => by omega), K0⟩
  case round =>
    clear K0
    obtain ⟨k, rfl, hik, hk, HJ, K1⟩ := hrel
    obtain ⟨q, hq⟩ : ∃ q, q = (decide (k < s.size) && letterN (bt s k)) := ⟨_, rfl⟩
    have HQ := Lib.hid hq
    clear hq
    go_upto_region 2 with fail
    go_cut [18] from 9 to 20 (fun s18 wx => s18 = .bool q ∧ wr = wx)
    case first =>
      by_cases hl : k < s.size
      · have hg := get_bt s k hl
        have HCk := Lib.hid (HC.out (bt s k) (bt_lt s k))
        have HQ2 : Hid (q = letterN (bt s k)) := Lib.hid (by rw [HQ.out, decide_eq_true hl, Bool.true_and])
        clear HQ HC HK HE HR
        generalize bt s k = b at *
        generalize letterN b = x at *
        go_wp2_with fail
        ((with_reducible refine (HCk.out _).mono ?_))
        rintro e w1 ⟨rfl, rfl⟩
        cases x
        all_goals
          go_wp2_with fail
          go_meet
          case rel => exact ⟨by rw [HQ2.out], rfl⟩
      · have HQ2 : Hid (q = false) := Lib.hid (by rw [HQ.out, decide_eq_false hl, Bool.false_and])
        clear HQ HC HK HE HR
        go_wp2_with fail
        go_meet
        case rel => exact ⟨by rw [HQ2.out], rfl⟩
    case rest =>
    obtain ⟨rfl, rfl⟩ := hcut
    cases q
    · have HKk : Hid (K = k) := Lib.hid (HK.out k hik hk HJ.out fun h => by have := HQ.out; rw [decide_eq_true h, Bool.true_and] at this; exact this.symm)
      rw [HKk.out] at HR HE
      clear HK HKk HQ HJ HC
      have e1 : (k : Int) - (i : Int) = ((k - i : Nat) : Int) := by omega
      have e2 : ((k - i : Nat) : Int) - 1 = ((k - i - 1 : Nat) : Int) := by omega
      by_cases c : 2 ≤ k - i - 1 ∧ k - i - 1 ≤ 20 ∧ k < s.size ∧ bt s k = 58
      · obtain ⟨x1, x2, x3, x4⟩ := c
        have HR2 : Hid (R = if E < s.size ∧ bt s E = 62 then some { inl := { kind := 16, dest := s.extract (i + 1) E }, bg := i, nd := E + 1 } else none) := Lib.hid (by
          rw [HR.out]
          by_cases h : E < s.size ∧ bt s E = 62
          · rw [if_pos h, if_pos ⟨x1, x2, x3, x4, h.1, h.2⟩]; rfl
          · rw [if_neg h, if_neg fun c => h ⟨c.2.2.2.2.1, c.2.2.2.2.2⟩]; rfl)
        clear HR
        have hg := get_bt s k x3
        rw [x4] at hg
        have z9 : ((k : Int) == (s.size : Int)) = false := beq_eq_false_iff_ne.2 (by omega)
        clear x4
        go_wp2_with fail
        go_loopw [6] (fun v wr => ∃ m : Nat, v = .int .i64 m ∧ k ≤ m ∧ m ≤ s.size ∧ Hid (∀ j, k ≤ j → j < m → (bt s j == 32 || bt s j == 10 || bt s j == 60 || bt s j == 62) = false) ∧ Hid (Kp w wr)) (fun v _ => s.size - (intOf v).toNat)
        case atStart => exact ⟨k, rfl, Nat.le_refl _, hk, Lib.hid (fun j h1 h2 => by omega), K1⟩
        case round =>
          clear K1 hg
          obtain ⟨m, rfl, hkm, hm, HJ, K1⟩ := hrel
          by_cases hl : m < s.size
          · have hg := get_bt s m hl
            have HX : Hid (∀ b, bt s m = b → (b == 32 || b == 10 || b == 60 || b == 62) = true → E = m) := Lib.hid fun b hb h => HE.out m hkm hm HJ.out fun _ => by rw [hb]; exact h
            have HY : Hid ((bt s m == 32 || bt s m == 10 || bt s m == 60 || bt s m == 62) = false → ∀ j, k ≤ j → j < m + 1 → (bt s j == 32 || bt s j == 10 || bt s j == 60 || bt s j == 62) = false) := Lib.hid fun h j h1 h2 => by
              by_cases e : j = m
              · subst e; exact h
              · exact HJ.out j h1 (by omega)
            by_cases h62 : bt s m = 62
            · have HF : Hid (R = some { inl := { kind := 16, dest := s.extract (i + 1) m }, bg := i, nd := m + 1 }) := Lib.hid (by rw [HR2.out, HX.out 62 h62 rfl, if_pos ⟨hl, h62⟩])
              rw [h62] at hg
              have hsl : i + 1 ≤ m := by omega
              clear h62 HX HY HE HR2 HJ
              go_wp2_with (refine wpList_store_row rfl 36 (.tmp 4) _ rfl _ _ rfl rfl _ _ K1.out.1 pc_size (by rfl) (by simp [pcC, Value.oneCell']) ?_)
              exact rf_yes Tryz.results53 K1.out HF.out rfl rfl rfl rfl rfl rfl
            · by_cases hst : bt s m = 32 ∨ bt s m = 10 ∨ bt s m = 60
              · have HF : Hid (R = none) := Lib.hid (by
                  have hE : E = m := by rcases hst with h | h | h <;> exact HX.out _ h rfl
                  rw [HR2.out, hE, if_neg fun c => h62 c.2])
                clear HX HY HR2 h62 HE HJ
                rcases hst with h | h | h
                all_goals
                  rw [h] at hg
                  clear h
                  go_wp2_with (refine wpList_store_row rfl 36 (.tmp 4) _ rfl _ _ rfl rfl _ _ K1.out.1 pc_size (by rfl) (by simp [pcC, Value.oneCell']) ?_)
                  exact rf_no Tryz.results53 K1.out HF.out rfl rfl rfl rfl
              · have HN := Lib.hid (HY.out (by
                  have n1 : (bt s m == 32) = false := beq_eq_false_iff_ne.2 fun e => hst (.inl e)
                  have n2 : (bt s m == 10) = false := beq_eq_false_iff_ne.2 fun e => hst (.inr (.inl e))
                  have n3 : (bt s m == 60) = false := beq_eq_false_iff_ne.2 fun e => hst (.inr (.inr e))
                  have n4 : (bt s m == 62) = false := beq_eq_false_iff_ne.2 h62
                  rw [n1, n2, n3, n4]; rfl))
                have n1 : ((bt s m : Int) != 32) = true := bne_iff_ne.2 (by omega)
                have n2 : ((bt s m : Int) != 10) = true := bne_iff_ne.2 (by omega)
                have n3 : ((bt s m : Int) != 60) = true := bne_iff_ne.2 (by omega)
                have n4 : ((bt s m : Int) != 62) = true := bne_iff_ne.2 (by omega)
                clear HX HY hst h62 HE HJ HR2
                generalize bt s m = b at *
                go_wp2_with fail
                go_roundw
                case rel => exact ⟨m + 1, by go_num, by omega, by omega, HN, K1⟩
                case measure => simp [intOf]; omega
          · have HF : Hid (R = none) := Lib.hid (by
              have hE : E = m := HE.out m hkm hm HJ.out fun h => absurd h hl
              rw [HR2.out, hE, if_neg fun c => hl c.1])
            clear HE HJ HR2
            have z : ((m : Int) == (s.size : Int)) = true := beq_iff_eq.2 (by omega)
            go_wp2_with (refine wpList_store_row rfl 36 (.tmp 4) _ rfl _ _ rfl rfl _ _ K1.out.1 pc_size (by rfl) (by simp [pcC, Value.oneCell']) ?_)
            exact rf_no Tryz.results53 K1.out HF.out rfl rfl rfl rfl
      · have HF : Hid (R = none) := Lib.hid (by rw [HR.out, if_neg fun h => c ⟨h.1, h.2.1, h.2.2.1, h.2.2.2.1⟩]; rfl)
        clear HR HE
        by_cases x1 : 2 ≤ k - i - 1
        · by_cases x2 : k - i - 1 ≤ 20
          · by_cases x3 : k < s.size
            · have hg := get_bt s k x3
              have n1 : ((bt s k : Int) != 58) = true := bne_iff_ne.2 (by omega)
              have z : ((k : Int) == (s.size : Int)) = false := beq_eq_false_iff_ne.2 (by omega)
              clear c
              generalize bt s k = b at *
              go_wp2_with (refine wpList_store_row rfl 36 (.tmp 4) _ rfl _ _ rfl rfl _ _ K1.out.1 pc_size (by rfl) (by simp [pcC, Value.oneCell']) ?_)
              exact rf_no Tryz.results53 K1.out HF.out rfl rfl rfl rfl
            · clear c
              have z : ((k : Int) == (s.size : Int)) = true := beq_iff_eq.2 (by omega)
              go_wp2_with (refine wpList_store_row rfl 36 (.tmp 4) _ rfl _ _ rfl rfl _ _ K1.out.1 pc_size (by rfl) (by simp [pcC, Value.oneCell']) ?_)
              exact rf_no Tryz.results53 K1.out HF.out rfl rfl rfl rfl
          · clear c
            go_wp2_with (refine wpList_store_row rfl 36 (.tmp 4) _ rfl _ _ rfl rfl _ _ K1.out.1 pc_size (by rfl) (by simp [pcC, Value.oneCell']) ?_)
            exact rf_no Tryz.results53 K1.out HF.out rfl rfl rfl rfl
        · clear c
          go_wp2_with (refine wpList_store_row rfl 36 (.tmp 4) _ rfl _ _ rfl rfl _ _ K1.out.1 pc_size (by rfl) (by simp [pcC, Value.oneCell']) ?_)
          exact rf_no Tryz.results53 K1.out HF.out rfl rfl rfl rfl
    · have hl : k < s.size ∧ letterN (bt s k) = true := by have := HQ.out; simpa using this.symm
      have HN : Hid (∀ j, i + 1 ≤ j → j < k + 1 → letterN (bt s j) = true) := Lib.hid fun j h1 h2 => by
        by_cases e : j = k
        · subst e; exact hl.2
        · exact HJ.out j h1 (by omega)
      have hl1 := hl.1
      clear hl HQ HJ HC HK HE HR
      go_wp2_with fail
      go_roundw
      case rel => exact ⟨k + 1, by go_num, by omega, by omega, HN, K1⟩
      case measure => simp [intOf]; omega

set_option maxRecDepth 100000 in
set_option maxHeartbeats 8000000 in
theorem r9_formula (s : ByteArray) (i : Nat) (w : World) (hs : s.size ≤ 1000000) (hi : i < s.size) : Calls Tryz.prog 50 #[.string s, .int .i64 i] w (RfPost (((mathI s i).or (dolI s i)).map (pcI · i)) w) := by
  have HD := Lib.hid fun e h1 h2 h3 h4 => toE_eq s (i + 1) (fun b => b == 36 || b == 10) e h1 h2 h3 h4
  have hDd : toE s (i + 1) (fun b => b == 36 || b == 10) = dolE s i := rfl
  rw [hDd] at HD
  have HDG : Hid (i + 1 ≤ dolE s i) := Lib.hid (toE_ge s (i + 1) fun b => b == 36 || b == 10)
  clear hDd
  have HG := Lib.hid fun (b : Nat) W => r9_digit b W
  have K0 : Hid (Kp w (w.alloc (.cells zPc 36))) := Lib.hid (Kp.init w)
  obtain ⟨R, hR⟩ : ∃ R, R = ((mathI s i).or (dolI s i)).map (pcI · i) := ⟨_, rfl⟩
  rw [← hR]
  have hNone : mathI s i = none → R = if dolE s i < s.size ∧ dolE s i ≠ i + 1 ∧ bt s (dolE s i) = 36 ∧ bt s (i + 1) ≠ 32 ∧ bt s (dolE s i - 1) ≠ 32 ∧ ¬ (dolE s i + 1 < s.size ∧ dgN (bt s (dolE s i + 1)) = true) then some { inl := spn 5 (s.extract (i + 1) (dolE s i)), bg := i, nd := dolE s i + 1 } else none := fun hm => by
    rw [hR, hm]
    show (dolI s i).map (pcI · i) = _
    unfold dolI
    split <;> rfl
  by_cases hc : i + 1 < s.size ∧ bt s (i + 1) = 96
  · obtain ⟨hi1, h96⟩ := hc
    have hg := get_bt s (i + 1) hi1
    rw [h96] at hg
    have hM : mathI s i = (laterA s (runE s (i + 1)) (runE s (i + 1) - (i + 1)) true).map fun k => (spn 5 (mk (codeT (sub s (runE s (i + 1)) k))), k + (runE s (i + 1) - (i + 1)) + 1) := by
      unfold mathI
      rw [if_pos ⟨hi1, h96⟩]
      have e := runE_tick h96
      rw [show runF s (i + 1) tick = runE s (i + 1) - (i + 1) by omega, show i + 1 + (runE s (i + 1) - (i + 1)) = runE s (i + 1) by omega]
    obtain ⟨hE1, hE2⟩ := runE_bd s (i + 1) hi1
    have HRn : Hid (∀ W, Calls Tryz.prog 27 #[.string s, .int .i64 ((i : Int) + 1)] W fun e w' => e = .returned (.int .i64 (runE s (i + 1) - (i + 1) : Nat)) ∧ Below W.heap.size W w') := Lib.hid fun W => r9_run s (i + 1) W hs hi1
    obtain ⟨n, hn⟩ : ∃ n, n = runE s (i + 1) - (i + 1) := ⟨_, rfl⟩
    have hX : runE s (i + 1) = i + 1 + n := by omega
    have HLt : Hid (∀ W, Calls Tryz.prog 51 #[.string s, .int .i64 ((i : Int) + 1 + (n : Int)), .int .i64 n, .bool true] W fun e w' => e = .returned (.int .i64 (endV (laterA s (i + 1 + n) n true))) ∧ Below W.heap.size W w') := Lib.hid fun W => by
      have h := r9_later s (i + 1 + n) n true W hs (by omega) (by omega)
      rwa [show ((i + 1 + n : Nat) : Int) = (i : Int) + 1 + (n : Int) by omega] at h
    rw [← hn, hX] at hM
    rw [← hn] at HRn
    have hn1 : i + 1 + n ≤ s.size := by omega
    cases hla : laterA s (i + 1 + n) n true with
    | none =>
      rw [hla] at HLt hM
      have HQD := Lib.hid (hNone hM)
      clear hNone hR hM hla hE1 hE2 hX hn h96
      generalize dolE s i = D at *
      go_enter Tryz.func50, Tryz.ntmps50
      go_wp2_with fail
      ((with_reducible refine (HRn.out _).mono ?_))
      rintro e W1 ⟨rfl, b1⟩
      have K1 := Lib.hid (K0.out.next b1)
      clear b1
      go_wp2_with fail
      ((with_reducible refine (HLt.out _).mono ?_))
      rintro e W2 ⟨rfl, b2⟩
      have KQ := Lib.hid (K1.out.next b2)
      rw [show endV none = -1 from rfl]
      clear b2 K1 K0 HRn HLt hg
      go_wp2_with fail
      go_loopw [8] (fun v wr => ∃ k : Nat, v = .int .i64 k ∧ i + 1 ≤ k ∧ k ≤ s.size ∧ Hid (∀ j, i + 1 ≤ j → j < k → (bt s j == 36 || bt s j == 10) = false) ∧ Hid (Kp w wr)) (fun v _ => s.size - (intOf v).toNat)
      case atStart => exact ⟨i + 1, by go_num, Nat.le_refl _, hi, Lib.hid (fun j h1 h2 => by omega), KQ⟩
      case round =>
        clear KQ
        obtain ⟨k, rfl, hik, hk, HJ, K1⟩ := hrel
        by_cases hst : k < s.size ∧ bt s k ≠ 36 ∧ bt s k ≠ 10
        · obtain ⟨hl, h36, h10⟩ := hst
          have hg := get_bt s k hl
          have n1 : ((bt s k : Int) != 36) = true := bne_iff_ne.2 (by omega)
          have n2 : ((bt s k : Int) != 10) = true := bne_iff_ne.2 (by omega)
          have HN : Hid (∀ j, i + 1 ≤ j → j < k + 1 → (bt s j == 36 || bt s j == 10) = false) := Lib.hid fun j h1 h2 => by
            by_cases e : j = k
            · subst e; rw [beq_eq_false_iff_ne.2 h36, beq_eq_false_iff_ne.2 h10]; rfl
            · exact HJ.out j h1 (by omega)
          clear h36 h10 HJ HD HG HQD
          generalize bt s k = b at *
          go_wp2_with fail
          go_roundw
          case rel => exact ⟨k + 1, by go_num, by omega, by omega, HN, K1⟩
          case measure => simp [intOf]; omega
        · have hDk : D = k := HD.out k hik hk HJ.out fun hl => by
            by_cases h36 : bt s k = 36
            · rw [h36]; rfl
            · by_cases h10 : bt s k = 10
              · rw [h10]; rfl
              · exact absurd ⟨hl, h36, h10⟩ hst
          rw [hDk] at HQD
          clear HD hDk HJ
          obtain ⟨q, hq⟩ : ∃ q, q = decide (k < s.size ∧ k ≠ i + 1 ∧ bt s k = 36 ∧ bt s (i + 1) ≠ 32 ∧ bt s (k - 1) ≠ 32 ∧ ¬ (k + 1 < s.size ∧ dgN (bt s (k + 1)) = true)) := ⟨_, rfl⟩
          have HQ := Lib.hid hq
          clear hq
          have stop : Hid (k < s.size → bt s k = 36 ∨ bt s k = 10) := Lib.hid fun hl => by
            by_cases h36 : bt s k = 36
            · exact .inl h36
            · by_cases h10 : bt s k = 10
              · exact .inr h10
              · exact absurd ⟨hl, h36, h10⟩ hst
          clear hst
          by_cases hl : k < s.size
          · have hg := get_bt s k hl
            rcases stop.out hl with hb | hb
            · rw [hb] at hg
              clear stop
              by_cases hk1 : k = i + 1
              · have HF : Hid (R = none) := Lib.hid (by rw [HQD.out, if_neg]; exact fun c => c.2.1 hk1)
                clear HQ HG HQD hb
                subst hk1
                have z0 : ((i : Int) + 1 == (s.size : Int)) = false := beq_eq_false_iff_ne.2 (by omega)
                have z1 : ((i : Int) + 1 == (i : Int) + 1) = true := beq_self_eq_true _
                have z2 : (((i + 1 : Nat) : Int) == (s.size : Int)) = false := beq_eq_false_iff_ne.2 (by omega)
                have z3 : (((i + 1 : Nat) : Int) == (i : Int) + 1) = true := beq_iff_eq.2 (by omega)
                go_wp2_with (refine wpList_store_row rfl 36 (.tmp 4) _ rfl _ _ rfl rfl _ _ K1.out.1 pc_size (by rfl) (by simp [pcC, Value.oneCell']) ?_)
                exact rf_no Tryz.results50 K1.out HF.out rfl rfl rfl rfl
              have z0 : ((k : Int) == (s.size : Int)) = false := beq_eq_false_iff_ne.2 (by omega)
              have z1 : ((k : Int) == (i : Int) + 1) = false := beq_eq_false_iff_ne.2 (by omega)
              go_upto_region 9 with fail
              go_cut [111] (fun s111 wx => s111 = .bool (!q) ∧ wr = wx)
              case first =>
                have hg1 := get_bt s (i + 1) (by omega)
                have hil : i + 1 < s.size := by omega
                by_cases h1 : bt s (i + 1) = 32
                · have HQ2 : Hid (q = false) := Lib.hid (by rw [HQ.out, decide_eq_false]; exact fun c => c.2.2.2.1 h1)
                  rw [h1] at hg1
                  clear HQ HG HQD hb h1
                  go_wp2_with fail
                  go_meet
                  case rel => exact ⟨by rw [HQ2.out]; rfl, rfl⟩
                · have n1 : ((bt s (i + 1) : Int) == 32) = false := beq_eq_false_iff_ne.2 (by omega)
                  have hg2 := get_bt s (k - 1) (by omega)
                  have hkl : k - 1 < s.size := by omega
                  have f1 : (k : Int) - 1 = ((k - 1 : Nat) : Int) := by omega
                  have f2 : ((k : Int) - 1).toNat = k - 1 := by omega
                  by_cases h2 : bt s (k - 1) = 32
                  · have HQ2 : Hid (q = false) := Lib.hid (by rw [HQ.out, decide_eq_false]; exact fun c => c.2.2.2.2.1 h2)
                    rw [h2] at hg2
                    clear HQ HG HQD hb h1 h2
                    generalize bt s (i + 1) = b1 at *
                    go_wp2_with fail
                    go_meet
                    case rel => exact ⟨by rw [HQ2.out]; rfl, rfl⟩
                  · have n2 : ((bt s (k - 1) : Int) == 32) = false := beq_eq_false_iff_ne.2 (by omega)
                    by_cases h3 : k + 1 < s.size
                    · have hg3 := get_bt s (k + 1) h3
                      have HGk := Lib.hid (HG.out (bt s (k + 1)))
                      have HQ2 : Hid (q = !dgN (bt s (k + 1))) := Lib.hid (by
                        rw [HQ.out]
                        cases hd : dgN (bt s (k + 1))
                        · exact decide_eq_true ⟨hl, hk1, hb, h1, h2, fun c => by cases c.2⟩
                        · exact decide_eq_false fun c => c.2.2.2.2.2 ⟨h3, rfl⟩)
                      clear HQ HG HQD hb h1 h2
                      generalize bt s (i + 1) = b1 at *
                      generalize bt s (k - 1) = b2 at *
                      generalize bt s (k + 1) = b3 at *
                      generalize dgN b3 = d at *
                      go_wp2_with fail
                      ((with_reducible refine (HGk.out _).mono ?_))
                      rintro e w1 ⟨rfl, rfl⟩
                      cases d
                      all_goals
                        go_wp2_with fail
                        go_meet
                        case rel => exact ⟨by rw [HQ2.out]; rfl, rfl⟩
                    · have HQ2 : Hid (q = true) := Lib.hid (by rw [HQ.out]; exact decide_eq_true ⟨hl, hk1, hb, h1, h2, fun c => h3 c.1⟩)
                      clear HQ HG HQD hb h1 h2
                      generalize bt s (i + 1) = b1 at *
                      generalize bt s (k - 1) = b2 at *
                      go_wp2_with fail
                      go_meet
                      case rel => exact ⟨by rw [HQ2.out]; rfl, rfl⟩
              case rest =>
              obtain ⟨rfl, rfl⟩ := hcut
              cases q
              · have HF : Hid (R = none) := Lib.hid (by rw [HQD.out, if_neg (of_decide_eq_false HQ.out.symm)])
                clear HQ HQD HG hb
                go_wp2_with (refine wpList_store_row rfl 36 (.tmp 4) _ rfl _ _ rfl rfl _ _ K1.out.1 pc_size (by rfl) (by simp [pcC, Value.oneCell']) ?_)
                exact rf_no Tryz.results50 K1.out HF.out rfl rfl rfl rfl
              · have hc := of_decide_eq_true HQ.out.symm
                have HF : Hid (R = some { inl := spn 5 (s.extract (i + 1) k), bg := i, nd := k + 1 }) := Lib.hid (by rw [HQD.out, if_pos hc])
                have HSp := Lib.hid fun W => r9_span 5 (s.extract (i + 1) k) i (k + 1) 5 i ((k : Int) + 1) rfl rfl (by omega) W
                clear HQ HQD HG hc hb
                go_wp2_with fail
                ((with_reducible refine (HSp.out _).mono ?_))
                rintro e W2 ⟨rfl, b2⟩
                have K2 := Lib.hid (K1.out.next b2)
                clear b2
                go_wp2_with (refine wpList_store_row rfl 36 (.tmp 4) _ rfl _ _ rfl rfl _ _ K2.out.1 pc_size (by rfl) (by simp [pcC, Value.oneCell']) ?_)
                exact rf_yes Tryz.results50 K2.out HF.out rfl rfl rfl rfl rfl rfl
            · have HF : Hid (R = none) := Lib.hid (by rw [HQD.out, if_neg]; exact fun c => by rw [hb] at c; cases c.2.2.1)
              have z0 : ((k : Int) == (s.size : Int)) = false := beq_eq_false_iff_ne.2 (by omega)
              rw [hb] at hg
              clear HQ HQD HG stop hb
              go_wp2_with (refine wpList_store_row rfl 36 (.tmp 4) _ rfl _ _ rfl rfl _ _ K1.out.1 pc_size (by rfl) (by simp [pcC, Value.oneCell']) ?_)
              exact rf_no Tryz.results50 K1.out HF.out rfl rfl rfl rfl
          · have HF : Hid (R = none) := Lib.hid (by rw [HQD.out, if_neg]; exact fun c => hl c.1)
            have z0 : ((k : Int) == (s.size : Int)) = true := beq_iff_eq.2 (by omega)
            clear HQ HQD HG stop
            go_wp2_with (refine wpList_store_row rfl 36 (.tmp 4) _ rfl _ _ rfl rfl _ _ K1.out.1 pc_size (by rfl) (by simp [pcC, Value.oneCell']) ?_)
            exact rf_no Tryz.results50 K1.out HF.out rfl rfl rfl rfl
    | some k =>
      rw [hla] at HLt hM
      obtain ⟨hk1, hk2, _, _, hk3⟩ := laterA_spec hla
      have hk4 := (hk3 rfl).1
      have HF : Hid (R = some { inl := spn 5 (mk (codeT (sub s (i + 1 + n) k))), bg := i, nd := k + n + 1 }) := Lib.hid (by rw [hR, hM]; rfl)
      have HCT : Hid (∀ W, Calls Tryz.prog 52 #[.string (s.extract (i + 1 + n) k)] W fun e w' => e = .returned (.string (mk (codeT (sub s (i + 1 + n) k)))) ∧ W = w') := Lib.hid fun W => by
        have h := r9_codeT (s.extract (i + 1 + n) k) W (by rw [ByteArray.size_extract]; omega)
        rwa [bytesL_sub] at h
      have HSp := Lib.hid fun W => r9_span 5 (mk (codeT (sub s (i + 1 + n) k))) i (k + n + 1) 5 i ((k : Int) + (n : Int) + 1) rfl rfl (by omega) W
      clear hNone hR hM hla hE1 hE2 hX hn h96 hk3 HD HG
      generalize mk (codeT (sub s (i + 1 + n) k)) = T at *
      go_enter Tryz.func50, Tryz.ntmps50
      go_wp2_with fail
      ((with_reducible refine (HRn.out _).mono ?_))
      rintro e W1 ⟨rfl, b1⟩
      have K1 := Lib.hid (K0.out.next b1)
      clear b1
      go_wp2_with fail
      ((with_reducible refine (HLt.out _).mono ?_))
      rintro e W2 ⟨rfl, b2⟩
      have K2 := Lib.hid (K1.out.next b2)
      rw [show endV (some k) = (k : Int) from rfl]
      clear b2 K1 K0 HRn HLt hg
      go_wp2_with fail
      ((with_reducible refine (HCT.out _).mono ?_))
      rintro e w1 ⟨rfl, rfl⟩
      go_wp2_with fail
      ((with_reducible refine (HSp.out _).mono ?_))
      rintro e W3 ⟨rfl, b3⟩
      have K3 := Lib.hid (K2.out.next b3)
      clear b3
      go_wp2_with (refine wpList_store_row rfl 36 (.tmp 4) _ rfl _ _ rfl rfl _ _ K3.out.1 pc_size (by rfl) (by simp [pcC, Value.oneCell']) ?_)
      exact rf_yes Tryz.results50 K3.out HF.out rfl rfl rfl rfl rfl rfl
  · have hm : mathI s i = none := by unfold mathI; rw [if_neg hc]
    have HQD := Lib.hid (hNone hm)
    clear hNone hR hm
    generalize dolE s i = D at *
    have KQ := K0
    clear K0
    by_cases hi1 : i + 1 < s.size
    · have hg := get_bt s (i + 1) hi1
      have n96 : ((bt s (i + 1) : Int) == 96) = false := beq_eq_false_iff_ne.2 (by omega)
      clear hc
      go_enter Tryz.func50, Tryz.ntmps50
      go_wp2_with fail
      go_loopw [8] (fun v wr => ∃ k : Nat, v = .int .i64 k ∧ i + 1 ≤ k ∧ k ≤ s.size ∧ Hid (∀ j, i + 1 ≤ j → j < k → (bt s j == 36 || bt s j == 10) = false) ∧ Hid (Kp w wr)) (fun v _ => s.size - (intOf v).toNat)
      case atStart => exact ⟨i + 1, by go_num, Nat.le_refl _, hi, Lib.hid (fun j h1 h2 => by omega), KQ⟩
      case round =>
        clear KQ
        obtain ⟨k, rfl, hik, hk, HJ, K1⟩ := hrel
        by_cases hst : k < s.size ∧ bt s k ≠ 36 ∧ bt s k ≠ 10
        · obtain ⟨hl, h36, h10⟩ := hst
          have hg := get_bt s k hl
          have n1 : ((bt s k : Int) != 36) = true := bne_iff_ne.2 (by omega)
          have n2 : ((bt s k : Int) != 10) = true := bne_iff_ne.2 (by omega)
          have HN : Hid (∀ j, i + 1 ≤ j → j < k + 1 → (bt s j == 36 || bt s j == 10) = false) := Lib.hid fun j h1 h2 => by
            by_cases e : j = k
            · subst e; rw [beq_eq_false_iff_ne.2 h36, beq_eq_false_iff_ne.2 h10]; rfl
            · exact HJ.out j h1 (by omega)
          clear h36 h10 HJ HD HG HQD
          generalize bt s k = b at *
          go_wp2_with fail
          go_roundw
          case rel => exact ⟨k + 1, by go_num, by omega, by omega, HN, K1⟩
          case measure => simp [intOf]; omega
        · have hDk : D = k := HD.out k hik hk HJ.out fun hl => by
            by_cases h36 : bt s k = 36
            · rw [h36]; rfl
            · by_cases h10 : bt s k = 10
              · rw [h10]; rfl
              · exact absurd ⟨hl, h36, h10⟩ hst
          rw [hDk] at HQD
          clear HD hDk HJ
          obtain ⟨q, hq⟩ : ∃ q, q = decide (k < s.size ∧ k ≠ i + 1 ∧ bt s k = 36 ∧ bt s (i + 1) ≠ 32 ∧ bt s (k - 1) ≠ 32 ∧ ¬ (k + 1 < s.size ∧ dgN (bt s (k + 1)) = true)) := ⟨_, rfl⟩
          have HQ := Lib.hid hq
          clear hq
          have stop : Hid (k < s.size → bt s k = 36 ∨ bt s k = 10) := Lib.hid fun hl => by
            by_cases h36 : bt s k = 36
            · exact .inl h36
            · by_cases h10 : bt s k = 10
              · exact .inr h10
              · exact absurd ⟨hl, h36, h10⟩ hst
          clear hst
          by_cases hl : k < s.size
          · have hg := get_bt s k hl
            rcases stop.out hl with hb | hb
            · rw [hb] at hg
              clear stop
              by_cases hk1 : k = i + 1
              · have HF : Hid (R = none) := Lib.hid (by rw [HQD.out, if_neg]; exact fun c => c.2.1 hk1)
                clear HQ HG HQD hb
                subst hk1
                have z0 : ((i : Int) + 1 == (s.size : Int)) = false := beq_eq_false_iff_ne.2 (by omega)
                have z1 : ((i : Int) + 1 == (i : Int) + 1) = true := beq_self_eq_true _
                have z2 : (((i + 1 : Nat) : Int) == (s.size : Int)) = false := beq_eq_false_iff_ne.2 (by omega)
                have z3 : (((i + 1 : Nat) : Int) == (i : Int) + 1) = true := beq_iff_eq.2 (by omega)
                go_wp2_with (refine wpList_store_row rfl 36 (.tmp 4) _ rfl _ _ rfl rfl _ _ K1.out.1 pc_size (by rfl) (by simp [pcC, Value.oneCell']) ?_)
                exact rf_no Tryz.results50 K1.out HF.out rfl rfl rfl rfl
              have z0 : ((k : Int) == (s.size : Int)) = false := beq_eq_false_iff_ne.2 (by omega)
              have z1 : ((k : Int) == (i : Int) + 1) = false := beq_eq_false_iff_ne.2 (by omega)
              go_upto_region 9 with fail
              go_cut [111] (fun s111 wx => s111 = .bool (!q) ∧ wr = wx)
              case first =>
                have hg1 := get_bt s (i + 1) (by omega)
                have hil : i + 1 < s.size := by omega
                by_cases h1 : bt s (i + 1) = 32
                · have HQ2 : Hid (q = false) := Lib.hid (by rw [HQ.out, decide_eq_false]; exact fun c => c.2.2.2.1 h1)
                  rw [h1] at hg1
                  clear HQ HG HQD hb h1
                  go_wp2_with fail
                  go_meet
                  case rel => exact ⟨by rw [HQ2.out]; rfl, rfl⟩
                · have n1 : ((bt s (i + 1) : Int) == 32) = false := beq_eq_false_iff_ne.2 (by omega)
                  have hg2 := get_bt s (k - 1) (by omega)
                  have hkl : k - 1 < s.size := by omega
                  have f1 : (k : Int) - 1 = ((k - 1 : Nat) : Int) := by omega
                  have f2 : ((k : Int) - 1).toNat = k - 1 := by omega
                  by_cases h2 : bt s (k - 1) = 32
                  · have HQ2 : Hid (q = false) := Lib.hid (by rw [HQ.out, decide_eq_false]; exact fun c => c.2.2.2.2.1 h2)
                    rw [h2] at hg2
                    clear HQ HG HQD hb h1 h2
                    generalize bt s (i + 1) = b1 at *
                    go_wp2_with fail
                    go_meet
                    case rel => exact ⟨by rw [HQ2.out]; rfl, rfl⟩
                  · have n2 : ((bt s (k - 1) : Int) == 32) = false := beq_eq_false_iff_ne.2 (by omega)
                    by_cases h3 : k + 1 < s.size
                    · have hg3 := get_bt s (k + 1) h3
                      have HGk := Lib.hid (HG.out (bt s (k + 1)))
                      have HQ2 : Hid (q = !dgN (bt s (k + 1))) := Lib.hid (by
                        rw [HQ.out]
                        cases hd : dgN (bt s (k + 1))
                        · exact decide_eq_true ⟨hl, hk1, hb, h1, h2, fun c => by cases c.2⟩
                        · exact decide_eq_false fun c => c.2.2.2.2.2 ⟨h3, rfl⟩)
                      clear HQ HG HQD hb h1 h2
                      generalize bt s (i + 1) = b1 at *
                      generalize bt s (k - 1) = b2 at *
                      generalize bt s (k + 1) = b3 at *
                      generalize dgN b3 = d at *
                      go_wp2_with fail
                      ((with_reducible refine (HGk.out _).mono ?_))
                      rintro e w1 ⟨rfl, rfl⟩
                      cases d
                      all_goals
                        go_wp2_with fail
                        go_meet
                        case rel => exact ⟨by rw [HQ2.out]; rfl, rfl⟩
                    · have HQ2 : Hid (q = true) := Lib.hid (by rw [HQ.out]; exact decide_eq_true ⟨hl, hk1, hb, h1, h2, fun c => h3 c.1⟩)
                      clear HQ HG HQD hb h1 h2
                      generalize bt s (i + 1) = b1 at *
                      generalize bt s (k - 1) = b2 at *
                      go_wp2_with fail
                      go_meet
                      case rel => exact ⟨by rw [HQ2.out]; rfl, rfl⟩
              case rest =>
              obtain ⟨rfl, rfl⟩ := hcut
              cases q
              · have HF : Hid (R = none) := Lib.hid (by rw [HQD.out, if_neg (of_decide_eq_false HQ.out.symm)])
                clear HQ HQD HG hb
                go_wp2_with (refine wpList_store_row rfl 36 (.tmp 4) _ rfl _ _ rfl rfl _ _ K1.out.1 pc_size (by rfl) (by simp [pcC, Value.oneCell']) ?_)
                exact rf_no Tryz.results50 K1.out HF.out rfl rfl rfl rfl
              · have hc := of_decide_eq_true HQ.out.symm
                have HF : Hid (R = some { inl := spn 5 (s.extract (i + 1) k), bg := i, nd := k + 1 }) := Lib.hid (by rw [HQD.out, if_pos hc])
                have HSp := Lib.hid fun W => r9_span 5 (s.extract (i + 1) k) i (k + 1) 5 i ((k : Int) + 1) rfl rfl (by omega) W
                clear HQ HQD HG hc hb
                go_wp2_with fail
                ((with_reducible refine (HSp.out _).mono ?_))
                rintro e W2 ⟨rfl, b2⟩
                have K2 := Lib.hid (K1.out.next b2)
                clear b2
                go_wp2_with (refine wpList_store_row rfl 36 (.tmp 4) _ rfl _ _ rfl rfl _ _ K2.out.1 pc_size (by rfl) (by simp [pcC, Value.oneCell']) ?_)
                exact rf_yes Tryz.results50 K2.out HF.out rfl rfl rfl rfl rfl rfl
            · have HF : Hid (R = none) := Lib.hid (by rw [HQD.out, if_neg]; exact fun c => by rw [hb] at c; cases c.2.2.1)
              have z0 : ((k : Int) == (s.size : Int)) = false := beq_eq_false_iff_ne.2 (by omega)
              rw [hb] at hg
              clear HQ HQD HG stop hb
              go_wp2_with (refine wpList_store_row rfl 36 (.tmp 4) _ rfl _ _ rfl rfl _ _ K1.out.1 pc_size (by rfl) (by simp [pcC, Value.oneCell']) ?_)
              exact rf_no Tryz.results50 K1.out HF.out rfl rfl rfl rfl
          · have HF : Hid (R = none) := Lib.hid (by rw [HQD.out, if_neg]; exact fun c => hl c.1)
            have z0 : ((k : Int) == (s.size : Int)) = true := beq_iff_eq.2 (by omega)
            clear HQ HQD HG stop
            go_wp2_with (refine wpList_store_row rfl 36 (.tmp 4) _ rfl _ _ rfl rfl _ _ K1.out.1 pc_size (by rfl) (by simp [pcC, Value.oneCell']) ?_)
            exact rf_no Tryz.results50 K1.out HF.out rfl rfl rfl rfl
    · have HF : Hid (R = none) := Lib.hid (by
        rw [HQD.out, if_neg]
        have h9 : i + 1 ≤ D := HDG.out
        exact fun c => hi1 (by have := c.1; omega))
      have z0 : ((i : Int) + 1 == (s.size : Int)) = true := beq_iff_eq.2 (by omega)
      have z1 : decide ((i : Int) + 1 < (s.size : Int)) = false := decide_eq_false (by omega)
      clear hc HQD HD HDG HG
      go_enter Tryz.func50, Tryz.ntmps50
      go_wp2_with fail
      go_loopw [8] (fun v wr => v = .int .i64 ((i : Int) + 1) ∧ Hid (Kp w wr)) (fun _ _ => 0)
      case atStart => exact ⟨rfl, KQ⟩
      case round =>
        clear KQ
        obtain ⟨rfl, K1⟩ := hrel
        go_wp2_with (refine wpList_store_row rfl 36 (.tmp 4) _ rfl _ _ rfl rfl _ _ K1.out.1 pc_size (by rfl) (by simp [pcC, Value.oneCell']) ?_)
        exact rf_no Tryz.results50 K1.out HF.out rfl rfl rfl rfl

end Go.Proofs.YtcjkgmfidkgamaaGreatDoor
