/-
  Texts of the proof, put together (what this law reaches): ScM.
-/
import Derived.Test.YtfnloonmeilhlaaGreatDoorT28
set_option linter.unusedVariables false
set_option linter.unusedSimpArgs false
namespace Go.Pub
theorem letterN_ways (b : Nat) : (letterN b = true ∧ ((97 ≤ b ∧ b ≤ 122) ∨ (¬ 97 ≤ b ∧ 65 ≤ b ∧ b ≤ 90))) ∨ (letterN b = false ∧ ((97 ≤ b ∧ ¬ b ≤ 122) ∨ (¬ 97 ≤ b ∧ 65 ≤ b ∧ ¬ b ≤ 90) ∨ (¬ 97 ≤ b ∧ ¬ 65 ≤ b))) := by
  cases h : letterN b
  · refine .inr ⟨rfl, ?_⟩; unfold letterN at h; simp at h; omega
  · refine .inl ⟨rfl, ?_⟩; unfold letterN at h; simp at h; omega
end Go.Pub
namespace Go.Proofs.YtfnloonmeilhlaaGreatDoor
open Go.RowKit Go.Pub
set_option maxRecDepth 100000 in
set_option maxHeartbeats 4000000 in
theorem s_auto (s : ByteArray) (i : Nat) (w : World) (hs : s.size ≤ 1000000) (hi : i < s.size) : Calls Tryz.prog 36 #[.string s, .int .i64 i] w (InPost (autI s i) w) := by
  have HK := Lib.hid fun e h1 h2 h3 h4 => autK_eq s i e h1 h2 h3 h4
  have HE := Lib.hid fun e h1 h2 h3 h4 => toE_eq s (autK s i) (fun b => b == 32 || b == 10 || b == 60 || b == 62) e h1 h2 h3 h4
  have hEd : toE s (autK s i) (fun b => b == 32 || b == 10 || b == 60 || b == 62) = autE s i := rfl
  rw [hEd] at HE
  clear hEd
  obtain ⟨R, hR⟩ : ∃ R, R = autI s i := ⟨_, rfl⟩
  rw [← hR]
  unfold autI at hR
  have HR := Lib.hid hR
  clear hR
  generalize autE s i = E at *
  generalize autK s i = K at *
  go_enter Tryz.func36, Tryz.ntmps36
  go_wp2_with fail
  go_loopw [6] (fun v wr => ∃ k : Nat, v = .int .i64 k ∧ i + 1 ≤ k ∧ k ≤ s.size ∧ Hid (∀ j, i + 1 ≤ j → j < k → letterN (bt s j) = true) ∧ Blk wr w.heap.size 32 zIn ∧ Below w.heap.size w wr) (fun v _ => s.size - (intOf v).toNat)
  case atStart => exact ⟨i + 1, by go_num, Nat.le_refl _, hi, Lib.hid (fun j h1 h2 => by omega), Blk.new w _ _, (Below.refl _ w).alloc (Nat.le_refl _) _⟩
  case round =>
    obtain ⟨k, rfl, hik, hk, HJ, hbl, hbw⟩ := hrel
    have HBl := Lib.hid hbl
    have HBw := Lib.hid hbw
    clear hbl hbw
    obtain ⟨q, hq⟩ : ∃ q, q = (decide (k < s.size) && letterN (bt s k)) := ⟨_, rfl⟩
    have HQ := Lib.hid hq
    clear hq
    go_upto_region 2 with fail
    go_cut [37] from 10 to 39 (fun s37 wx => s37 = .bool q ∧ wr = wx)
    case first =>
      by_cases hl : k < s.size
      · have hg := get_bt s k hl
        have hw := letterN_ways (bt s k)
        have HQ2 : Hid (q = letterN (bt s k)) := Lib.hid (by rw [HQ.out, decide_eq_true hl, Bool.true_and])
        generalize bt s k = b at *
        generalize letterN b = x at *
        rcases hw with ⟨rfl, ⟨a1, a2⟩ | ⟨a1, a2, a3⟩⟩ | ⟨rfl, ⟨a1, a2⟩ | ⟨a1, a2, a3⟩ | ⟨a1, a2⟩⟩
        all_goals
          go_wp2_with fail
          go_meet
          case rel => exact ⟨by rw [HQ2.out] <;> (simp; omega), rfl⟩
      · have HQ2 : Hid (q = false) := Lib.hid (by rw [HQ.out, decide_eq_false hl, Bool.false_and])
        go_wp2_with fail
        go_meet
        case rel => exact ⟨by rw [HQ2.out], rfl⟩
    case rest =>
    obtain ⟨rfl, rfl⟩ := hcut
    cases q
    · have HKk : Hid (K = k) := Lib.hid (HK.out k hik hk HJ.out fun h => by have := HQ.out; rw [decide_eq_true h, Bool.true_and] at this; exact this.symm)
      rw [HKk.out] at HR HE
      clear HK HKk HQ HJ
      obtain ⟨c0, c1, c2, c3, c4, c5, c6, c7, c8, c9, f0, f1, f2, f3, f4, f5, f6, f7, f8, f9⟩ := in_facts HBl.out
      have e1 : (k : Int) - (i : Int) = ((k - i : Nat) : Int) := by omega
      have e2 : ((k - i : Nat) : Int) - 1 = ((k - i - 1 : Nat) : Int) := by omega
      by_cases c : 2 ≤ k - i - 1 ∧ k - i - 1 ≤ 20 ∧ k < s.size ∧ bt s k = 58
      · obtain ⟨x1, x2, x3, x4⟩ := c
        have HR2 : Hid (R = if E < s.size ∧ bt s E = 62 then some ({ kind := 16, dest := s.extract (i + 1) E }, E + 1) else none) := Lib.hid (by
          rw [HR.out]
          by_cases h : E < s.size ∧ bt s E = 62
          · rw [if_pos h, if_pos ⟨x1, x2, x3, x4, h.1, h.2⟩]
          · rw [if_neg h, if_neg fun c => h ⟨c.2.2.2.2.1, c.2.2.2.2.2⟩])
        clear HR
        have hg := get_bt s k x3
        rw [x4] at hg
        clear x4
        go_wp2_with fail
        go_loopw [6] (fun v wr => ∃ m : Nat, v = .int .i64 m ∧ k ≤ m ∧ m ≤ s.size ∧ Hid (∀ j, k ≤ j → j < m → (bt s j == 32 || bt s j == 10 || bt s j == 60 || bt s j == 62) = false) ∧ Blk wr w.heap.size 32 zIn ∧ Below w.heap.size w wr) (fun v _ => s.size - (intOf v).toNat)
        case atStart => exact ⟨k, rfl, Nat.le_refl _, hk, Lib.hid (fun j h1 h2 => by omega), HBl.out, HBw.out⟩
        case round =>
          clear HBl HBw c0 c1 c2 c3 c4 c5 c6 c7 c8 c9 f0 f1 f2 f3 f4 f5 f6 f7 f8 f9 hg
          obtain ⟨m, rfl, hkm, hm, HJ, hbl, hbw⟩ := hrel
          have HBl := Lib.hid hbl
          have HBw := Lib.hid hbw
          clear hbl hbw
          obtain ⟨c0, c1, c2, c3, c4, c5, c6, c7, c8, c9, f0, f1, f2, f3, f4, f5, f6, f7, f8, f9⟩ := in_facts HBl.out
          by_cases hl : m < s.size
          · have hg := get_bt s m hl
            have HX : Hid (∀ b, bt s m = b → (b == 32 || b == 10 || b == 60 || b == 62) = true → E = m) := Lib.hid fun b hb h => HE.out m hkm hm HJ.out fun _ => by rw [hb]; exact h
            have HY : Hid ((bt s m == 32 || bt s m == 10 || bt s m == 60 || bt s m == 62) = false → ∀ j, k ≤ j → j < m + 1 → (bt s j == 32 || bt s j == 10 || bt s j == 60 || bt s j == 62) = false) := Lib.hid fun h j h1 h2 => by
              by_cases e : j = m
              · subst e; exact h
              · exact HJ.out j h1 (by omega)
            have HB : Hid (∀ b, bt s m = b → bt s m = b) := Lib.hid fun _ h => h
            by_cases h62 : bt s m = 62
            · have HF : Hid (R = some ({ kind := 16, dest := s.extract (i + 1) m }, m + 1)) := Lib.hid (by rw [HR2.out, HX.out 62 h62 rfl, if_pos ⟨hl, h62⟩])
              rw [h62] at hg
              have hsl : i + 1 ≤ m := by omega
              clear h62
              go_wp2_with fail
              exact in_ret Tryz.results36 (blk10 HBl.out _ _ _ _ _ _ _ _ _ _) rfl rfl rfl (in_some HF.out rfl rfl (below10 HBw.out (Nat.le_refl _) _ _ _ _ _ _ _ _ _ _) rfl (by omega))
            · by_cases hst : bt s m = 32 ∨ bt s m = 10 ∨ bt s m = 60
              · have HF : Hid (R = none) := Lib.hid (by
                  have hE : E = m := by rcases hst with h | h | h <;> exact HX.out _ h rfl
                  rw [HR2.out, hE, if_neg fun c => h62 c.2])
                clear HX HY HB HR2 h62
                rcases hst with h | h | h
                all_goals
                  rw [h] at hg
                  clear h
                  go_wp2_with fail
                  exact in_ret Tryz.results36 (blk10 HBl.out _ _ _ _ _ _ _ _ _ _) rfl rfl rfl (in_none HF.out (below10 HBw.out (Nat.le_refl _) _ _ _ _ _ _ _ _ _ _))
              · have HN := Lib.hid (HY.out (by
                  have n1 : (bt s m == 32) = false := beq_eq_false_iff_ne.2 fun e => hst (.inl e)
                  have n2 : (bt s m == 10) = false := beq_eq_false_iff_ne.2 fun e => hst (.inr (.inl e))
                  have n3 : (bt s m == 60) = false := beq_eq_false_iff_ne.2 fun e => hst (.inr (.inr e))
                  have n4 : (bt s m == 62) = false := beq_eq_false_iff_ne.2 h62
                  rw [n1, n2, n3, n4]; rfl))
                have n1 : ((bt s m : Int) != 32) = true := bne_iff_ne.2 (by omega)
                have n2 : ((bt s m : Int) != 10) = true := bne_iff_ne.2 (by omega)
                have n3 : ((bt s m : Int) != 60) = true := bne_iff_ne.2 (by omega)
                have n4 : ((bt s m : Int) != 62) = true := bne_iff_ne.2 (by omega)
                clear HX HY HB hst h62
                generalize bt s m = b at *
                go_wp2_with fail
                go_roundw
                case rel => exact ⟨m + 1, by go_num, by omega, by omega, HN, HBl.out, HBw.out⟩
                case measure => simp [intOf]; omega
          · have HF : Hid (R = none) := Lib.hid (by
              have hE : E = m := HE.out m hkm hm HJ.out fun h => absurd h hl
              rw [HR2.out, hE, if_neg fun c => hl c.1])
            go_wp2_with fail
            exact in_ret Tryz.results36 (blk10 HBl.out _ _ _ _ _ _ _ _ _ _) rfl rfl rfl (in_none HF.out (below10 HBw.out (Nat.le_refl _) _ _ _ _ _ _ _ _ _ _))
      · have HF : Hid (R = none) := Lib.hid (by rw [HR.out, if_neg fun h => c ⟨h.1, h.2.1, h.2.2.1, h.2.2.2.1⟩])
        clear HR
        by_cases x1 : 2 ≤ k - i - 1
        · by_cases x2 : k - i - 1 ≤ 20
          · by_cases x3 : k < s.size
            · have hg := get_bt s k x3
              have n1 : ((bt s k : Int) != 58) = true := bne_iff_ne.2 (by omega)
              clear c
              generalize bt s k = b at *
              go_wp2_with fail
              exact in_ret Tryz.results36 (blk10 HBl.out _ _ _ _ _ _ _ _ _ _) rfl rfl rfl (in_none HF.out (below10 HBw.out (Nat.le_refl _) _ _ _ _ _ _ _ _ _ _))
            · clear c
              go_wp2_with fail
              exact in_ret Tryz.results36 (blk10 HBl.out _ _ _ _ _ _ _ _ _ _) rfl rfl rfl (in_none HF.out (below10 HBw.out (Nat.le_refl _) _ _ _ _ _ _ _ _ _ _))
          · clear c
            go_wp2_with fail
            exact in_ret Tryz.results36 (blk10 HBl.out _ _ _ _ _ _ _ _ _ _) rfl rfl rfl (in_none HF.out (below10 HBw.out (Nat.le_refl _) _ _ _ _ _ _ _ _ _ _))
        · clear c
          go_wp2_with fail
          exact in_ret Tryz.results36 (blk10 HBl.out _ _ _ _ _ _ _ _ _ _) rfl rfl rfl (in_none HF.out (below10 HBw.out (Nat.le_refl _) _ _ _ _ _ _ _ _ _ _))
    · have hl : k < s.size ∧ letterN (bt s k) = true := by have := HQ.out; simpa using this.symm
      have HN : Hid (∀ j, i + 1 ≤ j → j < k + 1 → letterN (bt s j) = true) := Lib.hid fun j h1 h2 => by
        by_cases e : j = k
        · subst e; exact hl.2
        · exact HJ.out j h1 (by omega)
      have hl1 := hl.1
      clear hl
      go_wp2_with fail
      go_roundw
      case rel => exact ⟨k + 1, by go_num, by omega, by omega, HN, HBl.out, HBw.out⟩
      case measure => simp [intOf]; omega

end Go.Proofs.YtfnloonmeilhlaaGreatDoor
