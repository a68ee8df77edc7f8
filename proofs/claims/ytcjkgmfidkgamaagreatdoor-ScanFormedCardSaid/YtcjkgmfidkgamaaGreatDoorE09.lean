/-
  Texts of the proof, put together (what this law reaches): ScM, ScVD, ScVF.
-/
import Derived.Test.YtcjkgmfidkgamaaGreatDoorE05
import Derived.Test.YtcjkgmfidkgamaaGreatDoorE07
import Derived.Test.YtcjkgmfidkgamaaGreatDoorE02
import Derived.Test.YtcjkgmfidkgamaaGreatDoorE03
import Derived.Test.YtcjkgmfidkgamaaGreatDoorE04
import Derived.Deep.DeepCutAuto
import Derived.Test.YtcjkgmfidkgamaaGreatDoorE08
import Derived.BigQuiet
set_option linter.unusedVariables false
set_option linter.unusedSimpArgs false
namespace Go.Pub
theorem letterN_ways (b : Nat) : (letterN b = true ∧ ((97 ≤ b ∧ b ≤ 122) ∨ (¬ 97 ≤ b ∧ 65 ≤ b ∧ b ≤ 90))) ∨ (letterN b = false ∧ ((97 ≤ b ∧ ¬ b ≤ 122) ∨ (¬ 97 ≤ b ∧ 65 ≤ b ∧ ¬ b ≤ 90) ∨ (¬ 97 ≤ b ∧ ¬ 65 ≤ b))) := by
  cases h : letterN b
  · refine .inr ⟨rfl, ?_⟩; unfold letterN at h; simp at h; omega
  · refine .inl ⟨rfl, ?_⟩; unfold letterN at h; simp at h; omega
end Go.Pub
namespace Go.Proofs.YtcjkgmfidkgamaaGreatDoor
open Go.RowKit Go.Pub
set_option maxRecDepth 100000 in
set_option maxHeartbeats 4000000 in
theorem s_auto (s : ByteArray) (i : Nat) (w : World) (hs : s.size ≤ 1000000) (hi : i < s.size) : Calls Tryz.prog 80 #[.string s, .int .i64 i] w (InPost (autI s i) w) := by
  have HK := Lib.hid fun e h1 h2 h3 h4 => autK_eq s i e h1 h2 h3 h4
  have HE := Lib.hid fun e h1 h2 h3 h4 => toE_eq s (autK s i) (fun b => b == 32 || b == 10 || b == 60 || b == 62) e h1 h2 h3 h4
  have hEd : toE s (autK s i) (fun b => b == 32 || b == 10 || b == 60 || b == 62) = autE s i := rfl
  rw [hEd] at HE
  clear hEd
  obtain ⟨R, hR⟩ : ∃ R, R = autI s i := ⟨_, rfl⟩
  rw [← hR]
  unfold autI at hR
  have HR := Lib.hid hR
  clear hR
  generalize autE s i = E at *
  generalize autK s i = K at *
  go_enter Tryz.func80, Tryz.ntmps80
  go_wp2_with fail
  go_loopw [6] (fun v wr => ∃ k : Nat, v = .int .i64 k ∧ i + 1 ≤ k ∧ k ≤ s.size ∧ Hid (∀ j, i + 1 ≤ j → j < k → letterN (bt s j) = true) ∧ Blk wr w.heap.size 34 zIn ∧ Below w.heap.size w wr) (fun v _ => s.size - (intOf v).toNat)
  case atStart => exact ⟨i + 1, by go_num, Nat.le_refl _, hi, Lib.hid (fun j h1 h2 => by omega), Blk.new w _ _, (Below.refl _ w).alloc (Nat.le_refl _) _⟩
  case round =>
    obtain ⟨k, rfl, hik, hk, HJ, hbl, hbw⟩ := hrel
    have HBl := Lib.hid hbl
    have HBw := Lib.hid hbw
    clear hbl hbw
    obtain ⟨q, hq⟩ : ∃ q, q = (decide (k < s.size) && letterN (bt s k)) := ⟨_, rfl⟩
    have HQ := Lib.hid hq
    clear hq
    go_upto_region 2 with fail
    go_cut [37] from 10 to 39 (fun s37 wx => s37 = .bool q ∧ wr = wx)
    case first =>
      by_cases hl : k < s.size
      · have hg := get_bt s k hl
        have hw := letterN_ways (bt s k)
        have HQ2 : Hid (q = letterN (bt s k)) := Lib.hid (by rw [HQ.out, decide_eq_true hl, Bool.true_and])
        generalize bt s k = b at *
        generalize letterN b = x at *
        rcases hw with ⟨rfl, ⟨a1, a2⟩ | ⟨a1, a2, a3⟩⟩ | ⟨rfl, ⟨a1, a2⟩ | ⟨a1, a2, a3⟩ | ⟨a1, a2⟩⟩
        all_goals
          go_wp2_with fail
          go_meet
          case rel => exact ⟨by rw [HQ2.out] <;> (simp; omega), rfl⟩
      · have HQ2 : Hid (q = false) := Lib.hid (by rw [HQ.out, decide_eq_false hl, Bool.false_and])
        go_wp2_with fail
        go_meet
        case rel => exact ⟨by rw [HQ2.out], rfl⟩
    case rest =>
    obtain ⟨rfl, rfl⟩ := hcut
    cases q
    · have HKk : Hid (K = k) := Lib.hid (HK.out k hik hk HJ.out fun h => by have := HQ.out; rw [decide_eq_true h, Bool.true_and] at this; exact this.symm)
      rw [HKk.out] at HR HE
      clear HK HKk HQ HJ
      obtain ⟨c0, c1, c2, c3, c4, c5, c6, c7, c8, c9, f0, f1, f2, f3, f4, f5, f6, f7, f8, f9⟩ := in_facts HBl.out
      have e1 : (k : Int) - (i : Int) = ((k - i : Nat) : Int) := by omega
      have e2 : ((k - i : Nat) : Int) - 1 = ((k - i - 1 : Nat) : Int) := by omega
      by_cases c : 2 ≤ k - i - 1 ∧ k - i - 1 ≤ 20 ∧ k < s.size ∧ bt s k = 58
      · obtain ⟨x1, x2, x3, x4⟩ := c
        have HR2 : Hid (R = if E < s.size ∧ bt s E = 62 then some ({ kind := 16, dest := s.extract (i + 1) E }, E + 1) else none) := Lib.hid (by
          rw [HR.out]
          by_cases h : E < s.size ∧ bt s E = 62
          · rw [if_pos h, if_pos ⟨x1, x2, x3, x4, h.1, h.2⟩]
          · rw [if_neg h, if_neg fun c => h ⟨c.2.2.2.2.1, c.2.2.2.2.2⟩])
        clear HR
        have hg := get_bt s k x3
        rw [x4] at hg
        clear x4
        go_wp2_with fail
        go_loopw [6] (fun v wr => ∃ m : Nat, v = .int .i64 m ∧ k ≤ m ∧ m ≤ s.size ∧ Hid (∀ j, k ≤ j → j < m → (bt s j == 32 || bt s j == 10 || bt s j == 60 || bt s j == 62) = false) ∧ Blk wr w.heap.size 34 zIn ∧ Below w.heap.size w wr) (fun v _ => s.size - (intOf v).toNat)
        case atStart => exact ⟨k, rfl, Nat.le_refl _, hk, Lib.hid (fun j h1 h2 => by omega), HBl.out, HBw.out⟩
        case round =>
          clear HBl HBw c0 c1 c2 c3 c4 c5 c6 c7 c8 c9 f0 f1 f2 f3 f4 f5 f6 f7 f8 f9 hg
          obtain ⟨m, rfl, hkm, hm, HJ, hbl, hbw⟩ := hrel
          have HBl := Lib.hid hbl
          have HBw := Lib.hid hbw
          clear hbl hbw
          obtain ⟨c0, c1, c2, c3, c4, c5, c6, c7, c8, c9, f0, f1, f2, f3, f4, f5, f6, f7, f8, f9⟩ := in_facts HBl.out
          by_cases hl : m < s.size
          · have hg := get_bt s m hl
            have HX : Hid (∀ b, bt s m = b → (b == 32 || b == 10 || b == 60 || b == 62) = true → E = m) := Lib.hid fun b hb h => HE.out m hkm hm HJ.out fun _ => by rw [hb]; exact h
            have HY : Hid ((bt s m == 32 || bt s m == 10 || bt s m == 60 || bt s m == 62) = false → ∀ j, k ≤ j → j < m + 1 → (bt s j == 32 || bt s j == 10 || bt s j == 60 || bt s j == 62) = false) := Lib.hid fun h j h1 h2 => by
              by_cases e : j = m
              · subst e; exact h
              · exact HJ.out j h1 (by omega)
            have HB : Hid (∀ b, bt s m = b → bt s m = b) := Lib.hid fun _ h => h
            by_cases h62 : bt s m = 62
            · have HF : Hid (R = some ({ kind := 16, dest := s.extract (i + 1) m }, m + 1)) := Lib.hid (by rw [HR2.out, HX.out 62 h62 rfl, if_pos ⟨hl, h62⟩])
              rw [h62] at hg
              have hsl : i + 1 ≤ m := by omega
              clear h62
              go_wp2_with fail
              exact in_ret Tryz.results80 (blk10 HBl.out _ _ _ _ _ _ _ _ _ _) rfl rfl rfl (in_some HF.out rfl rfl (below10 HBw.out (Nat.le_refl _) _ _ _ _ _ _ _ _ _ _) rfl (by omega))
            · by_cases hst : bt s m = 32 ∨ bt s m = 10 ∨ bt s m = 60
              · have HF : Hid (R = none) := Lib.hid (by
                  have hE : E = m := by rcases hst with h | h | h <;> exact HX.out _ h rfl
                  rw [HR2.out, hE, if_neg fun c => h62 c.2])
                clear HX HY HB HR2 h62
                rcases hst with h | h | h
                all_goals
                  rw [h] at hg
                  clear h
                  go_wp2_with fail
                  exact in_ret Tryz.results80 (blk10 HBl.out _ _ _ _ _ _ _ _ _ _) rfl rfl rfl (in_none HF.out (below10 HBw.out (Nat.le_refl _) _ _ _ _ _ _ _ _ _ _))
              · have HN := Lib.hid (HY.out (by
                  have n1 : (bt s m == 32) = false := beq_eq_false_iff_ne.2 fun e => hst (.inl e)
                  have n2 : (bt s m == 10) = false := beq_eq_false_iff_ne.2 fun e => hst (.inr (.inl e))
                  have n3 : (bt s m == 60) = false := beq_eq_false_iff_ne.2 fun e => hst (.inr (.inr e))
                  have n4 : (bt s m == 62) = false := beq_eq_false_iff_ne.2 h62
                  rw [n1, n2, n3, n4]; rfl))
                have n1 : ((bt s m : Int) != 32) = true := bne_iff_ne.2 (by omega)
                have n2 : ((bt s m : Int) != 10) = true := bne_iff_ne.2 (by omega)
                have n3 : ((bt s m : Int) != 60) = true := bne_iff_ne.2 (by omega)
                have n4 : ((bt s m : Int) != 62) = true := bne_iff_ne.2 (by omega)
                clear HX HY HB hst h62
                generalize bt s m = b at *
                go_wp2_with fail
                go_roundw
                case rel => exact ⟨m + 1, by go_num, by omega, by omega, HN, HBl.out, HBw.out⟩
                case measure => simp [intOf]; omega
          · have HF : Hid (R = none) := Lib.hid (by
              have hE : E = m := HE.out m hkm hm HJ.out fun h => absurd h hl
              rw [HR2.out, hE, if_neg fun c => hl c.1])
            go_wp2_with fail
            exact in_ret Tryz.results80 (blk10 HBl.out _ _ _ _ _ _ _ _ _ _) rfl rfl rfl (in_none HF.out (below10 HBw.out (Nat.le_refl _) _ _ _ _ _ _ _ _ _ _))
      · have HF : Hid (R = none) := Lib.hid (by rw [HR.out, if_neg fun h => c ⟨h.1, h.2.1, h.2.2.1, h.2.2.2.1⟩])
        clear HR
        by_cases x1 : 2 ≤ k - i - 1
        · by_cases x2 : k - i - 1 ≤ 20
          · by_cases x3 : k < s.size
            · have hg := get_bt s k x3
              have n1 : ((bt s k : Int) != 58) = true := bne_iff_ne.2 (by omega)
              clear c
              generalize bt s k = b at *
              go_wp2_with fail
              exact in_ret Tryz.results80 (blk10 HBl.out _ _ _ _ _ _ _ _ _ _) rfl rfl rfl (in_none HF.out (below10 HBw.out (Nat.le_refl _) _ _ _ _ _ _ _ _ _ _))
            · clear c
              go_wp2_with fail
              exact in_ret Tryz.results80 (blk10 HBl.out _ _ _ _ _ _ _ _ _ _) rfl rfl rfl (in_none HF.out (below10 HBw.out (Nat.le_refl _) _ _ _ _ _ _ _ _ _ _))
          · clear c
            go_wp2_with fail
            exact in_ret Tryz.results80 (blk10 HBl.out _ _ _ _ _ _ _ _ _ _) rfl rfl rfl (in_none HF.out (below10 HBw.out (Nat.le_refl _) _ _ _ _ _ _ _ _ _ _))
        · clear c
          go_wp2_with fail
          exact in_ret Tryz.results80 (blk10 HBl.out _ _ _ _ _ _ _ _ _ _) rfl rfl rfl (in_none HF.out (below10 HBw.out (Nat.le_refl _) _ _ _ _ _ _ _ _ _ _))
    · have hl : k < s.size ∧ letterN (bt s k) = true := by have := HQ.out; simpa using this.symm
      have HN : Hid (∀ j, i + 1 ≤ j → j < k + 1 → letterN (bt s j) = true) := Lib.hid fun j h1 h2 => by
        by_cases e : j = k
        · subst e; exact hl.2
        · exact HJ.out j h1 (by omega)
      have hl1 := hl.1
      clear hl
      go_wp2_with fail
      go_roundw
      case rel => exact ⟨k + 1, by go_num, by omega, by omega, HN, HBl.out, HBw.out⟩
      case measure => simp [intOf]; omega

end Go.Proofs.YtcjkgmfidkgamaaGreatDoor
namespace Go.Proofs.YtcjkgmfidkgamaaGreatDoor
open Go.RowKit Go.Pub
theorem val_validB {t : ByteArray} (h : ValL (bytesL t)) : validB t = true := by
  obtain ⟨cs, h1, h2⟩ := h
  unfold validB
  rw [pts_ptsL, h2, ptsL_enc cs fun c hc => (h1 c hc).1, List.all_eq_true]
  intro p hp
  obtain ⟨c, hc, rfl⟩ := List.mem_map.1 hp
  exact okPt_len c (h1 c hc).2
set_option maxRecDepth 100000 in
set_option maxHeartbeats 1000000 in
theorem r4_line (t : ByteArray) (w : World) (hs : t.size ≤ 1000000) (h : LineL (bytesL t)) : Calls Tryz.prog 94 #[.string t] w fun e w' => e = .returned (.bool true) ∧ Below w.heap.size w w' := by
  have HV := Lib.hid fun W => rValid_any t W hs
  rw [val_validB h.1] at HV
  have HN := Lib.hid fun i (hi : i < t.size) => show bt t i ≠ 10 from fun e => h.2 (t.get! i) (List.mem_of_getElem? (byte9_at t i hi)) (UInt8.toNat_inj.1 e)
  clear h
  go_enter Tryz.func94, Tryz.ntmps94
  go_wp2_with fail
  ((with_reducible refine (HV.out _).mono ?_))
  rintro e w1 ⟨rfl, b1⟩
  have HB := Lib.hid b1
  clear b1
  go_wp2_with fail
  go_loop [3] (fun v => ∃ i : Nat, v = .int .i64 i ∧ i ≤ t.size) (fun v => t.size - (intOf v).toNat)
  case atStart => exact ⟨0, rfl, Nat.zero_le _⟩
  case round =>
    obtain ⟨i, rfl, hi⟩ := hrel
    by_cases hl : i < t.size
    · have hg := get_bt t i hl
      have hb := HN.out i hl
      have n1 : ((bt t i : Int) == 10) = false := beq_eq_false_iff_ne.2 (by omega)
      clear hb HN
      generalize bt t i = b at *
      go_wp2_with fail
      go_round
      case rel => exact ⟨i + 1, by go_num, by omega⟩
      case measure => simp [intOf]; omega
    · clear HN
      go_wp2_with fail
      go_ret
      exact ⟨rfl, HB.out⟩

set_option maxRecDepth 100000 in
set_option maxHeartbeats 1000000 in
theorem r4_trim (t : ByteArray) (w : World) (hs : t.size ≤ 1000000) (h : t.size = 0 ∨ (bt t 0 ≠ 32 ∧ bt t (t.size - 1) ≠ 32)) : Calls Tryz.prog 136 #[.string t] w fun e w' => e = .returned (.bool true) ∧ w = w' := by
  rcases Nat.eq_zero_or_pos t.size with h0 | h0
  · have y1 := str_nil (x := t) (by omega)
    have y2 : t.toList.isEmpty = true := by rw [y1]; rfl
    have y3 : (t.toList == ([] : List UInt8)) = true := by rw [y1]; rfl
    clear h
    go_enter Tryz.func136, Tryz.ntmps136
    go_wp2_with fail
    go_ret
    exact ⟨rfl, rfl⟩
  · have y1 := str_ne h0
    have y2 : t.toList.isEmpty = false := by rw [List.isEmpty_eq_false_iff]; exact y1
    have y3 : (t.toList == ([] : List UInt8)) = false := beq_eq_false_iff_ne.2 y1
    obtain ⟨h1, h2⟩ := h.resolve_left (by omega)
    have hg1 := get_bt t 0 h0
    have hg2 := get_bt t (t.size - 1) (by omega)
    have n1 : ((bt t 0 : Int) != 32) = true := bne_iff_ne.2 (by omega)
    have n2 : ((bt t (t.size - 1) : Int) != 32) = true := bne_iff_ne.2 (by omega)
    have hk : t.size - 1 < t.size := by omega
    have f1 : (t.size : Int) - 1 = ((t.size - 1 : Nat) : Int) := by omega
    have f2 : ((t.size : Int) - 1).toNat = t.size - 1 := by omega
    clear h h1 h2 y1
    generalize bt t 0 = b0 at *
    generalize bt t (t.size - 1) = b1 at *
    go_enter Tryz.func136, Tryz.ntmps136
    go_wp2_with fail
    go_ret
    exact ⟨rfl, rfl⟩

set_option maxRecDepth 100000 in
set_option maxHeartbeats 1000000 in
theorem r4_has (t c : ByteArray) (w : World) (hs : t.size ≤ 1000000) (hc : c.size ≤ 100) (h : ∀ i, i < t.size → ∀ k, k < c.size → bt t i ≠ bt c k) : Calls Tryz.prog 135 #[.string t, .string c] w fun e w' => e = .returned (.bool false) ∧ Below w.heap.size w w' := by
  have HN := Lib.hid h
  clear h
  go_enter Tryz.func135, Tryz.ntmps135
  go_wp2_with fail
  go_loopw [5, 6] (fun v5 _ wr => ∃ i : Nat, v5 = .int .i64 i ∧ i ≤ t.size ∧ Hid (Below w.heap.size w wr)) (fun v5 _ _ => t.size - (intOf v5).toNat)
  case atStart => exact ⟨0, rfl, Nat.zero_le _, Lib.hid (Below.refl _ _)⟩
  case round =>
    obtain ⟨i, rfl, hi, HB⟩ := hrel
    by_cases hl : i < t.size
    · have hg := get_bt t i hl
      have HNi := Lib.hid (HN.out i hl)
      clear HN
      generalize bt t i = b at *
      go_wp2_with fail
      go_loopw [6] (fun v6 wz => ∃ k : Nat, v6 = .int .i64 k ∧ k ≤ c.size ∧ Hid (Below w.heap.size w wz)) (fun v6 _ => c.size - (intOf v6).toNat)
      case atStart => exact ⟨0, rfl, Nat.zero_le _, HB⟩
      case round =>
        clear HB
        obtain ⟨k, rfl, hk, HB⟩ := hrel
        by_cases hl2 : k < c.size
        · have hg2 := get_bt c k hl2
          have hne := HNi.out k hl2
          have n1 : ((b : Int) == (bt c k : Int)) = false := beq_eq_false_iff_ne.2 (by omega)
          clear hne HNi
          generalize bt c k = d at *
          go_wp2_with fail
          go_quiet (fail)
          go_wp2_with fail
          go_roundw
          case rel => exact ⟨k + 1, by go_num, by omega, Lib.hid (below_drewN HB.out _)⟩
          case measure => simp [intOf]; omega
        · clear HNi
          go_wp2_with fail
          go_roundw
          case rel => exact ⟨i + 1, by go_num, by omega, HB⟩
          case measure => simp [intOf]; omega
    · clear HN
      go_wp2_with fail
      go_ret
      exact ⟨rfl, HB.out⟩

set_option maxRecDepth 100000 in
set_option maxHeartbeats 1000000 in
theorem r4_in (k : Nat) (ns : List Nat) (g n : Nat) (w : World) (hn : n = ns.length) (hl : ns.length ≤ 100) (h : ∀ j (hj : j < ns.length), w.cell? ⟨g, j, none⟩ = some (.int .i64 (ns[j] : Nat))) : Calls Tryz.prog 129 #[.int .i64 k, .slice (some ⟨g, 0, none⟩) n n] w fun e w' => e = .returned (.bool (ns.contains k)) ∧ w = w' := by
  subst hn
  have HC := Lib.hid h
  obtain ⟨R, hR⟩ : ∃ R, R = ns.contains k := ⟨_, rfl⟩
  rw [← hR]
  have HY : Hid (∀ j (hj : j < ns.length), ns[j] = k → R = true) := Lib.hid fun j hj e => by
    rw [hR, List.contains_iff_mem, ← e]
    exact List.getElem_mem hj
  have HN : Hid ((∀ j (hj : j < ns.length), ns[j] ≠ k) → R = false) := Lib.hid fun hh => by
    rw [hR]
    cases hc : ns.contains k
    · rfl
    · rw [List.contains_iff_mem] at hc
      obtain ⟨j, hj, e⟩ := List.getElem_of_mem hc
      exact absurd e (hh j hj)
  clear h hR
  go_enter Tryz.func129, Tryz.ntmps129
  go_wp2_with fail
  go_loop [5] (fun v => ∃ i : Nat, v = .int .i64 i ∧ i ≤ ns.length ∧ Hid (∀ j (hj : j < ns.length), j < i → ns[j] ≠ k)) (fun v => ns.length - (intOf v).toNat)
  case atStart => exact ⟨0, rfl, Nat.zero_le _, Lib.hid fun j _ h => by omega⟩
  case round =>
    obtain ⟨i, rfl, hi, HJ⟩ := hrel
    by_cases hli : i < ns.length
    · have c0 := HC.out i hli
      have HYi := Lib.hid (HY.out i hli)
      have HJ2 : Hid (ns[i] ≠ k → ∀ j (hj : j < ns.length), j < i + 1 → ns[j] ≠ k) := Lib.hid fun e j hj h => by
        rcases (by omega : j < i ∨ j = i) with h2 | rfl
        · exact HJ.out j hj h2
        · exact e
      clear HC HY HN HJ
      generalize ns[i] = x at *
      by_cases e : x = k
      · have HF := Lib.hid (HYi.out e)
        subst e
        have z : ((x : Int) == (x : Int)) = true := beq_self_eq_true _
        clear HYi HJ2
        go_wp2_with fail
        go_ret
        exact ⟨ret_bool HF.out.symm, rfl⟩
      · have HJ3 := Lib.hid (HJ2.out e)
        have z : ((x : Int) == (k : Int)) = false := beq_eq_false_iff_ne.2 (by omega)
        clear HYi HJ2
        go_wp2_with fail
        go_round
        case rel => exact ⟨i + 1, by go_num, by omega, HJ3⟩
        case measure => simp [intOf]; omega
    · have HF := Lib.hid (HN.out fun j hj => HJ.out j hj (by omega))
      clear HC HY HN HJ
      go_wp2_with fail
      go_ret
      exact ⟨ret_bool HF.out.symm, rfl⟩

set_option maxRecDepth 100000 in
set_option maxHeartbeats 1000000 in
theorem r4_noAttr (w : World) : Calls Tryz.prog 96 #[.agg #[.string ⟨#[]⟩, .slice none 0 0, .slice none 0 0]] w fun e w' => e = .returned (.bool true) ∧ Below w.heap.size w w' := by
  have q1 : ((⟨#[]⟩ : ByteArray).toList == (⟨#[]⟩ : ByteArray).toList) = true := beq_self_eq_true _
  go_enter Tryz.func96, Tryz.ntmps96
  go_wp2_with fail
  go_ret
  exact ⟨rfl, (Below.refl _ _).alloc (Nat.le_refl _) _⟩

set_option maxRecDepth 100000 in
set_option maxHeartbeats 2000000 in
theorem r4_auto (d : ByteArray) (w : World) (hs : d.size ≤ 1000000) (h : AutoOk d) : Calls Tryz.prog 100 #[.string d] w fun e w' => e = .returned (.bool true) ∧ Below w.heap.size w w' := by
  obtain ⟨n, n2, n20, hn, hlet, h58, hline, hno⟩ := h
  have HLn := Lib.hid fun W => r4_line d W hs hline
  have HHs := Lib.hid fun W => r4_has d ⟨#[32, 60, 62]⟩ W hs (by decide) fun i hi k hk => by
    have hb := hno (d.get! i) (List.mem_of_getElem? (byte9_at d i hi))
    have e : ∀ m : Nat, m < 256 → d.get! i ≠ UInt8.ofNat m → bt d i ≠ m := fun m hm h1 h2 => h1 (by rw [← h2]; unfold bt; rw [UInt8.ofNat_toNat])
    have b0 := e 32 (by decide) hb.1
    have b1 := e 60 (by decide) hb.2.1
    have b2 := e 62 (by decide) hb.2.2
    have hk : k < 3 := hk
    rcases (by omega : k = 0 ∨ k = 1 ∨ k = 2) with rfl | rfl | rfl
    · exact b0
    · exact b1
    · exact b2
  have HL := Lib.hid hlet
  have hg58 := get_bt d n hn
  rw [h58] at hg58
  have H58 := Lib.hid h58
  clear hlet h58 hline hno
  go_enter Tryz.func100, Tryz.ntmps100
  go_wp2_with fail
  go_loop [3] (fun v => ∃ i : Nat, v = .int .i64 i ∧ i ≤ n) (fun v => d.size - (intOf v).toNat)
  case atStart => exact ⟨0, rfl, Nat.zero_le _⟩
  case round =>
    obtain ⟨i, rfl, hi⟩ := hrel
    by_cases hl : i < n
    · have hg := get_bt d i (by omega)
      have hid2 : i < d.size := by omega
      have hw := letterN_ways (bt d i)
      rw [HL.out i hl] at hw
      have hw2 : (97 ≤ bt d i ∧ bt d i ≤ 122) ∨ (¬ 97 ≤ bt d i ∧ 65 ≤ bt d i ∧ bt d i ≤ 90) := hw.elim (fun h => h.2) (fun h => by cases h.1)
      clear hw HL HLn HHs H58 hg58
      generalize bt d i = b at *
      rcases hw2 with ⟨a1, a2⟩ | ⟨a1, a2, a3⟩
      all_goals
        go_wp2_with fail
        go_round
        case rel => exact ⟨i + 1, by go_num, by omega⟩
        case measure => simp [intOf]; omega
    · obtain rfl : i = n := by omega
      clear HL H58
      go_wp2_with fail
      ((with_reducible refine (HLn.out _).mono ?_))
      rintro e w1 ⟨rfl, b1⟩
      have HB1 := Lib.hid b1
      clear b1
      go_wp2_with fail
      ((with_reducible refine (HHs.out _).mono ?_))
      rintro e w2 ⟨rfl, b2⟩
      have HB2 := Lib.hid (HB1.out.trans (b2.mono HB1.out.size))
      clear b2
      go_wp2_with fail
      go_ret
      exact ⟨rfl, HB2.out⟩

end Go.Proofs.YtcjkgmfidkgamaaGreatDoor
namespace Go.Pub
def SzI (n : Nat) (x : InL) : Prop := x.text.size ≤ n ∧ x.dest.size ≤ n ∧ (∀ a : ByteArray, a ∈ x.args → a.size ≤ n) ∧ ∀ c : CitL, c ∈ x.cites → c.key.size ≤ n ∧ c.pre.size ≤ n ∧ c.suf.size ≤ n
theorem ext_le (s : ByteArray) (a b : Nat) : (s.extract a b).size ≤ s.size := by rw [ByteArray.size_extract]; omega
theorem szI_spn {n k : Nat} {t : ByteArray} (h : t.size ≤ n) : SzI n (spn k t) := ⟨h, Nat.zero_le _, fun a ha => (List.not_mem_nil ha).elim, fun c hc => (List.not_mem_nil hc).elim⟩
theorem codeT_len (l : List UInt8) : (codeT l).length ≤ l.length := by
  have h : (unLF l).length = l.length := by unfold unLF; rw [List.length_map]
  unfold codeT
  split
  · rw [List.length_dropLast, List.length_drop, h]; omega
  · rw [h]; exact Nat.le_refl _
theorem sub_le (s : ByteArray) (a b : Nat) : (sub s a b).length ≤ s.size := by
  unfold sub
  rw [List.length_take, List.length_drop, bytesL_length]; omega
theorem trimL_len : ∀ (n : Nat) (l : List UInt8), l.length = n → (trimL l).length ≤ l.length := by
  intro n
  induction n using Nat.strongRecOn with
  | ind n ih =>
    intro l hl
    by_cases h1 : l.head? = some 32
    · cases l with
      | nil => cases h1
      | cons x m =>
        injection h1 with h1
        subst h1
        rw [trimL_head]
        have := ih m.length (by rw [← hl]; simp) m rfl
        rw [List.length_cons]; omega
    · by_cases h2 : l.getLast? = some 32
      · rcases List.eq_nil_or_concat l with rfl | ⟨a, y, rfl⟩
        · cases h2
        · rw [List.concat_eq_append] at h2 hl ⊢
          have hy : y = 32 := by simpa using h2
          subst hy
          rw [trimL_last]
          have := ih a.length (by rw [← hl]; simp) a rfl
          rw [List.length_append]; omega
      · rw [trimL_stay l h1 h2]
        exact Nat.le_refl _
theorem semi_szl : ∀ (l : List UInt8) (p : List UInt8), p ∈ semiL l → p.length ≤ l.length
  | [], p, h => by
    have h : p ∈ [[]] := h
    rw [List.mem_singleton] at h
    subst h
    exact Nat.le_refl _
  | c :: l, p, h => by
    have ih := semi_szl l
    unfold semiL at h
    by_cases hc : c = 59
    · rw [if_pos hc] at h
      rcases List.mem_cons.1 h with rfl | h
      · exact Nat.zero_le _
      · have := ih p h
        rw [List.length_cons]; omega
    · rw [if_neg hc] at h
      cases hs : semiL l with
      | nil =>
        rw [hs] at h
        have h : p ∈ [[c]] := h
        rw [List.mem_singleton] at h
        subst h
        simp
      | cons q qs =>
        rw [hs] at h ih
        have h : p ∈ (c :: q) :: qs := h
        rcases List.mem_cons.1 h with rfl | h
        · have := ih q List.mem_cons_self
          rw [List.length_cons, List.length_cons]; omega
        · have := ih p (List.mem_cons_of_mem _ h)
          rw [List.length_cons]; omega
theorem cited_sz {q : ByteArray} {c : CitL} {n : Nat} (hq : q.size ≤ n) (hc : citedI q = some c) : c.key.size ≤ n ∧ c.pre.size ≤ n ∧ c.suf.size ≤ n := by
  unfold citedI at hc
  simp only [] at hc
  by_cases c1 : citA q < q.size ∧ toE q (citA q + 1) (fun b => b == 64) ≥ q.size ∧ ((if (decide (0 < citA q) && bt q (citA q - 1) == 45) = true then citA q - 1 else citA q) = 0 ∨ bt q ((if (decide (0 < citA q) && bt q (citA q - 1) == 45) = true then citA q - 1 else citA q) - 1) = 32)
  · rw [if_pos c1] at hc
    obtain ⟨k, hk, rfl⟩ := map_some hc
    refine ⟨Nat.le_trans (ext_le _ _ _) hq, ?_, ?_⟩
    · rw [mk_size]
      exact Nat.le_trans (Nat.le_trans (trimL_len _ _ rfl) (sub_le _ _ _)) hq
    · rw [mk_size]
      refine Nat.le_trans (Nat.le_trans (trimL_len _ _ rfl) ?_) hq
      unfold sfx
      rw [List.length_drop, bytesL_length]; omega
  · rw [if_neg c1] at hc
    cases hc
theorem allC_sz {n : Nat} : ∀ (ps : List (List UInt8)) (cs : List CitL), allC ps = some cs → (∀ p : List UInt8, p ∈ ps → p.length ≤ n) → ∀ c : CitL, c ∈ cs → c.key.size ≤ n ∧ c.pre.size ≤ n ∧ c.suf.size ≤ n
  | [], cs, h, _, c, hc => by
    have h : some [] = some cs := h
    have h := Option.some.inj h
    subst h
    exact (List.not_mem_nil hc).elim
  | p :: ps, cs, h, hp, c, hc => by
    unfold allC at h
    cases h1 : citedI (mk p) with
    | none => rw [h1] at h; cases h
    | some x =>
      rw [h1, Option.bind_some] at h
      cases h2 : allC ps with
      | none => rw [h2] at h; cases h
      | some ys =>
        rw [h2] at h
        have h : some (x :: ys) = some cs := h
        have h := Option.some.inj h
        subst h
        rcases List.mem_cons.1 hc with rfl | hc
        · exact cited_sz (by rw [mk_size]; exact hp p List.mem_cons_self) h1
        · exact allC_sz ps ys h2 (fun q hq => hp q (List.mem_cons_of_mem _ hq)) c hc
theorem args_sz {s : ByteArray} : ∀ (f k : Nat) (a : ByteArray), a ∈ (argsF s f k).1 → a.size ≤ s.size
  | 0, k, a, h => (List.not_mem_nil h).elim
  | f + 1, k, a, h => by
    unfold argsF at h
    by_cases c : k < s.size ∧ bt s k = 124
    · rw [if_pos c] at h
      rcases List.mem_cons.1 h with rfl | h
      · exact ext_le _ _ _
      · exact args_sz f _ a h
    · rw [if_neg c] at h
      exact (List.not_mem_nil h).elim
theorem enc_le4 (c : Int) : (Utf8.encode c).size ≤ 4 := by
  have h4 := (encL_length c).2
  unfold encL at h4
  rwa [bytesL_length] at h4
def szN (s : ByteArray) : Nat := s.size + 4
theorem spec_sz {s : ByteArray} {i : Nat} {p : PcL} (hp : spec s i = some p) : SzI (szN s) p.inl := by
  have nil : SzI (szN s) {  kind := 0 } := ⟨Nat.zero_le _, Nat.zero_le _, fun a ha => (List.not_mem_nil ha).elim, fun c hc => (List.not_mem_nil hc).elim⟩
  have nilk : ∀ k : Nat, SzI (szN s) { kind := k } := fun k => ⟨Nat.zero_le _, Nat.zero_le _, fun a ha => (List.not_mem_nil ha).elim, fun c hc => (List.not_mem_nil hc).elim⟩
  have ex : ∀ (k a b : Nat), SzI (szN s) (spn k (s.extract a b)) := fun k a b => szI_spn (by have := ext_le s a b; unfold szN; omega)
  have one : ∀ (k : Nat) (x : UInt8), SzI (szN s) (spn k ⟨#[x]⟩) := fun k x => szI_spn (by show 1 ≤ szN s; unfold szN; omega)
  have cd : ∀ (k a b : Nat), SzI (szN s) (spn k (mk (codeT (sub s a b)))) := fun k a b => szI_spn (by rw [mk_size]; have := codeT_len (sub s a b); have := sub_le s a b; unfold szN; omega)
  have rd : ∀ {o : Option (InL × Nat)}, o.map (pcI · i) = some p → (∀ r, o = some r → SzI (szN s) r.1) → SzI (szN s) p.inl := fun ho hr => by
    obtain ⟨r, h1, rfl⟩ := map_some ho
    exact hr r h1
  have esc : ∀ r, escI s i = some r → SzI (szN s) r.1 := fun r hr => by
    unfold escI at hr
    repeat' split at hr
    all_goals first
      | (cases hr; done)
      | (have hr := Option.some.inj hr; subst hr; exact nilk 3)
      | (have hr := Option.some.inj hr; subst hr; exact ex 1 _ _)
  have ent : ∀ r, entI s i = some r → SzI (szN s) r.1 := fun r hr => by
    unfold entI at hr
    by_cases c0 : begB s i [38, 97, 109, 112, 59] = true
    · rw [if_pos c0] at hr
      have hr := Option.some.inj hr
      subst hr
      exact one 1 _
    rw [if_neg c0] at hr
    by_cases c1 : begB s i [38, 108, 116, 59] = true
    · rw [if_pos c1] at hr
      have hr := Option.some.inj hr
      subst hr
      exact one 1 _
    rw [if_neg c1] at hr
    by_cases c2 : begB s i [38, 103, 116, 59] = true
    · rw [if_pos c2] at hr
      have hr := Option.some.inj hr
      subst hr
      exact one 1 _
    rw [if_neg c2] at hr
    by_cases c3 : begB s i [38, 113, 117, 111, 116, 59] = true
    · rw [if_pos c3] at hr
      have hr := Option.some.inj hr
      subst hr
      exact one 1 _
    rw [if_neg c3] at hr
    by_cases c5 : begB s i [38, 35] = true
    · rw [if_pos c5] at hr
      by_cases c6 : digK s i ≠ 0 ∧ i + 2 + digK s i < s.size ∧ bt s (i + 2 + digK s i) = 59 ∧ goodC (numV (sub s (i + 2) (i + 2 + digK s i))) = true
      · rw [if_pos c6] at hr
        have hr := Option.some.inj hr
        subst hr
        exact szI_spn (Nat.le_trans (enc_le4 _) (by unfold szN; omega))
      · rw [if_neg c6] at hr
        cases hr
    · rw [if_neg c5] at hr
      cases hr
  have dol : ∀ r, dolI s i = some r → SzI (szN s) r.1 := fun r hr => by
    unfold dolI at hr
    split at hr
    · have hr := Option.some.inj hr; subst hr; exact ex 5 _ _
    · cases hr
  have cod : ∀ r, codeI s i = some r → SzI (szN s) r.1 := fun r hr => by
    unfold codeI at hr
    obtain ⟨k, _, rfl⟩ := map_some hr
    exact cd 4 _ _
  have mth : ∀ r, mathI s i = some r → SzI (szN s) r.1 := fun r hr => by
    unfold mathI at hr
    split at hr
    · obtain ⟨k, _, rfl⟩ := map_some hr
      exact cd 5 _ _
    · cases hr
  have aut : ∀ r, autI s i = some r → SzI (szN s) r.1 := fun r hr => by
    unfold autI at hr
    split at hr
    · have hr := Option.some.inj hr
      subst hr
      exact ⟨Nat.zero_le _, by have := ext_le s (i + 1) (autE s i); show (s.extract (i + 1) (autE s i)).size ≤ _; unfold szN; omega, fun a ha => (List.not_mem_nil ha).elim, fun c hc => (List.not_mem_nil hc).elim⟩
    · cases hr
  have use : ∀ r, useI s i = some r → SzI (szN s) r.1 := fun r hr => by
    unfold useI at hr
    split at hr
    · cases hn : nmEnd s (i + 2) with
      | none => rw [hn] at hr; cases hr
      | some k =>
        rw [hn, Option.bind_some] at hr
        split at hr
        · have hr := Option.some.inj hr
          subst hr
          exact ⟨by have := ext_le s (i + 2) k; show (s.extract (i + 2) k).size ≤ _; unfold szN; omega, Nat.zero_le _, fun a ha => by have := args_sz 8 k a ha; unfold szN; omega, fun c hc => (List.not_mem_nil hc).elim⟩
        · cases hr
    · cases hr
  have nam : ∀ r, namI s i = some r → SzI (szN s) r.1 := fun r hr => by
    unfold namI at hr
    split at hr
    · cases hn : nmEnd s (i + 2) with
      | none => rw [hn] at hr; cases hr
      | some k =>
        rw [hn, Option.bind_some] at hr
        by_cases d : begB s k [93] = true
        · rw [if_pos d] at hr
          have hr := Option.some.inj hr
          subst hr
          exact ex _ _ _
        · rw [if_neg d] at hr
          split at hr
          · have hr := Option.some.inj hr
            subst hr
            exact ⟨by have := ext_le s (i + 2) k; show (s.extract (i + 2) k).size ≤ _; unfold szN; omega, Nat.zero_le _, fun a ha => (List.not_mem_nil ha).elim, fun c hc => (List.not_mem_nil hc).elim⟩
          · cases hr
    · cases hr
  have cit : ∀ r, citI s i = some r → SzI (szN s) r.1 := fun r hr => by
    unfold citI at hr
    split at hr
    · obtain ⟨cs, hcs, rfl⟩ := map_some hr
      refine ⟨Nat.zero_le _, Nat.zero_le _, fun a ha => (List.not_mem_nil ha).elim, ?_⟩
      unfold citesI at hcs
      split at hcs
      · cases hcs
      · refine allC_sz _ cs hcs fun p hp => ?_
        have h1 := semi_szl _ p hp
        rw [bytesL_length] at h1
        have h2 := ext_le s (i + 1) (citE s i)
        unfold szN
        omega
    · cases hr
  unfold spec at hp
  by_cases c0 : bt s i = 92
  · rw [if_pos c0] at hp
    exact rd hp esc
  rw [if_neg c0] at hp
  by_cases c1 : bt s i = 32 ∨ bt s i = 10
  · rw [if_pos c1] at hp
    by_cases d : spAt s i < s.size ∧ bt s (spAt s i) = 10
    · rw [if_pos d] at hp
      have hp := Option.some.inj hp
      subst hp
      exact nilk 2
    · rw [if_neg d] at hp
      cases hp
  rw [if_neg c1] at hp
  by_cases c2 : bt s i = 38
  · rw [if_pos c2] at hp
    exact rd hp ent
  rw [if_neg c2] at hp
  by_cases c3 : bt s i = 36
  · rw [if_pos c3] at hp
    exact rd hp fun r hr => or_bd (P := fun r : InL × Nat => SzI (szN s) r.1) hr mth dol
  rw [if_neg c3] at hp
  by_cases c4 : bt s i = 96
  · rw [if_pos c4] at hp
    exact rd hp cod
  rw [if_neg c4] at hp
  by_cases c5 : bt s i = 60
  · rw [if_pos c5] at hp
    exact rd hp aut
  rw [if_neg c5] at hp
  by_cases c6 : bt s i = 123
  · rw [if_pos c6] at hp
    exact rd hp use
  rw [if_neg c6] at hp
  by_cases c7 : bt s i = 91
  · rw [if_pos c7] at hp
    have hp := Option.some.inj hp
    subst hp
    cases hr : (namI s i).or (citI s i) with
    | none => exact nil
    | some r => exact or_bd (P := fun r : InL × Nat => SzI (szN s) r.1) hr nam cit
  rw [if_neg c7] at hp
  by_cases c8 : bt s i = 33
  · rw [if_pos c8] at hp
    by_cases d : i + 1 < s.size ∧ bt s (i + 1) = 91
    · rw [if_pos d] at hp
      have hp := Option.some.inj hp
      subst hp
      exact nil
    · rw [if_neg d] at hp
      cases hp
  rw [if_neg c8] at hp
  by_cases c9 : bt s i = 93
  · rw [if_pos c9] at hp
    have hp := Option.some.inj hp
    subst hp
    exact nil
  rw [if_neg c9] at hp
  by_cases c10 : bt s i = 42 ∨ bt s i = 95 ∨ bt s i = 126 ∧ runE s i - i = 2
  · rw [if_pos c10] at hp
    have hp := Option.some.inj hp
    subst hp
    exact nil
  rw [if_neg c10] at hp
  cases hp
theorem scanF_sz (s : ByteArray) : ∀ (f i : Nat) (j : Bool) (acc : List PcL), (∀ p : PcL, p ∈ acc → SzI (szN s) p.inl) → ∀ p : PcL, p ∈ scanF s f i j acc → SzI (szN s) p.inl
  | 0, _, _, acc, h => h
  | f + 1, i, j, acc, h => by
    unfold scanF
    have hl : ∀ a e, (s.extract a e).size ≤ szN s := fun a e => by have := ext_le s a e; unfold szN; omega
    by_cases hi : i < s.size
    · rw [if_pos hi]
      refine scanF_sz s f _ _ _ ?_
      split
      · intro p hp
        unfold joinP at hp
        cases hg : acc.getLast? with
        | none => rw [hg] at hp; exact h p hp
        | some q =>
          rw [hg] at hp
          rcases List.mem_append.1 hp with hp | hp
          · exact h p (List.dropLast_subset _ hp)
          · rw [List.mem_singleton] at hp
            subst hp
            obtain ⟨g1, g2, g3, g4⟩ := h q (List.mem_of_getLast? hg)
            exact ⟨hl _ _, g2, g3, g4⟩
      · intro p hp
        rcases List.mem_append.1 hp with hp | hp
        · exact h p hp
        · rw [List.mem_singleton] at hp
          subst hp
          unfold pieceA
          cases hs : spec s i with
          | none => exact szI_spn (hl _ _)
          | some p => exact spec_sz hs
    · rw [if_neg hi]
      exact h
theorem scan_sz (s : ByteArray) : ∀ p : PcL, p ∈ scanP s → SzI (szN s) p.inl := scanF_sz s _ _ _ _ fun p hp => (List.not_mem_nil hp).elim
end Go.Pub
