/-
  Texts of the proof, put together (what this law reaches): ScTE, ScRC.
-/
import Derived.Test.YtcjkgmfidkgamaaGreatDoorD17
import Derived.Test.YtcjkgmfidkgamaaGreatDoorD19
import Derived.Test.YtcjkgmfidkgamaaGreatDoorD09
import Derived.Test.YtcjkgmfidkgamaaGreatDoorD04
import Derived.Deep.DeepCutAuto
set_option linter.unusedVariables false
set_option linter.unusedSimpArgs false
namespace Go.Pub
theorem beg_one (s : ByteArray) (i : Nat) (x : UInt8) : begB s i [x] = (decide (i < s.size) && bt s i == x.toNat) := by
  unfold begB
  by_cases h : i < s.size
  · rw [sfx_cons s i h, decide_eq_true h, Bool.true_and]
    show ((x == s.get! i) && true) = _
    rw [Bool.and_true, Bool.eq_iff_iff, beq_iff_eq, beq_iff_eq]
    unfold bt
    exact ⟨fun e => by rw [e], fun e => (UInt8.toNat_inj.1 e).symm⟩
  · rw [sfx_nil s i (by omega), decide_eq_false h]; rfl
theorem beg_two {s : ByteArray} {i : Nat} {x : UInt8} (y : UInt8) (hi : i < s.size) (h : bt s i = x.toNat) : begB s i [x, y] = (decide (i + 1 < s.size) && bt s (i + 1) == y.toNat) := by
  rw [← beg_one]
  unfold begB
  rw [sfx_cons s i hi]
  show ((x == s.get! i) && _) = _
  have e : (x == s.get! i) = true := by rw [beq_iff_eq]; unfold bt at h; exact (UInt8.toNat_inj.1 h).symm
  rw [e, Bool.true_and]
end Go.Pub
namespace Go.Proofs.YtcjkgmfidkgamaaGreatDoor
open Go.RowKit Go.Pub
set_option maxRecDepth 100000 in
set_option maxHeartbeats 8000000 in
theorem r9_bracket (s : ByteArray) (i : Nat) (w : World) (hs : s.size ≤ 1000000) (hi : i < s.size) (h91 : bt s i = 91) : Calls Tryz.prog 55 #[.string s, .int .i64 i] w (RfPost (((namI s i).or (citI s i)).map (pcI · i)) w) := by
  have hqA : begB s i [91, 94] = (decide (i + 1 < s.size) && bt s (i + 1) == 94) := beg_two 94 hi h91
  have hqB : begB s i [91, 35] = (decide (i + 1 < s.size) && bt s (i + 1) == 35) := beg_two 35 hi h91
  have HBA : Hid (∀ W, Calls Tryz.prog 87 #[.string s, .int .i64 i, .string ⟨#[91, 94]⟩] W fun e w' => e = .returned (.bool (begB s i [91, 94])) ∧ W = w') := Lib.hid fun W => r9_beg s ⟨#[91, 94]⟩ i W hs (by omega) (by decide) (by decide)
  have HBB : Hid (∀ W, Calls Tryz.prog 87 #[.string s, .int .i64 i, .string ⟨#[91, 35]⟩] W fun e w' => e = .returned (.bool (begB s i [91, 35])) ∧ W = w') := Lib.hid fun W => r9_beg s ⟨#[91, 35]⟩ i W hs (by omega) (by decide) (by decide)
  have HBC : Hid (∀ k, k ≤ s.size → ∀ W, Calls Tryz.prog 87 #[.string s, .int .i64 (k : Nat), .string ⟨#[93]⟩] W fun e w' => e = .returned (.bool (begB s k [93])) ∧ W = w') := Lib.hid fun k hk W => r9_beg s ⟨#[93]⟩ k W hs (by omega) (by decide) (by decide)
  have HBD : Hid (∀ k, k ≤ s.size → ∀ W, Calls Tryz.prog 87 #[.string s, .int .i64 (k : Nat), .string ⟨#[32, 112, 97, 103, 101, 93]⟩] W fun e w' => e = .returned (.bool (begB s k [32, 112, 97, 103, 101, 93])) ∧ W = w') := Lib.hid fun k hk W => r9_beg s ⟨#[32, 112, 97, 103, 101, 93]⟩ k W hs (by omega) (by decide) (by decide)
  have HNm : Hid (i + 1 < s.size → ∀ W, Calls Tryz.prog 67 #[.string s, .int .i64 ((i : Int) + 2)] W fun e w' => e = .returned (.int .i64 (endV (nmEnd s (i + 2)))) ∧ W = w') := Lib.hid fun h W => r9_name s (i + 2) W hs (by omega)
  have HNB := Lib.hid fun k (h : nmEnd s (i + 2) = some k) => nmEnd_bd h
  have HCt : Hid (∀ e, e ≤ s.size → ∀ W, Calls Tryz.prog 21 #[.string (s.extract (i + 1) e)] W (CitesPost (citesI (s.extract (i + 1) e)) W)) := Lib.hid fun e he W => r9_Cites (s.extract (i + 1) e) W (by rw [ByteArray.size_extract]; omega)
  have HC1 := Lib.hid fun e h1 h2 h3 h4 => citI_hit (s := s) (i := i) (e := e) h1 h2 h3 h4
  have HC2 := Lib.hid fun e h1 h2 h3 h4 => citI_no (s := s) (i := i) (e := e) h1 h2 h3 h4
  have HC3 := Lib.hid fun e h1 h2 h3 h4 => citI_lf (s := s) (i := i) (e := e) h1 h2 h3 h4
  have HSpA := Lib.hid fun (z k : Nat) W => r9_span z (s.extract (i + 2) k) i (k + 1) z i ((k : Int) + 1) rfl rfl (by omega) W
  have K0 : Hid (Kp w (w.alloc (.cells zPc 36))) := Lib.hid (Kp.init w)
  obtain ⟨R, hR⟩ : ∃ R, R = ((namI s i).or (citI s i)).map (pcI · i) := ⟨_, rfl⟩
  rw [← hR]
  have hY : ∀ r, namI s i = some r → R = some (pcI r i) := fun r h => by rw [hR, h]; rfl
  have hN : namI s i = none → R = (citI s i).map (pcI · i) := fun h => by rw [hR, h]; rfl
  have hNd : namI s i = if i + 1 < s.size ∧ (bt s (i + 1) = 94 ∨ bt s (i + 1) = 35) then (nmEnd s (i + 2)).bind fun k => if begB s k [93] = true then some (spn (if bt s (i + 1) = 94 then 12 else 14) (s.extract (i + 2) k), k + 1) else if bt s (i + 1) = 35 ∧ begB s k [32, 112, 97, 103, 101, 93] = true then some ({ kind := 14, text := s.extract (i + 2) k, title := ⟨#[112, 97, 103, 101]⟩ }, k + 6) else none else none := rfl
  have HY := Lib.hid hY
  have HN := Lib.hid hN
  have HND := Lib.hid hNd
  clear hY hN hNd hR
  generalize namI s i = NI at *
  generalize citI s i = CI at *
  go_enter Tryz.func55, Tryz.ntmps55
  have HQA := Lib.hid hqA
  have HQB := Lib.hid hqB
  clear hqA hqB
  generalize begB s i [91, 94] = qA at *
  generalize begB s i [91, 35] = qB at *
  obtain ⟨q, hq⟩ : ∃ q, q = (qA || qB) := ⟨_, rfl⟩
  have HQ := Lib.hid hq
  clear hq
  go_upto_region 1 with fail
  go_cut [17] (fun s17 wx => s17 = .bool q ∧ w.alloc (.cells zPc 36) = wx)
  case first =>
    clear HBC HBD HNm HNB HCt HC1 HC2 HC3 HSpA HY HN HND HQA HQB
    cases qA
    · have HQ2 : Hid (q = qB) := Lib.hid (by rw [HQ.out]; rfl)
      clear HQ
      go_wp2_with fail
      ((with_reducible refine (HBA.out _).mono ?_))
      rintro e w1 ⟨rfl, rfl⟩
      go_wp2_with fail
      ((with_reducible refine (HBB.out _).mono ?_))
      rintro e w1 ⟨rfl, rfl⟩
      go_wp2_with fail
      go_meet
      case rel => exact ⟨by rw [HQ2.out], rfl⟩
    · have HQ2 : Hid (q = true) := Lib.hid (by rw [HQ.out]; rfl)
      clear HQ
      go_wp2_with fail
      ((with_reducible refine (HBA.out _).mono ?_))
      rintro e w1 ⟨rfl, rfl⟩
      go_wp2_with fail
      go_meet
      case rel => exact ⟨by rw [HQ2.out], rfl⟩
  case rest =>
  obtain ⟨rfl, rfl⟩ := hcut
  go_upto_if 17 with fail
  go_cut [] (fun wx => Hid (Kp w wx) ∧ Hid (NI = none))
  case first =>
    clear HBA HBB HCt HC1 HC2 HC3 HN
    cases q
    · have HNO : Hid (NI = none) := Lib.hid (by
        rw [HND.out, if_neg]
        rintro ⟨h3, h4⟩
        have h1 := HQA.out
        have h2 := HQB.out
        have h0 := HQ.out.symm
        rw [Bool.or_eq_false_iff] at h0
        rw [decide_eq_true h3, Bool.true_and] at h1 h2
        rcases h4 with h4 | h4
        · rw [h4, h0.1] at h1; cases h1
        · rw [h4, h0.2] at h2; cases h2)
      clear HQA HQB HQ HND HBC HBD HNm HNB HSpA HY
      go_wp2_with fail
      go_meet
      case rel => exact ⟨K0, HNO⟩
    · have hb : i + 1 < s.size ∧ ((qA = true ∧ bt s (i + 1) = 94) ∨ (qA = false ∧ bt s (i + 1) = 35)) := by
        have h1 := HQA.out
        have h2 := HQB.out
        have h0 := HQ.out
        cases qA
        · cases qB
          · cases h0
          · have := h2.symm
            simp at this
            exact ⟨this.1, .inr ⟨rfl, this.2⟩⟩
        · have := h1.symm
          simp at this
          exact ⟨this.1, .inl ⟨rfl, this.2⟩⟩
      obtain ⟨hi1, hb⟩ := hb
      have hg := get_bt s (i + 1) hi1
      have hb2 : bt s (i + 1) = 94 ∨ bt s (i + 1) = 35 := by rcases hb with h | h; exact .inl h.2; exact .inr h.2
      have HND2 := Lib.hid (HND.out.trans (if_pos ⟨hi1, hb2⟩))
      have HNm2 := Lib.hid (HNm.out hi1)
      clear HQA HQB HQ HND HNm hb
      cases hnm : nmEnd s (i + 2) with
      | none =>
        have HNO : Hid (NI = none) := Lib.hid (by rw [HND2.out, hnm]; rfl)
        rw [hnm, show endV none = -1 from rfl] at HNm2
        clear HND2 hnm HNB HBC HBD HSpA HY
        rcases hb2 with hb | hb
        all_goals
          rw [hb] at hg
          clear hb
          go_wp2_with fail
          ((with_reducible refine (HNm2.out _).mono ?_))
          rintro e w1 ⟨rfl, rfl⟩
          go_wp2_with fail
          go_meet
          case rel => exact ⟨K0, HNO⟩
      | some k =>
        obtain ⟨-, hk1, hk2⟩ := HNB.out k hnm
        rw [hnm, show endV (some k) = (k : Int) from rfl] at HNm2
        have HND3 : Hid (NI = if begB s k [93] = true then some (spn (if bt s (i + 1) = 94 then 12 else 14) (s.extract (i + 2) k), k + 1) else if bt s (i + 1) = 35 ∧ begB s k [32, 112, 97, 103, 101, 93] = true then some ({ kind := 14, text := s.extract (i + 2) k, title := ⟨#[112, 97, 103, 101]⟩ }, k + 6) else none) := Lib.hid (by rw [HND2.out, hnm]; rfl)
        have HBCk := Lib.hid (HBC.out k hk2)
        have HBDk := Lib.hid (HBD.out k hk2)
        have hsl : i + 2 ≤ k := by omega
        clear HND2 hnm HNB HBC HBD
        generalize begB s k [93] = qC at *
        generalize begB s k [32, 112, 97, 103, 101, 93] = qD at *
        cases qC
        · rcases hb2 with hb | hb
          · have HNO : Hid (NI = none) := Lib.hid (by rw [HND3.out, if_neg Bool.false_ne_true, if_neg fun c => by rw [hb] at c; cases c.1])
            rw [hb] at hg
            clear hb HND3 HY HSpA HBDk
            go_wp2_with fail
            ((with_reducible refine (HNm2.out _).mono ?_))
            rintro e w1 ⟨rfl, rfl⟩
            go_wp2_with fail
            ((with_reducible refine (HBCk.out _).mono ?_))
            rintro e w1 ⟨rfl, rfl⟩
            go_wp2_with fail
            go_meet
            case rel => exact ⟨K0, HNO⟩
          · cases qD
            · have HNO : Hid (NI = none) := Lib.hid (by rw [HND3.out, if_neg Bool.false_ne_true, if_neg fun c => Bool.false_ne_true c.2])
              rw [hb] at hg
              clear hb HND3 HY HSpA
              go_wp2_with fail
              ((with_reducible refine (HNm2.out _).mono ?_))
              rintro e w1 ⟨rfl, rfl⟩
              go_wp2_with fail
              ((with_reducible refine (HBCk.out _).mono ?_))
              rintro e w1 ⟨rfl, rfl⟩
              go_wp2_with fail
              ((with_reducible refine (HBDk.out _).mono ?_))
              rintro e w1 ⟨rfl, rfl⟩
              go_wp2_with fail
              go_meet
              case rel => exact ⟨K0, HNO⟩
            · have HF : Hid (R = some { inl := { kind := 14, text := s.extract (i + 2) k, title := ⟨#[112, 97, 103, 101]⟩ }, bg := i, nd := k + 6 }) := Lib.hid (HY.out ({ kind := 14, text := s.extract (i + 2) k, title := ⟨#[112, 97, 103, 101]⟩ }, k + 6) (by rw [HND3.out, if_neg Bool.false_ne_true, if_pos ⟨hb, rfl⟩]))
              rw [hb] at hg
              clear hb HND3 HY HSpA
              go_wp2_with fail
              ((with_reducible refine (HNm2.out _).mono ?_))
              rintro e w1 ⟨rfl, rfl⟩
              go_wp2_with fail
              ((with_reducible refine (HBCk.out _).mono ?_))
              rintro e w1 ⟨rfl, rfl⟩
              go_wp2_with fail
              ((with_reducible refine (HBDk.out _).mono ?_))
              rintro e w1 ⟨rfl, rfl⟩
              go_wp2_with (refine wpList_store_row rfl 36 (.tmp 4) _ rfl _ _ rfl rfl _ _ K0.out.1 pc_size (by rfl) (by simp [pcC, Value.oneCell']) ?_)
              exact rf_yes Tryz.results55 K0.out HF.out rfl rfl rfl rfl rfl rfl
        · have HSpK := Lib.hid fun z W => HSpA.out z k W
          rcases hb2 with hb | hb
          · have HF : Hid (R = some { inl := spn 12 (s.extract (i + 2) k), bg := i, nd := k + 1 }) := Lib.hid (HY.out (spn 12 (s.extract (i + 2) k), k + 1) (by rw [HND3.out, if_pos rfl, if_pos hb]))
            have HSp := Lib.hid (HSpK.out 12)
            rw [show ((12 : Nat) : Int) = 12 from rfl] at HSp
            rw [hb] at hg
            clear hb HND3 HY HSpA HSpK HBDk
            go_wp2_with fail
            ((with_reducible refine (HNm2.out _).mono ?_))
            rintro e w1 ⟨rfl, rfl⟩
            go_wp2_with fail
            ((with_reducible refine (HBCk.out _).mono ?_))
            rintro e w1 ⟨rfl, rfl⟩
            go_wp2_with fail
            ((with_reducible refine (HSp.out _).mono ?_))
            rintro e W2 ⟨rfl, b2⟩
            have K2 := Lib.hid (K0.out.next b2)
            clear b2
            go_wp2_with (refine wpList_store_row rfl 36 (.tmp 4) _ rfl _ _ rfl rfl _ _ K2.out.1 pc_size (by rfl) (by simp [pcC, Value.oneCell']) ?_)
            exact rf_yes Tryz.results55 K2.out HF.out rfl rfl rfl rfl rfl rfl
          · have HF : Hid (R = some { inl := spn 14 (s.extract (i + 2) k), bg := i, nd := k + 1 }) := Lib.hid (HY.out (spn 14 (s.extract (i + 2) k), k + 1) (by rw [HND3.out, if_pos rfl, if_neg (by rw [hb]; decide)]))
            have HSp := Lib.hid (HSpK.out 14)
            rw [show ((14 : Nat) : Int) = 14 from rfl] at HSp
            rw [hb] at hg
            clear hb HND3 HY HSpA HSpK HBDk
            go_wp2_with fail
            ((with_reducible refine (HNm2.out _).mono ?_))
            rintro e w1 ⟨rfl, rfl⟩
            go_wp2_with fail
            ((with_reducible refine (HBCk.out _).mono ?_))
            rintro e w1 ⟨rfl, rfl⟩
            go_wp2_with fail
            ((with_reducible refine (HSp.out _).mono ?_))
            rintro e W2 ⟨rfl, b2⟩
            have K2 := Lib.hid (K0.out.next b2)
            clear b2
            go_wp2_with (refine wpList_store_row rfl 36 (.tmp 4) _ rfl _ _ rfl rfl _ _ K2.out.1 pc_size (by rfl) (by simp [pcC, Value.oneCell']) ?_)
            exact rf_yes Tryz.results55 K2.out HF.out rfl rfl rfl rfl rfl rfl
  case rest =>
  obtain ⟨K1, HNO⟩ := hcut
  have HRC := Lib.hid (HN.out HNO.out)
  clear HBA HBB HBC HBD HNm HNB HSpA HY HN HND HQA HQB HQ HNO K0
  go_wp2_with fail
  go_loopw [7] (fun v wr => ∃ k : Nat, v = .int .i64 k ∧ i + 1 ≤ k ∧ k ≤ s.size ∧ Hid (∀ j, i + 1 ≤ j → j < k → bt s j ≠ 91 ∧ bt s j ≠ 93) ∧ Hid (Kp w wr)) (fun v _ => s.size - (intOf v).toNat)
  case atStart => exact ⟨i + 1, by go_num, Nat.le_refl _, hi, Lib.hid (fun j h1 h2 => by omega), K1⟩
  case round =>
    clear K1
    obtain ⟨k, rfl, hik, hk, HJ, K1⟩ := hrel
    by_cases hl : k < s.size
    · have hg := get_bt s k hl
      by_cases hst : bt s k = 91 ∨ bt s k = 10
      · have HF : Hid (R = none) := Lib.hid (by
          rw [HRC.out]
          rcases hst with h | h
          · rw [HC2.out k hik (by omega) HJ.out fun _ => h]; rfl
          · rw [HC3.out k hik hl HJ.out h]; rfl)
        have z0 : ((k : Int) == (s.size : Int)) = false := beq_eq_false_iff_ne.2 (by omega)
        clear HC1 HC2 HC3 HJ HRC HCt
        rcases hst with h | h
        all_goals
          rw [h] at hg
          clear h
          go_wp2_with (refine wpList_store_row rfl 36 (.tmp 4) _ rfl _ _ rfl rfl _ _ K1.out.1 pc_size (by rfl) (by simp [pcC, Value.oneCell']) ?_)
          exact rf_no Tryz.results55 K1.out HF.out rfl rfl rfl rfl
      · by_cases h93 : bt s k = 93
        · have HRk : Hid (R = ((citesI (s.extract (i + 1) k)).map fun cs => (({ kind := 13, cites := cs }, k + 1) : InL × Nat)).map (pcI · i)) := Lib.hid (by rw [HRC.out, HC1.out k hik hl HJ.out h93])
          have HCk := Lib.hid (HCt.out k hk)
          have z0 : ((k : Int) == (s.size : Int)) = false := beq_eq_false_iff_ne.2 (by omega)
          rw [h93] at hg
          clear HC1 HC2 HC3 HJ HRC HCt h93 hst
          generalize citesI (s.extract (i + 1) k) = C at *
          go_wp2_with fail
          ((with_reducible refine (HCk.out _).mono ?_))
          rintro e W1 ⟨b1, hp1⟩
          cases C with
          | none =>
            obtain rfl := hp1
            have HF : Hid (R = none) := Lib.hid (by rw [HRk.out]; rfl)
            have K2 := Lib.hid (K1.out.next b1)
            clear b1 HRk HCk
            go_wp2_with (refine wpList_store_row rfl 36 (.tmp 4) _ rfl _ _ rfl rfl _ _ K2.out.1 pc_size (by rfl) (by simp [pcC, Value.oneCell']) ?_)
            exact rf_no Tryz.results55 K2.out HF.out rfl rfl rfl rfl
          | some cs =>
            obtain ⟨A1, c1, rfl, hr1⟩ := hp1
            have HF : Hid (R = some { inl := { kind := 13, cites := cs }, bg := i, nd := k + 1 }) := Lib.hid (by rw [HRk.out]; rfl)
            have K2 := Lib.hid (K1.out.next b1)
            have hz := K1.out.1.lt
            have HR1 := Lib.hid (hr1.keep (S' := Rg (w.heap.size + 1) W1) (fun _ _ => rfl) fun g hg => ⟨by have := hg.1; omega, hg.2⟩)
            clear b1 hr1 HRk HCk hz
            go_wp2_with (refine wpList_store_row rfl 36 (.tmp 4) _ rfl _ _ rfl rfl _ _ K2.out.1 pc_size (by rfl) (by simp [pcC, Value.oneCell']) ?_)
            exact rf_ret Tryz.results55 (p := { inl := { kind := 13, cites := cs }, bg := i, nd := k + 1 }) (A1 := none) (c1 := 0) K2.out rfl ⟨ReadsS.none_, HR1.out⟩ (by rw [HF.out]; rfl) (by rw [HF.out]; rfl) rfl rfl rfl
        · have n1 : ((bt s k : Int) != 91) = true := bne_iff_ne.2 (by omega)
          have n2 : ((bt s k : Int) != 93) = true := bne_iff_ne.2 (by omega)
          have n3 : ((bt s k : Int) != 10) = true := bne_iff_ne.2 (by omega)
          have HJ2 : Hid (∀ j, i + 1 ≤ j → j < k + 1 → bt s j ≠ 91 ∧ bt s j ≠ 93) := Lib.hid fun j h1 h2 => by
            by_cases e : j = k
            · subst e; exact ⟨fun h => hst (.inl h), h93⟩
            · exact HJ.out j h1 (by omega)
          clear HC1 HC2 HC3 HJ HRC HCt h93 hst
          generalize bt s k = b at *
          go_wp2_with fail
          go_roundw
          case rel => exact ⟨k + 1, by go_num, by omega, by omega, HJ2, K1⟩
          case measure => simp [intOf]; omega
    · have HF : Hid (R = none) := Lib.hid (by rw [HRC.out, HC2.out k hik hk HJ.out fun h => absurd h hl]; rfl)
      have z0 : ((k : Int) == (s.size : Int)) = true := beq_iff_eq.2 (by omega)
      clear HC1 HC2 HC3 HJ HRC HCt
      go_wp2_with (refine wpList_store_row rfl 36 (.tmp 4) _ rfl _ _ rfl rfl _ _ K1.out.1 pc_size (by rfl) (by simp [pcC, Value.oneCell']) ?_)
      exact rf_no Tryz.results55 K1.out HF.out rfl rfl rfl rfl

end Go.Proofs.YtcjkgmfidkgamaaGreatDoor
namespace Go.Proofs.YtcjkgmfidkgamaaGreatDoor
open Go.RowKit Go.Pub
set_option maxRecDepth 100000 in
set_option maxHeartbeats 4000000 in
theorem r9_flank (ch : ByteArray) (b a : Int) (w : World) : Calls Tryz.prog 91 #[.string ch, .int .i64 b, .int .i64 a] w fun e w' => e = .returned (.tuple #[.bool (flankL ch b a).1, .bool (flankL ch b a).2]) ∧ Below w.heap.size w w' := by
  have HSb := Lib.hid fun W => rSpace_any b W
  have HSa := Lib.hid fun W => rSpace_any a W
  have HPb := Lib.hid fun W => rPunct_any b W
  have HPa := Lib.hid fun W => rPunct_any a W
  have HF : Hid (flankL ch b a = (
    let sb := decide (b < 0) || spaceB b
    let sa := decide (a < 0) || spaceB a
    let l := !sa && (!inB a punctL || sb || inB b punctL)
    let r := !sb && (!inB b punctL || sa || inB a punctL)
    if ch.toList = [42] ∨ ch.toList = [126] then (l, r)
    else if ch.toList = [95] then (l && (!r || inB b punctL), r && (!l || inB a punctL))
    else (false, false))) := Lib.hid rfl
  generalize flankL ch b a = F at *
  generalize inB b punctL = pb at *
  generalize inB a punctL = pa at *
  obtain ⟨sb, hsb⟩ : ∃ q, q = (decide (b < 0) || spaceB b) := ⟨_, rfl⟩
  obtain ⟨sa, hsa⟩ : ∃ q, q = (decide (a < 0) || spaceB a) := ⟨_, rfl⟩
  rw [← hsb, ← hsa] at HF
  have HSB := Lib.hid hsb
  have HSA := Lib.hid hsa
  clear hsb hsa
  generalize spaceB b = tb at *
  generalize spaceB a = ta at *
  go_enter Tryz.func91, Tryz.ntmps91
  go_upto_region 1 with fail
  go_cut [8, 9] (fun s8 s9 wx => s8 = .bool sb ∧ s9 = .bool sa ∧ w = wx)
  case first =>
    by_cases h1 : b < 0
    · by_cases h2 : a < 0
      · have X1 : Hid (sb = true) := Lib.hid (by rw [HSB.out, decide_eq_true h1]; rfl)
        have X2 : Hid (sa = true) := Lib.hid (by rw [HSA.out, decide_eq_true h2]; rfl)
        clear HSB HSA
        go_wp2_with (go_at_call 127; (first | with_reducible refine (HSa.out _).mono ?_ | with_reducible refine (HSb.out _).mono ?_); rintro e w1 ⟨rfl, rfl⟩)
        go_meet
        case rel => exact ⟨by rw [X1.out]; try simp [show decide (b < 0) = false from decide_eq_false (by omega)], by rw [X2.out]; try simp [show decide (a < 0) = false from decide_eq_false (by omega)], rfl⟩
      · have X1 : Hid (sb = true) := Lib.hid (by rw [HSB.out, decide_eq_true h1]; rfl)
        have X2 : Hid (sa = ta) := Lib.hid (by rw [HSA.out, decide_eq_false h2]; rfl)
        clear HSB HSA
        go_wp2_with (go_at_call 127; (first | with_reducible refine (HSa.out _).mono ?_ | with_reducible refine (HSb.out _).mono ?_); rintro e w1 ⟨rfl, rfl⟩)
        go_meet
        case rel => exact ⟨by rw [X1.out]; try simp [show decide (b < 0) = false from decide_eq_false (by omega)], by rw [X2.out]; try simp [show decide (a < 0) = false from decide_eq_false (by omega)], rfl⟩
    · by_cases h2 : a < 0
      · have X1 : Hid (sb = tb) := Lib.hid (by rw [HSB.out, decide_eq_false h1]; rfl)
        have X2 : Hid (sa = true) := Lib.hid (by rw [HSA.out, decide_eq_true h2]; rfl)
        clear HSB HSA
        go_wp2_with (go_at_call 127; (first | with_reducible refine (HSa.out _).mono ?_ | with_reducible refine (HSb.out _).mono ?_); rintro e w1 ⟨rfl, rfl⟩)
        go_meet
        case rel => exact ⟨by rw [X1.out]; try simp [show decide (b < 0) = false from decide_eq_false (by omega)], by rw [X2.out]; try simp [show decide (a < 0) = false from decide_eq_false (by omega)], rfl⟩
      · have X1 : Hid (sb = tb) := Lib.hid (by rw [HSB.out, decide_eq_false h1]; rfl)
        have X2 : Hid (sa = ta) := Lib.hid (by rw [HSA.out, decide_eq_false h2]; rfl)
        clear HSB HSA
        go_wp2_with (go_at_call 127; (first | with_reducible refine (HSa.out _).mono ?_ | with_reducible refine (HSb.out _).mono ?_); rintro e w1 ⟨rfl, rfl⟩)
        go_meet
        case rel => exact ⟨by rw [X1.out]; try simp [show decide (b < 0) = false from decide_eq_false (by omega)], by rw [X2.out]; try simp [show decide (a < 0) = false from decide_eq_false (by omega)], rfl⟩
  case rest =>
  obtain ⟨rfl, rfl, rfl⟩ := hcut
  clear HSB HSA HSb HSa
  obtain ⟨l, hl⟩ : ∃ q, q = (!sa && (!pa || sb || pb)) := ⟨_, rfl⟩
  obtain ⟨r, hr⟩ : ∃ q, q = (!sb && (!pb || sa || pa)) := ⟨_, rfl⟩
  simp only [← hl, ← hr] at HF
  have HBW : Hid (Below w.heap.size w w) := Lib.hid (Below.refl _ _)
  go_upto_region 2 with fail
  go_cut [10] (fun s10 wx => s10 = .bool l ∧ Below w.heap.size w wx)
  case first =>
    clear hr HF
    cases sb <;> cases sa <;> cases pb <;> cases pa <;> simp at hl <;> subst hl
    all_goals
      go_wp2_with (go_at_call 128; (first | with_reducible refine (HPa.out _).mono ?_ | with_reducible refine (HPb.out _).mono ?_); rintro e w1 ⟨rfl, b1⟩; replace HBW := Lib.hid (HBW.out.trans (b1.mono HBW.out.size)); clear b1)
      go_meet
      case rel => exact ⟨rfl, HBW.out⟩
  case rest =>
  obtain ⟨rfl, hb3⟩ := hcut
  replace HBW := Lib.hid hb3
  clear hl hb3
  go_upto_region 3 with fail
  go_cut [11] (fun s11 wx => s11 = .bool r ∧ Below w.heap.size w wx)
  case first =>
    clear HF
    cases sb <;> cases sa <;> cases pb <;> cases pa <;> simp at hr <;> subst hr
    all_goals
      go_wp2_with (go_at_call 128; (first | with_reducible refine (HPa.out _).mono ?_ | with_reducible refine (HPb.out _).mono ?_); rintro e w1 ⟨rfl, b1⟩; replace HBW := Lib.hid (HBW.out.trans (b1.mono HBW.out.size)); clear b1)
      go_meet
      case rel => exact ⟨rfl, HBW.out⟩
  case rest =>
      obtain ⟨rfl, hb4⟩ := hcut
      replace HBW := Lib.hid hb4
      clear hr hb4
      by_cases c1 : ch.toList = [42]
      · have HG : Hid (F = (l, r)) := Lib.hid (by rw [HF.out, if_pos (.inl c1)])
        have z1 : (ch.toList == ([42] : List UInt8)) = true := beq_iff_eq.2 c1
        clear c1 HF
        go_wp2_with fail
        go_ret2
        exact ⟨by rw [HG.out]; rfl, HBW.out⟩
      · have z1 : (ch.toList == ([42] : List UInt8)) = false := beq_eq_false_iff_ne.2 c1
        by_cases c2 : ch.toList = [126]
        · have HG : Hid (F = (l, r)) := Lib.hid (by rw [HF.out, if_pos (.inr c2)])
          have z2 : (ch.toList == ([126] : List UInt8)) = true := beq_iff_eq.2 c2
          clear c1 c2 HF
          go_wp2_with fail
          go_ret2
          exact ⟨by rw [HG.out]; rfl, HBW.out⟩
        · have z2 : (ch.toList == ([126] : List UInt8)) = false := beq_eq_false_iff_ne.2 c2
          by_cases c3 : ch.toList = [95]
          · have HG : Hid (F = (l && (!r || pb), r && (!l || pa))) := Lib.hid (by rw [HF.out, if_neg (by simp [c1, c2]), if_pos c3])
            have z3 : (ch.toList == ([95] : List UInt8)) = true := beq_iff_eq.2 c3
            clear c1 c2 c3 HF
            cases l <;> cases r
            all_goals
              go_wp2_with (go_at_call 128; (first | with_reducible refine (HPa.out _).mono ?_ | with_reducible refine (HPb.out _).mono ?_); rintro e w1 ⟨rfl, b1⟩; replace HBW := Lib.hid (HBW.out.trans (b1.mono HBW.out.size)); clear b1)
              go_ret2
              exact ⟨by rw [HG.out]; simp, HBW.out⟩
          · have HG : Hid (F = (false, false)) := Lib.hid (by rw [HF.out, if_neg (by simp [c1, c2]), if_neg c3])
            have z3 : (ch.toList == ([95] : List UInt8)) = false := beq_eq_false_iff_ne.2 c3
            clear c1 c2 c3 HF
            go_wp2_with fail
            go_ret2
            exact ⟨by rw [HG.out]; rfl, HBW.out⟩

end Go.Proofs.YtcjkgmfidkgamaaGreatDoor
