/-
  Texts of the proof, put together (what this law reaches): ScRE, ScRG, ScRH.
-/
import Derived.Test.YtcjkgmfidkgamaaGreatDoorD06
import Derived.Test.YtcjkgmfidkgamaaGreatDoorD09
import Derived.Test.YtcjkgmfidkgamaaGreatDoorD11
import Derived.Test.YtcjkgmfidkgamaaGreatDoorD05
import Derived.Laws.Tables
import Derived.Deep.DeepCutAuto
import Derived.Test.YtcjkgmfidkgamaaGreatDoorD16
import Derived.Deep.AppendLies
set_option linter.unusedVariables false
set_option linter.unusedSimpArgs false
namespace Go.Proofs.YtcjkgmfidkgamaaGreatDoor
open Go.RowKit Go.Pub
def szV : Value → Nat | .string s => s.size | _ => 0
theorem str_ne {x : ByteArray} (h : 0 < x.size) : x.toList ≠ [] := (cons_list x fun e => by have := (size_nil x).2 e; omega).1
theorem str_nil {x : ByteArray} (h : x.size = 0) : x.toList = [] := (nil_list x ((size_nil x).1 h)).1
set_option maxRecDepth 100000 in
set_option maxHeartbeats 1000000 in
theorem r9_trim (s : ByteArray) (w : World) (hs : s.size ≤ 1000000) : Calls Tryz.prog 68 #[.string s] w fun e w' => e = .returned (.string (mk (trimL (bytesL s)))) ∧ w = w' := by
  obtain ⟨R, hR⟩ : ∃ R, R = trimL (bytesL s) := ⟨_, rfl⟩
  rw [← hR]
  have HR : Hid (trimL (bytesL s) = R) := Lib.hid hR.symm
  clear hR
  go_enter Tryz.func68, Tryz.ntmps68
  go_wp2_with fail
  go_loop [0] (fun v => ∃ x : ByteArray, v = .string x ∧ x.size ≤ 1000000 ∧ Hid (trimL (bytesL x) = R)) (fun v => szV v)
  case atStart => exact ⟨s, rfl, hs, HR⟩
  case round =>
    clear HR
    obtain ⟨x, rfl, hx, HX⟩ := hrel
    obtain ⟨q, hq⟩ : ∃ q, q = (decide (0 < x.size) && bt x 0 == 32) := ⟨_, rfl⟩
    have HQ := Lib.hid hq
    clear hq
    go_upto_region 1 with fail
    go_cut [9] from 3 to 11 (fun s9 wx => s9 = .bool q ∧ w = wx)
    case first =>
      by_cases h0 : 0 < x.size
      · have hg := get_bt x 0 h0
        have y1 := str_ne h0
        have y2 : x.toList.isEmpty = false := by rw [List.isEmpty_eq_false_iff]; exact y1
        have y3 : (x.toList != ([] : List UInt8)) = true := bne_iff_ne.2 y1
        by_cases hb : bt x 0 = 32
        · have HQ2 : Hid (q = true) := Lib.hid (by rw [HQ.out, decide_eq_true h0, hb]; rfl)
          rw [hb] at hg
          clear hb HQ
          go_wp2_with fail
          go_meet
          case rel => exact ⟨by rw [HQ2.out], rfl⟩
        · have HQ2 : Hid (q = false) := Lib.hid (by rw [HQ.out, decide_eq_true h0, Bool.true_and]; exact beq_eq_false_iff_ne.2 hb)
          have n1 : ((bt x 0 : Int) == 32) = false := beq_eq_false_iff_ne.2 (by omega)
          clear hb HQ
          generalize bt x 0 = b at *
          go_wp2_with fail
          go_meet
          case rel => exact ⟨by rw [HQ2.out], rfl⟩
      · have HQ2 : Hid (q = false) := Lib.hid (by rw [HQ.out, decide_eq_false h0]; rfl)
        have y1 := str_nil (x := x) (by omega)
        have y2 : x.toList.isEmpty = true := by rw [y1]; rfl
        have y3 : (x.toList != ([] : List UInt8)) = false := by rw [y1]; rfl
        clear HQ
        go_wp2_with fail
        go_meet
        case rel => exact ⟨by rw [HQ2.out], rfl⟩
    case rest =>
    obtain ⟨rfl, rfl⟩ := hcut
    cases q
    · have HH : Hid (x.size = 0 ∨ bt x 0 ≠ 32) := Lib.hid (by
        have := HQ.out
        simp at this
        rcases Nat.eq_zero_or_pos x.size with h | h
        · exact .inl h
        · exact .inr (this h))
      clear HQ
      go_wp2_with fail
      go_loop [0] (fun v => ∃ y : ByteArray, v = .string y ∧ y.size ≤ 1000000 ∧ Hid (trimL (bytesL y) = R) ∧ Hid (y.size = 0 ∨ bt y 0 ≠ 32)) (fun v => szV v)
      case atStart => exact ⟨x, rfl, hx, HX, HH⟩
      case round =>
        clear HX HH hx
        obtain ⟨y, rfl, hy, HX, HH⟩ := hrel
        obtain ⟨q, hq⟩ : ∃ q, q = (decide (0 < y.size) && bt y (y.size - 1) == 32) := ⟨_, rfl⟩
        have HQ := Lib.hid hq
        clear hq
        have e1 : 0 < y.size → (y.size : Int) - 1 = ((y.size - 1 : Nat) : Int) := fun h => by omega
        have e2 : 0 < y.size → ((y.size : Int) - 1).toNat = y.size - 1 := fun h => by omega
        go_upto_region 3 with fail
        go_cut [21] from 12 to 26 (fun s21 wx => s21 = .bool q ∧ w = wx)
        case first =>
          by_cases h0 : 0 < y.size
          · have hg := get_bt y (y.size - 1) (by omega)
            have f1 := e1 h0
            have f2 := e2 h0
            have y1 := str_ne h0
            have y2 : y.toList.isEmpty = false := by rw [List.isEmpty_eq_false_iff]; exact y1
            have y3 : (y.toList != ([] : List UInt8)) = true := bne_iff_ne.2 y1
            by_cases hb : bt y (y.size - 1) = 32
            · have HQ2 : Hid (q = true) := Lib.hid (by rw [HQ.out, decide_eq_true h0, hb]; rfl)
              rw [hb] at hg
              clear hb HQ e1 e2
              go_wp2_with fail
              go_meet
              case rel => exact ⟨by rw [HQ2.out], rfl⟩
            · have HQ2 : Hid (q = false) := Lib.hid (by rw [HQ.out, decide_eq_true h0, Bool.true_and]; exact beq_eq_false_iff_ne.2 hb)
              have n1 : ((bt y (y.size - 1) : Int) == 32) = false := beq_eq_false_iff_ne.2 (by omega)
              clear hb HQ e1 e2
              generalize bt y (y.size - 1) = b at *
              go_wp2_with fail
              go_meet
              case rel => exact ⟨by rw [HQ2.out], rfl⟩
          · have HQ2 : Hid (q = false) := Lib.hid (by rw [HQ.out, decide_eq_false h0]; rfl)
            have y1 := str_nil (x := y) (by omega)
            have y2 : y.toList.isEmpty = true := by rw [y1]; rfl
            have y3 : (y.toList != ([] : List UInt8)) = false := by rw [y1]; rfl
            clear HQ e1 e2
            go_wp2_with fail
            go_meet
            case rel => exact ⟨by rw [HQ2.out], rfl⟩
        case rest =>
        obtain ⟨rfl, rfl⟩ := hcut
        cases q
        · have HE : Hid (y = mk R) := Lib.hid (by
            rw [← HX.out]
            refine trim_done HH.out ?_
            have := HQ.out
            simp at this
            rcases Nat.eq_zero_or_pos y.size with h | h
            · exact .inl h
            · exact .inr (this h))
          clear HX HH HQ e1 e2
          go_wp2_with fail
          go_ret
          exact ⟨ret_str HE.out, rfl⟩
        · obtain ⟨h0, hb⟩ : 0 < y.size ∧ bt y (y.size - 1) = 32 := by
            have := HQ.out.symm
            simpa using this
          have f1 := e1 h0
          have f2 := e2 h0
          have HN : Hid (trimL (bytesL (y.extract 0 (y.size - 1))) = R) := Lib.hid ((trim_final h0 hb).trans HX.out)
          have hz : (y.extract 0 (y.size - 1)).size = y.size - 1 := by rw [ByteArray.size_extract]; omega
          have HN2 : Hid ((y.extract 0 (y.size - 1)).size = 0 ∨ bt (y.extract 0 (y.size - 1)) 0 ≠ 32) := Lib.hid (by
            rcases (by omega : y.size = 1 ∨ 2 ≤ y.size) with h | h
            · exact .inl (by omega)
            · refine .inr ?_
              rw [extract_bt y 0 (y.size - 1) (by omega) 0 (by omega), Nat.zero_add]
              exact HH.out.resolve_left (by omega))
          clear HX HH HQ e1 e2 hb
          go_wp2_with fail
          go_round
          case rel => exact ⟨_, rfl, by omega, HN, HN2⟩
          case measure => simp only [szV]; omega
    · obtain ⟨h0, hb⟩ : 0 < x.size ∧ bt x 0 = 32 := by
        have := HQ.out.symm
        simpa using this
      have HN : Hid (trimL (bytesL (x.extract 1 x.size)) = R) := Lib.hid ((trim_first h0 hb).trans HX.out)
      have hz : (x.extract 1 x.size).size = x.size - 1 := by rw [ByteArray.size_extract]; omega
      clear HQ HX hb
      go_wp2_with fail
      go_round
      case rel => exact ⟨_, rfl, by omega, HN⟩
      case measure => simp only [szV]; omega

end Go.Proofs.YtcjkgmfidkgamaaGreatDoor
namespace Go.Proofs.YtcjkgmfidkgamaaGreatDoor
open Go.RowKit Go.Pub
set_option maxRecDepth 100000 in
set_option maxHeartbeats 4000000 in
theorem r9_cited (p : ByteArray) (w : World) (hs : p.size ≤ 1000000) : Calls Tryz.prog 36 #[.string p] w (CitPost (citedI p) w) := by
  have HNE := Lib.hid fun a n h hn => AtW.not_one (p := p) (a := a) (n := n) h hn
  have HON := Lib.hid fun a h => AtW.one (p := p) (a := a) h
  have HNM := Lib.hid fun (i : Nat) (hi : i ≤ p.size) W => r9_name p i W hs hi
  have HTR := Lib.hid fun (x : ByteArray) (hx : x.size ≤ 1000000) W => r9_trim x W hx
  have HZ0 := Lib.hid (Blk.new w 47 zCit)
  have HZS : Hid ((w.alloc (.cells zCit 47)).heap.size = w.heap.size + 1) := Lib.hid (World.size_alloc _ _)
  have HZB := Lib.hid ((Below.refl w.heap.size w).alloc (Nat.le_refl _) (.cells zCit 47))
  generalize citedI p = R at *
  go_enter Tryz.func36, Tryz.ntmps36
  go_upto_region 3 with fail
  unfold zCit at HZ0 HZB HZS
  generalize w.alloc (.cells #[.string ⟨#[]⟩, .string ⟨#[]⟩, .string ⟨#[]⟩, .bool false] 47) = W0 at *
  go_loop [4, 5, 6] (fun v4 v5 v6 => ∃ a n i : Nat, v6 = .int .i64 i ∧ v4 = .int .i64 a ∧ v5 = .int .i64 n ∧ i ≤ p.size ∧ Hid (AtW p i a n)) (fun _ _ v6 => p.size - (intOf v6).toNat)
  case atStart => exact ⟨0, 0, 0, rfl, rfl, rfl, Nat.zero_le _, Lib.hid (AtW.start p)⟩
  case round =>
    obtain ⟨a, n, i, rfl, rfl, rfl, hi, HA⟩ := hrel
    by_cases hl : i < p.size
    · have hg := get_bt p i hl
      have hbd := HA.out.le
      by_cases hb : bt p i = 64
      · have HN := Lib.hid (HA.out.sign hb)
        rw [hb] at hg
        clear hb HA HNE HON HNM HTR HZ0 HZB HZS
        go_wp2_with fail
        go_round
        case rel => exact ⟨i, n + 1, i + 1, by go_num, rfl, by go_num, by omega, HN⟩
        case measure => simp [intOf]; omega
      · have HN := Lib.hid (HA.out.skip hb)
        have n1 : ((bt p i : Int) == 64) = false := beq_eq_false_iff_ne.2 (by omega)
        clear hb HA HNE HON HNM HTR HZ0 HZB HZS
        generalize bt p i = b at *
        go_wp2_with fail
        go_round
        case rel => exact ⟨a, n, i + 1, by go_num, rfl, rfl, by omega, HN⟩
        case measure => simp [intOf]; omega
    · obtain rfl : i = p.size := by omega
      by_cases h1 : n = 1
      · subst h1
        obtain ⟨ha, h64, hR⟩ := HON.out a HA.out
        have HR := Lib.hid hR
        obtain ⟨b, hb⟩ : ∃ b, b = barB p a := ⟨_, rfl⟩
        obtain ⟨f, hf⟩ : ∃ f, f = frA p a := ⟨_, rfl⟩
        have hfb : f = if b = true then a - 1 else a := by rw [hf, hb]; rfl
        have hbb : b = (decide (0 < a) && bt p (a - 1) == 45) := hb
        rw [← hf, ← hb] at HR
        have HNa := Lib.hid (HNM.out (a + 1) (by omega))
        rw [show ((a + 1 : Nat) : Int) = (a : Int) + 1 by omega] at HNa
        have hba : b = true → 0 < a := fun h => by
          rcases Nat.eq_zero_or_pos a with x | x
          · rw [h, x] at hbb; simp at hbb
          · exact x
        have hfa : f ≤ a := by rw [hfb]; split <;> omega
        clear hR HA HNE HON HNM h64 hb hf
        go_upto_region 10 with fail
        go_cut [7] (fun s7 wx => s7 = .pointer (some ⟨w.heap.size + 1, 0, none⟩) ∧ Blk wx w.heap.size 47 zCit ∧ Blk wx (w.heap.size + 1) 47 #[.string ⟨#[]⟩, .string ⟨#[]⟩, .string ⟨#[]⟩, .bool b] ∧ Below w.heap.size w wx)
        case first =>
          clear HR HNa HTR hfb hba hfa
          by_cases h0 : 0 < a
          · have ea : (a : Int) - 1 = ((a - 1 : Nat) : Int) := by omega
            have hga := get_bt p (a - 1) (by omega)
            have ha1 : a - 1 < p.size := by omega
            by_cases h45 : bt p (a - 1) = 45
            · obtain rfl : b = true := by rw [hbb, h45, decide_eq_true h0]; rfl
              rw [h45] at hga
              clear hbb h45
              go_wp2_with fail
              go_meet
              case rel => exact ⟨by rw [HZS.out], HZ0.out.alloc _, by have h := Blk.new W0 47 #[.string ⟨#[]⟩, .string ⟨#[]⟩, .string ⟨#[]⟩, .bool true]; rwa [HZS.out] at h, HZB.out.alloc (by rw [HZS.out]; omega) _⟩
            · obtain rfl : b = false := by rw [hbb, beq_eq_false_iff_ne.2 h45, Bool.and_false]
              have n1 : ((bt p (a - 1) : Int) == 45) = false := beq_eq_false_iff_ne.2 (by omega)
              clear hbb h45
              generalize bt p (a - 1) = ch at *
              go_wp2_with fail
              go_meet
              case rel => exact ⟨by rw [HZS.out], HZ0.out.alloc _, by have h := Blk.new W0 47 #[.string ⟨#[]⟩, .string ⟨#[]⟩, .string ⟨#[]⟩, .bool false]; rwa [HZS.out] at h, HZB.out.alloc (by rw [HZS.out]; omega) _⟩
          · obtain rfl : b = false := by rw [hbb, decide_eq_false h0]; rfl
            clear hbb
            go_wp2_with fail
            go_meet
            case rel => exact ⟨by rw [HZS.out], HZ0.out.alloc _, by have h := Blk.new W0 47 #[.string ⟨#[]⟩, .string ⟨#[]⟩, .string ⟨#[]⟩, .bool false]; rwa [HZS.out] at h, HZB.out.alloc (by rw [HZS.out]; omega) _⟩
        case rest =>
        obtain ⟨rfl, hb0, hb1, hbw⟩ := hcut
        have HB0 := Lib.hid hb0
        have HB1 := Lib.hid hb1
        have HBw := Lib.hid hbw
        rename World => W1
        obtain ⟨c0, c1, c2, c3, f0, f1, f2, f3⟩ := cit_facts hb0
        obtain ⟨k0, k1, k2, k3, g0, g1, g2, g3⟩ := cit_facts hb1
        have HE := Lib.hid fun k (h : nmEnd p (a + 1) = some k) => nmEnd_bd h
        clear hb0 hb1 hbw HZ0 HZB HZS hbb
        generalize nmEnd p (a + 1) = E at *
        go_upto_if 38 with fail
        go_cut [8] (fun s8 wx => s8 = .int .i64 f ∧ W1 = wx)
        case first =>
          clear HR HNa HTR HE
          cases b
          · have hf2 : f = a := by rw [hfb, if_neg (by simp)]
            subst hf2
            clear hfb hba
            go_wp2_with fail
            go_meet
            case rel => exact ⟨rfl, rfl⟩
          · have h0 := hba rfl
            have hf2 : f = a - 1 := by rw [hfb, if_pos rfl]
            subst hf2
            have ea : (a : Int) - 1 = ((a - 1 : Nat) : Int) := by omega
            clear hfb hba
            go_wp2_with fail
            go_meet
            case rel => exact ⟨rfl, rfl⟩
        case rest =>
        obtain ⟨rfl, rfl⟩ := hcut
        clear hfb hba
        go_wp2_with fail
        ((with_reducible refine (HNa.out _).mono ?_))
        rintro e w1 ⟨rfl, rfl⟩
        cases E with
        | none =>
          have HF : Hid (R = none) := Lib.hid (by rw [HR.out]; split <;> rfl)
          rw [show endV none = -1 from rfl]
          clear HR HNa HTR HE
          go_wp2_with fail
          exact cit_ret Tryz.results36 (blk4 HB0.out _ _ _ _) rfl rfl rfl ⟨by rw [HF.out]; rfl, below4 HBw.out (Nat.le_refl _) _ _ _ _⟩
        | some k =>
          have hk := HE.out k rfl
          have hk1 := hk.2.1
          have hk2 := hk.2.2
          clear hk
          rw [show endV (some k) = (k : Int) from rfl]
          clear HE HNa
          obtain ⟨q, hq⟩ : ∃ q, q = (decide (0 < f) && bt p (f - 1) != 32) := ⟨_, rfl⟩
          have HQ := Lib.hid hq
          clear hq
          go_upto_region 15 with fail
          go_cut [57] (fun s57 wx => s57 = .bool q ∧ W1 = wx)
          case first =>
            clear HR HTR
            by_cases h0 : 0 < f
            · have ef : (f : Int) - 1 = ((f - 1 : Nat) : Int) := by omega
              have hgf := get_bt p (f - 1) (by omega)
              have hf1 : f - 1 < p.size := by omega
              by_cases h32 : bt p (f - 1) = 32
              · have HQ2 : Hid (q = false) := Lib.hid (by rw [HQ.out, h32, decide_eq_true h0]; rfl)
                rw [h32] at hgf
                clear h32 HQ
                go_wp2_with fail
                go_meet
                case rel => exact ⟨by rw [HQ2.out]; try (rw [show decide ((k : Int) < 0) = false from decide_eq_false (by omega)]), rfl⟩
              · have HQ2 : Hid (q = true) := Lib.hid (by rw [HQ.out, decide_eq_true h0, Bool.true_and]; exact bne_iff_ne.2 h32)
                have n1 : ((bt p (f - 1) : Int) != 32) = true := bne_iff_ne.2 (by omega)
                clear h32 HQ
                generalize bt p (f - 1) = ch at *
                go_wp2_with fail
                go_meet
                case rel => exact ⟨by rw [HQ2.out]; try (rw [show decide ((k : Int) < 0) = false from decide_eq_false (by omega)]), rfl⟩
            · have HQ2 : Hid (q = false) := Lib.hid (by rw [HQ.out, decide_eq_false h0]; rfl)
              clear HQ
              go_wp2_with fail
              go_meet
              case rel => exact ⟨by rw [HQ2.out]; try (rw [show decide ((k : Int) < 0) = false from decide_eq_false (by omega)]), rfl⟩
          case rest =>
          obtain ⟨rfl, rfl⟩ := hcut
          cases q
          · have HF : Hid (R = some ⟨p.extract (a + 1) k, mk (trimL (sub p 0 f)), mk (trimL (sfx p k)), b⟩) := Lib.hid (by
              rw [HR.out, if_pos]
              · rfl
              · have h := HQ.out
                rcases Nat.eq_zero_or_pos f with h0 | h0
                · exact .inl h0
                · right
                  rw [decide_eq_true h0, Bool.true_and] at h
                  simpa using h.symm)
            have HT1 := Lib.hid fun W => HTR.out (p.extract 0 f) (by rw [ByteArray.size_extract]; omega) W
            have HT2 := Lib.hid fun W => HTR.out (p.extract k p.size) (by rw [ByteArray.size_extract]; omega) W
            rw [bytesL_sub] at HT1
            rw [suffix_bytes] at HT2
            generalize mk (trimL (sub p 0 f)) = t1 at *
            generalize mk (trimL (sfx p k)) = t2 at *
            have hsl : a + 1 ≤ k := by omega
            clear HR HQ HTR
            go_wp2_with fail
            ((with_reducible refine (HT1.out _).mono ?_))
            rintro e w1 ⟨rfl, rfl⟩
            go_wp2_with fail
            ((with_reducible refine (HT2.out _).mono ?_))
            rintro e w1 ⟨rfl, rfl⟩
            go_wp2_with fail
            exact cit_ret Tryz.results36 (blk4 (((HB0.out.far (p := ⟨w.heap.size + 1, 0, none⟩) (by simp) _).far (p := ⟨w.heap.size + 1, 1, none⟩) (by simp) _).far (p := ⟨w.heap.size + 1, 2, none⟩) (by simp) _) _ _ _ _) rfl rfl rfl ⟨by rw [HF.out]; rfl, below4 (((HBw.out.setCell (p := ⟨w.heap.size + 1, 0, none⟩) (by simp) _).setCell (p := ⟨w.heap.size + 1, 1, none⟩) (by simp) _).setCell (p := ⟨w.heap.size + 1, 2, none⟩) (by simp) _) (Nat.le_refl _) _ _ _ _⟩
          · have HF : Hid (R = none) := Lib.hid (by
              rw [HR.out, if_neg]
              have h := HQ.out.symm
              simp at h
              omega)
            clear HR HQ HTR
            go_wp2_with fail
            exact cit_ret Tryz.results36 (blk4 HB0.out _ _ _ _) rfl rfl rfl ⟨by rw [HF.out]; rfl, below4 HBw.out (Nat.le_refl _) _ _ _ _⟩
      · have HF := Lib.hid (HNE.out a n HA.out h1)
        have n1 : ((n : Int) != 1) = true := bne_iff_ne.2 (by omega)
        obtain ⟨c0, c1, c2, c3, f0, f1, f2, f3⟩ := cit_facts HZ0.out
        clear HA HNE HON HNM HTR h1
        go_wp2_with fail
        exact cit_ret Tryz.results36 (blk4 HZ0.out _ _ _ _) rfl rfl rfl ⟨by rw [HF.out]; rfl, below4 HZB.out (Nat.le_refl _) _ _ _ _⟩

end Go.Proofs.YtcjkgmfidkgamaaGreatDoor
namespace Go.Pub
/-- What is read up to i. -/
def CtW (s : ByteArray) (i a : Nat) (cs : List CitL) : Prop := (i ≤ s.size ∧ CitW s i a cs) ∨ (i = s.size + 1 ∧ citesI s = some cs)
end Go.Pub
namespace Go.Proofs.YtcjkgmfidkgamaaGreatDoor
open Go.RowKit Go.Pub
theorem cites_none {r : Option (List CitL)} {w w' : World} (hr : r = none) (hb : Below w.heap.size w w') : CitesPost r w (.returned (.tuple #[.slice none 0 0, .bool false])) w' := by
  subst hr; exact ⟨hb, rfl⟩
theorem cites_some {r : Option (List CitL)} {w w' : World} {cs : List CitL} {A : Option Addr} {c : Nat} (hr : r = some cs) (hb : Below w.heap.size w w') (ho : w'.ownsRow w.heap.size 47 4 (.slice A cs.length c) cs.length (citCs cs)) : CitesPost r w (.returned (.tuple #[.slice A cs.length c, .bool true])) w' := by
  subst hr; exact ⟨hb, A, c, rfl, ReadsS.of_own ho⟩
theorem citCs_snoc (cs : List CitL) (c : CitL) : citCs (cs ++ [c]) = citCs cs ++ citC c := by unfold citCs; rw [List.flatMap_append]; simp
set_option maxRecDepth 100000 in
set_option maxHeartbeats 4000000 in
theorem r9_Cites (s : ByteArray) (w : World) (hs : s.size ≤ 1000000) : Calls Tryz.prog 21 #[.string s] w (CitesPost (citesI s) w) := by
  have HCI := Lib.hid fun (x : ByteArray) (hx : x.size ≤ 1000000) W => r9_cited x W hx
  obtain ⟨i0, hi0, hz0, hz1, hz2⟩ := info_parts cited_info
  obtain ⟨R, hR⟩ : ∃ R, R = citesI s := ⟨_, rfl⟩
  rw [← hR]
  have HRR := Lib.hid hR
  clear hR
  go_enter Tryz.func21, Tryz.ntmps21
  go_wp2_with fail
  go_loopw [4, 5, 6] (fun v4 v5 v6 wr => ∃ (i a : Nat) (cs : List CitL), v6 = .int .i64 i ∧ v5 = .int .i64 a ∧ i ≤ s.size + 1 ∧ a ≤ i ∧ cs.length ≤ i ∧ Hid (CtW s i a cs) ∧ Hid (wr.ownsRow w.heap.size 47 4 v4 cs.length (citCs cs)) ∧ Hid (Below w.heap.size w wr)) (fun _ _ v6 _ => s.size + 1 - (intOf v6).toNat)
  case atStart => exact ⟨0, 0, [], rfl, rfl, Nat.zero_le _, Nat.le_refl _, Nat.le_refl _, Lib.hid (.inl ⟨Nat.zero_le _, CitW.start s⟩), Lib.hid (World.ownsRow_nil _ _ _ _), Lib.hid (Below.refl _ _)⟩
  case round =>
    obtain ⟨i, a, cs, rfl, rfl, hi, hai, hcl, HW, HO, HB⟩ := hrel
    obtain ⟨A, c, rfl⟩ := own_slice HO.out
    by_cases hl : i ≤ s.size
    · have HC : Hid (CitW s i a cs) := Lib.hid (by
        rcases HW.out with h | h
        · exact h.2
        · omega)
      clear HW
      obtain ⟨q, hq⟩ : ∃ q, q = (decide (i < s.size) && badN (bt s i)) := ⟨_, rfl⟩
      have HQ := Lib.hid hq
      clear hq
      go_upto_region 6 with fail
      go_cut [54] (fun s54 wx => s54 = .bool q ∧ wr = wx)
      case first =>
        clear HCI HRR HC HO HB
        by_cases hl2 : i < s.size
        · have hg := get_bt s i hl2
          by_cases hb : bt s i = 91 ∨ bt s i = 93 ∨ bt s i = 96 ∨ bt s i = 123 ∨ bt s i = 36 ∨ bt s i = 10
          · have HQ2 : Hid (q = true) := Lib.hid (by rw [HQ.out, decide_eq_true hl2]; rcases hb with h | h | h | h | h | h <;> rw [h] <;> rfl)
            clear HQ
            rcases hb with h | h | h | h | h | h
            all_goals
              rw [h] at hg
              clear h
              go_wp2_with fail
              go_meet
              case rel => exact ⟨by rw [HQ2.out], rfl⟩
          · have HQ2 : Hid (q = false) := Lib.hid (by
              rw [HQ.out, decide_eq_true hl2, Bool.true_and]
              unfold badN
              rw [beq_eq_false_iff_ne.2 (show bt s i ≠ 91 by omega), beq_eq_false_iff_ne.2 (show bt s i ≠ 93 by omega), beq_eq_false_iff_ne.2 (show bt s i ≠ 96 by omega), beq_eq_false_iff_ne.2 (show bt s i ≠ 123 by omega), beq_eq_false_iff_ne.2 (show bt s i ≠ 36 by omega), beq_eq_false_iff_ne.2 (show bt s i ≠ 10 by omega)]
              rfl)
            have n1 : ((bt s i : Int) == 91) = false := beq_eq_false_iff_ne.2 (by omega)
            have n2 : ((bt s i : Int) == 93) = false := beq_eq_false_iff_ne.2 (by omega)
            have n3 : ((bt s i : Int) == 96) = false := beq_eq_false_iff_ne.2 (by omega)
            have n4 : ((bt s i : Int) == 123) = false := beq_eq_false_iff_ne.2 (by omega)
            have n5 : ((bt s i : Int) == 36) = false := beq_eq_false_iff_ne.2 (by omega)
            have n6 : ((bt s i : Int) == 10) = false := beq_eq_false_iff_ne.2 (by omega)
            clear hb HQ
            generalize bt s i = b at *
            go_wp2_with fail
            go_meet
            case rel => exact ⟨by rw [HQ2.out], rfl⟩
        · have HQ2 : Hid (q = false) := Lib.hid (by rw [HQ.out, decide_eq_false hl2]; rfl)
          clear HQ
          go_wp2_with fail
          go_meet
          case rel => exact ⟨by rw [HQ2.out], rfl⟩
      case rest =>
      obtain ⟨rfl, rfl⟩ := hcut
      cases q
      case true =>
        have HF : Hid (R = none) := Lib.hid (by
          have h := HQ.out.symm
          simp at h
          rw [HRR.out]
          exact HC.out.bad h.1 h.2)
        clear HCI HRR HC HO HQ
        go_wp2_with fail
        go_ret2
        exact cites_none HF.out HB.out
      have hgood : i < s.size → badN (bt s i) = false := fun h => by
        have h2 := HQ.out
        rw [decide_eq_true h, Bool.true_and] at h2
        exact h2.symm
      clear HQ
      obtain ⟨q, hq⟩ : ∃ q, q = (decide (i = s.size) || bt s i == 59) := ⟨_, rfl⟩
      have HQ := Lib.hid hq
      clear hq
      have HGD := Lib.hid hgood
      clear hgood
      go_upto_region 8 with fail
      go_cut [64] (fun s64 wx => s64 = .bool q ∧ wr = wx)
      case first =>
        clear HCI HRR HC HO HB HGD
        by_cases hl2 : i = s.size
        · have HQ2 : Hid (q = true) := Lib.hid (by rw [HQ.out, decide_eq_true hl2]; rfl)
          have z1 : ((i : Int) == (s.size : Int)) = true := beq_iff_eq.2 (by omega)
          clear HQ
          go_wp2_with fail
          go_meet
          case rel => exact ⟨by rw [HQ2.out], rfl⟩
        · have hl3 : i < s.size := by omega
          have z1 : ((i : Int) == (s.size : Int)) = false := beq_eq_false_iff_ne.2 (by omega)
          have hg := get_bt s i hl3
          by_cases hb : bt s i = 59
          · have HQ2 : Hid (q = true) := Lib.hid (by rw [HQ.out, hb, decide_eq_false hl2]; rfl)
            rw [hb] at hg
            clear hb HQ
            go_wp2_with fail
            go_meet
            case rel => exact ⟨by rw [HQ2.out], rfl⟩
          · have HQ2 : Hid (q = false) := Lib.hid (by rw [HQ.out, decide_eq_false hl2, Bool.false_or]; exact beq_eq_false_iff_ne.2 hb)
            have n1 : ((bt s i : Int) == 59) = false := beq_eq_false_iff_ne.2 (by omega)
            clear hb HQ
            generalize bt s i = b at *
            go_wp2_with fail
            go_meet
            case rel => exact ⟨by rw [HQ2.out], rfl⟩
      case rest =>
      obtain ⟨rfl, rfl⟩ := hcut
      cases q
      · have hx : i < s.size ∧ bt s i ≠ 59 := by
          have h := HQ.out.symm
          simp at h
          exact ⟨by omega, h.2⟩
        have HN : Hid (CtW s (i + 1) a cs) := Lib.hid (.inl ⟨by omega, HC.out.step (HGD.out hx.1) hx.2⟩)
        clear HQ HGD HC HCI HRR
        go_wp2_with fail
        go_roundw
        case rel => exact ⟨i + 1, a, cs, by go_num, rfl, by omega, by omega, by omega, HN, HO, HB⟩
        case measure => simp [intOf]; omega
      · have hx : i = s.size ∨ (i < s.size ∧ bt s i = 59) := by
          have h := HQ.out.symm
          simp at h
          rcases h with h | h
          · exact .inl h
          · by_cases h2 : i = s.size
            · exact .inl h2
            · exact .inr ⟨by omega, h⟩
        have HCa := Lib.hid fun W => HCI.out (s.extract a i) (by rw [ByteArray.size_extract]; omega) W
        have HEX : Hid ((citedI (s.extract a i) = none → R = none) ∧ ∀ ci, citedI (s.extract a i) = some ci → CtW s (i + 1) (i + 1) (cs ++ [ci])) := Lib.hid (by
          rcases hx with rfl | ⟨h1, h2⟩
          · refine ⟨fun h => by rw [HRR.out, HC.out.last, h]; rfl, fun ci h => .inr ⟨rfl, by rw [HC.out.last, h]; rfl⟩⟩
          · exact ⟨fun h => by rw [HRR.out]; exact HC.out.fail h1 h2 h, fun ci h => .inl ⟨by omega, HC.out.next h1 h2 h⟩⟩)
        clear HQ HGD HC HCI HRR hx
        generalize citedI (s.extract a i) = C at *
        go_wp2_with fail
        ((with_reducible refine (HCa.out _).mono ?_))
        rintro e W1 ⟨rfl, b1⟩
        have HB1 := Lib.hid (HB.out.trans (b1.mono HB.out.size))
        have ho1 := own_below HO.out b1
        have hzz := HB1.out.size
        clear b1 HO HCa
        cases C with
        | none =>
          have HF : Hid (R = none) := Lib.hid (HEX.out.1 rfl)
          rw [show citV none = .agg #[.string ⟨#[]⟩, .string ⟨#[]⟩, .string ⟨#[]⟩, .bool false] from rfl, show (none : Option CitL).isSome = false from rfl]
          clear HEX ho1
          go_wp2_with fail
          go_ret2
          exact cites_none HF.out (HB1.out.alloc (by omega) _)
        | some ci =>
          have HN := Lib.hid (HEX.out.2 ci rfl)
          rw [show citV (some ci) = .agg #[.string ci.key, .string ci.pre, .string ci.suf, .bool ci.bare] from rfl, show (some ci : Option CitL).isSome = true from rfl]
          clear HEX
          have hlt := ho1.lt
          go_wp2_with (at_builtin; refine wpList_append_lies _ rfl _ _ 31 rfl w.heap.size 47 i0 _ 4 56 Tryz.underlying31 hi0 hz0 hz1 hz2 rfl (by decide) _ _ _ rfl ((ho1.alloc _).alloc _) ⟨W1.heap.size + 1, 0, none⟩ 1 1 (citC ci) rfl rfl ?c1 ?c2 (by decide) ?c3 ?c4 ?c5 (W1.heap.size + 2) ?c6 ?_)
          case c1 => exact World.news_of_block (t := 47) (fr := (0, 0)) (cs := #[.string ci.key, .string ci.pre, .string ci.suf, .bool ci.bare]) (by have h := heap_alloc_new (W1.alloc (.cells #[.string ci.key, .string ci.pre, .string ci.suf, .bool ci.bare] 47)) (.cells #[.string ci.key, .string ci.pre, .string ci.suf, .bool ci.bare] 47); rw [World.size_alloc] at h; exact h)
          case c2 => intro u hu; simp [citC] at hu; rcases hu with rfl | rfl | rfl | rfl <;> rfl
          case c3 => unfold maxLen; omega
          case c4 => omega
          case c5 => simp; omega
          case c6 => simp
          intro g7 cap7 w3 hown3 hgrow hlies hlt3
          have HB3 := Lib.hid (((HB1.out.alloc (by omega) (.cells #[.string ci.key, .string ci.pre, .string ci.suf, .bool ci.bare] 47)).alloc (by simp; omega) (.cells #[.string ci.key, .string ci.pre, .string ci.suf, .bool ci.bare] 47)).grown hgrow (by simp; omega) fun k hk => (hlt k hk).1)
          have HO3 : Hid (w3.ownsRow w.heap.size 47 4 (.slice (some ⟨g7, 0, none⟩) (cs.length + 1) cap7) (cs ++ [ci]).length (citCs (cs ++ [ci]))) := Lib.hid (by rw [citCs_snoc, List.length_append]; exact hown3)
          clear hown3 hgrow hlies ho1 hlt HB HB1
          go_wp2_with fail
          go_roundw
          case rel => exact ⟨i + 1, i + 1, cs ++ [ci], by go_num, by go_num, by omega, by omega, by simp; omega, HN, HO3, HB3⟩
          case measure => simp [intOf]; omega
    · have HF : Hid (R = some cs) := Lib.hid (by
        rcases HW.out with h | h
        · omega
        · rw [HRR.out, h.2])
      clear HW HCI HRR
      go_wp2_with fail
      go_ret2
      exact cites_some HF.out HB.out HO.out

end Go.Proofs.YtcjkgmfidkgamaaGreatDoor
