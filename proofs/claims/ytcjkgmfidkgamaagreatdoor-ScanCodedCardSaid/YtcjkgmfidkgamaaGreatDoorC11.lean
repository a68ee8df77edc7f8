/-
  Texts of the proof, put together (what this law reaches): ScRG, ScRH, ScAV, Row, RowS, ScAZ, ScF.
-/
import Derived.Test.YtcjkgmfidkgamaaGreatDoorC10
import Derived.Deep.AppendLies
import Derived.Below
import Derived.ChangeSame
import Derived.ProofKit
import Derived.Handed
import Derived.HandedShaped
import Derived.Test.YtcjkgmfidkgamaaGreatDoorC09
import Derived.Test.YtcjkgmfidkgamaaGreatDoorC01
import Derived.Test.YtcjkgmfidkgamaaGreatDoorC03
set_option linter.unusedVariables false
set_option linter.unusedSimpArgs false
namespace Go.Proofs.YtcjkgmfidkgamaaGreatDoor
open Go.RowKit Go.Pub
set_option maxRecDepth 100000 in
set_option maxHeartbeats 4000000 in
theorem r9_cited (p : ByteArray) (w : World) (hs : p.size ≤ 1000000) : Calls Tryz.prog 36 #[.string p] w (CitPost (citedI p) w) := by
  have HNE := Lib.hid fun a n h hn => AtW.not_one (p := p) (a := a) (n := n) h hn
  have HON := Lib.hid fun a h => AtW.one (p := p) (a := a) h
  have HNM := Lib.hid fun (i : Nat) (hi : i ≤ p.size) W => r9_name p i W hs hi
  have HTR := Lib.hid fun (x : ByteArray) (hx : x.size ≤ 1000000) W => r9_trim x W hx
  have HZ0 := Lib.hid (Blk.new w 47 zCit)
  have HZS : Hid ((w.alloc (.cells zCit 47)).heap.size = w.heap.size + 1) := Lib.hid (World.size_alloc _ _)
  have HZB := Lib.hid ((Below.refl w.heap.size w).alloc (Nat.le_refl _) (.cells zCit 47))
  generalize citedI p = R at *
  go_enter Tryz.func36, Tryz.ntmps36
  go_upto_region 3 with fail
  unfold zCit at HZ0 HZB HZS
  generalize w.alloc (.cells #[.string ⟨#[]⟩, .string ⟨#[]⟩, .string ⟨#[]⟩, .bool false] 47) = W0 at *
  go_loop [4, 5, 6] (fun v4 v5 v6 => ∃ a n i : Nat, v6 = .int .i64 i ∧ v4 = .int .i64 a ∧ v5 = .int .i64 n ∧ i ≤ p.size ∧ Hid (AtW p i a n)) (fun _ _ v6 => p.size - (intOf v6).toNat)
  case atStart => exact ⟨0, 0, 0, rfl, rfl, rfl, Nat.zero_le _, Lib.hid (AtW.start p)⟩
  case round =>
    obtain ⟨a, n, i, rfl, rfl, rfl, hi, HA⟩ := hrel
    by_cases hl : i < p.size
    · have hg := get_bt p i hl
      have hbd := HA.out.le
      by_cases hb : bt p i = 64
      · have HN := Lib.hid (HA.out.sign hb)
        rw [hb] at hg
        clear hb HA HNE HON HNM HTR HZ0 HZB HZS
        go_wp2_with fail
        go_round
        case rel => exact ⟨i, n + 1, i + 1, by go_num, rfl, by go_num, by omega, HN⟩
        case measure => simp [intOf]; omega
      · have HN := Lib.hid (HA.out.skip hb)
        have n1 : ((bt p i : Int) == 64) = false := beq_eq_false_iff_ne.2 (by omega)
        clear hb HA HNE HON HNM HTR HZ0 HZB HZS
        generalize bt p i = b at *
        go_wp2_with fail
        go_round
        case rel => exact ⟨a, n, i + 1, by go_num, rfl, rfl, by omega, HN⟩
        case measure => simp [intOf]; omega
    · obtain rfl : i = p.size := by omega
      by_cases h1 : n = 1
      · subst h1
        obtain ⟨ha, h64, hR⟩ := HON.out a HA.out
        have HR := Lib.hid hR
        obtain ⟨b, hb⟩ : ∃ b, b = barB p a := ⟨_, rfl⟩
        obtain ⟨f, hf⟩ : ∃ f, f = frA p a := ⟨_, rfl⟩
        have hfb : f = if b = true then a - 1 else a := by rw [hf, hb]; rfl
        have hbb : b = (decide (0 < a) && bt p (a - 1) == 45) := hb
        rw [← hf, ← hb] at HR
        have HNa := Lib.hid (HNM.out (a + 1) (by omega))
        rw [show ((a + 1 : Nat) : Int) = (a : Int) + 1 by omega] at HNa
        have hba : b = true → 0 < a := fun h => by
          rcases Nat.eq_zero_or_pos a with x | x
          · rw [h, x] at hbb; simp at hbb
          · exact x
        have hfa : f ≤ a := by rw [hfb]; split <;> omega
        clear hR HA HNE HON HNM h64 hb hf
        go_upto_region 10 with fail
        go_cut [7] (fun s7 wx => s7 = .pointer (some ⟨w.heap.size + 1, 0, none⟩) ∧ Blk wx w.heap.size 47 zCit ∧ Blk wx (w.heap.size + 1) 47 #[.string ⟨#[]⟩, .string ⟨#[]⟩, .string ⟨#[]⟩, .bool b] ∧ Below w.heap.size w wx)
        case first =>
          clear HR HNa HTR hfb hba hfa
          by_cases h0 : 0 < a
          · have ea : (a : Int) - 1 = ((a - 1 : Nat) : Int) := by omega
            have hga := get_bt p (a - 1) (by omega)
            have ha1 : a - 1 < p.size := by omega
            by_cases h45 : bt p (a - 1) = 45
            · obtain rfl : b = true := by rw [hbb, h45, decide_eq_true h0]; rfl
              rw [h45] at hga
              clear hbb h45
              go_wp2_with fail
              go_meet
              case rel => exact ⟨by rw [HZS.out], HZ0.out.alloc _, by have h := Blk.new W0 47 #[.string ⟨#[]⟩, .string ⟨#[]⟩, .string ⟨#[]⟩, .bool true]; rwa [HZS.out] at h, HZB.out.alloc (by rw [HZS.out]; omega) _⟩
            · obtain rfl : b = false := by rw [hbb, beq_eq_false_iff_ne.2 h45, Bool.and_false]
              have n1 : ((bt p (a - 1) : Int) == 45) = false := beq_eq_false_iff_ne.2 (by omega)
              clear hbb h45
              generalize bt p (a - 1) = ch at *
              go_wp2_with fail
              go_meet
              case rel => exact ⟨by rw [HZS.out], HZ0.out.alloc _, by have h := Blk.new W0 47 #[.string ⟨#[]⟩, .string ⟨#[]⟩, .string ⟨#[]⟩, .bool false]; rwa [HZS.out] at h, HZB.out.alloc (by rw [HZS.out]; omega) _⟩
          · obtain rfl : b = false := by rw [hbb, decide_eq_false h0]; rfl
            clear hbb
            go_wp2_with fail
            go_meet
            case rel => exact ⟨by rw [HZS.out], HZ0.out.alloc _, by have h := Blk.new W0 47 #[.string ⟨#[]⟩, .string ⟨#[]⟩, .string ⟨#[]⟩, .bool false]; rwa [HZS.out] at h, HZB.out.alloc (by rw [HZS.out]; omega) _⟩
        case rest =>
        obtain ⟨rfl, hb0, hb1, hbw⟩ := hcut
        have HB0 := Lib.hid hb0
        have HB1 := Lib.hid hb1
        have HBw := Lib.hid hbw
        rename World => W1
        obtain ⟨c0, c1, c2, c3, f0, f1, f2, f3⟩ := cit_facts hb0
        obtain ⟨k0, k1, k2, k3, g0, g1, g2, g3⟩ := cit_facts hb1
        have HE := Lib.hid fun k (h : nmEnd p (a + 1) = some k) => nmEnd_bd h
        clear hb0 hb1 hbw HZ0 HZB HZS hbb
        generalize nmEnd p (a + 1) = E at *
        go_upto_if 38 with fail
        go_cut [8] (fun s8 wx => s8 = .int .i64 f ∧ W1 = wx)
        case first =>
          clear HR HNa HTR HE
          cases b
          · have hf2 : f = a := by rw [hfb, if_neg (by simp)]
            subst hf2
            clear hfb hba
            go_wp2_with fail
            go_meet
            case rel => exact ⟨rfl, rfl⟩
          · have h0 := hba rfl
            have hf2 : f = a - 1 := by rw [hfb, if_pos rfl]
            subst hf2
            have ea : (a : Int) - 1 = ((a - 1 : Nat) : Int) := by omega
            clear hfb hba
            go_wp2_with fail
            go_meet
            case rel => exact ⟨rfl, rfl⟩
        case rest =>
        obtain ⟨rfl, rfl⟩ := hcut
        clear hfb hba
        go_wp2_with fail
        ((with_reducible refine (HNa.out _).mono ?_))
        rintro e w1 ⟨rfl, rfl⟩
        cases E with
        | none =>
          have HF : Hid (R = none) := Lib.hid (by rw [HR.out]; split <;> rfl)
          rw [show endV none = -1 from rfl]
          clear HR HNa HTR HE
          go_wp2_with fail
          exact cit_ret Tryz.results36 (blk4 HB0.out _ _ _ _) rfl rfl rfl ⟨by rw [HF.out]; rfl, below4 HBw.out (Nat.le_refl _) _ _ _ _⟩
        | some k =>
          have hk := HE.out k rfl
          have hk1 := hk.2.1
          have hk2 := hk.2.2
          clear hk
          rw [show endV (some k) = (k : Int) from rfl]
          clear HE HNa
          obtain ⟨q, hq⟩ : ∃ q, q = (decide (0 < f) && bt p (f - 1) != 32) := ⟨_, rfl⟩
          have HQ := Lib.hid hq
          clear hq
          go_upto_region 15 with fail
          go_cut [57] (fun s57 wx => s57 = .bool q ∧ W1 = wx)
          case first =>
            clear HR HTR
            by_cases h0 : 0 < f
            · have ef : (f : Int) - 1 = ((f - 1 : Nat) : Int) := by omega
              have hgf := get_bt p (f - 1) (by omega)
              have hf1 : f - 1 < p.size := by omega
              by_cases h32 : bt p (f - 1) = 32
              · have HQ2 : Hid (q = false) := Lib.hid (by rw [HQ.out, h32, decide_eq_true h0]; rfl)
                rw [h32] at hgf
                clear h32 HQ
                go_wp2_with fail
                go_meet
                case rel => exact ⟨by rw [HQ2.out]; try (rw [show decide ((k : Int) < 0) = false from decide_eq_false (by omega)]), rfl⟩
              · have HQ2 : Hid (q = true) := Lib.hid (by rw [HQ.out, decide_eq_true h0, Bool.true_and]; exact bne_iff_ne.2 h32)
                have n1 : ((bt p (f - 1) : Int) != 32) = true := bne_iff_ne.2 (by omega)
                clear h32 HQ
                generalize bt p (f - 1) = ch at *
                go_wp2_with fail
                go_meet
                case rel => exact ⟨by rw [HQ2.out]; try (rw [show decide ((k : Int) < 0) = false from decide_eq_false (by omega)]), rfl⟩
            · have HQ2 : Hid (q = false) := Lib.hid (by rw [HQ.out, decide_eq_false h0]; rfl)
              clear HQ
              go_wp2_with fail
              go_meet
              case rel => exact ⟨by rw [HQ2.out]; try (rw [show decide ((k : Int) < 0) = false from decide_eq_false (by omega)]), rfl⟩
          case rest =>
          obtain ⟨rfl, rfl⟩ := hcut
          cases q
          · have HF : Hid (R = some ⟨p.extract (a + 1) k, mk (trimL (sub p 0 f)), mk (trimL (sfx p k)), b⟩) := Lib.hid (by
              rw [HR.out, if_pos]
              · rfl
              · have h := HQ.out
                rcases Nat.eq_zero_or_pos f with h0 | h0
                · exact .inl h0
                · right
                  rw [decide_eq_true h0, Bool.true_and] at h
                  simpa using h.symm)
            have HT1 := Lib.hid fun W => HTR.out (p.extract 0 f) (by rw [ByteArray.size_extract]; omega) W
            have HT2 := Lib.hid fun W => HTR.out (p.extract k p.size) (by rw [ByteArray.size_extract]; omega) W
            rw [bytesL_sub] at HT1
            rw [suffix_bytes] at HT2
            generalize mk (trimL (sub p 0 f)) = t1 at *
            generalize mk (trimL (sfx p k)) = t2 at *
            have hsl : a + 1 ≤ k := by omega
            clear HR HQ HTR
            go_wp2_with fail
            ((with_reducible refine (HT1.out _).mono ?_))
            rintro e w1 ⟨rfl, rfl⟩
            go_wp2_with fail
            ((with_reducible refine (HT2.out _).mono ?_))
            rintro e w1 ⟨rfl, rfl⟩
            go_wp2_with fail
            exact cit_ret Tryz.results36 (blk4 (((HB0.out.far (p := ⟨w.heap.size + 1, 0, none⟩) (by simp) _).far (p := ⟨w.heap.size + 1, 1, none⟩) (by simp) _).far (p := ⟨w.heap.size + 1, 2, none⟩) (by simp) _) _ _ _ _) rfl rfl rfl ⟨by rw [HF.out]; rfl, below4 (((HBw.out.setCell (p := ⟨w.heap.size + 1, 0, none⟩) (by simp) _).setCell (p := ⟨w.heap.size + 1, 1, none⟩) (by simp) _).setCell (p := ⟨w.heap.size + 1, 2, none⟩) (by simp) _) (Nat.le_refl _) _ _ _ _⟩
          · have HF : Hid (R = none) := Lib.hid (by
              rw [HR.out, if_neg]
              have h := HQ.out.symm
              simp at h
              omega)
            clear HR HQ HTR
            go_wp2_with fail
            exact cit_ret Tryz.results36 (blk4 HB0.out _ _ _ _) rfl rfl rfl ⟨by rw [HF.out]; rfl, below4 HBw.out (Nat.le_refl _) _ _ _ _⟩
      · have HF := Lib.hid (HNE.out a n HA.out h1)
        have n1 : ((n : Int) != 1) = true := bne_iff_ne.2 (by omega)
        obtain ⟨c0, c1, c2, c3, f0, f1, f2, f3⟩ := cit_facts HZ0.out
        clear HA HNE HON HNM HTR h1
        go_wp2_with fail
        exact cit_ret Tryz.results36 (blk4 HZ0.out _ _ _ _) rfl rfl rfl ⟨by rw [HF.out]; rfl, below4 HZB.out (Nat.le_refl _) _ _ _ _⟩

end Go.Proofs.YtcjkgmfidkgamaaGreatDoor
namespace Go.Pub
/-- What is read up to i. -/
def CtW (s : ByteArray) (i a : Nat) (cs : List CitL) : Prop := (i ≤ s.size ∧ CitW s i a cs) ∨ (i = s.size + 1 ∧ citesI s = some cs)
end Go.Pub
namespace Go.Proofs.YtcjkgmfidkgamaaGreatDoor
open Go.RowKit Go.Pub
theorem cites_none {r : Option (List CitL)} {w w' : World} (hr : r = none) (hb : Below w.heap.size w w') : CitesPost r w (.returned (.tuple #[.slice none 0 0, .bool false])) w' := by
  subst hr; exact ⟨hb, rfl⟩
theorem cites_some {r : Option (List CitL)} {w w' : World} {cs : List CitL} {A : Option Addr} {c : Nat} (hr : r = some cs) (hb : Below w.heap.size w w') (ho : w'.ownsRow w.heap.size 47 4 (.slice A cs.length c) cs.length (citCs cs)) : CitesPost r w (.returned (.tuple #[.slice A cs.length c, .bool true])) w' := by
  subst hr; exact ⟨hb, A, c, rfl, ReadsS.of_own ho⟩
theorem citCs_snoc (cs : List CitL) (c : CitL) : citCs (cs ++ [c]) = citCs cs ++ citC c := by unfold citCs; rw [List.flatMap_append]; simp
set_option maxRecDepth 100000 in
set_option maxHeartbeats 4000000 in
theorem r9_Cites (s : ByteArray) (w : World) (hs : s.size ≤ 1000000) : Calls Tryz.prog 21 #[.string s] w (CitesPost (citesI s) w) := by
  have HCI := Lib.hid fun (x : ByteArray) (hx : x.size ≤ 1000000) W => r9_cited x W hx
  obtain ⟨i0, hi0, hz0, hz1, hz2⟩ := info_parts cited_info
  obtain ⟨R, hR⟩ : ∃ R, R = citesI s := ⟨_, rfl⟩
  rw [← hR]
  have HRR := Lib.hid hR
  clear hR
  go_enter Tryz.func21, Tryz.ntmps21
  go_wp2_with fail
  go_loopw [4, 5, 6] (fun v4 v5 v6 wr => ∃ (i a : Nat) (cs : List CitL), v6 = .int .i64 i ∧ v5 = .int .i64 a ∧ i ≤ s.size + 1 ∧ a ≤ i ∧ cs.length ≤ i ∧ Hid (CtW s i a cs) ∧ Hid (wr.ownsRow w.heap.size 47 4 v4 cs.length (citCs cs)) ∧ Hid (Below w.heap.size w wr)) (fun _ _ v6 _ => s.size + 1 - (intOf v6).toNat)
  case atStart => exact ⟨0, 0, [], rfl, rfl, Nat.zero_le _, Nat.le_refl _, Nat.le_refl _, Lib.hid (.inl ⟨Nat.zero_le _, CitW.start s⟩), Lib.hid (World.ownsRow_nil _ _ _ _), Lib.hid (Below.refl _ _)⟩
  case round =>
    obtain ⟨i, a, cs, rfl, rfl, hi, hai, hcl, HW, HO, HB⟩ := hrel
    obtain ⟨A, c, rfl⟩ := own_slice HO.out
    by_cases hl : i ≤ s.size
    · have HC : Hid (CitW s i a cs) := Lib.hid (by
        rcases HW.out with h | h
        · exact h.2
        · omega)
      clear HW
      obtain ⟨q, hq⟩ : ∃ q, q = (decide (i < s.size) && badN (bt s i)) := ⟨_, rfl⟩
      have HQ := Lib.hid hq
      clear hq
      go_upto_region 6 with fail
      go_cut [54] (fun s54 wx => s54 = .bool q ∧ wr = wx)
      case first =>
        clear HCI HRR HC HO HB
        by_cases hl2 : i < s.size
        · have hg := get_bt s i hl2
          by_cases hb : bt s i = 91 ∨ bt s i = 93 ∨ bt s i = 96 ∨ bt s i = 123 ∨ bt s i = 36 ∨ bt s i = 10
          · have HQ2 : Hid (q = true) := Lib.hid (by rw [HQ.out, decide_eq_true hl2]; rcases hb with h | h | h | h | h | h <;> rw [h] <;> rfl)
            clear HQ
            rcases hb with h | h | h | h | h | h
            all_goals
              rw [h] at hg
              clear h
              go_wp2_with fail
              go_meet
              case rel => exact ⟨by rw [HQ2.out], rfl⟩
          · have HQ2 : Hid (q = false) := Lib.hid (by
              rw [HQ.out, decide_eq_true hl2, Bool.true_and]
              unfold badN
              rw [beq_eq_false_iff_ne.2 (show bt s i ≠ 91 by omega), beq_eq_false_iff_ne.2 (show bt s i ≠ 93 by omega), beq_eq_false_iff_ne.2 (show bt s i ≠ 96 by omega), beq_eq_false_iff_ne.2 (show bt s i ≠ 123 by omega), beq_eq_false_iff_ne.2 (show bt s i ≠ 36 by omega), beq_eq_false_iff_ne.2 (show bt s i ≠ 10 by omega)]
              rfl)
            have n1 : ((bt s i : Int) == 91) = false := beq_eq_false_iff_ne.2 (by omega)
            have n2 : ((bt s i : Int) == 93) = false := beq_eq_false_iff_ne.2 (by omega)
            have n3 : ((bt s i : Int) == 96) = false := beq_eq_false_iff_ne.2 (by omega)
            have n4 : ((bt s i : Int) == 123) = false := beq_eq_false_iff_ne.2 (by omega)
            have n5 : ((bt s i : Int) == 36) = false := beq_eq_false_iff_ne.2 (by omega)
            have n6 : ((bt s i : Int) == 10) = false := beq_eq_false_iff_ne.2 (by omega)
            clear hb HQ
            generalize bt s i = b at *
            go_wp2_with fail
            go_meet
            case rel => exact ⟨by rw [HQ2.out], rfl⟩
        · have HQ2 : Hid (q = false) := Lib.hid (by rw [HQ.out, decide_eq_false hl2]; rfl)
          clear HQ
          go_wp2_with fail
          go_meet
          case rel => exact ⟨by rw [HQ2.out], rfl⟩
      case rest =>
      obtain ⟨rfl, rfl⟩ := hcut
      cases q
      case true =>
        have HF : Hid (R = none) := Lib.hid (by
          have h := HQ.out.symm
          simp at h
          rw [HRR.out]
          exact HC.out.bad h.1 h.2)
        clear HCI HRR HC HO HQ
        go_wp2_with fail
        go_ret2
        exact cites_none HF.out HB.out
      have hgood : i < s.size → badN (bt s i) = false := fun h => by
        have h2 := HQ.out
        rw [decide_eq_true h, Bool.true_and] at h2
        exact h2.symm
      clear HQ
      obtain ⟨q, hq⟩ : ∃ q, q = (decide (i = s.size) || bt s i == 59) := ⟨_, rfl⟩
      have HQ := Lib.hid hq
      clear hq
      have HGD := Lib.hid hgood
      clear hgood
      go_upto_region 8 with fail
      go_cut [64] (fun s64 wx => s64 = .bool q ∧ wr = wx)
      case first =>
        clear HCI HRR HC HO HB HGD
        by_cases hl2 : i = s.size
        · have HQ2 : Hid (q = true) := Lib.hid (by rw [HQ.out, decide_eq_true hl2]; rfl)
          have z1 : ((i : Int) == (s.size : Int)) = true := beq_iff_eq.2 (by omega)
          clear HQ
          go_wp2_with fail
          go_meet
          case rel => exact ⟨by rw [HQ2.out], rfl⟩
        · have hl3 : i < s.size := by omega
          have z1 : ((i : Int) == (s.size : Int)) = false := beq_eq_false_iff_ne.2 (by omega)
          have hg := get_bt s i hl3
          by_cases hb : bt s i = 59
          · have HQ2 : Hid (q = true) := Lib.hid (by rw [HQ.out, hb, decide_eq_false hl2]; rfl)
            rw [hb] at hg
            clear hb HQ
            go_wp2_with fail
            go_meet
            case rel => exact ⟨by rw [HQ2.out], rfl⟩
          · have HQ2 : Hid (q = false) := Lib.hid (by rw [HQ.out, decide_eq_false hl2, Bool.false_or]; exact beq_eq_false_iff_ne.2 hb)
            have n1 : ((bt s i : Int) == 59) = false := beq_eq_false_iff_ne.2 (by omega)
            clear hb HQ
            generalize bt s i = b at *
            go_wp2_with fail
            go_meet
            case rel => exact ⟨by rw [HQ2.out], rfl⟩
      case rest =>
      obtain ⟨rfl, rfl⟩ := hcut
      cases q
      · have hx : i < s.size ∧ bt s i ≠ 59 := by
          have h := HQ.out.symm
          simp at h
          exact ⟨by omega, h.2⟩
        have HN : Hid (CtW s (i + 1) a cs) := Lib.hid (.inl ⟨by omega, HC.out.step (HGD.out hx.1) hx.2⟩)
        clear HQ HGD HC HCI HRR
        go_wp2_with fail
        go_roundw
        case rel => exact ⟨i + 1, a, cs, by go_num, rfl, by omega, by omega, by omega, HN, HO, HB⟩
        case measure => simp [intOf]; omega
      · have hx : i = s.size ∨ (i < s.size ∧ bt s i = 59) := by
          have h := HQ.out.symm
          simp at h
          rcases h with h | h
          · exact .inl h
          · by_cases h2 : i = s.size
            · exact .inl h2
            · exact .inr ⟨by omega, h⟩
        have HCa := Lib.hid fun W => HCI.out (s.extract a i) (by rw [ByteArray.size_extract]; omega) W
        have HEX : Hid ((citedI (s.extract a i) = none → R = none) ∧ ∀ ci, citedI (s.extract a i) = some ci → CtW s (i + 1) (i + 1) (cs ++ [ci])) := Lib.hid (by
          rcases hx with rfl | ⟨h1, h2⟩
          · refine ⟨fun h => by rw [HRR.out, HC.out.last, h]; rfl, fun ci h => .inr ⟨rfl, by rw [HC.out.last, h]; rfl⟩⟩
          · exact ⟨fun h => by rw [HRR.out]; exact HC.out.fail h1 h2 h, fun ci h => .inl ⟨by omega, HC.out.next h1 h2 h⟩⟩)
        clear HQ HGD HC HCI HRR hx
        generalize citedI (s.extract a i) = C at *
        go_wp2_with fail
        ((with_reducible refine (HCa.out _).mono ?_))
        rintro e W1 ⟨rfl, b1⟩
        have HB1 := Lib.hid (HB.out.trans (b1.mono HB.out.size))
        have ho1 := own_below HO.out b1
        have hzz := HB1.out.size
        clear b1 HO HCa
        cases C with
        | none =>
          have HF : Hid (R = none) := Lib.hid (HEX.out.1 rfl)
          rw [show citV none = .agg #[.string ⟨#[]⟩, .string ⟨#[]⟩, .string ⟨#[]⟩, .bool false] from rfl, show (none : Option CitL).isSome = false from rfl]
          clear HEX ho1
          go_wp2_with fail
          go_ret2
          exact cites_none HF.out (HB1.out.alloc (by omega) _)
        | some ci =>
          have HN := Lib.hid (HEX.out.2 ci rfl)
          rw [show citV (some ci) = .agg #[.string ci.key, .string ci.pre, .string ci.suf, .bool ci.bare] from rfl, show (some ci : Option CitL).isSome = true from rfl]
          clear HEX
          have hlt := ho1.lt
          go_wp2_with (at_builtin; refine wpList_append_lies _ rfl _ _ 31 rfl w.heap.size 47 i0 _ 4 56 Tryz.underlying31 hi0 hz0 hz1 hz2 rfl (by decide) _ _ _ rfl ((ho1.alloc _).alloc _) ⟨W1.heap.size + 1, 0, none⟩ 1 1 (citC ci) rfl rfl ?c1 ?c2 (by decide) ?c3 ?c4 ?c5 (W1.heap.size + 2) ?c6 ?_)
          case c1 => exact World.news_of_block (t := 47) (fr := (0, 0)) (cs := #[.string ci.key, .string ci.pre, .string ci.suf, .bool ci.bare]) (by have h := heap_alloc_new (W1.alloc (.cells #[.string ci.key, .string ci.pre, .string ci.suf, .bool ci.bare] 47)) (.cells #[.string ci.key, .string ci.pre, .string ci.suf, .bool ci.bare] 47); rw [World.size_alloc] at h; exact h)
          case c2 => intro u hu; simp [citC] at hu; rcases hu with rfl | rfl | rfl | rfl <;> rfl
          case c3 => unfold maxLen; omega
          case c4 => omega
          case c5 => simp; omega
          case c6 => simp
          intro g7 cap7 w3 hown3 hgrow hlies hlt3
          have HB3 := Lib.hid (((HB1.out.alloc (by omega) (.cells #[.string ci.key, .string ci.pre, .string ci.suf, .bool ci.bare] 47)).alloc (by simp; omega) (.cells #[.string ci.key, .string ci.pre, .string ci.suf, .bool ci.bare] 47)).grown hgrow (by simp; omega) fun k hk => (hlt k hk).1)
          have HO3 : Hid (w3.ownsRow w.heap.size 47 4 (.slice (some ⟨g7, 0, none⟩) (cs.length + 1) cap7) (cs ++ [ci]).length (citCs (cs ++ [ci]))) := Lib.hid (by rw [citCs_snoc, List.length_append]; exact hown3)
          clear hown3 hgrow hlies ho1 hlt HB HB1
          go_wp2_with fail
          go_roundw
          case rel => exact ⟨i + 1, i + 1, cs ++ [ci], by go_num, by go_num, by omega, by omega, by simp; omega, HN, HO3, HB3⟩
          case measure => simp [intOf]; omega
    · have HF : Hid (R = some cs) := Lib.hid (by
        rcases HW.out with h | h
        · omega
        · rw [HRR.out, h.2])
      clear HW HCI HRR
      go_wp2_with fail
      go_ret2
      exact cites_some HF.out HB.out HO.out

end Go.Proofs.YtcjkgmfidkgamaaGreatDoor
namespace Go.Pub
theorem if_some {α : Type} {P : Prop} [Decidable P] {o : Option α} {c : α} (h : (if P then o else none) = some c) : o = some c := by
  by_cases hp : P
  · rw [if_pos hp] at h; exact h
  · rw [if_neg hp] at h; cases h
theorem nm_name {s : ByteArray} {i k : Nat} (h : nmEnd s i = some k) : nameB (s.extract i k) = true := by
  unfold nmEnd at h
  by_cases hb : nameB (s.extract i (wordAt s i)) = true
  · rw [if_pos hb] at h
    injection h with h
    rw [← h]; exact hb
  · rw [if_neg hb] at h; cases h
theorem cited_name {p : ByteArray} {c : CitL} (h : citedI p = some c) : nameB c.key = true := by
  unfold citedI at h
  have h := if_some h
  cases hn : nmEnd p (citA p + 1) with
  | none => rw [hn] at h; cases h
  | some k =>
    rw [hn] at h
    have h := Option.some.inj h
    rw [← h]
    exact nm_name hn
theorem allC_name : ∀ (ps : List (List UInt8)) (cs : List CitL), allC ps = some cs → ∀ c ∈ cs, nameB c.key = true
  | [], cs, h, c, hc => by
    have h : some [] = some cs := h
    injection h with h
    subst h; cases hc
  | p :: ps, cs, h, c, hc => by
    unfold allC at h
    cases h1 : citedI (mk p) with
    | none => rw [h1] at h; cases h
    | some x =>
      rw [h1] at h
      cases h2 : allC ps with
      | none => rw [h2] at h; cases h
      | some ys =>
        rw [h2] at h
        have h : some (x :: ys) = some cs := h
        injection h with h
        subst h
        rcases List.mem_cons.1 hc with rfl | hc
        · exact cited_name h1
        · exact allC_name ps ys h2 c hc
theorem cites_name {s : ByteArray} {cs : List CitL} (h : citesI s = some cs) : ∀ c ∈ cs, nameB c.key = true := by
  unfold citesI at h
  split at h
  · cases h
  · exact allC_name _ _ h
end Go.Pub
namespace Go.Proofs.YtcjkgmfidkgamaaGreatDoor
open Go.RowKit Go.Pub
theorem citCs_at : ∀ (cs : List CitL) (i j : Nat) (hi : i < cs.length), j < 4 → (citCs cs)[i * 4 + j]? = (citC cs[i])[j]?
  | c :: cs, 0, j, _, hj => by
    unfold citCs
    rw [List.flatMap_cons, List.getElem?_append_left (by rw [show (citC c).length = 4 from rfl]; omega)]
    simp
  | c :: cs, i + 1, j, hi, hj => by
    have := citCs_at cs i j (by simpa using hi) hj
    unfold citCs at this ⊢
    rw [List.flatMap_cons, List.getElem?_append_right (by rw [show (citC c).length = 4 from rfl]; omega), show (citC c).length = 4 from rfl, show (i + 1) * 4 + j - 4 = i * 4 + j by omega, this]
    rfl
theorem cits_look {w : World} {S : Nat → Prop} {A : Option Addr} {cs : List CitL} (h : ReadsS w S 4 A cs.length (citCs cs)) (hn : 0 < cs.length) : ∃ g o, A = some ⟨g, o, none⟩ ∧ ∀ i (hi : i < cs.length), w.cell? ⟨g, o + i * 4, none⟩ = some (.string cs[i].key) ∧ w.cell? ⟨g, o + i * 4 + 1, none⟩ = some (.string cs[i].pre) ∧ w.cell? ⟨g, o + i * 4 + 2, none⟩ = some (.string cs[i].suf) ∧ w.cell? ⟨g, o + i * 4 + 3, none⟩ = some (.bool cs[i].bare) := by
  obtain ⟨g, o, e, _, hc⟩ := h.row hn (by decide)
  refine ⟨g, o, e, fun i hi => ⟨hc (i * 4) _ ?_, ?_, ?_, ?_⟩⟩
  · exact (citCs_at cs i 0 hi (by decide))
  · have := hc (i * 4 + 1) _ (citCs_at cs i 1 hi (by decide)); rwa [← Nat.add_assoc] at this
  · have := hc (i * 4 + 2) _ (citCs_at cs i 2 hi (by decide)); rwa [← Nat.add_assoc] at this
  · have := hc (i * 4 + 3) _ (citCs_at cs i 3 hi (by decide)); rwa [← Nat.add_assoc] at this
set_option maxRecDepth 100000 in
set_option maxHeartbeats 4000000 in
theorem law9_cites (s : ByteArray) (hz : s.size ≤ 9223372036854775807) (m : Int) (w : World) (hm : w.cell? ⟨0, 0, none⟩ = some (.int .i64 m)) : Calls Tryz.prog 7 #[.string s] w fun e w' => e = .returned (.bool true) ∧ Below w.heap.size w w' := by
  have h0 := World.block_lt_of_cell? _ _ hm
  have HA : Hid (∀ W : World, Below w.heap.size w W → Calls Tryz.prog 9 #[] W fun e w' => e = .returned (.bool true) ∧ Below W.heap.size W w') := Lib.hid fun W hb => l9_awake m W ((hb.cell (p := ⟨0, 0, none⟩) h0).trans hm)
  have HT := Lib.hid fun W => r4_small s W
  by_cases h8 : s.size ≤ 800
  · rw [decide_eq_true h8] at HT
    have H1 := Lib.hid fun W => s_Cites s W (by omega)
    have H2 := Lib.hid fun W => r9_Cites s W (by omega)
    unfold CitesPost at H1 H2
    have hnm := Lib.hid fun cs (h : citesI s = some cs) => cites_name h
    generalize citesI s = R at *
    clear hm h0
    go_enter Tryz.func7, Tryz.ntmps7
    go_wp2_with fail
    ((with_reducible refine (HT.out _).mono ?_))
    rintro e w1 ⟨rfl, rfl⟩
    go_wp2_with fail
    ((with_reducible refine (H1.out _).mono ?_))
    rintro e w1 ⟨b1, hp1⟩
    have HB1 := Lib.hid b1
    cases R with
    | none =>
      obtain rfl := hp1
      clear b1
      go_wp2_with fail
      ((with_reducible refine (H2.out _).mono ?_))
      rintro e w2 ⟨b2, rfl⟩
      have HB2 := Lib.hid (HB1.out.trans (b2.mono HB1.out.size))
      clear b2
      go_wp2_with fail
      go_loopw [7] (fun v7 wz => v7 = .int .i64 0 ∧ wz = w2) (fun _ _ => 0)
      case atStart => exact ⟨rfl, rfl⟩
      case round =>
        obtain ⟨rfl, rfl⟩ := hrel
        go_wp2_with fail
        ((with_reducible refine (HA.out _ HB2.out).mono ?_))
        rintro e w3 ⟨rfl, b3⟩
        go_wp2_with fail
        go_ret
        exact ⟨rfl, HB2.out.trans (b3.mono HB2.out.size)⟩
    | some cs =>
      obtain ⟨A1, c1, rfl, hr1⟩ := hp1
      have HN := Lib.hid (hnm.out cs rfl)
      clear hnm
      go_wp2_with fail
      ((with_reducible refine (H2.out _).mono ?_))
      rintro e w2 ⟨b2, A2, c2, rfl, hr2⟩
      have HB2 := Lib.hid (HB1.out.trans (b2.mono HB1.out.size))
      have HR1 := Lib.hid (hr1.keep (S' := fun g => g < w2.heap.size) (fun g hg => b2.block g hg.2) fun g hg => Nat.lt_of_lt_of_le hg.2 b2.size)
      have HR2 := Lib.hid (hr2.keep (S' := fun g => g < w2.heap.size) (fun _ _ => rfl) fun g hg => hg.2)
      have hlen := hr1.1.2
      clear b1 b2 hr1 hr2 H1 H2 HT
      go_wp2_with fail
      go_loopw [7] (fun v7 wz => ∃ i : Nat, v7 = .int .i64 i ∧ i ≤ cs.length ∧ Hid (Below w2.heap.size w2 wz)) (fun v7 _ => cs.length - (intOf v7).toNat)
      case atStart => exact ⟨0, rfl, Nat.zero_le _, Lib.hid (Below.refl _ _)⟩
      case round =>
        obtain ⟨i, rfl, hi, HBz⟩ := hrel
        by_cases hl : i < cs.length
        · have r1 := HR1.out.keep (S' := fun _ => True) (fun g hg => HBz.out.block g hg) (fun _ _ => trivial)
          have r2 := HR2.out.keep (S' := fun _ => True) (fun g hg => HBz.out.block g hg) (fun _ _ => trivial)
          obtain ⟨g1, o1, rfl, k1⟩ := cits_look r1 (by omega)
          obtain ⟨g2, o2, rfl, k2⟩ := cits_look r2 (by omega)
          obtain ⟨a0, a1, a2, a3⟩ := k1 i hl
          obtain ⟨d0, d1, d2, d3⟩ := k2 i hl
          have hN := HN.out cs[i] (List.getElem_mem hl)
          unfold maxLen at hlen
          generalize hci : cs[i] = ci at *
          obtain ⟨x0, x1, x2, x3⟩ := ci
          simp only [] at hN
          have hx0 : x0.size ≤ 60 := by unfold nameB at hN; simp at hN; omega
          have HNm := Lib.hid fun W => rname_any x0 W (by omega)
          simp only [] at a0 a1 a2 a3 d0 d1 d2 d3
          rw [hN] at HNm
          have z0 : (x0.toList == x0.toList) = true := by simp
          have z1 : (x1.toList == x1.toList) = true := by simp
          have z2 : (x2.toList == x2.toList) = true := by simp
          have z3 : (x3 == x3) = true := by simp
          clear hci hN k1 k2 r1 r2 HA hx0
          go_wp2_with fail
          go_quiet ((go_at_call 22; exact quiet_left (HNm.out _)))
          go_wp2_with fail
          go_roundw
          case rel => exact ⟨i + 1, by go_num, by omega, Lib.hid (below_drewN HBz.out _)⟩
          case measure => simp [intOf]; omega
        · obtain rfl : i = cs.length := by omega
          have HB3 := Lib.hid (HB2.out.trans (HBz.out.mono HB2.out.size))
          go_wp2_with fail
          ((with_reducible refine (HA.out _ HB3.out).mono ?_))
          rintro e w3 ⟨rfl, b3⟩
          go_wp2_with fail
          go_ret
          exact ⟨rfl, HB3.out.trans (b3.mono HB3.out.size)⟩
  · rw [decide_eq_false h8] at HT
    clear hm h0
    go_enter Tryz.func7, Tryz.ntmps7
    go_wp2_with fail
    ((with_reducible refine (HT.out _).mono ?_))
    rintro e w1 ⟨rfl, rfl⟩
    go_wp2_with fail
    ((with_reducible refine (HA.out _ (Below.refl _ _)).mono ?_))
    rintro e w3 ⟨rfl, b3⟩
    go_wp2_with fail
    go_ret
    exact ⟨rfl, b3⟩

end Go.Proofs.YtcjkgmfidkgamaaGreatDoor
namespace Go.Pub
open Go.RowKit Go.WideShapes Go.ChangeShapes
section
variable {H : Type} {enc : TypeId × Value → H} {P : Program}
theorem post_of_below {f : Func} {s : ChangeSpec} {apart fresh handsOn again : Bool} {W W' : World} {args : Array Value} {v : Value} {ds gs : List (DataW H)} {before pa pv : List MemPlace}
    (hW : DataW.Whole enc P f.params.toList s.vars apart W args.toList ds gs before)
    (hres : ∀ (b : Nat) (sp : Nat → Bool) (hd : Bool), DataW.TrodAll enc P W' b sp hd f.resultTypes.toList (v.resultList f.resultTypes.size) (s.fn H (ds ++ gs)).results [])
    (hargs : ∀ sp : Nat → Bool, (∀ p ∈ before, sp p.block = true) → DataW.TrodAll enc P W' 0 sp true f.params.toList args.toList (s.fn H (ds ++ gs)).args pa)
    (hvars : ∀ sp : Nat → Bool, (∀ p ∈ before, sp p.block = true) → DataW.TrodVars enc P W' sp s.vars (s.fn H (ds ++ gs)).vars pv)
    (hps : before = pa ++ pv) (hb : Below W.heap.size W W')
    (hok : ∀ (j : Nat) (t : TypeId) (r : Value), f.resultTypes[j]? = some t → (v.resultList f.resultTypes.size)[j]? = some r → Value.okWide P W' .any 0 t r) :
    s.post enc P f apart fresh handsOn again W args v W' := by
  have hlt : ∀ p ∈ before, p.block < W.heap.size := fun p hp => hW.lt p hp
  have hold : ∀ p ∈ before, (fun b => decide (b < W.heap.size)) p.block = true := fun p hp => by simpa using hlt p hp
  refine ⟨ds, gs, before, [], pa, pv, hW, hres _ _ _, hargs _ hold, hvars _ hold, World.keptBut_mono (fun p hp => ⟨hp, ?_⟩) (hb.frame (· ∈ before)), fun _ => ?_⟩
  · rw [hps, List.mem_append] at hp
    exact Or.inr hp
  · obtain ⟨_, _, _, _, _, hz, hn⟩ := hW
    refine ⟨hok, _, _, ([] ++ pa) ++ pv, ⟨[] ++ pa, pv, trodAll_append (hargs _ (fun _ _ => rfl)) (hres _ _ _), hvars _ (fun _ _ => rfl), rfl, ?_, ?_⟩, ?_⟩
    · intro b off hp
      have hin : MemPlace.cell b off ∈ before := by rw [hps]; simpa using hp
      rw [hb.frozen (hlt _ hin)]
      exact hz b off hin
    · intro ha
      have := hn ha
      rw [hps] at this
      simpa using this
    · intro p hp _
      rw [hps]
      simpa using hp
end
end Go.Pub
namespace Go.Pub
open Go
theorem change_and_shaped {H : Type} {enc : TypeId × Value → H} {a : Assume} {C : Checked} {os : Os} {f : FuncId} {fn : Func} {s : ChangeSpec} {conds : List PathCond} {apart fresh handsOn again : Bool} {X : World → Array Value → Prop}
    (hX : ∀ (w w' : World) (args : Array Value), w.heap = w'.heap → X w args → X w' args)
    (own : ownKnob C.prog.godebug = none) (started : os.Started) (noInit : C.prog.inits.idxOf? f = none) (hfn : C.prog.funcs[f]? = some fn)
    (witness : ∃ (w : World) (tape : Tape) (i : Input), w.os = os ∧ (w.forCall tape i).Shaped C.prog ∧ i.vars = [] ∧ Input.okWide C.prog (w.forCall tape i) .any w.heap.size f i ∧
      ((s.pre enc C.prog fn conds apart (w.forCall tape i).memory i.args ∧ X (w.forCall tape i).memory i.args) ∧ sizedMet enc C.prog fn (OpenSpec.ofChange s) apart (w.forCall tape i).memory i.args) ∧ a.holds C.prog (lone (Frame.enter C.prog f i.args .normal) [] (w.forCall tape i)))
    (contract : ∀ (W : World) (base : Nat) (args : Array Value) (ds gs : List (DataW H)) (before : List MemPlace),
      (∀ (j : Nat) t v, fn.params[j]? = some t → args[j]? = some v → Value.okWide C.prog W .any base t v) →
      DataW.Whole enc C.prog fn.params.toList s.vars apart W args.toList ds gs before →
      conds.all (PathCond.test C.prog ⟨fn.params.toList, ds, s.plain.varTypes C.prog, gs⟩) = true →
      (DataW.weightsEach C.prog (fn.params.toList ++ s.plain.varTypes C.prog) (ds ++ gs)).all (· ≤ reachBytes) = true → X W args → W.ShapedOpen C.prog →
      a.holds C.prog (lone (Frame.enter C.prog f args .normal) [] W) →
      Calls C.prog f args W fun e W' => ∃ v, e = .returned v ∧ s.post enc C.prog fn apart fresh handsOn again W args v W') :
    ReturnsInHanded a C os f .any (fun w args => (s.pre enc C.prog fn conds apart w args ∧ X w args) ∧ sizedMet enc C.prog fn (OpenSpec.ofChange s) apart w args) (s.post enc C.prog fn apart fresh handsOn again) := by
  refine returnsInHanded_of_calls own started noInit witness ?_
  intro w tape i _ hsh _ hok hpre hholds
  obtain ⟨_, _, _, fn', hfn', _, _, _, _, hval⟩ := hok
  obtain rfl : fn' = fn := Option.some.inj (hfn'.symm.trans hfn)
  obtain ⟨⟨⟨ds, gs, before, hw, hc⟩, hx⟩, hz⟩ := hpre
  refine (contract (w.forCall tape i) w.heap.size i.args ds gs before hval (DataW.Whole.of_heap (w' := w.forCall tape i) (by rfl) hw) hc (hz.weights hw) (hX _ _ _ (by rfl) hx) hsh hholds).mono fun e W' ⟨v, he, hp⟩ => ?_
  subst he
  exact ChangeSpec.post_blind hp
end Go.Pub
namespace Go.Pub
theorem byte9_at (s : ByteArray) (i : Nat) (h : i < s.size) : (bytesL s)[i]? = some (s.get! i) := by
  have h2 : sfx s i = s.get! i :: sfx s (i + 1) := sfx_cons s i h
  have h3 : (sfx s i)[0]? = (bytesL s)[i]? := by unfold sfx; rw [List.getElem?_drop, Nat.add_zero]
  rw [← h3, h2]; rfl
theorem byte_of (s : ByteArray) {b : UInt8} (h : b ∈ bytesL s) : ∃ j, j < s.size ∧ b = s.get! j := by
  obtain ⟨j, hj, e⟩ := List.getElem_of_mem h
  have hj2 := hj
  rw [bytesL_length] at hj2
  have h4 := byte9_at s j hj2
  rw [List.getElem?_eq_getElem hj] at h4
  injection h4 with h4
  exact ⟨j, hj2, by rw [← e]; exact h4⟩
theorem take_step (s : ByteArray) (i : Nat) (h : i < s.size) : (bytesL s).take (i + 1) = (bytesL s).take i ++ [s.get! i] := by
  have h2 : sfx s i = s.get! i :: sfx s (i + 1) := sfx_cons s i h
  rw [List.take_add_one]
  congr 1
  have h3 : (sfx s i)[0]? = (bytesL s)[i]? := by unfold sfx; rw [List.getElem?_drop, Nat.add_zero]
  rw [← h3, h2]; rfl
end Go.Pub
namespace Go.Pub
/-- Behind n backticks: no run of backticks reaches m. -/
def okR (m : Nat) : Nat → List UInt8 → Prop
  | _, [] => True
  | n, b :: l => if b = 96 then n + 1 < m ∧ okR m (n + 1) l else okR m 0 l
/-- How long the fence of the bytes gets, behind n backticks, when it has been m. -/
def fenN : Nat → Nat → List UInt8 → Nat
  | _, m, [] => m
  | n, m, b :: l => fenN (if b = 96 then n + 1 else 0) (if m ≤ (if b = 96 then n + 1 else 0) then m + 1 else m) l
theorem fenN_le : ∀ (l : List UInt8) (n m : Nat), m ≤ fenN n m l ∧ fenN n m l ≤ m + l.length
  | [], n, m => ⟨Nat.le_refl _, Nat.le_refl _⟩
  | b :: l, n, m => by
    unfold fenN
    have h := fenN_le l (if b = 96 then n + 1 else 0) (if m ≤ (if b = 96 then n + 1 else 0) then m + 1 else m)
    rw [List.length_cons]
    generalize (if b = 96 then n + 1 else 0) = c at *
    by_cases hc : m ≤ c
    · rw [if_pos hc] at h ⊢; omega
    · rw [if_neg hc] at h ⊢; omega
theorem fenN_ok : ∀ (l : List UInt8) (n m : Nat), n < m → okR (fenN n m l) n l
  | [], n, m, _ => trivial
  | b :: l, n, m, h => by
    unfold fenN okR
    by_cases hb : b = 96
    · rw [if_pos hb, if_pos hb]
      by_cases hc : m ≤ n + 1
      · rw [if_pos hc]
        have := fenN_le l (n + 1) (m + 1)
        exact ⟨by omega, fenN_ok l _ _ (by omega)⟩
      · rw [if_neg hc]
        have := fenN_le l (n + 1) m
        exact ⟨by omega, fenN_ok l _ _ (by omega)⟩
    · rw [if_neg hb, if_neg hb]
      rw [if_neg (by omega)]
      exact fenN_ok l _ _ (by omega)
/-- A run of backticks ahead of other bytes. -/
theorem tick_run : ∀ (n : Nat) (r : List UInt8), (∀ b, r.head? = some b → b ≠ 96) → cntW tick (List.replicate n 96 ++ r) = n
  | 0, [], _ => rfl
  | 0, b :: r, h => by
    show (if tick b.toNat = true then _ else _) = 0
    rw [if_neg]
    unfold tick
    rw [beq_iff_eq]
    exact fun e => h b rfl ((u8_nat b 96 (by decide)).2 e)
  | n + 1, r, h => by
    rw [List.replicate_succ, List.cons_append]
    show (if tick 96 = true then cntW tick (List.replicate n 96 ++ r) + 1 else 0) = _
    rw [if_pos (show tick 96 = true from rfl), tick_run n r h]
theorem tick_no (s : ByteArray) (i : Nat) (b : UInt8) (r : List UInt8) (h : sfx s i = b :: r) (hb : b ≠ 96) : bt s i ≠ 96 := by
  rw [(sfx_head h).2.1]
  exact fun e => hb ((u8_nat b 96 (by decide)).2 e)
/-- Behind n backticks of a run, a list as okR wants it: how many more there are, and what is behind. -/
theorem okR_run {m : Nat} : ∀ (l : List UInt8) (n : Nat) (x : UInt8) (r : List UInt8), okR m n l → n < m → x ≠ 96 → ∃ k l', l = List.replicate k 96 ++ l' ∧ cntW tick (l ++ x :: r) = k ∧ n + k < m ∧ okR m 0 l'
  | [], n, x, r, _, hn, hx => ⟨0, [], rfl, tick_run 0 (x :: r) (fun b e => by simp at e; subst e; exact hx), hn, trivial⟩
  | b :: l, n, x, r, h, hn, hx => by
    unfold okR at h
    by_cases hb : b = 96
    · rw [if_pos hb] at h
      obtain ⟨k, l', h1, h2, h3, h4⟩ := okR_run l (n + 1) x r h.2 h.1 hx
      refine ⟨k + 1, l', ?_, ?_, by omega, h4⟩
      · rw [h1, hb, List.replicate_succ]; rfl
      · subst hb
        show (if tick 96 = true then cntW tick (l ++ x :: r) + 1 else 0) = _
        rw [if_pos (show tick 96 = true from rfl), h2]
    · rw [if_neg hb] at h
      refine ⟨0, b :: l, rfl, tick_run 0 ((b :: l) ++ x :: r) (fun c e => by simp at e; subst e; exact hb), hn, ?_⟩
      unfold okR
      rw [if_neg hb]; exact h
/-- The run of m backticks is found behind bytes whose runs are shorter. -/
theorem later_ok (s : ByteArray) (m : Nat) (d : Bool) (hm : 0 < m) (R : List UInt8) (hR : ∀ b, R.head? = some b → b ≠ 96) (hd : d = true → R.head? = some 36) :
    ∀ (f : Nat) (l : List UInt8) (i : Nat), sfx s i = l ++ 32 :: (List.replicate m 96 ++ R) → okR m 0 l → s.size - i ≤ f → laterF s m d f i = some (i + l.length + 1)
  | 0, l, i, h, _, hf => by
    have := congrArg List.length h
    rw [sfx_len, List.length_append, List.length_cons] at this
    omega
  | f + 1, [], i, h, _, hf => by
    have h' : sfx s i = 32 :: (List.replicate m 96 ++ R) := h
    obtain ⟨h1, h2, h3⟩ := sfx_head h'
    have hc : bt s i ≠ 96 := tick_no s i _ _ h' (by decide)
    unfold laterF
    rw [if_pos h1, if_neg hc]
    obtain ⟨m', rfl⟩ : ∃ m', m = m' + 1 := ⟨m - 1, by omega⟩
    have h4 : sfx s (i + 1) = 96 :: (List.replicate m' 96 ++ R) := by rw [h3, List.replicate_succ]; rfl
    obtain ⟨h5, h6, h7⟩ := sfx_head h4
    have hr : runF s (i + 1) tick = m' + 1 := by
      unfold runF; rw [h3]; exact tick_run (m' + 1) R hR
    have hf1 : ∃ g, f = g + 1 := ⟨f - 1, by omega⟩
    obtain ⟨g, rfl⟩ := hf1
    unfold laterF
    rw [if_pos h5, if_pos (show bt s (i + 1) = 96 from h6), hr, if_pos]
    · rfl
    · refine ⟨rfl, fun e => ?_⟩
      have h8 : sfx s (i + 1 + (m' + 1)) = R := by
        have := sfx_app (n := List.replicate (m' + 1) 96) (r := R) h3
        rwa [List.length_replicate] at this
      have h9 := hd e
      cases hRR : R with
      | nil => rw [hRR] at h9; cases h9
      | cons b R' =>
        rw [hRR] at h9 h8
        simp at h9; subst h9
        have := sfx_head h8
        exact ⟨this.1, this.2.1⟩
  | f + 1, b :: l, i, h, ho, hf => by
    have h' : sfx s i = b :: (l ++ 32 :: (List.replicate m 96 ++ R)) := h
    obtain ⟨h1, h2, h3⟩ := sfx_head h'
    unfold laterF
    rw [if_pos h1]
    by_cases hb : b = 96
    · have hc : bt s i = 96 := by rw [h2, hb]; rfl
      rw [if_pos hc]
      obtain ⟨k, l', e1, e2, e3, e4⟩ := okR_run (b :: l) 0 32 (List.replicate m 96 ++ R) ho hm (by decide)
      have hr : runF s i tick = k := by unfold runF; rw [h]; exact e2
      have hk : 0 < k := by
        have := runF_yes s i tick h1 (by unfold tick; rw [hc]; rfl)
        omega
      rw [hr, if_neg (by omega)]
      have hs : sfx s (i + k) = l' ++ 32 :: (List.replicate m 96 ++ R) := by
        have := sfx_app (s := s) (i := i) (n := List.replicate k 96) (r := l' ++ 32 :: (List.replicate m 96 ++ R)) (by rw [h, e1, List.append_assoc])
        rwa [List.length_replicate] at this
      rw [later_ok s m d hm R hR hd f l' (i + k) hs e4 (by omega)]
      have hl := congrArg List.length e1
      rw [List.length_append, List.length_replicate] at hl
      congr 1; omega
    · rw [if_neg (tick_no s i b _ h' hb)]
      unfold okR at ho
      rw [if_neg hb] at ho
      rw [later_ok s m d hm R hR hd f l (i + 1) h3 ho (by omega), List.length_cons]
      congr 1; omega
theorem codeT_line (l : List UInt8) (h1 : ∀ b ∈ l, b ≠ 10) (h2 : l.any (· != 32) = true) : codeT (32 :: (l ++ [32])) = l := by
  have hu : unLF (32 :: (l ++ [32])) = 32 :: (l ++ [32]) := by
    unfold unLF
    rw [List.map_cons, List.map_append, if_neg (by decide)]
    congr 2
    · have : l.map (fun b : UInt8 => if b = 10 then 32 else b) = l.map id := List.map_congr_left fun b hb => by rw [if_neg (h1 b hb)]; rfl
      rw [this, List.map_id]
  unfold codeT
  rw [hu, if_pos]
  · rw [List.drop_one, List.tail_cons, List.dropLast_concat]
  · refine ⟨?_, rfl, ?_⟩
    · rw [List.any_cons, List.any_append, h2]; simp
    · rw [List.getLast?_cons]; simp
/-- A fence of m backticks, a space, the bytes, a space, the fence. -/
def fencL (m : Nat) (l : List UInt8) : List UInt8 := List.replicate m 96 ++ (32 :: (l ++ 32 :: List.replicate m 96))
theorem fence_code (m : Nat) (hm : 0 < m) (l : List UInt8) (ho : okR m 0 l) (h1 : ∀ b ∈ l, b ≠ 10) (h2 : l.any (· != 32) = true) :
    scanP (mk (fencL m l)) = [{ inl := spn 4 (mk l), bg := 0, nd := (fencL m l).length }] := by
  have hz : (mk (fencL m l)).size = (fencL m l).length := mk_size _
  have hlen : (fencL m l).length = m + 1 + l.length + 1 + m := by unfold fencL; simp; omega
  have hs : sfx (mk (fencL m l)) 0 = List.replicate m 96 ++ (32 :: (l ++ 32 :: (List.replicate m 96 ++ []))) := by
    unfold sfx; rw [bytesL_mk', List.append_nil]; rfl
  generalize mk (fencL m l) = t at *
  obtain ⟨m', rfl⟩ : ∃ m', m = m' + 1 := ⟨m - 1, by omega⟩
  have h0 : sfx t 0 = 96 :: (List.replicate m' 96 ++ (32 :: (l ++ 32 :: (List.replicate (m' + 1) 96 ++ [])))) := by rw [hs, List.replicate_succ]; rfl
  obtain ⟨h3, h4, _⟩ := sfx_head h0
  have hr : runF t 0 tick = m' + 1 := by
    unfold runF; rw [hs]
    exact tick_run (m' + 1) _ fun b e => by simp at e; subst e; decide
  have hsk := sfx_app (n := List.replicate (m' + 1) 96) hs
  rw [List.length_replicate, Nat.zero_add] at hsk
  have hlt : laterA t (m' + 1) (m' + 1) false = some (m' + 1 + (l.length + 1) + 1) := by
    unfold laterA
    have := later_ok t (m' + 1) false hm [] (fun b e => by cases e) (fun e => by cases e) (t.size - (m' + 1)) (32 :: l) (m' + 1) hsk (by unfold okR; rw [if_neg (by decide)]; exact ho) (by omega)
    rw [this, List.length_cons]
  have hsp : spec t 0 = some { inl := spn 4 (mk l), bg := 0, nd := (fencL (m' + 1) l).length } := by
    unfold spec
    have h4 : bt t 0 = 96 := h4
    rw [h4, if_neg (by decide), if_neg (by decide), if_neg (by decide), if_neg (by decide), if_pos rfl]
    unfold codeI
    rw [hr, Nat.zero_add, hlt]
    have hsub : sub t (m' + 1) (m' + 1 + (l.length + 1) + 1) = 32 :: (l ++ [32]) := by
      have e : sfx t (m' + 1) = (32 :: (l ++ [32])) ++ (List.replicate (m' + 1) 96 ++ []) := by rw [hsk]; simp
      have := sub_run e
      rwa [show (32 :: (l ++ [32])).length = l.length + 1 + 1 by simp, ← Nat.add_assoc] at this
    simp only [Option.map_some, hsub, codeT_line l h1 h2]
    unfold pcI
    rw [hlen]
    congr 2
    omega
  unfold scanP
  obtain ⟨f, hf⟩ : ∃ f, t.size = f + 1 := ⟨t.size - 1, by omega⟩
  rw [hf, scanF_one h3 hsp, scanF_end (by rw [hz]; exact Nat.le_refl _)]
  rfl
theorem fence_math (m : Nat) (hm : 0 < m) (l : List UInt8) (ho : okR m 0 l) (h1 : ∀ b ∈ l, b ≠ 10) (h2 : l.any (· != 32) = true) :
    scanP (mk (36 :: (fencL m l ++ [36]))) = [{ inl := spn 5 (mk l), bg := 0, nd := (fencL m l).length + 2 }] := by
  have hz : (mk (36 :: (fencL m l ++ [36]))).size = (fencL m l).length + 2 := by rw [mk_size]; simp
  have hlen : (fencL m l).length = m + 1 + l.length + 1 + m := by unfold fencL; simp; omega
  have h0 : sfx (mk (36 :: (fencL m l ++ [36]))) 0 = 36 :: (List.replicate m 96 ++ (32 :: (l ++ 32 :: (List.replicate m 96 ++ [36])))) := by
    unfold sfx; rw [bytesL_mk']; unfold fencL; simp
  generalize mk (36 :: (fencL m l ++ [36])) = t at *
  obtain ⟨h3, h4, hs⟩ := sfx_head h0
  rw [Nat.zero_add] at hs
  obtain ⟨m', rfl⟩ : ∃ m', m = m' + 1 := ⟨m - 1, by omega⟩
  have h5 : sfx t 1 = 96 :: (List.replicate m' 96 ++ (32 :: (l ++ 32 :: (List.replicate (m' + 1) 96 ++ [36])))) := by rw [hs, List.replicate_succ]; rfl
  obtain ⟨h6, h7, _⟩ := sfx_head h5
  have hr : runF t 1 tick = m' + 1 := by
    unfold runF; rw [hs]
    exact tick_run (m' + 1) _ fun b e => by simp at e; subst e; decide
  have hsk := sfx_app (n := List.replicate (m' + 1) 96) hs
  rw [List.length_replicate] at hsk
  have hlt : laterA t (1 + (m' + 1)) (m' + 1) true = some (1 + (m' + 1) + (l.length + 1) + 1) := by
    unfold laterA
    have := later_ok t (m' + 1) true hm [36] (fun b e => by simp at e; subst e; decide) (fun e => rfl) (t.size - (1 + (m' + 1))) (32 :: l) (1 + (m' + 1)) hsk (by unfold okR; rw [if_neg (by decide)]; exact ho) (by omega)
    rw [this, List.length_cons]
  have hsp : spec t 0 = some { inl := spn 5 (mk l), bg := 0, nd := (fencL (m' + 1) l).length + 2 } := by
    unfold spec
    have h4 : bt t 0 = 36 := h4
    rw [h4, if_neg (by decide), if_neg (by decide), if_neg (by decide), if_pos rfl]
    have hm1 : mathI t 0 = some (spn 5 (mk l), (fencL (m' + 1) l).length + 2) := by
      unfold mathI
      rw [if_pos ⟨h6, h7⟩, Nat.zero_add, hr, hlt]
      have hsub : sub t (1 + (m' + 1)) (1 + (m' + 1) + (l.length + 1) + 1) = 32 :: (l ++ [32]) := by
        have e : sfx t (1 + (m' + 1)) = (32 :: (l ++ [32])) ++ (List.replicate (m' + 1) 96 ++ [36]) := by rw [hsk]; simp
        have := sub_run e
        rwa [show (32 :: (l ++ [32])).length = l.length + 1 + 1 by simp, ← Nat.add_assoc] at this
      simp only [Option.map_some, hsub, codeT_line l h1 h2]
      rw [hlen]
      congr 2
      omega
    rw [hm1]
    rfl
  unfold scanP
  obtain ⟨f, hf⟩ : ∃ f, t.size = f + 1 := ⟨t.size - 1, by omega⟩
  rw [hf, scanF_one h3 hsp, scanF_end (by rw [hz]; exact Nat.le_refl _)]
  rfl
end Go.Pub
