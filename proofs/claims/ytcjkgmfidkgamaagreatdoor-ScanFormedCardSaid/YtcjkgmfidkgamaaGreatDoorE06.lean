/-
  Texts of the proof, put together (what this law reaches): ScR, ScH, ScTA.
-/
import Derived.Test.YtcjkgmfidkgamaaGreatDoorE05
import Derived.Deep.DeepCutAuto
import Derived.Test.YtcjkgmfidkgamaaGreatDoorE04
import Derived.Test.YtcjkgmfidkgamaaGreatDoorE03
import Derived.Test.YtcjkgmfidkgamaaGreatDoorE01
set_option linter.unusedVariables false
set_option linter.unusedSimpArgs false
namespace Go.Pub
theorem begB_len {s : ByteArray} {i : Nat} {t : List UInt8} (h : begB s i t = true) (ht : t ≠ []) : i + t.length ≤ s.size := by
  unfold begB at h
  have h2 := (List.isPrefixOf_iff_prefix.1 h).length_le
  rw [sfx_len] at h2
  have : 0 < t.length := List.length_pos_iff.2 ht
  omega
theorem begB_at {s : ByteArray} {i : Nat} {b : UInt8} {t : List UInt8} (h : begB s i (b :: t) = true) : bt s i = b.toNat := by
  unfold begB at h
  obtain ⟨r, hr⟩ := List.isPrefixOf_iff_prefix.1 h
  exact (sfx_head hr.symm).2.1
theorem namI_eq (s : ByteArray) (i : Nat) : namI s i = if i + 1 < s.size ∧ (bt s (i + 1) = 94 ∨ bt s (i + 1) = 35) then
    (if nameB (s.extract (i + 2) (wordAt s (i + 2))) = true then
      if begB s (wordAt s (i + 2)) [93] = true then some (spn (if bt s (i + 1) = 94 then 12 else 14) (s.extract (i + 2) (wordAt s (i + 2))), wordAt s (i + 2) + 1)
      else if bt s (i + 1) = 35 ∧ begB s (wordAt s (i + 2)) [32, 112, 97, 103, 101, 93] = true then some ({ kind := 14, text := s.extract (i + 2) (wordAt s (i + 2)), title := ⟨#[112, 97, 103, 101]⟩ }, wordAt s (i + 2) + 6)
      else none
    else none)
  else none := by
  unfold namI nmEnd
  by_cases h : nameB (s.extract (i + 2) (wordAt s (i + 2))) = true
  · rw [if_pos h, if_pos h]; rfl
  · rw [if_neg h, if_neg h]; rfl
theorem useI_eq (s : ByteArray) (i : Nat) : useI s i = if begB s i [123, 123] = true then
    (if nameB (s.extract (i + 2) (wordAt s (i + 2))) = true then
      if begB s (argsF s 8 (wordAt s (i + 2))).2 [125, 125] = true then some ({ kind := 15, text := s.extract (i + 2) (wordAt s (i + 2)), args := (argsF s 8 (wordAt s (i + 2))).1 }, (argsF s 8 (wordAt s (i + 2))).2 + 2) else none
    else none)
  else none := by
  unfold useI nmEnd
  by_cases h : nameB (s.extract (i + 2) (wordAt s (i + 2))) = true
  · rw [if_pos h, if_pos h]; rfl
  · rw [if_neg h, if_neg h]; rfl
end Go.Pub
namespace Go.Proofs.YtcjkgmfidkgamaaGreatDoor
open Go.RowKit Go.Pub
theorem pre_any (s : ByteArray) (k : Nat) (p : ByteArray) (W : World) : Calls Tryz.prog 119 #[.string (s.extract k s.size), .string p] W fun e w' => e = .returned (.bool (begB s k (bytesL p))) ∧ W = w' := by
  refine (Tryz.strings_HasPrefix (s.extract k s.size) p W).mono ?_
  rintro e w' ⟨rfl, rfl⟩
  exact ⟨ret_bool (by rw [begB_bytes]; rfl), rfl⟩
set_option maxRecDepth 100000 in
set_option maxHeartbeats 4000000 in
theorem s_named (s : ByteArray) (i : Nat) (w : World) (hs : s.size ≤ 1000000) (hi : i < s.size) : Calls Tryz.prog 82 #[.string s, .int .i64 i] w (InPost (namI s i) w) := by
  have HN := Lib.hid fun W => s_nameEnd s (i + 2) W hs
  have HA := Lib.hid fun W => name_any (s.extract (i + 2) (wordAt s (i + 2))) W (by rw [ByteArray.size_extract]; omega)
  have HP1 := Lib.hid fun W => pre_any s (wordAt s (i + 2)) ⟨#[93]⟩ W
  have HP2 := Lib.hid fun W => pre_any s (wordAt s (i + 2)) ⟨#[32, 112, 97, 103, 101, 93]⟩ W
  rw [show bytesL (⟨#[93]⟩ : ByteArray) = [93] from rfl] at HP1
  rw [show bytesL (⟨#[32, 112, 97, 103, 101, 93]⟩ : ByteArray) = [32, 112, 97, 103, 101, 93] from rfl] at HP2
  obtain ⟨R, hR⟩ : ∃ R, R = namI s i := ⟨_, rfl⟩
  rw [← hR]
  rw [namI_eq] at hR
  by_cases h1 : i + 1 < s.size
  · have hg := get_bt s (i + 1) h1
    have hk1 := (wordAt_bd s (i + 2)).1
    have hk2 := (wordAt_bd s (i + 2)).2 (by omega)
    generalize wordAt s (i + 2) = K at *
    generalize begB s K [93] = q1 at *
    generalize begB s K [32, 112, 97, 103, 101, 93] = q2 at *
    have HY : Hid (∃ Y, Y = s.extract (i + 2) K) := Lib.hid ⟨_, rfl⟩
    generalize bt s (i + 1) = b at *
    generalize hnm : nameB (s.extract (i + 2) K) = nm at *
    by_cases hb : b = 94 ∨ b = 35
    · rw [if_pos ⟨h1, hb⟩] at hR
      cases nm
      · have HF : Hid (R = none) := Lib.hid (by rw [hR, if_neg (by simp)])
        clear hR hnm
        rcases hb with rfl | rfl
        all_goals
          go_enter Tryz.func82, Tryz.ntmps82
          go_wp2_with fail
          (refine (HN.out _).mono ?_)
          rintro e w1 ⟨rfl, rfl⟩
          go_wp2_with fail
          ((with_reducible refine (HA.out _).mono ?_))
          rintro e w1 ⟨rfl, rfl⟩
          go_wp2_with fail
          exact in_ret Tryz.results82 (Blk.new w _ _) rfl rfl rfl (in_none HF.out ((Below.refl _ w).alloc (Nat.le_refl _) _))
      · clear hnm
        rw [if_pos rfl] at hR
        cases q1
        · rw [if_neg (by simp)] at hR
          rcases hb with rfl | rfl
          · have HF : Hid (R = none) := Lib.hid (by rw [hR]; rfl)
            clear hR
            go_enter Tryz.func82, Tryz.ntmps82
            go_wp2_with fail
            (refine (HN.out _).mono ?_)
            rintro e w1 ⟨rfl, rfl⟩
            go_wp2_with fail
            ((with_reducible refine (HA.out _).mono ?_))
            rintro e w1 ⟨rfl, rfl⟩
            go_wp2_with fail
            ((with_reducible refine (HP1.out _).mono ?_))
            rintro e w1 ⟨rfl, rfl⟩
            go_wp2_with fail
            exact in_ret Tryz.results82 (Blk.new w _ _) rfl rfl rfl (in_none HF.out ((Below.refl _ w).alloc (Nat.le_refl _) _))
          · cases q2
            · have HF : Hid (R = none) := Lib.hid (by rw [hR]; rfl)
              clear hR
              go_enter Tryz.func82, Tryz.ntmps82
              go_wp2_with fail
              (refine (HN.out _).mono ?_)
              rintro e w1 ⟨rfl, rfl⟩
              go_wp2_with fail
              ((with_reducible refine (HA.out _).mono ?_))
              rintro e w1 ⟨rfl, rfl⟩
              go_wp2_with fail
              ((with_reducible refine (HP1.out _).mono ?_))
              rintro e w1 ⟨rfl, rfl⟩
              go_wp2_with fail
              ((with_reducible refine (HP2.out _).mono ?_))
              rintro e w1 ⟨rfl, rfl⟩
              go_wp2_with fail
              exact in_ret Tryz.results82 (Blk.new w _ _) rfl rfl rfl (in_none HF.out ((Below.refl _ w).alloc (Nat.le_refl _) _))
            · have HF : Hid (R = some ({ kind := 14, text := s.extract (i + 2) K, title := ⟨#[112, 97, 103, 101]⟩ }, K + 6)) := Lib.hid (by rw [hR]; rfl)
              clear hR
              go_enter Tryz.func82, Tryz.ntmps82
              go_wp2_with fail
              (refine (HN.out _).mono ?_)
              rintro e w1 ⟨rfl, rfl⟩
              go_wp2_with fail
              ((with_reducible refine (HA.out _).mono ?_))
              rintro e w1 ⟨rfl, rfl⟩
              go_wp2_with fail
              ((with_reducible refine (HP1.out _).mono ?_))
              rintro e w1 ⟨rfl, rfl⟩
              go_wp2_with fail
              ((with_reducible refine (HP2.out _).mono ?_))
              rintro e w1 ⟨rfl, rfl⟩
              go_wp2_with fail
              exact in_ret Tryz.results82 (Blk.new w _ _) rfl rfl rfl (in_some HF.out rfl rfl ((Below.refl _ w).alloc (Nat.le_refl _) _) rfl (by omega))
        · rw [if_pos rfl] at hR
          rcases hb with rfl | rfl
          · have HF : Hid (R = some (spn 12 (s.extract (i + 2) K), K + 1)) := Lib.hid (by rw [hR]; rfl)
            clear hR
            go_enter Tryz.func82, Tryz.ntmps82
            go_wp2_with fail
            (refine (HN.out _).mono ?_)
            rintro e w1 ⟨rfl, rfl⟩
            go_wp2_with fail
            ((with_reducible refine (HA.out _).mono ?_))
            rintro e w1 ⟨rfl, rfl⟩
            go_wp2_with fail
            ((with_reducible refine (HP1.out _).mono ?_))
            rintro e w1 ⟨rfl, rfl⟩
            go_wp2_with fail
            exact in_ret Tryz.results82 (Blk.new w _ _) rfl rfl rfl (in_some HF.out rfl rfl ((Below.refl _ w).alloc (Nat.le_refl _) _) rfl (by omega))
          · have HF : Hid (R = some (spn 14 (s.extract (i + 2) K), K + 1)) := Lib.hid (by rw [hR]; rfl)
            clear hR
            go_enter Tryz.func82, Tryz.ntmps82
            go_wp2_with fail
            (refine (HN.out _).mono ?_)
            rintro e w1 ⟨rfl, rfl⟩
            go_wp2_with fail
            ((with_reducible refine (HA.out _).mono ?_))
            rintro e w1 ⟨rfl, rfl⟩
            go_wp2_with fail
            ((with_reducible refine (HP1.out _).mono ?_))
            rintro e w1 ⟨rfl, rfl⟩
            go_wp2_with fail
            exact in_ret Tryz.results82 (Blk.new w _ _) rfl rfl rfl (in_some HF.out rfl rfl ((Below.refl _ w).alloc (Nat.le_refl _) _) rfl (by omega))
    · rw [if_neg fun c => hb c.2] at hR
      have HF := Lib.hid hR
      have n1 : ((b : Int) != 94) = true := bne_iff_ne.2 (by omega)
      have n2 : ((b : Int) != 35) = true := bne_iff_ne.2 (by omega)
      clear hR hb hnm
      go_enter Tryz.func82, Tryz.ntmps82
      go_wp2_with fail
      exact in_ret Tryz.results82 (Blk.new w _ _) rfl rfl rfl (in_none HF.out ((Below.refl _ w).alloc (Nat.le_refl _) _))
  · rw [if_neg fun c => h1 c.1] at hR
    have HF := Lib.hid hR
    clear hR HN HA HP1 HP2
    go_enter Tryz.func82, Tryz.ntmps82
    go_wp2_with fail
    exact in_ret Tryz.results82 (Blk.new w _ _) rfl rfl rfl (in_none HF.out ((Below.refl _ w).alloc (Nat.le_refl _) _))

end Go.Proofs.YtcjkgmfidkgamaaGreatDoor
namespace Go.Pub
/-- The code point that ends at i and has at most n bytes. -/
def befF (s : ByteArray) (i : Nat) : Nat → Int
  | 0 => if bt s (i - 1) < 128 then bt s (i - 1) else 65533
  | 1 => if bt s (i - 1) < 128 then bt s (i - 1) else 65533
  | n + 2 => if n + 2 ≤ i ∧ (Utf8.decode s (i - (n + 2))).2 = n + 2 then (Utf8.decode s (i - (n + 2))).1 else befF s i (n + 1)
theorem befC_F (s : ByteArray) (i : Nat) (h : i ≠ 0) : befC s i = befF s i 4 := by
  unfold befC
  rw [if_neg h]
  unfold befF befF befF befF
  rfl
theorem dec_alone (s : ByteArray) (h : s.size = 1) : nextAt s 0 = (if bt s 0 < 128 then (bt s 0 : Int) else 65533, 1) := by
  have h0 : 0 < s.size := by omega
  have e : nextAt s ((0 : Nat) : Int) = _ := nextAt_in s 0 h0
  rw [show (0 : Int) = ((0 : Nat) : Int) from rfl, e]
  by_cases hb : bt s 0 < 128
  · rw [dec_one s 0 hb, if_pos hb]; rfl
  · rw [if_neg hb]
    have hd := dec_bd s 0 h0
    have hc := decodeN_cases ((bytesL s).drop 0).length (atL ((bytesL s).drop 0) 0) (atL ((bytesL s).drop 0) 1) (atL ((bytesL s).drop 0) 2) (atL ((bytesL s).drop 0) 3)
    have hdd : Utf8.decode s 0 = decL ((bytesL s).drop 0) := decode_decL s 0
    have h1 : bt s 0 = atL ((bytesL s).drop 0) 0 := bt_atL s 0 0
    unfold decL at hdd
    rw [h1] at hb
    rcases hc with c | ⟨c0, c⟩ | ⟨c0, c⟩ | ⟨c0, c⟩ | ⟨c0, c⟩
    · rw [hdd, c]; rfl
    · omega
    · rw [hdd, c] at hd; simp only [] at hd; omega
    · rw [hdd, c] at hd; simp only [] at hd; omega
    · rw [hdd, c] at hd; simp only [] at hd; omega
theorem extract_bt (s : ByteArray) (i k : Nat) (h : k ≤ s.size) (j : Nat) (hj : i + j < k) : bt (s.extract i k) j = bt s (i + j) := by
  have hs : j < (s.extract i k).size := by rw [ByteArray.size_extract]; omega
  rw [← get_bt _ j hs, ← get_bt s (i + j) (by omega), ByteArray.getElem_extract]
end Go.Pub
namespace Go.Proofs.YtcjkgmfidkgamaaGreatDoor
open Go.RowKit Go.Pub
set_option maxRecDepth 100000 in
set_option maxHeartbeats 1000000 in
theorem s_before (s : ByteArray) (i : Nat) (w : World) (hs : s.size ≤ 1000000) (hi : i ≤ s.size) : Calls Tryz.prog 123 #[.string s, .int .i64 i] w fun e w' => e = .returned (.int .i64 (befC s i)) ∧ Below w.heap.size w w' := by
  by_cases h0 : i = 0
  · subst h0
    go_enter Tryz.func123, Tryz.ntmps123
    go_wp2_with fail
    go_ret
    exact ⟨rfl, Below.refl _ _⟩
  · have HB := Lib.hid (befC_F s i h0)
    have HN := Lib.hid fun (k : Nat) (hk : k < s.size) W => by
      have := next_any s (k : Int) W (by omega)
      rwa [nextAt_in s k hk] at this
    have hz : (s.extract (i - 1) i).size = 1 := by rw [ByteArray.size_extract]; omega
    have HL : Hid (∀ W, Calls Tryz.prog 85 #[.string (s.extract (i - 1) i), .int .i64 0] W (PairQuiet (befF s i 1) 1 W)) := Lib.hid fun W => by
      have := next_any (s.extract (i - 1) i) 0 W (by omega)
      rw [dec_alone _ hz, extract_bt s (i - 1) i hi 0 (by omega), Nat.add_zero] at this
      exact this
    have HS : Hid (∀ n, befF s i (n + 2) = if n + 2 ≤ i ∧ (Utf8.decode s (i - (n + 2))).2 = n + 2 then ((Utf8.decode s (i - (n + 2))).1 : Int) else befF s i (n + 1)) := Lib.hid fun n => rfl
    generalize befC s i = R at *
    have z0 : ((i : Int) == 0) = false := beq_eq_false_iff_ne.2 (by omega)
    have hi0 : 0 < i := by omega
    clear h0
    go_enter Tryz.func123, Tryz.ntmps123
    go_wp2_with fail
    go_loopw [5] (fun v wr => ∃ n : Nat, v = .int .i64 n ∧ 1 ≤ n ∧ n ≤ 4 ∧ Hid (R = befF s i n) ∧ Below w.heap.size w wr) (fun v _ => (intOf v).toNat)
    case atStart => exact ⟨4, rfl, by omega, by omega, HB, Below.refl _ _⟩
    case round =>
      obtain ⟨n, rfl, hn1, hn4, HR, hbw⟩ := hrel
      by_cases h1 : n = 1
      · subst h1
        have e1 : (i : Int) - 1 = ((i - 1 : Nat) : Int) := by omega
        have hsl : i - 1 ≤ i := by omega
        go_wp2_with fail
        (refine (HL.out _).mono ?_)
        rintro e w1 ⟨rfl, q, rfl⟩
        go_wp2_with fail
        go_ret
        exact ⟨ret_int (by rw [HR.out]), below_drewN hbw _⟩
      · obtain ⟨m, rfl⟩ : ∃ m, n = m + 2 := ⟨n - 2, by omega⟩
        have HSm := Lib.hid (HS.out m)
        by_cases hl : i < m + 2
        · have HR2 : Hid (R = befF s i (m + 1)) := Lib.hid (by rw [HR.out, HSm.out, if_neg (by omega)])
          go_wp2_with fail
          go_roundw
          case rel => exact ⟨m + 1, by go_num, by omega, by omega, HR2, hbw⟩
          case measure => simp [intOf]; omega
        · have e1 : (i : Int) - ((m + 2 : Nat) : Int) = ((i - (m + 2) : Nat) : Int) := by omega
          have HNm := Lib.hid (HN.out (i - (m + 2)) (by omega))
          rw [← e1] at HNm
          generalize Utf8.decode s (i - (m + 2)) = D at *
          by_cases hd : D.2 = m + 2
          · have z1 : ((D.2 : Int) == ((m + 2 : Nat) : Int)) = true := beq_iff_eq.2 (by omega)
            have HR2 : Hid (R = (D.1 : Int)) := Lib.hid (by rw [HR.out, HSm.out, if_pos ⟨by omega, hd⟩])
            clear hd
            go_wp2_with fail
            (refine (HNm.out _).mono ?_)
            rintro e w1 ⟨rfl, q, rfl⟩
            go_wp2_with fail
            go_ret
            exact ⟨ret_int (by rw [HR2.out]), below_drewN hbw _⟩
          · have z1 : ((D.2 : Int) == ((m + 2 : Nat) : Int)) = false := beq_eq_false_iff_ne.2 (by omega)
            have HR2 : Hid (R = befF s i (m + 1)) := Lib.hid (by rw [HR.out, HSm.out, if_neg (fun c => hd c.2)])
            clear hd
            go_wp2_with fail
            (refine (HNm.out _).mono ?_)
            rintro e w1 ⟨rfl, q, rfl⟩
            have hb2 := Lib.hid (below_drewN hbw q)
            generalize wr.drewN q = W2 at *
            go_wp2_with fail
            go_roundw
            case rel => exact ⟨m + 1, by go_num, by omega, by omega, HR2, hb2.out⟩
            case measure => simp [intOf]; omega

set_option maxRecDepth 100000 in
set_option maxHeartbeats 4000000 in
theorem s_flank (ch : ByteArray) (b a : Int) (w : World) : Calls Tryz.prog 23 #[.string ch, .int .i64 b, .int .i64 a] w fun e w' => e = .returned (.tuple #[.bool (flankL ch b a).1, .bool (flankL ch b a).2]) ∧ w = w' := by
  have HSb := Lib.hid fun W => space_any b W
  have HSa := Lib.hid fun W => space_any a W
  have HPb := Lib.hid fun W => punct_any b W
  have HPa := Lib.hid fun W => punct_any a W
  have HF : Hid (flankL ch b a = (
    let sb := decide (b < 0) || spaceB b
    let sa := decide (a < 0) || spaceB a
    let l := !sa && (!inB a punctL || sb || inB b punctL)
    let r := !sb && (!inB b punctL || sa || inB a punctL)
    if ch.toList = [42] ∨ ch.toList = [126] then (l, r)
    else if ch.toList = [95] then (l && (!r || inB b punctL), r && (!l || inB a punctL))
    else (false, false))) := Lib.hid rfl
  generalize flankL ch b a = F at *
  generalize inB b punctL = pb at *
  generalize inB a punctL = pa at *
  obtain ⟨sb, hsb⟩ : ∃ q, q = (decide (b < 0) || spaceB b) := ⟨_, rfl⟩
  obtain ⟨sa, hsa⟩ : ∃ q, q = (decide (a < 0) || spaceB a) := ⟨_, rfl⟩
  rw [← hsb, ← hsa] at HF
  have HSB := Lib.hid hsb
  have HSA := Lib.hid hsa
  clear hsb hsa
  generalize spaceB b = tb at *
  generalize spaceB a = ta at *
  go_enter Tryz.func23, Tryz.ntmps23
  go_upto_region 1 with fail
  go_cut [8] (fun s8 wx => s8 = .bool sb ∧ w = wx)
  case first =>
    by_cases h1 : b < 0
    · go_wp2_with fail
      go_meet
      case rel => exact ⟨by rw [HSB.out, decide_eq_true h1]; rfl, rfl⟩
    · go_wp2_with fail
      ((with_reducible refine (HSb.out _).mono ?_))
      rintro e w1 ⟨rfl, rfl⟩
      go_wp2_with fail
      go_meet
      case rel => exact ⟨by rw [HSB.out, decide_eq_false (by omega)]; rfl, rfl⟩
  case rest =>
  obtain ⟨rfl, rfl⟩ := hcut
  go_upto_region 2 with fail
  go_cut [9] (fun s9 wx => s9 = .bool sa ∧ w = wx)
  case first =>
    by_cases h1 : a < 0
    · go_wp2_with fail
      go_meet
      case rel => exact ⟨by rw [HSA.out, decide_eq_true h1]; rfl, rfl⟩
    · go_wp2_with fail
      ((with_reducible refine (HSa.out _).mono ?_))
      rintro e w1 ⟨rfl, rfl⟩
      go_wp2_with fail
      go_meet
      case rel => exact ⟨by rw [HSA.out, decide_eq_false (by omega)]; rfl, rfl⟩
  case rest =>
  obtain ⟨rfl, rfl⟩ := hcut
  clear HSB HSA HSb HSa
  obtain ⟨l, hl⟩ : ∃ q, q = (!sa && (!pa || sb || pb)) := ⟨_, rfl⟩
  obtain ⟨r, hr⟩ : ∃ q, q = (!sb && (!pb || sa || pa)) := ⟨_, rfl⟩
  simp only [← hl, ← hr] at HF
  go_upto_region 3 with fail
  go_cut [10] (fun s10 wx => s10 = .bool l ∧ w = wx)
  case first =>
    clear hr HF
    cases sb <;> cases sa <;> cases pb <;> cases pa <;> simp at hl <;> subst hl
    all_goals
      go_wp2_with (go_at_call 40; (first | with_reducible refine (HPa.out _).mono ?_ | with_reducible refine (HPb.out _).mono ?_); rintro e w1 ⟨rfl, rfl⟩)
      go_meet
      case rel => exact ⟨rfl, rfl⟩
  case rest =>
  obtain ⟨rfl, rfl⟩ := hcut
  clear hl
  go_upto_region 4 with fail
  go_cut [11] (fun s11 wx => s11 = .bool r ∧ w = wx)
  case first =>
    clear HF
    cases sb <;> cases sa <;> cases pb <;> cases pa <;> simp at hr <;> subst hr
    all_goals
      go_wp2_with (go_at_call 40; (first | with_reducible refine (HPa.out _).mono ?_ | with_reducible refine (HPb.out _).mono ?_); rintro e w1 ⟨rfl, rfl⟩)
      go_meet
      case rel => exact ⟨rfl, rfl⟩
  case rest =>
      obtain ⟨rfl, rfl⟩ := hcut
      clear hr
      by_cases c1 : ch.toList = [42]
      · have HG : Hid (F = (l, r)) := Lib.hid (by rw [HF.out, if_pos (.inl c1)])
        have z1 : (ch.toList == ([42] : List UInt8)) = true := beq_iff_eq.2 c1
        clear c1 HF
        go_wp2_with fail
        go_ret2
        exact ⟨by rw [HG.out]; rfl, rfl⟩
      · have z1 : (ch.toList == ([42] : List UInt8)) = false := beq_eq_false_iff_ne.2 c1
        by_cases c2 : ch.toList = [126]
        · have HG : Hid (F = (l, r)) := Lib.hid (by rw [HF.out, if_pos (.inr c2)])
          have z2 : (ch.toList == ([126] : List UInt8)) = true := beq_iff_eq.2 c2
          clear c1 c2 HF
          go_wp2_with fail
          go_ret2
          exact ⟨by rw [HG.out]; rfl, rfl⟩
        · have z2 : (ch.toList == ([126] : List UInt8)) = false := beq_eq_false_iff_ne.2 c2
          by_cases c3 : ch.toList = [95]
          · have HG : Hid (F = (l && (!r || pb), r && (!l || pa))) := Lib.hid (by rw [HF.out, if_neg (by simp [c1, c2]), if_pos c3])
            have z3 : (ch.toList == ([95] : List UInt8)) = true := beq_iff_eq.2 c3
            clear c1 c2 c3 HF
            cases l <;> cases r
            all_goals
              go_wp2_with (go_at_call 40; (first | with_reducible refine (HPa.out _).mono ?_ | with_reducible refine (HPb.out _).mono ?_); rintro e w1 ⟨rfl, rfl⟩)
              go_ret2
              exact ⟨by rw [HG.out]; simp, rfl⟩
          · have HG : Hid (F = (false, false)) := Lib.hid (by rw [HF.out, if_neg (by simp [c1, c2]), if_neg c3])
            have z3 : (ch.toList == ([95] : List UInt8)) = false := beq_eq_false_iff_ne.2 c3
            clear c1 c2 c3 HF
            go_wp2_with fail
            go_ret2
            exact ⟨by rw [HG.out]; rfl, rfl⟩

end Go.Proofs.YtcjkgmfidkgamaaGreatDoor
namespace Go.Pub
theorem bt_head {l : List UInt8} : (bt (mk l) 0 = 32 ∧ 0 < l.length) ↔ l.head? = some 32 := by
  cases l with
  | nil => simp
  | cons b l =>
    have e : (mk (b :: l)).get! 0 = b := by
      have := sfx_cons (mk (b :: l)) 0 (by rw [mk_size]; simp)
      unfold sfx at this
      rw [bytesL_mk'] at this
      simp at this
      exact this.symm
    have e2 : bt (mk (b :: l)) 0 = b.toNat := by unfold bt; rw [e]
    rw [e2]
    constructor
    · rintro ⟨h, _⟩
      have : b = 32 := UInt8.toNat_inj.1 h
      rw [this]; rfl
    · intro h
      injection h with h
      subst h
      exact ⟨rfl, by simp⟩
theorem bt_last {l : List UInt8} (h0 : 0 < l.length) : bt (mk l) (l.length - 1) = 32 ↔ l.getLast? = some 32 := by
  have e : (mk l).get! (l.length - 1) = l[l.length - 1] := by
    have := byte9_at (mk l) (l.length - 1) (by rw [mk_size]; omega)
    rw [bytesL_mk', List.getElem?_eq_getElem (by omega)] at this
    exact (Option.some.inj this).symm
  unfold bt
  rw [e, List.getLast?_eq_getElem?, List.getElem?_eq_getElem (by omega)]
  constructor
  · intro h
    have : l[l.length - 1] = 32 := UInt8.toNat_inj.1 h
    rw [this]
  · intro h
    injection h with h
    rw [h]; rfl
theorem pun_eq : ∀ b : Nat, b < 256 → (decide (b < 128) && inB (b : Int) punctL) = ((decide (33 ≤ b) && decide (b ≤ 47)) || (decide (58 ≤ b) && decide (b ≤ 64)) || (decide (91 ≤ b) && decide (b ≤ 96)) || (decide (123 ≤ b) && decide (b ≤ 126))) := by
  have key : ∀ b : Fin 256, (decide (b.1 < 128) && inB (b.1 : Int) punctL) = ((decide (33 ≤ b.1) && decide (b.1 ≤ 47)) || (decide (58 ≤ b.1) && decide (b.1 ≤ 64)) || (decide (91 ≤ b.1) && decide (b.1 ≤ 96)) || (decide (123 ≤ b.1) && decide (b.1 ≤ 126))) := by decide +kernel
  exact fun b h => key ⟨b, h⟩
end Go.Pub
