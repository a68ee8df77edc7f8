/-
  Texts of the proof, put together (what this law reaches): ScH, ScTA, ScU.
-/
import Derived.Test.YtcjkgmfidkgamaaGreatDoorD07
import Derived.Deep.DeepCutAuto
import Derived.Test.YtcjkgmfidkgamaaGreatDoorD05
import Derived.Test.YtcjkgmfidkgamaaGreatDoorD06
import Derived.Test.YtcjkgmfidkgamaaGreatDoorD08
import Derived.Test.YtcjkgmfidkgamaaGreatDoorD04
import Derived.Test.YtcjkgmfidkgamaaGreatDoorD01
set_option linter.unusedVariables false
set_option linter.unusedSimpArgs false
namespace Go.Pub
/-- The code point that ends at i and has at most n bytes. -/
def befF (s : ByteArray) (i : Nat) : Nat → Int
  | 0 => if bt s (i - 1) < 128 then bt s (i - 1) else 65533
  | 1 => if bt s (i - 1) < 128 then bt s (i - 1) else 65533
  | n + 2 => if n + 2 ≤ i ∧ (Utf8.decode s (i - (n + 2))).2 = n + 2 then (Utf8.decode s (i - (n + 2))).1 else befF s i (n + 1)
theorem befC_F (s : ByteArray) (i : Nat) (h : i ≠ 0) : befC s i = befF s i 4 := by
  unfold befC
  rw [if_neg h]
  unfold befF befF befF befF
  rfl
theorem dec_alone (s : ByteArray) (h : s.size = 1) : nextAt s 0 = (if bt s 0 < 128 then (bt s 0 : Int) else 65533, 1) := by
  have h0 : 0 < s.size := by omega
  have e : nextAt s ((0 : Nat) : Int) = _ := nextAt_in s 0 h0
  rw [show (0 : Int) = ((0 : Nat) : Int) from rfl, e]
  by_cases hb : bt s 0 < 128
  · rw [dec_one s 0 hb, if_pos hb]; rfl
  · rw [if_neg hb]
    have hd := dec_bd s 0 h0
    have hc := decodeN_cases ((bytesL s).drop 0).length (atL ((bytesL s).drop 0) 0) (atL ((bytesL s).drop 0) 1) (atL ((bytesL s).drop 0) 2) (atL ((bytesL s).drop 0) 3)
    have hdd : Utf8.decode s 0 = decL ((bytesL s).drop 0) := decode_decL s 0
    have h1 : bt s 0 = atL ((bytesL s).drop 0) 0 := bt_atL s 0 0
    unfold decL at hdd
    rw [h1] at hb
    rcases hc with c | ⟨c0, c⟩ | ⟨c0, c⟩ | ⟨c0, c⟩ | ⟨c0, c⟩
    · rw [hdd, c]; rfl
    · omega
    · rw [hdd, c] at hd; simp only [] at hd; omega
    · rw [hdd, c] at hd; simp only [] at hd; omega
    · rw [hdd, c] at hd; simp only [] at hd; omega
theorem extract_bt (s : ByteArray) (i k : Nat) (h : k ≤ s.size) (j : Nat) (hj : i + j < k) : bt (s.extract i k) j = bt s (i + j) := by
  have hs : j < (s.extract i k).size := by rw [ByteArray.size_extract]; omega
  rw [← get_bt _ j hs, ← get_bt s (i + j) (by omega), ByteArray.getElem_extract]
end Go.Pub
namespace Go.Proofs.YtcjkgmfidkgamaaGreatDoor
open Go.RowKit Go.Pub
set_option maxRecDepth 100000 in
set_option maxHeartbeats 1000000 in
theorem s_before (s : ByteArray) (i : Nat) (w : World) (hs : s.size ≤ 1000000) (hi : i ≤ s.size) : Calls Tryz.prog 123 #[.string s, .int .i64 i] w fun e w' => e = .returned (.int .i64 (befC s i)) ∧ Below w.heap.size w w' := by
  by_cases h0 : i = 0
  · subst h0
    go_enter Tryz.func123, Tryz.ntmps123
    go_wp2_with fail
    go_ret
    exact ⟨rfl, Below.refl _ _⟩
  · have HB := Lib.hid (befC_F s i h0)
    have HN := Lib.hid fun (k : Nat) (hk : k < s.size) W => by
      have := next_any s (k : Int) W (by omega)
      rwa [nextAt_in s k hk] at this
    have hz : (s.extract (i - 1) i).size = 1 := by rw [ByteArray.size_extract]; omega
    have HL : Hid (∀ W, Calls Tryz.prog 85 #[.string (s.extract (i - 1) i), .int .i64 0] W (PairQuiet (befF s i 1) 1 W)) := Lib.hid fun W => by
      have := next_any (s.extract (i - 1) i) 0 W (by omega)
      rw [dec_alone _ hz, extract_bt s (i - 1) i hi 0 (by omega), Nat.add_zero] at this
      exact this
    have HS : Hid (∀ n, befF s i (n + 2) = if n + 2 ≤ i ∧ (Utf8.decode s (i - (n + 2))).2 = n + 2 then ((Utf8.decode s (i - (n + 2))).1 : Int) else befF s i (n + 1)) := Lib.hid fun n => rfl
    generalize befC s i = R at *
    have z0 : ((i : Int) == 0) = false := beq_eq_false_iff_ne.2 (by omega)
    have hi0 : 0 < i := by omega
    clear h0
    go_enter Tryz.func123, Tryz.ntmps123
    go_wp2_with fail
    go_loopw [5] (fun v wr => ∃ n : Nat, v = .int .i64 n ∧ 1 ≤ n ∧ n ≤ 4 ∧ Hid (R = befF s i n) ∧ Below w.heap.size w wr) (fun v _ => (intOf v).toNat)
    case atStart => exact ⟨4, rfl, by omega, by omega, HB, Below.refl _ _⟩
    case round =>
      obtain ⟨n, rfl, hn1, hn4, HR, hbw⟩ := hrel
      by_cases h1 : n = 1
      · subst h1
        have e1 : (i : Int) - 1 = ((i - 1 : Nat) : Int) := by omega
        have hsl : i - 1 ≤ i := by omega
        go_wp2_with fail
        (refine (HL.out _).mono ?_)
        rintro e w1 ⟨rfl, q, rfl⟩
        go_wp2_with fail
        go_ret
        exact ⟨ret_int (by rw [HR.out]), below_drewN hbw _⟩
      · obtain ⟨m, rfl⟩ : ∃ m, n = m + 2 := ⟨n - 2, by omega⟩
        have HSm := Lib.hid (HS.out m)
        by_cases hl : i < m + 2
        · have HR2 : Hid (R = befF s i (m + 1)) := Lib.hid (by rw [HR.out, HSm.out, if_neg (by omega)])
          go_wp2_with fail
          go_roundw
          case rel => exact ⟨m + 1, by go_num, by omega, by omega, HR2, hbw⟩
          case measure => simp [intOf]; omega
        · have e1 : (i : Int) - ((m + 2 : Nat) : Int) = ((i - (m + 2) : Nat) : Int) := by omega
          have HNm := Lib.hid (HN.out (i - (m + 2)) (by omega))
          rw [← e1] at HNm
          generalize Utf8.decode s (i - (m + 2)) = D at *
          by_cases hd : D.2 = m + 2
          · have z1 : ((D.2 : Int) == ((m + 2 : Nat) : Int)) = true := beq_iff_eq.2 (by omega)
            have HR2 : Hid (R = (D.1 : Int)) := Lib.hid (by rw [HR.out, HSm.out, if_pos ⟨by omega, hd⟩])
            clear hd
            go_wp2_with fail
            (refine (HNm.out _).mono ?_)
            rintro e w1 ⟨rfl, q, rfl⟩
            go_wp2_with fail
            go_ret
            exact ⟨ret_int (by rw [HR2.out]), below_drewN hbw _⟩
          · have z1 : ((D.2 : Int) == ((m + 2 : Nat) : Int)) = false := beq_eq_false_iff_ne.2 (by omega)
            have HR2 : Hid (R = befF s i (m + 1)) := Lib.hid (by rw [HR.out, HSm.out, if_neg (fun c => hd c.2)])
            clear hd
            go_wp2_with fail
            (refine (HNm.out _).mono ?_)
            rintro e w1 ⟨rfl, q, rfl⟩
            have hb2 := Lib.hid (below_drewN hbw q)
            generalize wr.drewN q = W2 at *
            go_wp2_with fail
            go_roundw
            case rel => exact ⟨m + 1, by go_num, by omega, by omega, HR2, hb2.out⟩
            case measure => simp [intOf]; omega

set_option maxRecDepth 100000 in
set_option maxHeartbeats 4000000 in
theorem s_flank (ch : ByteArray) (b a : Int) (w : World) : Calls Tryz.prog 23 #[.string ch, .int .i64 b, .int .i64 a] w fun e w' => e = .returned (.tuple #[.bool (flankL ch b a).1, .bool (flankL ch b a).2]) ∧ w = w' := by
  have HSb := Lib.hid fun W => space_any b W
  have HSa := Lib.hid fun W => space_any a W
  have HPb := Lib.hid fun W => punct_any b W
  have HPa := Lib.hid fun W => punct_any a W
  have HF : Hid (flankL ch b a = (
    let sb := decide (b < 0) || spaceB b
    let sa := decide (a < 0) || spaceB a
    let l := !sa && (!inB a punctL || sb || inB b punctL)
    let r := !sb && (!inB b punctL || sa || inB a punctL)
    if ch.toList = [42] ∨ ch.toList = [126] then (l, r)
    else if ch.toList = [95] then (l && (!r || inB b punctL), r && (!l || inB a punctL))
    else (false, false))) := Lib.hid rfl
  generalize flankL ch b a = F at *
  generalize inB b punctL = pb at *
  generalize inB a punctL = pa at *
  obtain ⟨sb, hsb⟩ : ∃ q, q = (decide (b < 0) || spaceB b) := ⟨_, rfl⟩
  obtain ⟨sa, hsa⟩ : ∃ q, q = (decide (a < 0) || spaceB a) := ⟨_, rfl⟩
  rw [← hsb, ← hsa] at HF
  have HSB := Lib.hid hsb
  have HSA := Lib.hid hsa
  clear hsb hsa
  generalize spaceB b = tb at *
  generalize spaceB a = ta at *
  go_enter Tryz.func23, Tryz.ntmps23
  go_upto_region 1 with fail
  go_cut [8] (fun s8 wx => s8 = .bool sb ∧ w = wx)
  case first =>
    by_cases h1 : b < 0
    · go_wp2_with fail
      go_meet
      case rel => exact ⟨by rw [HSB.out, decide_eq_true h1]; rfl, rfl⟩
    · go_wp2_with fail
      ((with_reducible refine (HSb.out _).mono ?_))
      rintro e w1 ⟨rfl, rfl⟩
      go_wp2_with fail
      go_meet
      case rel => exact ⟨by rw [HSB.out, decide_eq_false (by omega)]; rfl, rfl⟩
  case rest =>
  obtain ⟨rfl, rfl⟩ := hcut
  go_upto_region 2 with fail
  go_cut [9] (fun s9 wx => s9 = .bool sa ∧ w = wx)
  case first =>
    by_cases h1 : a < 0
    · go_wp2_with fail
      go_meet
      case rel => exact ⟨by rw [HSA.out, decide_eq_true h1]; rfl, rfl⟩
    · go_wp2_with fail
      ((with_reducible refine (HSa.out _).mono ?_))
      rintro e w1 ⟨rfl, rfl⟩
      go_wp2_with fail
      go_meet
      case rel => exact ⟨by rw [HSA.out, decide_eq_false (by omega)]; rfl, rfl⟩
  case rest =>
  obtain ⟨rfl, rfl⟩ := hcut
  clear HSB HSA HSb HSa
  obtain ⟨l, hl⟩ : ∃ q, q = (!sa && (!pa || sb || pb)) := ⟨_, rfl⟩
  obtain ⟨r, hr⟩ : ∃ q, q = (!sb && (!pb || sa || pa)) := ⟨_, rfl⟩
  simp only [← hl, ← hr] at HF
  go_upto_region 3 with fail
  go_cut [10] (fun s10 wx => s10 = .bool l ∧ w = wx)
  case first =>
    clear hr HF
    cases sb <;> cases sa <;> cases pb <;> cases pa <;> simp at hl <;> subst hl
    all_goals
      go_wp2_with (go_at_call 40; (first | with_reducible refine (HPa.out _).mono ?_ | with_reducible refine (HPb.out _).mono ?_); rintro e w1 ⟨rfl, rfl⟩)
      go_meet
      case rel => exact ⟨rfl, rfl⟩
  case rest =>
  obtain ⟨rfl, rfl⟩ := hcut
  clear hl
  go_upto_region 4 with fail
  go_cut [11] (fun s11 wx => s11 = .bool r ∧ w = wx)
  case first =>
    clear HF
    cases sb <;> cases sa <;> cases pb <;> cases pa <;> simp at hr <;> subst hr
    all_goals
      go_wp2_with (go_at_call 40; (first | with_reducible refine (HPa.out _).mono ?_ | with_reducible refine (HPb.out _).mono ?_); rintro e w1 ⟨rfl, rfl⟩)
      go_meet
      case rel => exact ⟨rfl, rfl⟩
  case rest =>
      obtain ⟨rfl, rfl⟩ := hcut
      clear hr
      by_cases c1 : ch.toList = [42]
      · have HG : Hid (F = (l, r)) := Lib.hid (by rw [HF.out, if_pos (.inl c1)])
        have z1 : (ch.toList == ([42] : List UInt8)) = true := beq_iff_eq.2 c1
        clear c1 HF
        go_wp2_with fail
        go_ret2
        exact ⟨by rw [HG.out]; rfl, rfl⟩
      · have z1 : (ch.toList == ([42] : List UInt8)) = false := beq_eq_false_iff_ne.2 c1
        by_cases c2 : ch.toList = [126]
        · have HG : Hid (F = (l, r)) := Lib.hid (by rw [HF.out, if_pos (.inr c2)])
          have z2 : (ch.toList == ([126] : List UInt8)) = true := beq_iff_eq.2 c2
          clear c1 c2 HF
          go_wp2_with fail
          go_ret2
          exact ⟨by rw [HG.out]; rfl, rfl⟩
        · have z2 : (ch.toList == ([126] : List UInt8)) = false := beq_eq_false_iff_ne.2 c2
          by_cases c3 : ch.toList = [95]
          · have HG : Hid (F = (l && (!r || pb), r && (!l || pa))) := Lib.hid (by rw [HF.out, if_neg (by simp [c1, c2]), if_pos c3])
            have z3 : (ch.toList == ([95] : List UInt8)) = true := beq_iff_eq.2 c3
            clear c1 c2 c3 HF
            cases l <;> cases r
            all_goals
              go_wp2_with (go_at_call 40; (first | with_reducible refine (HPa.out _).mono ?_ | with_reducible refine (HPb.out _).mono ?_); rintro e w1 ⟨rfl, rfl⟩)
              go_ret2
              exact ⟨by rw [HG.out]; simp, rfl⟩
          · have HG : Hid (F = (false, false)) := Lib.hid (by rw [HF.out, if_neg (by simp [c1, c2]), if_neg c3])
            have z3 : (ch.toList == ([95] : List UInt8)) = false := beq_eq_false_iff_ne.2 c3
            clear c1 c2 c3 HF
            go_wp2_with fail
            go_ret2
            exact ⟨by rw [HG.out]; rfl, rfl⟩

end Go.Proofs.YtcjkgmfidkgamaaGreatDoor
namespace Go.Pub
theorem laterF_fuel (s : ByteArray) (n : Nat) (d : Bool) (f g i : Nat) (hf : s.size - i ≤ f) (hg : s.size - i ≤ g) : laterF s n d f i = laterF s n d g i := by
  rw [later_head, later_head, runsF_fuel s f g i hf hg]
theorem later_end {s : ByteArray} {i : Nat} (n : Nat) (d : Bool) (h : ¬ i < s.size) : laterA s i n d = none := by
  unfold laterA
  rw [show s.size - i = 0 by omega]; rfl
theorem later_no {s : ByteArray} {i : Nat} (n : Nat) (d : Bool) (h : i < s.size) (hb : bt s i ≠ 96) : laterA s i n d = laterA s (i + 1) n d := by
  unfold laterA
  rw [show s.size - i = (s.size - (i + 1)) + 1 by omega]
  conv => lhs; unfold laterF
  rw [if_pos h, if_neg hb]
theorem later_hit {s : ByteArray} {i n : Nat} {d : Bool} (h : i < s.size) (hb : bt s i = 96) (hr : runE s i - i = n) (hd : d = true → i + n < s.size ∧ bt s (i + n) = 36) : laterA s i n d = some i := by
  have e : runF s i tick = n := by rw [runE_tick hb] at hr; omega
  unfold laterA
  rw [show s.size - i = (s.size - (i + 1)) + 1 by omega]
  unfold laterF
  rw [if_pos h, if_pos hb, if_pos ⟨e, hd⟩]
theorem later_miss {s : ByteArray} {i n : Nat} {d : Bool} (h : i < s.size) (hb : bt s i = 96) (hr : ¬ (runE s i - i = n ∧ (d = true → i + n < s.size ∧ bt s (i + n) = 36))) : laterA s i n d = laterA s (runE s i) n d := by
  have e : runF s i tick = runE s i - i := by rw [runE_tick hb]; omega
  have h1 := runE_bd s i h
  rw [← e] at hr
  unfold laterA
  rw [show s.size - i = (s.size - (i + 1)) + 1 by omega]
  conv => lhs; unfold laterF
  rw [if_pos h, if_pos hb, if_neg hr, show i + runF s i tick = runE s i by omega]
  exact laterF_fuel s n d _ _ _ (by omega) (by omega)
/-- Code text up to i. -/
def unT (s : ByteArray) (i : Nat) : List UInt8 := unLF ((bytesL s).take i)
def cbl (s : ByteArray) (i : Nat) : Bool := (unT s i).all (· == 32)
theorem unT_len (s : ByteArray) (i : Nat) (h : i ≤ s.size) : (unT s i).length = i := by
  unfold unT unLF; rw [List.length_map, List.length_take, bytesL_length]; omega
theorem unT_step {s : ByteArray} {i : Nat} (h : i < s.size) : unT s (i + 1) = unT s i ++ [if bt s i = 10 then 32 else s.get! i] := by
  unfold unT unLF
  rw [take_step s i h, List.map_append]
  congr 1
  show [if s.get! i = 10 then (32 : UInt8) else s.get! i] = _
  have e : (s.get! i = 10) = (bt s i = 10) := propext (bt_u8 s i 10 (by decide))
  simp only [e]
theorem unT_lf {s : ByteArray} {i : Nat} (h : i < s.size) (hb : bt s i = 10) : unT s (i + 1) = unT s i ++ [32] := by rw [unT_step h, if_pos hb]
theorem unT_no {s : ByteArray} {i : Nat} (h : i < s.size) (hb : bt s i ≠ 10) : unT s (i + 1) = unT s i ++ [s.get! i] := by rw [unT_step h, if_neg hb]
theorem cbl_lf {s : ByteArray} {i : Nat} (h : i < s.size) (hb : bt s i = 10) : cbl s (i + 1) = cbl s i := by
  unfold cbl; rw [unT_lf h hb, List.all_append]; simp
theorem cbl_no {s : ByteArray} {i : Nat} (h : i < s.size) (hb : bt s i ≠ 10) : cbl s (i + 1) = (cbl s i && (bt s i == 32)) := by
  unfold cbl
  rw [unT_no h hb, List.all_append]
  congr 1
  show ((s.get! i == 32) && true) = _
  rw [Bool.and_true, Bool.eq_iff_iff, beq_iff_eq, beq_iff_eq]
  exact bt_u8 s i 32 (by decide)
theorem unT_all (s : ByteArray) : unT s s.size = unLF (bytesL s) := by
  unfold unT; rw [List.take_of_length_le (by rw [bytesL_length]; exact Nat.le_refl _)]
theorem not_all (l : List UInt8) : l.any (· != 32) = !l.all (· == 32) := by
  induction l with
  | nil => rfl
  | cons b l ih => rw [List.any_cons, List.all_cons, ih]; cases h : b == 32 <;> simp [bne, h]
theorem code_blank {s : ByteArray} (h : cbl s s.size = true) : mk (codeT (bytesL s)) = mk (unT s s.size) := by
  unfold cbl at h
  rw [unT_all] at h ⊢
  unfold codeT
  rw [if_neg]
  rintro ⟨h1, _⟩
  rw [not_all, h] at h1
  cases h1
theorem bt_head {l : List UInt8} : (bt (mk l) 0 = 32 ∧ 0 < l.length) ↔ l.head? = some 32 := by
  cases l with
  | nil => simp
  | cons b l =>
    have e : (mk (b :: l)).get! 0 = b := by
      have := sfx_cons (mk (b :: l)) 0 (by rw [mk_size]; simp)
      unfold sfx at this
      rw [bytesL_mk'] at this
      simp at this
      exact this.symm
    have e2 : bt (mk (b :: l)) 0 = b.toNat := by unfold bt; rw [e]
    rw [e2]
    constructor
    · rintro ⟨h, _⟩
      have : b = 32 := UInt8.toNat_inj.1 h
      rw [this]; rfl
    · intro h
      injection h with h
      subst h
      exact ⟨rfl, by simp⟩
theorem bt_last {l : List UInt8} (h0 : 0 < l.length) : bt (mk l) (l.length - 1) = 32 ↔ l.getLast? = some 32 := by
  have e : (mk l).get! (l.length - 1) = l[l.length - 1] := by
    have := byte9_at (mk l) (l.length - 1) (by rw [mk_size]; omega)
    rw [bytesL_mk', List.getElem?_eq_getElem (by omega)] at this
    exact (Option.some.inj this).symm
  unfold bt
  rw [e, List.getLast?_eq_getElem?, List.getElem?_eq_getElem (by omega)]
  constructor
  · intro h
    have : l[l.length - 1] = 32 := UInt8.toNat_inj.1 h
    rw [this]
  · intro h
    injection h with h
    rw [h]; rfl
theorem code_stay {s : ByteArray} (h : bt (mk (unT s s.size)) 0 ≠ 32 ∨ bt (mk (unT s s.size)) (s.size - 1) ≠ 32) (h0 : 0 < s.size) : mk (codeT (bytesL s)) = mk (unT s s.size) := by
  have hl := unT_len s s.size (Nat.le_refl _)
  rw [unT_all] at h hl ⊢
  unfold codeT
  rw [if_neg]
  rintro ⟨_, h1, h2⟩
  rcases h with h | h
  · exact h (bt_head.2 h1).1
  · have := (bt_last (l := unLF (bytesL s)) (by omega)).2 h2
    rw [hl] at this
    exact h this
theorem code_trim {s : ByteArray} (hb : cbl s s.size = false) (h1 : bt (mk (unT s s.size)) 0 = 32) (h2 : bt (mk (unT s s.size)) (s.size - 1) = 32) (h0 : 0 < s.size) : mk (codeT (bytesL s)) = (mk (unT s s.size)).extract 1 (s.size - 1) := by
  have hl := unT_len s s.size (Nat.le_refl _)
  unfold cbl at hb
  rw [unT_all] at h1 h2 hl hb ⊢
  unfold codeT
  rw [if_pos ⟨by rw [not_all, hb]; rfl, bt_head.1 ⟨h1, by omega⟩, (bt_last (by omega)).1 (by rw [hl]; exact h2)⟩]
  rw [← mk_bytesL ((mk (unLF (bytesL s))).extract 1 (s.size - 1)), bytesL_sub]
  congr 1
  unfold sub
  rw [bytesL_mk', List.dropLast_eq_take, List.length_drop, hl]
theorem cbl_pos {s : ByteArray} (h : cbl s s.size = false) : 0 < s.size := by
  rcases Nat.eq_zero_or_pos s.size with h0 | h0
  · rw [h0] at h
    unfold cbl unT at h
    simp [unLF] at h
  · exact h0
/-- A citation's end, byte by byte. -/
theorem citE_at {s : ByteArray} {i e : Nat} (h1 : i + 1 ≤ e) (he : e ≤ s.size) (hn : ∀ j, i + 1 ≤ j → j < e → bt s j ≠ 91 ∧ bt s j ≠ 93) (hb : e < s.size → bt s e = 91 ∨ bt s e = 93) : citE s i = e :=
  toE_eq s (i + 1) _ e h1 he (fun j a b => by have := hn j a b; simp [this.1, this.2]) fun h => by rcases hb h with h | h <;> rw [h] <;> rfl
theorem citI_hit {s : ByteArray} {i e : Nat} (h1 : i + 1 ≤ e) (he : e < s.size) (hn : ∀ j, i + 1 ≤ j → j < e → bt s j ≠ 91 ∧ bt s j ≠ 93) (hb : bt s e = 93) : citI s i = (citesI (s.extract (i + 1) e)).map fun cs => ({ kind := 13, cites := cs }, e + 1) := by
  unfold citI
  rw [citE_at h1 (by omega) hn fun _ => .inr hb, if_pos ⟨he, hb⟩]
theorem citI_no {s : ByteArray} {i e : Nat} (h1 : i + 1 ≤ e) (he : e ≤ s.size) (hn : ∀ j, i + 1 ≤ j → j < e → bt s j ≠ 91 ∧ bt s j ≠ 93) (hb : e < s.size → bt s e = 91) : citI s i = none := by
  unfold citI
  rw [citE_at h1 he hn fun h => .inl (hb h), if_neg]
  rintro ⟨h2, h3⟩
  rw [hb h2] at h3
  cases h3
theorem citI_lf {s : ByteArray} {i e : Nat} (h1 : i + 1 ≤ e) (he : e < s.size) (hn : ∀ j, i + 1 ≤ j → j < e → bt s j ≠ 91 ∧ bt s j ≠ 93) (hb : bt s e = 10) : citI s i = none := by
  unfold citI
  by_cases hc : citE s i < s.size ∧ bt s (citE s i) = 93
  · rw [if_pos hc]
    have hlt : e < citE s i := by
      rcases Nat.lt_or_ge e (citE s i) with h | h
      · exact h
      · rcases Nat.lt_or_ge (citE s i) e with h2 | h2
        · have h3 := toE_ge s (i + 1) fun b => b == 91 || b == 93
          have h4 := hn (citE s i) h3 h2
          exact absurd hc.2 h4.2
        · have : citE s i = e := by omega
          rw [this, hb] at hc
          cases hc.2
    have hx : citesI (s.extract (i + 1) (citE s i)) = none := by
      unfold citesI
      rw [if_pos]
      refine any_some _ (e - (i + 1)) (by rw [ByteArray.size_extract]; omega) ?_
      rw [extract_bt s (i + 1) (citE s i) (by omega) _ (by omega), show i + 1 + (e - (i + 1)) = e by omega, hb]
      rfl
    rw [hx]; rfl
  · rw [if_neg hc]
theorem begB_short {s : ByteArray} {i : Nat} {t : ByteArray} (h : ¬ i + t.size ≤ s.size) (h0 : 0 < t.size) : begB s i (bytesL t) = false := by
  cases hb : begB s i (bytesL t)
  · rfl
  · have := begB_bd hb (by rw [bytesL_length]; exact h0)
    rw [bytesL_length] at this
    exact absurd this h
theorem begB_eq {s : ByteArray} {i : Nat} {t : ByteArray} (h : i + t.size ≤ s.size) : begB s i (bytesL t) = ((s.extract i (i + t.size)).toList == t.toList) := by
  have hx : bytesL (s.extract i (i + t.size)) = (sfx s i).take t.size := by
    rw [bytesL_sub]
    have h1 : sub s i (i + t.size) = (sfx s i).take (i + t.size - i) := rfl
    rw [h1, Nat.add_sub_cancel_left]
  rw [Bool.eq_iff_iff, Lib.bytes_beq_iff]
  unfold begB
  rw [List.isPrefixOf_iff_prefix, List.prefix_iff_eq_take, bytesL_length, ← hx]
  constructor
  · intro e
    rw [← mk_bytesL (s.extract i (i + t.size)), ← e, mk_bytesL]
  · intro e
    rw [e]
theorem run_done {s : ByteArray} {i n : Nat} (h : i + n ≤ s.size) (h1 : ∀ j, i ≤ j → j < i + n → bt s j = bt s i) (h2 : i + n < s.size → bt s (i + n) ≠ bt s i) : runE s i - i = n := by
  unfold runE
  rw [runF_eq s (fun b => b == bt s i) i n h (fun j a b => by rw [h1 j a b]; exact beq_self_eq_true _) fun a => beq_eq_false_iff_ne.2 (h2 a)]
  omega
theorem sp_stay {s : ByteArray} {i : Nat} (h : ¬ (i < s.size ∧ bt s i = 32)) : spAt s i = i := by unfold spAt; exact spEnd_stop s _ i h
theorem sp_run {s : ByteArray} {i : Nat} (hi : i < s.size) (h : bt s i = 32) : runE s i = spAt s i := by
  obtain ⟨h1, h2⟩ := spAt_spec s i
  obtain ⟨h3, h4⟩ := spAt_bd' s i
  have h5 := h4 (by omega)
  have := run_done (s := s) (i := i) (n := spAt s i - i) (by omega) (fun j a b => by rw [h1 j a (by omega), h]) fun a e => h2 ⟨by omega, by rw [show i + (spAt s i - i) = spAt s i by omega] at e; rw [e, h]⟩
  have := runE_bd s i hi
  omega
theorem pun_eq : ∀ b : Nat, b < 256 → (decide (b < 128) && inB (b : Int) punctL) = ((decide (33 ≤ b) && decide (b ≤ 47)) || (decide (58 ≤ b) && decide (b ≤ 64)) || (decide (91 ≤ b) && decide (b ≤ 96)) || (decide (123 ≤ b) && decide (b ≤ 126))) := by
  have key : ∀ b : Fin 256, (decide (b.1 < 128) && inB (b.1 : Int) punctL) = ((decide (33 ≤ b.1) && decide (b.1 ≤ 47)) || (decide (58 ≤ b.1) && decide (b.1 ≤ 64)) || (decide (91 ≤ b.1) && decide (b.1 ≤ 96)) || (decide (123 ≤ b.1) && decide (b.1 ≤ 126))) := by decide +kernel
  exact fun b h => key ⟨b, h⟩
theorem befG_step {s : ByteArray} {i k : Nat} (h2 : 2 ≤ k) (h4 : k ≤ 4) (hi : k ≤ i) (hd : (Utf8.decode s (i - k)).2 ≠ k) : befG s i (6 - k) k = befG s i (6 - (k + 1)) (k + 1) := by
  rw [show 6 - k = (6 - (k + 1)) + 1 by omega]
  conv => lhs; unfold befG
  rw [if_pos ⟨hi, h4⟩, if_neg hd]
theorem befG_hit {s : ByteArray} {i k : Nat} (h2 : 2 ≤ k) (h4 : k ≤ 4) (hi : k ≤ i) (hd : (Utf8.decode s (i - k)).2 = k) : befG s i (6 - k) k = (Utf8.decode s (i - k)).1 := by
  rw [show 6 - k = (5 - k) + 1 by omega]
  unfold befG
  rw [if_pos ⟨hi, h4⟩, if_pos hd]
theorem befG_end {s : ByteArray} {i k : Nat} (h5 : k ≤ 5) (h : ¬ (k ≤ i ∧ k ≤ 4)) : befG s i (6 - k) k = 65533 := by
  rw [show 6 - k = (5 - k) + 1 by omega]
  unfold befG
  rw [if_neg h]
theorem cbl_two {s : ByteArray} (h : cbl s s.size = false) (h1 : bt (mk (unT s s.size)) 0 = 32) : 2 ≤ s.size := by
  have hp := cbl_pos h
  rcases Nat.lt_or_ge 1 s.size with h2 | h2
  · exact h2
  · have hl := unT_len s s.size (Nat.le_refl _)
    have h3 := bt_head.1 ⟨h1, by omega⟩
    unfold cbl at h
    generalize unT s s.size = l at *
    obtain ⟨b, rfl⟩ : ∃ b, l = [b] := List.length_eq_one_iff.1 (by omega)
    injection h3 with h3
    subst h3
    cases h
end Go.Pub
namespace Go.Pub
theorem citedI_eq (p : ByteArray) (a f : Nat) (b : Bool) (ha : citA p = a) (hb : b = (decide (0 < a) && bt p (a - 1) == 45)) (hf : f = if b = true then a - 1 else a) : citedI p =
    if a < p.size ∧ toE p (a + 1) (fun b => b == 64) ≥ p.size ∧ (f = 0 ∨ bt p (f - 1) = 32) then
      (if nameB (p.extract (a + 1) (wordAt p (a + 1))) = true then some ⟨p.extract (a + 1) (wordAt p (a + 1)), mk (trimL (sub p 0 f)), mk (trimL (sfx p (wordAt p (a + 1)))), b⟩ else none)
    else none := by
  subst hf hb ha
  unfold citedI nmEnd
  dsimp only
  by_cases h : nameB (p.extract (citA p + 1) (wordAt p (citA p + 1))) = true
  · rw [if_pos h, if_pos h]; rfl
  · rw [if_neg h, if_neg h]; rfl
end Go.Pub
namespace Go.Proofs.YtcjkgmfidkgamaaGreatDoor
open Go.RowKit Go.Pub
def zCit : Array Value := #[.string ⟨#[]⟩, .string ⟨#[]⟩, .string ⟨#[]⟩, .bool false]
def citV (r : Option CitL) : Value := match r with
  | none => .agg zCit
  | some c => .agg #[.string c.key, .string c.pre, .string c.suf, .bool c.bare]
def CitPost (r : Option CitL) (w : World) (e : Ending) (w' : World) : Prop := e = .returned (.tuple #[citV r, .bool r.isSome]) ∧ Below w.heap.size w w'
theorem cit_facts {W : World} {g : Nat} {T : TypeId} {x0 x1 x2 x3 : Value} (h : Blk W g T #[x0, x1, x2, x3]) : W.cell? ⟨g, 0, none⟩ = some x0 ∧ W.cell? ⟨g, 1, none⟩ = some x1 ∧ W.cell? ⟨g, 2, none⟩ = some x2 ∧ W.cell? ⟨g, 3, none⟩ = some x3 ∧ W.frozen? ⟨g, 0, none⟩ = false ∧ W.frozen? ⟨g, 1, none⟩ = false ∧ W.frozen? ⟨g, 2, none⟩ = false ∧ W.frozen? ⟨g, 3, none⟩ = false :=
  ⟨h.cell 0, h.cell 1, h.cell 2, h.cell 3, h.frozen 0, h.frozen 1, h.frozen 2, h.frozen 3⟩
theorem blk4 {W : World} {g : Nat} {T : TypeId} {x0 x1 x2 x3 : Value} (h : Blk W g T #[x0, x1, x2, x3]) (y0 y1 y2 y3 : Value) : Blk ((((W.setCell ⟨g, 0, none⟩ y0).setCell ⟨g, 1, none⟩ y1).setCell ⟨g, 2, none⟩ y2).setCell ⟨g, 3, none⟩ y3) g T #[y0, y1, y2, y3] := by
  have h0 := h.set_ 0 y0
  rw [show (#[x0, x1, x2, x3] : Array Value).setIfInBounds 0 y0 = #[y0, x1, x2, x3] from rfl] at h0
  have h1 := h0.set_ 1 y1
  rw [show (#[y0, x1, x2, x3] : Array Value).setIfInBounds 1 y1 = #[y0, y1, x2, x3] from rfl] at h1
  have h2 := h1.set_ 2 y2
  rw [show (#[y0, y1, x2, x3] : Array Value).setIfInBounds 2 y2 = #[y0, y1, y2, x3] from rfl] at h2
  have h3 := h2.set_ 3 y3
  rw [show (#[y0, y1, y2, x3] : Array Value).setIfInBounds 3 y3 = #[y0, y1, y2, y3] from rfl] at h3
  exact h3
theorem below4 {B : Nat} {w W : World} (h : Below B w W) {g : Nat} (hg : B ≤ g) (y0 y1 y2 y3 : Value) : Below B w ((((W.setCell ⟨g, 0, none⟩ y0).setCell ⟨g, 1, none⟩ y1).setCell ⟨g, 2, none⟩ y2).setCell ⟨g, 3, none⟩ y3) :=
  (((h.setCell (p := ⟨g, 0, none⟩) hg y0).setCell (p := ⟨g, 1, none⟩) hg y1).setCell (p := ⟨g, 2, none⟩) hg y2).setCell (p := ⟨g, 3, none⟩) hg y3
theorem cit_ret {F : Func} {a b : Nat} {W : World} {g : Nat} {x0 x1 x2 x3 : Value} {u : Value} {P : Ending → World → Prop} {act : Act} (hF : F.results = #[ResultVar.cell a 47, ResultVar.tmp b]) (hr : Blk W g 47 #[x0, x1, x2, x3]) (h4 : act.tmps.getD a undef = .pointer (some ⟨g, 0, none⟩)) (h5 : act.tmps.getD b undef = u) (hd : act.defers = []) (hP : P (.returned (.tuple #[.agg #[x0, x1, x2, x3], u])) W) : bodyPost Tryz.prog F P Exit.ret act W := by
  obtain ⟨c0, c1, c2, c3, _⟩ := cit_facts hr
  refine bodyPost_ret (v := .tuple #[.agg #[x0, x1, x2, x3], u]) ?_ hd hP
  rw [Array.getD_eq_getD_getElem?] at h4 h5
  simp [results, hF, go_sem, h4, h5, c0, c1, c2, c3]
theorem byte_any (s : ByteArray) (i : Nat) (W : World) (hi : i ≤ s.size) : Calls Tryz.prog 63 #[.string (s.extract i s.size), .int .u8 64] W fun e w' => e = .returned (.int .i64 (if toE s i (fun b => b == 64) < s.size then ((toE s i (fun b => b == 64) - i : Nat) : Int) else -1)) ∧ W = w' := by
  refine (Tryz.strings_IndexByte (s.extract i s.size) 64 W).mono ?_
  rintro e w' ⟨rfl, rfl⟩
  refine ⟨ret_int ?_, rfl⟩
  exact toE_byte s i 64 hi
theorem trim_any (s : ByteArray) (W : World) (hs : s.size ≤ 1000000) : Calls Tryz.prog 65 #[.string s, .string ⟨#[32]⟩] W fun e w' => e = .returned (.string (mk (trimL (bytesL s)))) ∧ Below W.heap.size W w' := by
  refine (Tryz.strings_Trim_one s 32 (by decide) W (by omega)).mono ?_
  rintro e w' ⟨rfl, rfl | h⟩
  · exact ⟨rfl, Below.refl _ _⟩
  · exact ⟨rfl, by rw [h]; exact (Below.refl _ _).drew⟩
set_option maxRecDepth 100000 in
set_option maxHeartbeats 8000000 in
theorem s_cited (p : ByteArray) (w : World) (hs : p.size ≤ 1000000) : Calls Tryz.prog 35 #[.string p] w (CitPost (citedI p) w) := by
  obtain ⟨a, ha⟩ : ∃ a, a = citA p := ⟨_, rfl⟩
  have haE : toE p 0 (fun b => b == 64) = a := ha.symm
  have hale : a ≤ p.size := by rw [← haE]; exact toE_le p 0 _ (by omega)
  have HI := Lib.hid fun W => byte_any p 0 W (by omega)
  rw [haE, show p.extract 0 p.size = p from ByteArray.extract_zero_size] at HI
  obtain ⟨b, hb⟩ : ∃ b, b = (decide (0 < a) && bt p (a - 1) == 45) := ⟨_, rfl⟩
  obtain ⟨f, hf⟩ : ∃ f, f = if b = true then a - 1 else a := ⟨_, rfl⟩
  have HR := Lib.hid (citedI_eq p a f b ha.symm hb hf)
  generalize citedI p = R at *
  clear ha haE
  by_cases h1 : a < p.size
  · rw [if_pos h1, Nat.sub_zero] at HI
    have HJ := Lib.hid fun W => byte_any p (a + 1) W (by omega)
    have hT := toE_ge p (a + 1) fun b => b == 64
    generalize toE p (a + 1) (fun b => b == 64) = T at *
    by_cases h2 : T < p.size
    · have HF : Hid (R = none) := Lib.hid (by rw [HR.out, if_neg fun c => by omega])
      rw [if_pos h2] at HJ
      have hge : (0 : Int) ≤ ((T - (a + 1) : Nat) : Int) := by omega
      generalize ((T - (a + 1) : Nat) : Int) = n2 at *
      clear HR hb hf
      go_enter Tryz.func35, Tryz.ntmps35
      go_wp2_with fail
      ((with_reducible refine (HI.out _).mono ?_))
      rintro e w1 ⟨rfl, rfl⟩
      go_wp2_with fail
      ((with_reducible refine (HJ.out _).mono ?_))
      rintro e w1 ⟨rfl, rfl⟩
      go_wp2_with fail
      exact cit_ret Tryz.results35 (Blk.new w _ _) rfl rfl rfl ⟨by rw [HF.out]; rfl, (Below.refl _ w).alloc (Nat.le_refl _) _⟩
    · rw [if_neg h2] at HJ
      have HA := Lib.hid fun W => name_any (p.extract (a + 1) (wordAt p (a + 1))) W (by rw [ByteArray.size_extract]; omega)
      have HN := Lib.hid fun W => s_nameEnd p (a + 1) W hs
      have HT1 := Lib.hid fun W => trim_any (p.extract 0 f) W (by rw [ByteArray.size_extract]; omega)
      have HT2 := Lib.hid fun W => trim_any (p.extract (wordAt p (a + 1)) p.size) W (by rw [ByteArray.size_extract]; omega)
      rw [bytesL_sub] at HT1
      rw [suffix_bytes] at HT2
      have hk1 := (wordAt_bd p (a + 1)).1
      have hk2 := (wordAt_bd p (a + 1)).2 h1
      have hfa : f ≤ a := by rw [hf]; split <;> omega
      have HR2 : Hid (R = if f = 0 ∨ bt p (f - 1) = 32 then (if nameB (p.extract (a + 1) (wordAt p (a + 1))) = true then some ⟨p.extract (a + 1) (wordAt p (a + 1)), mk (trimL (sub p 0 f)), mk (trimL (sfx p (wordAt p (a + 1)))), b⟩ else none) else none) := Lib.hid (by
        rw [HR.out]
        by_cases h : f = 0 ∨ bt p (f - 1) = 32
        · rw [if_pos h, if_pos ⟨h1, by omega, h⟩]
        · rw [if_neg h, if_neg fun c => h c.2.2])
      have hKz : (p.extract (wordAt p (a + 1)) p.size).size = (p.extract (wordAt p (a + 1)) p.size).size := rfl
      clear HR hKz
      generalize wordAt p (a + 1) = K at *
      generalize trimL (sub p 0 f) = t1 at *
      generalize trimL (sfx p K) = t2 at *
      generalize nameB (p.extract (a + 1) K) = nm at *
      go_enter Tryz.func35, Tryz.ntmps35
      go_wp2_with fail
      ((with_reducible refine (HI.out _).mono ?_))
      rintro e w1 ⟨rfl, rfl⟩
      go_wp2_with fail
      ((with_reducible refine (HJ.out _).mono ?_))
      rintro e w1 ⟨rfl, rfl⟩
      have hB0 : Blk ((w.alloc (.cells #[.string ⟨#[]⟩, .string ⟨#[]⟩, .string ⟨#[]⟩, .bool false] 47)).alloc (.cells #[.string ⟨#[]⟩, .string ⟨#[]⟩, .string ⟨#[]⟩, .bool false] 47)) w.heap.size 47 zCit := (Blk.new w _ _).alloc _
      have hB1 : Blk ((w.alloc (.cells #[.string ⟨#[]⟩, .string ⟨#[]⟩, .string ⟨#[]⟩, .bool false] 47)).alloc (.cells #[.string ⟨#[]⟩, .string ⟨#[]⟩, .string ⟨#[]⟩, .bool false] 47)) (w.heap.size + 1) 47 #[.string ⟨#[]⟩, .string ⟨#[]⟩, .string ⟨#[]⟩, .bool false] := by
        have := Blk.new (w.alloc (.cells #[.string ⟨#[]⟩, .string ⟨#[]⟩, .string ⟨#[]⟩, .bool false] 47)) 47 #[.string ⟨#[]⟩, .string ⟨#[]⟩, .string ⟨#[]⟩, .bool false]
        simpa using this
      have hBw : Below w.heap.size w ((w.alloc (.cells #[.string ⟨#[]⟩, .string ⟨#[]⟩, .string ⟨#[]⟩, .bool false] 47)).alloc (.cells #[.string ⟨#[]⟩, .string ⟨#[]⟩, .string ⟨#[]⟩, .bool false] 47)) := ((Below.refl _ _).alloc (Nat.le_refl _) _).alloc (by simp) _
      go_upto_region 6 with fail
      generalize ((w.alloc (.cells #[.string ⟨#[]⟩, .string ⟨#[]⟩, .string ⟨#[]⟩, .bool false] 47)).alloc (.cells #[.string ⟨#[]⟩, .string ⟨#[]⟩, .string ⟨#[]⟩, .bool false] 47)) = W0 at *
      have HB0 := Lib.hid hB0
      have HB1 := Lib.hid hB1
      have HBw := Lib.hid hBw
      clear hB0 hB1 hBw
      go_cut [30] (fun s30 wx => s30 = .bool b ∧ W0 = wx)
      case first =>
        clear HR2 HT1 HT2 HA HN HI HJ HB0 HB1 HBw
        by_cases h0 : 0 < a
        · have ea : (a : Int) - 1 = ((a - 1 : Nat) : Int) := by omega
          have hga := get_bt p (a - 1) (by omega)
          have ha1 : a - 1 < p.size := by omega
          by_cases h45 : bt p (a - 1) = 45
          · obtain rfl : b = true := by rw [hb, h45, decide_eq_true h0]; rfl
            rw [h45] at hga
            clear hb hf h45
            go_wp2_with fail
            go_meet
            case rel => exact ⟨rfl, rfl⟩
          · obtain rfl : b = false := by rw [hb, beq_eq_false_iff_ne.2 h45, Bool.and_false]
            have n1 : ((bt p (a - 1) : Int) == 45) = false := beq_eq_false_iff_ne.2 (by omega)
            clear hb hf h45
            generalize bt p (a - 1) = ch at *
            go_wp2_with fail
            go_meet
            case rel => exact ⟨rfl, rfl⟩
        · obtain rfl : b = false := by rw [hb, decide_eq_false h0]; rfl
          clear hb hf
          go_wp2_with fail
          go_meet
          case rel => exact ⟨rfl, rfl⟩
      case rest =>
      obtain ⟨rfl, rfl⟩ := hcut
      have hba : b = true → 0 < a := fun h => by
        rcases Nat.eq_zero_or_pos a with x | x
        · rw [h, x] at hb; simp at hb
        · exact x
      go_upto_if 30 with fail
      go_cut [6] (fun s6 wx => s6 = .int .i64 f ∧ Blk wx w.heap.size 47 zCit ∧ Blk wx (w.heap.size + 1) 47 #[.string ⟨#[]⟩, .string ⟨#[]⟩, .string ⟨#[]⟩, .bool b] ∧ Below w.heap.size w wx)
      case first =>
        clear HR2 HT1 HT2 HA HN HI HJ hb
        cases b
        · obtain rfl : f = a := by rw [hf, if_neg (by simp)]
          clear hf
          go_wp2_with fail
          go_meet
          case rel => exact ⟨rfl, HB0.out, HB1.out, HBw.out⟩
        · obtain rfl : f = a - 1 := by rw [hf, if_pos rfl]
          have h0 := hba rfl
          have ea : (a : Int) - 1 = ((a - 1 : Nat) : Int) := by omega
          have g3 : W0.frozen? ⟨w.heap.size + 1, 3, none⟩ = false := HB1.out.frozen 3
          have k3 : W0.cell? ⟨w.heap.size + 1, 3, none⟩ = some (.bool false) := HB1.out.cell 3
          clear hf hba
          go_wp2_with fail
          go_meet
          case rel => exact ⟨rfl, HB0.out.far (by simp) _, HB1.out.set_ 3 _, HBw.out.setCell (by simp) _⟩
      case rest =>
      obtain ⟨rfl, hb0, hb1, hbw⟩ := hcut
      have HB0 := Lib.hid hb0
      have HB1 := Lib.hid hb1
      have HBw := Lib.hid hbw
      obtain ⟨c0, c1, c2, c3, f0, f1, f2, f3⟩ := cit_facts hb0
      obtain ⟨k0, k1, k2, k3, g0, g1, g2, g3⟩ := cit_facts hb1
      have hz := hb1.lt
      clear hb0 hb1 hbw hb hf HI HJ
      by_cases hok : f = 0 ∨ bt p (f - 1) = 32
      · have HR3 := Lib.hid (HR2.out.trans (if_pos hok))
        clear HR2
        have HSP : 0 < f → f - 1 < p.size ∧ bt p (f - 1) = 32 := fun h => ⟨by omega, by rcases hok with h2 | h2 <;> omega⟩
        have HGF : Hid (∀ h : f - 1 < p.size, ((p[f - 1]'h).toNat : Int) = (bt p (f - 1) : Int)) := Lib.hid fun h => by rw [get_bt p (f - 1) h]
        clear hok
        have hya : a + 1 ≤ K := hk1
        by_cases h0 : 0 < f
        · obtain ⟨hf1, h32⟩ := HSP h0
          have hgf := HGF.out hf1
          rw [h32] at hgf
          have ef : (f : Int) - 1 = ((f - 1 : Nat) : Int) := by omega
          clear h32 HSP HGF
          go_wp2_with fail
          (refine (HN.out _).mono ?_)
          rintro e w1 ⟨rfl, rfl⟩
          go_wp2_with fail
          ((with_reducible refine (HT1.out _).mono ?_))
          rintro e w1 ⟨rfl, b1⟩
          have s0 := (HB0.out.far (p := ⟨w.heap.size + 1, 0, none⟩) (by simp) (.string (p.extract (a + 1) K)))
          have s1 := (HB1.out.set_ 0 (.string (p.extract (a + 1) K)))
          have v0 := s0.below b1 s0.lt
          have v1 := s1.below b1 s1.lt
          have vw := (HBw.out.setCell (p := ⟨w.heap.size + 1, 0, none⟩) (by simp) (.string (p.extract (a + 1) K))).trans (b1.mono (Nat.le_of_lt s0.lt))
          have V0 := Lib.hid v0
          have V1 := Lib.hid v1
          have Vw := Lib.hid vw
          clear s0 s1 b1 v0 vw c0 c1 c2 c3 f0 f1 f2 f3 k0 k1 k2 k3 g0 g1 g2 g3 HB0 HB1 HBw
          obtain ⟨k0, k1, k2, k3, g0, g1, g2, g3⟩ := cit_facts (show Blk w1 (w.heap.size + 1) 47 #[.string (p.extract (a + 1) K), .string ⟨#[]⟩, .string ⟨#[]⟩, .bool b] from v1)
          clear v1
          go_wp2_with fail
          ((with_reducible refine (HT2.out _).mono ?_))
          rintro e w2 ⟨rfl, b2⟩
          have s0 := (V0.out.far (p := ⟨w.heap.size + 1, 1, none⟩) (by simp) (.string (mk t1)))
          have s1 := (V1.out.set_ 1 (.string (mk t1)))
          have v0 := (s0.below b2 s0.lt).far (p := ⟨w.heap.size + 1, 2, none⟩) (by simp) (.string (mk t2))
          have v1 := s1.below b2 s1.lt
          have v2 := v1.set_ 2 (.string (mk t2))
          have vw := ((Vw.out.setCell (p := ⟨w.heap.size + 1, 1, none⟩) (by simp) (.string (mk t1))).trans (b2.mono (Nat.le_of_lt s0.lt))).setCell (p := ⟨w.heap.size + 1, 2, none⟩) (by simp) (.string (mk t2))
          have U0 := Lib.hid v0
          have U1 : Hid (Blk (w2.setCell ⟨w.heap.size + 1, 2, none⟩ (.string (mk t2))) (w.heap.size + 1) 47 #[.string (p.extract (a + 1) K), .string (mk t1), .string (mk t2), .bool b]) := Lib.hid v2
          have Uw := Lib.hid vw
          have g2' : w2.frozen? ⟨w.heap.size + 1, 2, none⟩ = false := v1.frozen 2
          have k2' : w2.cell? ⟨w.heap.size + 1, 2, none⟩ = some (.string ⟨#[]⟩) := v1.cell 2
          have k0' : w2.cell? ⟨w.heap.size + 1, 0, none⟩ = some (.string (p.extract (a + 1) K)) := v1.cell 0
          have k1' : w2.cell? ⟨w.heap.size + 1, 1, none⟩ = some (.string (mk t1)) := v1.cell 1
          have k3' : w2.cell? ⟨w.heap.size + 1, 3, none⟩ = some (.bool b) := v1.cell 3
          have z0 := s0.below b2 s0.lt
          obtain ⟨c0, c1, c2, c3, f0, f1, f2, f3⟩ := cit_facts z0
          clear s0 s1 b2 v0 v1 v2 vw z0 k0 k1 k2 k3 g0 g1 g2 g3 V0 V1 Vw
          go_wp2_with fail
          ((with_reducible refine (HA.out _).mono ?_))
          rintro e w3 ⟨rfl, rfl⟩
          cases nm
          · have HF : Hid (R = none) := Lib.hid (HR3.out.trans (if_neg (by simp)))
            clear HR3
            go_wp2_with fail
            exact cit_ret Tryz.results35 (blk4 U0.out _ _ _ _) rfl rfl rfl ⟨by rw [HF.out]; rfl, below4 Uw.out (Nat.le_refl _) _ _ _ _⟩
          · have HF : Hid (R = some ⟨p.extract (a + 1) K, mk t1, mk t2, b⟩) := Lib.hid (HR3.out.trans (if_pos rfl))
            clear HR3
            go_wp2_with fail
            exact cit_ret Tryz.results35 (blk4 U0.out _ _ _ _) rfl rfl rfl ⟨by rw [HF.out]; rfl, below4 Uw.out (Nat.le_refl _) _ _ _ _⟩
        · clear HSP HGF
          go_wp2_with fail
          (refine (HN.out _).mono ?_)
          rintro e w1 ⟨rfl, rfl⟩
          go_wp2_with fail
          ((with_reducible refine (HT1.out _).mono ?_))
          rintro e w1 ⟨rfl, b1⟩
          have s0 := (HB0.out.far (p := ⟨w.heap.size + 1, 0, none⟩) (by simp) (.string (p.extract (a + 1) K)))
          have s1 := (HB1.out.set_ 0 (.string (p.extract (a + 1) K)))
          have v0 := s0.below b1 s0.lt
          have v1 := s1.below b1 s1.lt
          have vw := (HBw.out.setCell (p := ⟨w.heap.size + 1, 0, none⟩) (by simp) (.string (p.extract (a + 1) K))).trans (b1.mono (Nat.le_of_lt s0.lt))
          have V0 := Lib.hid v0
          have V1 := Lib.hid v1
          have Vw := Lib.hid vw
          clear s0 s1 b1 v0 vw c0 c1 c2 c3 f0 f1 f2 f3 k0 k1 k2 k3 g0 g1 g2 g3 HB0 HB1 HBw
          obtain ⟨k0, k1, k2, k3, g0, g1, g2, g3⟩ := cit_facts (show Blk w1 (w.heap.size + 1) 47 #[.string (p.extract (a + 1) K), .string ⟨#[]⟩, .string ⟨#[]⟩, .bool b] from v1)
          clear v1
          go_wp2_with fail
          ((with_reducible refine (HT2.out _).mono ?_))
          rintro e w2 ⟨rfl, b2⟩
          have s0 := (V0.out.far (p := ⟨w.heap.size + 1, 1, none⟩) (by simp) (.string (mk t1)))
          have s1 := (V1.out.set_ 1 (.string (mk t1)))
          have v0 := (s0.below b2 s0.lt).far (p := ⟨w.heap.size + 1, 2, none⟩) (by simp) (.string (mk t2))
          have v1 := s1.below b2 s1.lt
          have v2 := v1.set_ 2 (.string (mk t2))
          have vw := ((Vw.out.setCell (p := ⟨w.heap.size + 1, 1, none⟩) (by simp) (.string (mk t1))).trans (b2.mono (Nat.le_of_lt s0.lt))).setCell (p := ⟨w.heap.size + 1, 2, none⟩) (by simp) (.string (mk t2))
          have U0 := Lib.hid v0
          have U1 : Hid (Blk (w2.setCell ⟨w.heap.size + 1, 2, none⟩ (.string (mk t2))) (w.heap.size + 1) 47 #[.string (p.extract (a + 1) K), .string (mk t1), .string (mk t2), .bool b]) := Lib.hid v2
          have Uw := Lib.hid vw
          have g2' : w2.frozen? ⟨w.heap.size + 1, 2, none⟩ = false := v1.frozen 2
          have k2' : w2.cell? ⟨w.heap.size + 1, 2, none⟩ = some (.string ⟨#[]⟩) := v1.cell 2
          have k0' : w2.cell? ⟨w.heap.size + 1, 0, none⟩ = some (.string (p.extract (a + 1) K)) := v1.cell 0
          have k1' : w2.cell? ⟨w.heap.size + 1, 1, none⟩ = some (.string (mk t1)) := v1.cell 1
          have k3' : w2.cell? ⟨w.heap.size + 1, 3, none⟩ = some (.bool b) := v1.cell 3
          have z0 := s0.below b2 s0.lt
          obtain ⟨c0, c1, c2, c3, f0, f1, f2, f3⟩ := cit_facts z0
          clear s0 s1 b2 v0 v1 v2 vw z0 k0 k1 k2 k3 g0 g1 g2 g3 V0 V1 Vw
          go_wp2_with fail
          ((with_reducible refine (HA.out _).mono ?_))
          rintro e w3 ⟨rfl, rfl⟩
          cases nm
          · have HF : Hid (R = none) := Lib.hid (HR3.out.trans (if_neg (by simp)))
            clear HR3
            go_wp2_with fail
            exact cit_ret Tryz.results35 (blk4 U0.out _ _ _ _) rfl rfl rfl ⟨by rw [HF.out]; rfl, below4 Uw.out (Nat.le_refl _) _ _ _ _⟩
          · have HF : Hid (R = some ⟨p.extract (a + 1) K, mk t1, mk t2, b⟩) := Lib.hid (HR3.out.trans (if_pos rfl))
            clear HR3
            go_wp2_with fail
            exact cit_ret Tryz.results35 (blk4 U0.out _ _ _ _) rfl rfl rfl ⟨by rw [HF.out]; rfl, below4 Uw.out (Nat.le_refl _) _ _ _ _⟩
      · have HF : Hid (R = none) := Lib.hid (HR2.out.trans (if_neg hok))
        have hf0 : 0 < f := by omega
        have ef : (f : Int) - 1 = ((f - 1 : Nat) : Int) := by omega
        have hgf := get_bt p (f - 1) (by omega)
        have hf1 : f - 1 < p.size := by omega
        have n1 : ((bt p (f - 1) : Int) != 32) = true := bne_iff_ne.2 (by omega)
        clear hok HR2 HT1 HT2 HA HN
        go_wp2_with fail
        exact cit_ret Tryz.results35 (blk4 HB0.out _ _ _ _) rfl rfl rfl ⟨by rw [HF.out]; rfl, below4 HBw.out (Nat.le_refl _) _ _ _ _⟩
  · rw [if_neg h1] at HI
    have HF : Hid (R = none) := Lib.hid (by rw [HR.out, if_neg fun c => h1 c.1])
    clear HR hb hf
    go_enter Tryz.func35, Tryz.ntmps35
    go_wp2_with fail
    ((with_reducible refine (HI.out _).mono ?_))
    rintro e w1 ⟨rfl, rfl⟩
    go_wp2_with fail
    exact cit_ret Tryz.results35 (Blk.new w _ _) rfl rfl rfl ⟨by rw [HF.out]; rfl, (Below.refl _ w).alloc (Nat.le_refl _) _⟩

end Go.Proofs.YtcjkgmfidkgamaaGreatDoor
