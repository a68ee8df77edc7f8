/-
  Texts of the proof, put together: RmA.
-/
import Derived.Test.YthfienjmigidbaaGreatDoorB32
import Derived.Test.YthfienjmigidbaaGreatDoorB24
set_option linter.unusedVariables false
set_option linter.unusedSimpArgs false
namespace Go.Pub
theorem sub_all (s : ByteArray) (i : Nat) : sub s i s.size = sfx s i := by
  show (sfx s i).take (s.size - i) = _
  rw [List.take_of_length_le (by rw [sfx_len]; exact Nat.le_refl _)]
theorem rtrim_step (s : ByteArray) (i k : Nat) (h : i < k) (hk : k ≤ s.size) (hc : bt s (k - 1) = 32) : trimR (sub s i k) = trimR (sub s i (k - 1)) := by
  have := sub_snoc s i (k - 1) (by omega) (by omega)
  rw [show k - 1 + 1 = k by omega] at this
  rw [this, (g32 s _).2 hc, trimR_sp]
theorem rtrim_stop (s : ByteArray) (i k : Nat) (h : i < k) (hk : k ≤ s.size) (hc : bt s (k - 1) ≠ 32) : trimR (sub s i k) = sub s i k := by
  have := sub_snoc s i (k - 1) (by omega) (by omega)
  rw [show k - 1 + 1 = k by omega] at this
  rw [this, trimR_no _ _ (fun e => hc ((g32 s _).1 e))]
end Go.Pub
namespace Go.Proofs.YthfienjmigidbaaGreatDoor
open Go.RowKit Go.Pub

set_option maxRecDepth 100000 in
set_option maxHeartbeats 1000000 in
theorem r5_trim (s : ByteArray) (w : World) (hs : s.size ≤ 1000000) : Calls Tryz.prog 91 #[.string s] w fun e w' => e = .returned (.string (mk (trimS (bytesL s)))) ∧ w = w' := by
  have hil := indA_le s
  have HSp : Hid (∀ W, Calls Tryz.prog 30 #[.string s, .int .i64 0] W fun e w' => e = .returned (.int .i64 (indA s 0)) ∧ W = w') := Lib.hid fun W => r5_spaces s 0 W hs (Nat.zero_le _)
  have HX : Hid (trimR (sub s (indA s 0) s.size) = trimS (bytesL s)) := Lib.hid (by rw [sub_all, ← trimS_sfx]; rfl)
  generalize trimS (bytesL s) = R at *
  generalize indA s 0 = i at *
  go_enter Tryz.func91, Tryz.ntmps91
  go_wp2_with fail
  ((with_reducible refine (HSp.out _).mono ?_))
  rintro e w0 ⟨rfl, rfl⟩
  go_wp2_with fail
  go_loop [4] (fun v => ∃ k : Nat, v = .int .i64 k ∧ i ≤ k ∧ k ≤ s.size ∧ Hid (trimR (sub s i k) = R)) (fun v => (intOf v).toNat)
  case atStart => exact ⟨s.size, rfl, hil, Nat.le_refl _, HX⟩
  case round =>
    obtain ⟨k, rfl, hik, hks, Hk⟩ := hrel
    clear HX
    by_cases hlt : i < k
    · have hlt1 : k - 1 < s.size := by omega
      have hcast : ((k : Int) - 1) = ((k - 1 : Nat) : Int) := by omega
      have hnat : ((k : Int) - 1).toNat = k - 1 := by omega
      have y1 : decide ((i : Int) < (k : Int)) = true := decide_eq_true (by omega)
      by_cases hc : bt s (k - 1) = 32
      · have z : (((s[k - 1].toNat : Nat) : Int) == 32) = true := by rw [get_bt s _ hlt1, hc]; rfl
        have HF : Hid (trimR (sub s i (k - 1)) = R) := Lib.hid (by rw [← Hk.out, rtrim_step s i k hlt hks hc])
        clear hc
        go_wp2_with fail
        go_round
        case rel => exact ⟨k - 1, by go_num, by omega, by omega, HF⟩
        case measure => simp [intOf]; omega
      · have z : (((s[k - 1].toNat : Nat) : Int) == 32) = false := by rw [get_bt s _ hlt1, beq_eq_false_iff_ne]; omega
        have HF : Hid (s.extract i k = mk R) := Lib.hid (by rw [← Hk.out, rtrim_stop s i k hlt hks hc, ← bytesL_sub, mk_bytesL])
        clear hc hcast hnat
        go_wp2_with fail
        go_ret
        exact ⟨ret_str HF.out, rfl⟩
    · obtain rfl : k = i := by omega
      have y1 : decide ((k : Int) < (k : Int)) = false := decide_eq_false (by omega)
      have HF : Hid (ByteArray.empty = mk R) := Lib.hid (by rw [← Hk.out, sub_self]; rfl)
      go_wp2_with fail
      go_ret
      exact ⟨ret_str HF.out, rfl⟩
theorem after_strip (s : ByteArray) (i : Nat) (hi : i ≤ s.size) : stripB (s.extract i s.size) 1 = if i < s.size ∧ bt s i = 32 then s.extract (i + 1) s.size else s.extract i s.size := by
  rw [strip_sfx, ext_eq, ext_eq]
  by_cases h : i < s.size ∧ bt s i = 32
  · rw [if_pos h]
    have h0 : 0 < (ext s i).size := by rw [ext_size]; omega
    have h1 : bt (ext s i) 0 = 32 := by rw [ext_bt s i 0 (by omega)]; exact h.2
    have h2 := ind_ge (ext s i) (0 + 1)
    rw [indA_yes _ 0 h0 h1, show min 1 (indA (ext s i) (0 + 1)) = 1 by omega]
    exact ext_ext s i 1
  · rw [if_neg h]
    have h1 : indA (ext s i) 0 = 0 := by
      by_cases h0 : i < s.size
      · exact indA_no _ 0 (by rw [ext_size]; omega) (by rw [ext_bt s i 0 (by omega)]; exact fun e => h ⟨h0, e⟩)
      · exact indA_end _ 0 (by rw [ext_size]; omega)
    rw [h1]
    exact ext_zero (ext s i)

set_option maxRecDepth 100000 in
set_option maxHeartbeats 1000000 in
theorem r5_after (s : ByteArray) (i : Nat) (w : World) (hs : s.size ≤ 1000000) (hi : i ≤ s.size) : Calls Tryz.prog 92 #[.string s, .int .i64 i] w fun e w' => e = .returned (.string (stripB (s.extract i s.size) 1)) ∧ w = w' := by
  have HR := Lib.hid (after_strip s i hi)
  generalize stripB (s.extract i s.size) 1 = R at *
  by_cases h : i < s.size
  · have hg := get_bt s i h
    have hii : (i : Int) < (s.size : Int) := by omega
    by_cases hc : bt s i = 32
    · have HF : Hid (R = s.extract (i + 1) s.size) := Lib.hid (by rw [HR.out, if_pos ⟨h, hc⟩])
      have z1 : (((bt s i : Nat) : Int) == 32) = true := by rw [hc]; rfl
      clear HR hc
      go_enter Tryz.func92, Tryz.ntmps92
      go_wp2_with fail
      go_ret
      exact ⟨ret_str HF.out.symm, rfl⟩
    · have HF : Hid (R = s.extract i s.size) := Lib.hid (by rw [HR.out, if_neg (fun e => hc e.2)])
      have z1 : (((bt s i : Nat) : Int) == 32) = false := by rw [beq_eq_false_iff_ne]; omega
      clear HR hc
      go_enter Tryz.func92, Tryz.ntmps92
      go_wp2_with fail
      go_ret
      exact ⟨ret_str HF.out.symm, rfl⟩
  · have HF : Hid (R = s.extract i s.size) := Lib.hid (by rw [HR.out, if_neg (fun e => h e.1)])
    have y1 : decide ((i : Int) < (s.size : Int)) = false := decide_eq_false (by omega)
    have y2 : decide (i < s.size) = false := decide_eq_false h
    clear HR
    go_enter Tryz.func92, Tryz.ntmps92
    go_wp2_with fail
    go_ret
    exact ⟨ret_str HF.out.symm, rfl⟩
theorem rmk_none {o : Option MkL} {w w' : World} (ho : o = none) (hb : Below w.heap.size w w') : MkPost (o.getD {}) w (.returned (.agg (MkL.cells {} (.slice none 0 0) (.slice none 0 0)))) w' := by
  subst ho
  exact ⟨⟨_, rfl, mkVal_plain (m := {}) rfl hb.size⟩, hb⟩
theorem rmk_plain {o : Option MkL} {m : MkL} {w w' : World} (ho : o = some m) (ha : m.att = emptyA) (hb : Below w.heap.size w w') : MkPost (o.getD {}) w (.returned (.agg (m.cells (.slice none 0 0) (.slice none 0 0)))) w' := by
  subst ho
  exact ⟨⟨_, rfl, mkVal_plain ha hb.size⟩, hb⟩

set_option maxRecDepth 100000 in
set_option maxHeartbeats 1000000 in
theorem r5_quote (c : ByteArray) (ind : Nat) (w : World) (hs : c.size ≤ 1000000) (h0 : 0 < c.size) (hi : ind ≤ 3) : Calls Tryz.prog 46 #[.string c, .int .i64 ind] w (MkPost ((quoteM c ind).getD {}) w) := by
  have hg := get_bt c 0 h0
  have hsz := stripB_size (tl1 c) 1
  have htz := tl1_size c
  have HA : Hid (∀ W, Calls Tryz.prog 92 #[.string c, .int .i64 1] W fun e w' => e = .returned (.string (stripB (tl1 c) 1)) ∧ W = w') := Lib.hid fun W => r5_after c 1 W hs h0
  have HR : Hid (quoteM c ind = if bt c 0 = 62 then some { kind := 4, off := ind + c.size - (stripB (tl1 c) 1).size, rest := stripB (tl1 c) 1 } else none) := Lib.hid rfl
  generalize quoteM c ind = R at *
  generalize stripB (tl1 c) 1 = S at *
  have hB : Hid (∀ x y z, Below w.heap.size w (w.alloc (.cells x y z))) := Lib.hid fun _ _ _ => (Below.refl _ w).alloc (Nat.le_refl _) _
  by_cases hq : bt c 0 = 62
  · obtain ⟨o, ho⟩ : ∃ o, o = ind + c.size - S.size := ⟨_, rfl⟩
    have hoi : (ind : Int) + (c.size : Int) - (S.size : Int) = (o : Int) := by omega
    have HF : Hid (R = some { kind := 4, off := o, rest := S }) := Lib.hid (by rw [HR.out, if_pos hq, ho])
    have z1 : (((bt c 0 : Nat) : Int) != 62) = false := by rw [hq]; rfl
    clear HR hq ho
    go_enter Tryz.func46, Tryz.ntmps46
    go_wp2_with fail
    ((with_reducible refine (HA.out _).mono ?_))
    rintro e w0 ⟨rfl, rfl⟩
    go_wp2_with fail
    exact rquote_ret (Blk.new w _ _) rfl rfl (rmk_plain HF.out rfl (hB.out _ _ _))
  · have HF : Hid (R = none) := Lib.hid (by rw [HR.out, if_neg hq])
    have z1 : (((bt c 0 : Nat) : Int) != 62) = true := by rw [bne_iff_ne]; omega
    clear HR hq
    go_enter Tryz.func46, Tryz.ntmps46
    go_wp2_with fail
    exact rquote_ret (Blk.new w _ _) rfl rfl (rmk_none HF.out (hB.out _ _ _))
/-- Two dollar signs, and spaces. -/
theorem math_run (c : ByteArray) : mathM c = if firstN c (· != 36) = 2 ∧ ¬ (indA c 2 < c.size) then some { kind := 8 } else none := by
  have hrun := firstN_run c (· == 36) (· != 36) (fun b => rfl)
  have hall := runF_all c (· == 36) c.size 0 (by omega)
  have hle := runF_le c 0 (· == 36)
  rw [Nat.zero_add] at hall
  unfold mathM
  rw [hrun]
  have hp : Lib.hasPrefix (bytesL c) [36, 36] = true ↔ 2 ≤ c.size ∧ bt c 0 = 36 ∧ bt c 1 = 36 := by
    constructor
    · intro h
      have hl := pre_len h
      have hl : 2 ≤ c.size := hl
      rw [pre_two c 36 36 hl] at h
      have e := (Lib.bytes_beq_iff _ _).1 h
      have e2 : (bytesL c).take 2 = [36, 36] := by
        have := congrArg bytesL e
        rw [extract_take, bytesL_mk'] at this
        exact this
      have e3 := sfx_cons c 0 (by omega)
      have e4 := sfx_cons c (0 + 1) (by omega)
      unfold sfx at e3 e4
      rw [List.drop_zero] at e3
      rw [e4] at e3
      rw [e3] at e2
      injection e2 with a1 e2
      injection e2 with a2 _
      exact ⟨hl, by unfold bt; rw [a1]; rfl, by unfold bt; rw [show (1 : Nat) = 0 + 1 from rfl, a2]; rfl⟩
    · rintro ⟨hl, h0, h1⟩
      have e3 := sfx_cons c 0 (by omega)
      have e4 := sfx_cons c (0 + 1) (by omega)
      unfold sfx at e3 e4
      rw [List.drop_zero] at e3
      rw [e4] at e3
      have a0 : c.get! 0 = 36 := (bt_u8 c 0 36 (by decide)).2 h0
      have a1 : c.get! (0 + 1) = 36 := (bt_u8 c 1 36 (by decide)).2 h1
      rw [e3, a0, a1]; rfl
  by_cases h : Lib.hasPrefix (bytesL c) [36, 36] = true ∧ blankB (c.extract 2 c.size) = true
  · rw [if_pos h]
    obtain ⟨h1, h2⟩ := h
    obtain ⟨hl, b0, b1⟩ := hp.1 h1
    rw [blank_at c 2 hl] at h2
    have h2 := of_decide_eq_true h2
    have hr : runF c 0 (· == 36) = 2 := by
      refine runF_eq c _ 0 2 (by omega) (fun j _ hj => ?_) (fun hj => ?_)
      · rcases (by omega : j = 0 ∨ j = 1) with rfl | rfl
        · rw [beq_iff_eq]; exact b0
        · rw [beq_iff_eq]; exact b1
      · have hsp := (sp_all c 2 hl).1 h2
        have e5 := sfx_cons c 2 (by omega)
        have := hsp (c.get! 2) (by rw [e5]; exact List.mem_cons_self ..)
        rw [g32] at this
        rw [beq_eq_false_iff_ne]
        show bt c 2 ≠ 36
        omega
    rw [if_pos ⟨hr, by omega⟩]
  · rw [if_neg h, if_neg]
    rintro ⟨hr, hn⟩
    rw [hr] at hall hle
    refine h ⟨hp.2 ⟨by omega, ?_, ?_⟩, ?_⟩
    · have := hall.1 0 (by omega) (by omega); rwa [beq_iff_eq] at this
    · have := hall.1 1 (by omega) (by omega); rwa [beq_iff_eq] at this
    · rw [blank_at c 2 (by omega)]
      have := (indA_bd c 2 (by omega)).2
      exact decide_eq_true (by omega)

set_option maxRecDepth 100000 in
set_option maxHeartbeats 1000000 in
theorem r5_math (c : ByteArray) (w : World) (hs : c.size ≤ 1000000) : Calls Tryz.prog 49 #[.string c] w (MkPost ((mathM c).getD {}) w) := by
  have HRn : Hid (∀ W, Calls Tryz.prog 31 #[.string c, .int .i64 0, .int .u8 36] W fun e w' => e = .returned (.int .i64 (firstN c (· != 36))) ∧ W = w') := Lib.hid fun W => r5_run c 36 W hs (by omega)
  have hnl := firstN_le c (· != 36)
  have HR := Lib.hid (math_run c)
  generalize mathM c = R at *
  generalize firstN c (· != 36) = n at *
  have hB : Hid (∀ x y z, Below w.heap.size w (w.alloc (.cells x y z))) := Lib.hid fun _ _ _ => (Below.refl _ w).alloc (Nat.le_refl _) _
  by_cases h2 : n = 2
  · have hl : 2 ≤ c.size := by omega
    have HSp : Hid (∀ W, Calls Tryz.prog 30 #[.string c, .int .i64 2] W fun e w' => e = .returned (.int .i64 (indA c 2)) ∧ W = w') := Lib.hid fun W => r5_spaces c 2 W hs hl
    subst h2
    generalize indA c 2 = j at *
    by_cases hj : j < c.size
    · have HF : Hid (R = none) := Lib.hid (by rw [HR.out, if_neg (fun e => e.2 hj)])
      have y1 : decide ((j : Int) < (c.size : Int)) = true := decide_eq_true (by omega)
      have y2 : decide (j < c.size) = true := decide_eq_true hj
      clear HR
      go_enter Tryz.func49, Tryz.ntmps49
      go_wp2_with fail
      ((with_reducible refine (HRn.out _).mono ?_))
      rintro e w0 ⟨rfl, rfl⟩
      go_wp2_with fail
      ((with_reducible refine (HSp.out _).mono ?_))
      rintro e w0 ⟨rfl, rfl⟩
      go_wp2_with fail
      exact rmath_ret (Blk.new w _ _) rfl rfl (rmk_none HF.out (hB.out _ _ _))
    · have HF : Hid (R = some { kind := 8 }) := Lib.hid (by rw [HR.out, if_pos ⟨rfl, hj⟩])
      have y1 : decide ((j : Int) < (c.size : Int)) = false := decide_eq_false (by omega)
      have y2 : decide (j < c.size) = false := decide_eq_false hj
      clear HR
      go_enter Tryz.func49, Tryz.ntmps49
      go_wp2_with fail
      ((with_reducible refine (HRn.out _).mono ?_))
      rintro e w0 ⟨rfl, rfl⟩
      go_wp2_with fail
      ((with_reducible refine (HSp.out _).mono ?_))
      rintro e w0 ⟨rfl, rfl⟩
      go_wp2_with fail
      exact rmath_ret (Blk.new w _ _) rfl rfl (rmk_plain HF.out rfl (hB.out _ _ _))
  · have HF : Hid (R = none) := Lib.hid (by rw [HR.out, if_neg (fun e => h2 e.1)])
    have y1 : ((n : Int) != 2) = true := by rw [bne_iff_ne]; omega
    have y2 : (n != 2) = true := by rw [bne_iff_ne]; exact h2
    clear HR
    go_enter Tryz.func49, Tryz.ntmps49
    go_wp2_with fail
    ((with_reducible refine (HRn.out _).mono ?_))
    rintro e w0 ⟨rfl, rfl⟩
    go_wp2_with fail
    exact rmath_ret (Blk.new w _ _) rfl rfl (rmk_none HF.out (hB.out _ _ _))
end Go.Proofs.YthfienjmigidbaaGreatDoor
