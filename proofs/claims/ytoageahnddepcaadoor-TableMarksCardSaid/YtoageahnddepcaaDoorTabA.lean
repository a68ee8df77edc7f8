/-
  lines.Indent, lines.Trim and the reference's; table.separator and the reference's bar.
-/
import Derived.Test.YtoageahnddepcaaDoorTabP
import Derived.Test.YtoageahnddepcaaDoorMem
import Derived.Test.YtoageahnddepcaaDoorProg
import Derived.WalkKit
import Derived.Lib.Hide
set_option linter.unusedVariables false
set_option linter.unusedSimpArgs false
namespace Go.Pub
/-- The first byte from k on that is no space. -/
def indA (s : ByteArray) (k : Nat) : Nat := k + indN (sfx s k)
theorem g32 (s : ByteArray) (k : Nat) : s.get! k = 32 ↔ bt s k = 32 := bt_u8 s k 32 (by decide)
theorem indA_end (s : ByteArray) (k : Nat) (h : s.size ≤ k) : indA s k = k := by unfold indA; rw [sfx_nil s k h]; rfl
theorem indA_yes (s : ByteArray) (k : Nat) (h : k < s.size) (hc : bt s k = 32) : indA s k = indA s (k + 1) := by
  unfold indA; rw [sfx_cons s k h]
  show k + (if s.get! k = 32 then indN (sfx s (k + 1)) + 1 else 0) = _
  rw [if_pos ((g32 s k).2 hc)]; omega
theorem indA_no (s : ByteArray) (k : Nat) (h : k < s.size) (hc : bt s k ≠ 32) : indA s k = k := by
  unfold indA; rw [sfx_cons s k h]
  show k + (if s.get! k = 32 then indN (sfx s (k + 1)) + 1 else 0) = _
  rw [if_neg (fun e => hc ((g32 s k).1 e))]; rfl
theorem indA_le (s : ByteArray) : indA s 0 ≤ s.size := by
  unfold indA; have := indN_le (sfx s 0); rw [sfx_len] at this; omega
theorem ind_extract (s : ByteArray) : bytesL (s.extract (indA s 0) s.size) = trimF (bytesL s) := by
  rw [extract_drop, bytesL_mk', trimF_ind]
  unfold sfx indA sfx
  rw [List.drop_zero, Nat.zero_add]
theorem bytesL_snoc (x : ByteArray) (h : 0 < x.size) : bytesL x = bytesL (x.extract 0 (x.size - 1)) ++ [x.get! (x.size - 1)] := by
  have := sub_snoc x 0 (x.size - 1) (by omega) (by omega)
  rw [show x.size - 1 + 1 = x.size by omega] at this
  have e : sub x 0 x.size = bytesL x := by
    unfold sub; rw [List.drop_zero, List.take_of_length_le (by rw [bytesL_length]; omega)]
  rw [← e, this, bytesL_sub]
theorem trim_step (x : ByteArray) (h : 0 < x.size) (hc : bt x (x.size - 1) = 32) : trimR (bytesL x) = trimR (bytesL (x.extract 0 (x.size - 1))) := by
  rw [bytesL_snoc x h, (g32 x _).2 hc, trimR_sp]
theorem trim_stop (x : ByteArray) (h : 0 < x.size) (hc : bt x (x.size - 1) ≠ 32) : trimR (bytesL x) = bytesL x := by
  rw [bytesL_snoc x h, trimR_no _ _ (fun e => hc ((g32 x _).1 e))]
theorem trim_zero (x : ByteArray) (h : x.size = 0) : trimR (bytesL x) = bytesL x := by
  rw [(size_nil x).1 h]; rfl
def strLen : Value → Nat
  | .string b => b.size
  | _ => 0
end Go.Pub
namespace Go.Proofs.YtoageahnddepcaaDoor
open Go.RowKit Go.Pub

set_option maxRecDepth 100000 in
set_option maxHeartbeats 1000000 in
theorem t_indent (s : ByteArray) (w : World) (hs : s.size ≤ 1000000) : Calls Tryd.prog 42 #[.string s] w fun e w' => e = .returned (.int .i64 (indA s 0)) ∧ w = w' := by
  generalize hR : indA s 0 = R at *
  have HR := Lib.hid hR
  clear hR
  go_enter Tryd.func42, Tryd.ntmps42
  go_wp2
  go_loop [3] (fun v => ∃ k : Nat, k ≤ s.size ∧ v = .int .i64 k ∧ Hid (indA s k = R)) (fun v => s.size - (intOf v).toNat)
  case atStart => exact ⟨0, by omega, rfl, HR⟩
  case round =>
    obtain ⟨k, hk, rfl, Hk⟩ := hrel
    by_cases hlt : k < s.size
    · have hlt2 : ((s[k].toNat : Nat) : Int) < 256 := by rw [get_bt s k hlt]; have := bt_lt s k; omega
      by_cases hc : bt s k = 32
      · have z : (((s[k].toNat : Nat) : Int) == 32) = true := by rw [get_bt s k hlt, hc]; rfl
        have HF : Hid (indA s (k + 1) = R) := Lib.hid (by rw [← Hk.out, indA_yes s k hlt hc])
        clear hc
        go_wp2_with fail
        go_round
        case rel => exact ⟨k + 1, by omega, by go_num, HF⟩
        case measure => simp [intOf]; omega
      · have z : (((s[k].toNat : Nat) : Int) == 32) = false := by rw [get_bt s k hlt, beq_eq_false_iff_ne]; omega
        have HF : Hid (k = R) := Lib.hid (by rw [← Hk.out, indA_no s k hlt hc])
        clear hc
        go_wp2_with fail
        go_ret
        exact ⟨ret_int (by rw [HF.out]), rfl⟩
    · have HF : Hid (k = R) := Lib.hid (by rw [← Hk.out, indA_end s k (by omega)])
      go_wp2_with fail
      go_ret
      exact ⟨ret_int (by rw [HF.out]), rfl⟩

set_option maxRecDepth 100000 in
set_option maxHeartbeats 1000000 in
theorem r_indent (s : ByteArray) (w : World) (hs : s.size ≤ 1000000) : Calls Tryd.prog 29 #[.string s] w fun e w' => e = .returned (.int .i64 (indA s 0)) ∧ w = w' := by
  generalize hR : indA s 0 = R at *
  have HR := Lib.hid hR
  clear hR
  go_enter Tryd.func29, Tryd.ntmps29
  go_wp2
  go_loop [3] (fun v => ∃ k : Nat, k ≤ s.size ∧ v = .int .i64 k ∧ Hid (indA s k = R)) (fun v => s.size - (intOf v).toNat)
  case atStart => exact ⟨0, by omega, rfl, HR⟩
  case round =>
    obtain ⟨k, hk, rfl, Hk⟩ := hrel
    by_cases hlt : k < s.size
    · have hlt2 : ((s[k].toNat : Nat) : Int) < 256 := by rw [get_bt s k hlt]; have := bt_lt s k; omega
      by_cases hc : bt s k = 32
      · have z : (((s[k].toNat : Nat) : Int) == 32) = true := by rw [get_bt s k hlt, hc]; rfl
        have HF : Hid (indA s (k + 1) = R) := Lib.hid (by rw [← Hk.out, indA_yes s k hlt hc])
        clear hc
        go_wp2_with fail
        go_round
        case rel => exact ⟨k + 1, by omega, by go_num, HF⟩
        case measure => simp [intOf]; omega
      · have z : (((s[k].toNat : Nat) : Int) == 32) = false := by rw [get_bt s k hlt, beq_eq_false_iff_ne]; omega
        have HF : Hid (k = R) := Lib.hid (by rw [← Hk.out, indA_no s k hlt hc])
        clear hc
        go_wp2_with fail
        go_ret
        exact ⟨ret_int (by rw [HF.out]), rfl⟩
    · have HF : Hid (k = R) := Lib.hid (by rw [← Hk.out, indA_end s k (by omega)])
      go_wp2_with fail
      go_ret
      exact ⟨ret_int (by rw [HF.out]), rfl⟩

set_option maxRecDepth 100000 in
set_option maxHeartbeats 1000000 in
theorem t_trim (s : ByteArray) (w : World) (hs : s.size ≤ 1000000) : Calls Tryd.prog 28 #[.string s] w fun e w' => e = .returned (.string (mk (trimS (bytesL s)))) ∧ w = w' := by
  have HI := Lib.hid fun W => t_indent s W hs
  have hi := indA_le s
  have HX := Lib.hid (show trimR (bytesL (s.extract (indA s 0) s.size)) = trimS (bytesL s) by rw [ind_extract]; rfl)
  have hz : (s.extract (indA s 0) s.size).size ≤ s.size := by rw [ByteArray.size_extract]; omega
  generalize trimS (bytesL s) = R at *
  generalize indA s 0 = I at *
  go_enter Tryd.func28, Tryd.ntmps28
  go_wp2_with fail
  ((with_reducible refine (HI.out _).mono ?_))
  rintro e w0 ⟨rfl, rfl⟩
  go_wp2_with fail
  go_loop [0] (fun v => ∃ x : ByteArray, v = .string x ∧ x.size ≤ s.size ∧ Hid (trimR (bytesL x) = R)) (fun v => strLen v)
  case atStart => exact ⟨_, rfl, hz, HX⟩
  case round =>
    clear hz HX
    obtain ⟨x, rfl, hx, Hx⟩ := hrel
    by_cases h0 : x.size = 0
    · have HF : Hid (mk R = x) := Lib.hid (by rw [← Hx.out, trim_zero x h0, mk_bytesL])
      obtain ⟨x1, x2⟩ := nil_list x ((size_nil x).1 h0)
      go_wp2_with fail
      go_ret
      exact ⟨ret_str HF.out.symm, rfl⟩
    · obtain ⟨x1, x2⟩ := cons_list x (fun e => h0 ((size_nil x).2 e))
      have hpos : 0 < x.size := by omega
      have hlt : x.size - 1 < x.size := by omega
      have hcast : ((x.size : Int) - 1) = ((x.size - 1 : Nat) : Int) := by omega
      have hnat : ((x.size : Int) - 1).toNat = x.size - 1 := by omega
      by_cases hc : bt x (x.size - 1) = 32
      · have z : (((x[x.size - 1].toNat : Nat) : Int) == 32) = true := by rw [get_bt x _ hlt, hc]; rfl
        have HF : Hid (trimR (bytesL (x.extract 0 (x.size - 1))) = R) := Lib.hid (by rw [← Hx.out, trim_step x hpos hc])
        have hz : (x.extract 0 (x.size - 1)).size = x.size - 1 := by rw [ByteArray.size_extract]; omega
        clear hc h0
        go_wp2_with fail
        go_round
        case rel => exact ⟨_, by rfl, by rw [hz]; omega, HF⟩
        case measure => simp only [strLen]; rw [hz]; omega
      · have z : (((x[x.size - 1].toNat : Nat) : Int) == 32) = false := by rw [get_bt x _ hlt, beq_eq_false_iff_ne]; omega
        have HF : Hid (mk R = x) := Lib.hid (by rw [← Hx.out, trim_stop x hpos hc, mk_bytesL])
        clear hc h0
        go_wp2_with fail
        go_ret
        exact ⟨ret_str HF.out.symm, rfl⟩

set_option maxRecDepth 100000 in
set_option maxHeartbeats 1000000 in
theorem r_trim (s : ByteArray) (w : World) (hs : s.size ≤ 1000000) : Calls Tryd.prog 13 #[.string s] w fun e w' => e = .returned (.string (mk (trimS (bytesL s)))) ∧ w = w' := by
  have HI := Lib.hid fun W => r_indent s W hs
  have hi := indA_le s
  have HX := Lib.hid (show trimR (bytesL (s.extract (indA s 0) s.size)) = trimS (bytesL s) by rw [ind_extract]; rfl)
  have hz : (s.extract (indA s 0) s.size).size ≤ s.size := by rw [ByteArray.size_extract]; omega
  generalize trimS (bytesL s) = R at *
  generalize indA s 0 = I at *
  go_enter Tryd.func13, Tryd.ntmps13
  go_wp2_with fail
  ((with_reducible refine (HI.out _).mono ?_))
  rintro e w0 ⟨rfl, rfl⟩
  go_wp2_with fail
  go_loop [0] (fun v => ∃ x : ByteArray, v = .string x ∧ x.size ≤ s.size ∧ Hid (trimR (bytesL x) = R)) (fun v => strLen v)
  case atStart => exact ⟨_, rfl, hz, HX⟩
  case round =>
    clear hz HX
    obtain ⟨x, rfl, hx, Hx⟩ := hrel
    by_cases h0 : x.size = 0
    · have HF : Hid (mk R = x) := Lib.hid (by rw [← Hx.out, trim_zero x h0, mk_bytesL])
      obtain ⟨x1, x2⟩ := nil_list x ((size_nil x).1 h0)
      go_wp2_with fail
      go_ret
      exact ⟨ret_str HF.out.symm, rfl⟩
    · obtain ⟨x1, x2⟩ := cons_list x (fun e => h0 ((size_nil x).2 e))
      have hpos : 0 < x.size := by omega
      have hlt : x.size - 1 < x.size := by omega
      have hcast : ((x.size : Int) - 1) = ((x.size - 1 : Nat) : Int) := by omega
      have hnat : ((x.size : Int) - 1).toNat = x.size - 1 := by omega
      by_cases hc : bt x (x.size - 1) = 32
      · have z : (((x[x.size - 1].toNat : Nat) : Int) == 32) = true := by rw [get_bt x _ hlt, hc]; rfl
        have HF : Hid (trimR (bytesL (x.extract 0 (x.size - 1))) = R) := Lib.hid (by rw [← Hx.out, trim_step x hpos hc])
        have hz : (x.extract 0 (x.size - 1)).size = x.size - 1 := by rw [ByteArray.size_extract]; omega
        clear hc h0
        go_wp2_with fail
        go_round
        case rel => exact ⟨_, by rfl, by rw [hz]; omega, HF⟩
        case measure => simp only [strLen]; rw [hz]; omega
      · have z : (((x[x.size - 1].toNat : Nat) : Int) == 32) = false := by rw [get_bt x _ hlt, beq_eq_false_iff_ne]; omega
        have HF : Hid (mk R = x) := Lib.hid (by rw [← Hx.out, trim_stop x hpos hc, mk_bytesL])
        clear hc h0
        go_wp2_with fail
        go_ret
        exact ⟨ret_str HF.out.symm, rfl⟩

set_option maxRecDepth 100000 in
set_option maxHeartbeats 1000000 in
theorem t_sep (s : ByteArray) (i : Nat) (w : World) (hs : s.size ≤ 1000000) (hi : i < s.size) : Calls Tryd.prog 39 #[.string s, .int .i64 i] w fun e w' => e = .returned (.bool (sepB s i)) ∧ w = w' := by
  have hE : sepB s i = (bt s i == 124 && (i == 0 || bt s (i - 1) != 92)) := rfl
  by_cases h1 : bt s i = 124
  · have z1 : (((s[i].toNat : Nat) : Int) == 124) = true := by rw [get_bt s i hi, h1]; rfl
    by_cases h2 : i = 0
    · subst h2
      have HF : Hid (sepB s 0 = true) := Lib.hid (by rw [hE, h1]; rfl)
      clear hE h1
      generalize sepB s 0 = R at *
      go_enter Tryd.func39, Tryd.ntmps39
      go_wp2_with fail
      go_ret
      exact ⟨ret_bool HF.out.symm, rfl⟩
    · have hlt : i - 1 < s.size := by omega
      have hnat : ((i : Int) - 1).toNat = i - 1 := by omega
      have HF : Hid (sepB s i = ((i : Int) == 0 || ((s[i - 1].toNat : Nat) : Int) != 92)) := Lib.hid (by
        rw [hE, h1, get_bt s _ hlt, show (i == 0) = false by rw [beq_eq_false_iff_ne]; exact h2, show ((i : Int) == 0) = false by rw [beq_eq_false_iff_ne]; omega]
        show (bt s (i - 1) != 92) = (((bt s (i - 1) : Nat) : Int) != 92)
        rw [Bool.eq_iff_iff]; simp only [bne_iff_ne, ne_eq]; omega)
      clear hE h1
      generalize sepB s i = R at *
      go_enter Tryd.func39, Tryd.ntmps39
      go_wp2_with fail
      go_ret
      exact ⟨ret_bool HF.out.symm, rfl⟩
  · have z1 : (((s[i].toNat : Nat) : Int) == 124) = false := by rw [get_bt s i hi, beq_eq_false_iff_ne]; omega
    have HF : Hid (sepB s i = false) := Lib.hid (by rw [hE, beq_eq_false_iff_ne.2 h1]; rfl)
    clear hE h1
    generalize sepB s i = R at *
    go_enter Tryd.func39, Tryd.ntmps39
    go_wp2_with fail
    go_ret
    exact ⟨ret_bool HF.out.symm, rfl⟩

set_option maxRecDepth 100000 in
set_option maxHeartbeats 1000000 in
theorem r_bar (s : ByteArray) (i : Nat) (w : World) (hs : s.size ≤ 1000000) (hi : i < s.size) : Calls Tryd.prog 30 #[.string s, .int .i64 i] w fun e w' => e = .returned (.bool (sepB s i)) ∧ w = w' := by
  have hE : sepB s i = (bt s i == 124 && (i == 0 || bt s (i - 1) != 92)) := rfl
  by_cases h1 : bt s i = 124
  · have z1 : (((s[i].toNat : Nat) : Int) == 124) = true := by rw [get_bt s i hi, h1]; rfl
    by_cases h2 : i = 0
    · subst h2
      have HF : Hid (sepB s 0 = true) := Lib.hid (by rw [hE, h1]; rfl)
      clear hE h1
      generalize sepB s 0 = R at *
      go_enter Tryd.func30, Tryd.ntmps30
      go_wp2_with fail
      go_ret
      exact ⟨ret_bool HF.out.symm, rfl⟩
    · have hlt : i - 1 < s.size := by omega
      have hnat : ((i : Int) - 1).toNat = i - 1 := by omega
      have HF : Hid (sepB s i = ((i : Int) == 0 || ((s[i - 1].toNat : Nat) : Int) != 92)) := Lib.hid (by
        rw [hE, h1, get_bt s _ hlt, show (i == 0) = false by rw [beq_eq_false_iff_ne]; exact h2, show ((i : Int) == 0) = false by rw [beq_eq_false_iff_ne]; omega]
        show (bt s (i - 1) != 92) = (((bt s (i - 1) : Nat) : Int) != 92)
        rw [Bool.eq_iff_iff]; simp only [bne_iff_ne, ne_eq]; omega)
      clear hE h1
      generalize sepB s i = R at *
      go_enter Tryd.func30, Tryd.ntmps30
      go_wp2_with fail
      go_ret
      exact ⟨ret_bool HF.out.symm, rfl⟩
  · have z1 : (((s[i].toNat : Nat) : Int) == 124) = false := by rw [get_bt s i hi, beq_eq_false_iff_ne]; omega
    have HF : Hid (sepB s i = false) := Lib.hid (by rw [hE, beq_eq_false_iff_ne.2 h1]; rfl)
    clear hE h1
    generalize sepB s i = R at *
    go_enter Tryd.func30, Tryd.ntmps30
    go_wp2_with fail
    go_ret
    exact ⟨ret_bool HF.out.symm, rfl⟩
end Go.Proofs.YtoageahnddepcaaDoor
