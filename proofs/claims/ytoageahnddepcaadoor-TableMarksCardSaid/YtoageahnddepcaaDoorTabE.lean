/-
  The reference's letter.
-/
import Derived.Test.YtoageahnddepcaaDoorTabD
import Derived.Deep.CutRange
import Derived.Deep.DeepCutAuto
set_option linter.unusedVariables false
set_option linter.unusedSimpArgs false
namespace Go.Pub
open Go.RowKit
theorem pre_ways (c : ByteArray) : (Lib.hasPrefix (bytesL c) [58] = true ∧ ∃ h : 0 < c.size, (((c[0].toNat : Nat) : Int) == 58) = true) ∨ (Lib.hasPrefix (bytesL c) [58] = false ∧ c.size = 0) ∨ (Lib.hasPrefix (bytesL c) [58] = false ∧ ∃ h : 0 < c.size, (((c[0].toNat : Nat) : Int) == 58) = false) := by
  by_cases h0 : c.size = 0
  · right; left
    refine ⟨?_, h0⟩
    rw [(size_nil c).1 h0]; rfl
  · have h : 0 < c.size := by omega
    have e : bytesL c = c.get! 0 :: sfx c 1 := by have := sfx_cons c 0 h; unfold sfx at this ⊢; simpa using this
    by_cases h1 : bt c 0 = 58
    · left
      refine ⟨?_, h, by rw [get_bt c 0 h, h1]; rfl⟩
      rw [e, (bt_u8 c 0 58 (by decide)).2 h1]; rfl
    · right; right
      refine ⟨?_, h, by rw [get_bt c 0 h, beq_eq_false_iff_ne]; omega⟩
      rw [e]
      show ((58 : UInt8) == c.get! 0 && true) = false
      rw [Bool.and_true, beq_eq_false_iff_ne]
      exact fun e => h1 ((bt_u8 c 0 58 (by decide)).1 e.symm)
theorem pre_cut (c : ByteArray) (h : Lib.hasPrefix (bytesL c) [58] = true) : bytesL (c.extract 1 c.size) = inn1 (bytesL c) := by
  unfold inn1 Lib.trimPrefix
  rw [if_pos h, extract_drop, bytesL_mk']; rfl
theorem pre_not (c : List UInt8) (h : Lib.hasPrefix c [58] = false) : c = inn1 c := by
  unfold inn1 Lib.trimPrefix
  rw [if_neg (by rw [h]; simp)]
theorem suf_snoc (l : List UInt8) (a : UInt8) : Lib.hasSuffix (l ++ [a]) [58] = (a == 58) := by
  unfold Lib.hasSuffix List.isSuffixOf
  rw [List.reverse_append]
  show ((58 : UInt8) == a && true) = _
  rw [Bool.and_true, Bool.beq_comm]
theorem suf_ways (c : ByteArray) : (Lib.hasSuffix (bytesL c) [58] = true ∧ ∃ h : 0 < c.size, (((c[c.size - 1].toNat : Nat) : Int) == 58) = true) ∨ (Lib.hasSuffix (bytesL c) [58] = false ∧ c.size = 0) ∨ (Lib.hasSuffix (bytesL c) [58] = false ∧ ∃ h : 0 < c.size, (((c[c.size - 1].toNat : Nat) : Int) == 58) = false) := by
  by_cases h0 : c.size = 0
  · right; left
    refine ⟨?_, h0⟩
    rw [(size_nil c).1 h0]; rfl
  · have h : 0 < c.size := by omega
    have e := bytesL_snoc c h
    by_cases h1 : bt c (c.size - 1) = 58
    · left
      refine ⟨?_, h, by rw [get_bt c _ (by omega), h1]; rfl⟩
      rw [e, suf_snoc, (bt_u8 c _ 58 (by decide)).2 h1]; rfl
    · right; right
      refine ⟨?_, h, by rw [get_bt c _ (by omega), beq_eq_false_iff_ne]; omega⟩
      rw [e, suf_snoc, beq_eq_false_iff_ne]
      exact fun e => h1 ((bt_u8 c _ 58 (by decide)).1 e)
theorem suf_cut (c : ByteArray) (h : Lib.hasSuffix (bytesL c) [58] = true) : bytesL (c.extract 0 (c.size - 1)) = Lib.trimSuffix (bytesL c) [58] := by
  unfold Lib.trimSuffix
  rw [if_pos h, extract_take, bytesL_mk', bytesL_length]; rfl
theorem suf_not (c : List UInt8) (h : Lib.hasSuffix c [58] = false) : c = Lib.trimSuffix c [58] := by
  unfold Lib.trimSuffix
  rw [if_neg (by rw [h]; simp)]
theorem all_end (s : ByteArray) (k : Nat) (h : s.size ≤ k) : (sfx s k).all (· == 45) = true := by rw [sfx_nil s k h]; rfl
theorem all_yes (s : ByteArray) (k : Nat) (h : k < s.size) (hc : bt s k = 45) : (sfx s k).all (· == 45) = (sfx s (k + 1)).all (· == 45) := by
  rw [sfx_cons s k h, List.all_cons, (bt_u8 s k 45 (by decide)).2 hc]; rfl
theorem all_no (s : ByteArray) (k : Nat) (h : k < s.size) (hc : bt s k ≠ 45) : (sfx s k).all (· == 45) = false := by
  rw [sfx_cons s k h, List.all_cons, beq_eq_false_iff_ne.2 (show s.get! k ≠ 45 from fun e => hc ((bt_u8 s k 45 (by decide)).1 e))]; rfl
end Go.Pub
namespace Go.Proofs.YtoageahnddepcaaDoor
open Go.RowKit Go.Pub

set_option maxRecDepth 100000 in
set_option maxHeartbeats 2000000 in
theorem r_letter (c : ByteArray) (w : World) (hs : c.size ≤ 1000000) : Calls Tryd.prog 34 #[.string c] w fun e w' => e = .returned (.string (mk (letL (bytesL c)))) ∧ w = w' := by
  have HW := Lib.hid (pre_ways c)
  have HC := Lib.hid (pre_cut c)
  have HN := Lib.hid (pre_not (bytesL c))
  have HX : Hid (letL (bytesL c) = if inn2 (bytesL c) = [] ∨ (inn2 (bytesL c)).all (· == 45) = false then [] else letX (Lib.hasPrefix (bytesL c) [58]) (Lib.hasSuffix (inn1 (bytesL c)) [58])) := Lib.hid rfl
  have HI : Hid (inn2 (bytesL c) = Lib.trimSuffix (inn1 (bytesL c)) [58]) := Lib.hid rfl
  generalize letL (bytesL c) = R at *
  generalize Lib.hasPrefix (bytesL c) [58] = p at *
  generalize inn2 (bytesL c) = I2 at *
  generalize inn1 (bytesL c) = I1 at *
  go_enter Tryd.func34, Tryd.ntmps34
  go_upto_region 1 with fail
  go_cut [3] (fun s3 wx => s3 = .bool p ∧ w = wx)
  case first =>
    rcases HW.out with ⟨rfl, h0, z⟩ | ⟨rfl, h0⟩ | ⟨rfl, h0, z⟩
    · obtain ⟨x1, x2⟩ := cons_list c (fun e => by have := (size_nil c).2 e; omega)
      go_wp2_with fail
      go_meet
      exact ⟨rfl, rfl⟩
    · obtain ⟨x1, x2⟩ := nil_list c ((size_nil c).1 h0)
      go_wp2_with fail
      go_meet
      exact ⟨rfl, rfl⟩
    · obtain ⟨x1, x2⟩ := cons_list c (fun e => by have := (size_nil c).2 e; omega)
      go_wp2_with fail
      go_meet
      exact ⟨rfl, rfl⟩
  case rest =>
  obtain ⟨rfl, rfl⟩ := hcut
  go_upto_if 13 with fail
  go_cut [0] (fun s0 wx => (∃ X : ByteArray, s0 = .string X ∧ Hid (bytesL X = I1) ∧ X.size ≤ c.size) ∧ w = wx)
  case first =>
    cases p
    · go_wp2_with fail
      go_meet
      exact ⟨⟨c, rfl, Lib.hid (HN.out (by first | trivial | rfl)), Nat.le_refl _⟩, rfl⟩
    · obtain ⟨h0, _⟩ : ∃ h : 0 < c.size, (((c[0].toNat : Nat) : Int) == 58) = true := by
        rcases HW.out with ⟨_, h0, z⟩ | ⟨h, _⟩ | ⟨h, _⟩
        · exact ⟨h0, z⟩
        · cases h
        · cases h
      have h1 : (1 : Int) ≤ (c.size : Int) := by omega
      go_wp2_with fail
      go_meet
      exact ⟨⟨_, rfl, Lib.hid (HC.out (by first | trivial | rfl)), by rw [ByteArray.size_extract]; omega⟩, rfl⟩
  case rest =>
  obtain ⟨⟨X, rfl, HX1, hXz⟩, rfl⟩ := hcut
  clear HW HC HN
  have HW := Lib.hid (suf_ways X)
  have HC := Lib.hid (suf_cut X)
  have HN := Lib.hid (suf_not (bytesL X))
  rw [HX1.out] at HW HC HN
  generalize Lib.hasSuffix I1 [58] = q at *
  have hcast : 0 < X.size → ((X.size : Int) - 1) = ((X.size - 1 : Nat) : Int) := fun h => by omega
  go_upto_region 4 with fail
  go_cut [4] (fun s4 wx => s4 = .bool q ∧ w = wx)
  case first =>
    rcases HW.out with ⟨rfl, h0, z⟩ | ⟨rfl, h0⟩ | ⟨rfl, h0, z⟩
    · obtain ⟨x1, x2⟩ := cons_list X (fun e => by have := (size_nil X).2 e; omega)
      have hcast := hcast h0
      have hnat : ((X.size : Int) - 1).toNat = X.size - 1 := by omega
      go_wp2_with fail
      go_meet
      exact ⟨rfl, rfl⟩
    · obtain ⟨x1, x2⟩ := nil_list X ((size_nil X).1 h0)
      go_wp2_with fail
      go_meet
      exact ⟨rfl, rfl⟩
    · obtain ⟨x1, x2⟩ := cons_list X (fun e => by have := (size_nil X).2 e; omega)
      have hcast := hcast h0
      have hnat : ((X.size : Int) - 1).toNat = X.size - 1 := by omega
      go_wp2_with fail
      go_meet
      exact ⟨rfl, rfl⟩
  case rest =>
  obtain ⟨rfl, rfl⟩ := hcut
  go_upto_if 26 with fail
  go_cut [0] (fun s0 wx => (∃ Z : ByteArray, s0 = .string Z ∧ Hid (bytesL Z = I2) ∧ Z.size ≤ X.size) ∧ w = wx)
  case first =>
    cases q
    · go_wp2_with fail
      go_meet
      exact ⟨⟨X, rfl, Lib.hid (by rw [HX1.out, HN.out (by first | trivial | rfl)]; exact HI.out.symm), Nat.le_refl _⟩, rfl⟩
    · obtain ⟨h0, _⟩ : ∃ h : 0 < X.size, (((X[X.size - 1].toNat : Nat) : Int) == 58) = true := by
        rcases HW.out with ⟨_, h0, z⟩ | ⟨h, _⟩ | ⟨h, _⟩
        · exact ⟨h0, z⟩
        · cases h
        · cases h
      have hcast := hcast h0
      have hnat : ((X.size : Int) - 1).toNat = X.size - 1 := by omega
      go_wp2_with fail
      go_meet
      exact ⟨⟨_, rfl, Lib.hid ((HC.out (by first | trivial | rfl)).trans HI.out.symm), by rw [ByteArray.size_extract]; omega⟩, rfl⟩
  case rest =>
  obtain ⟨⟨Z, rfl, HZ, hZz⟩, rfl⟩ := hcut
  clear HW HC HN HI HX1 hcast
  have HZ0 : Hid ((bytesL Z).all (· == 45) = (sfx Z 0).all (· == 45)) := Lib.hid rfl
  rw [← HZ.out] at HX
  clear HZ
  go_wp2_with fail
  go_loop [5] (fun v => ∃ k : Nat, k ≤ Z.size ∧ v = .int .i64 k ∧ Hid ((bytesL Z).all (· == 45) = (sfx Z k).all (· == 45))) (fun v => Z.size - (intOf v).toNat)
  case atStart => exact ⟨0, by omega, rfl, HZ0⟩
  case round =>
    obtain ⟨k, hk, rfl, Hk⟩ := hrel
    by_cases hlt : k < Z.size
    · have hlt2 : ((Z[k].toNat : Nat) : Int) < 256 := by rw [get_bt Z k hlt]; have := bt_lt Z k; omega
      by_cases hc : bt Z k = 45
      · have z : (((Z[k].toNat : Nat) : Int) != 45) = false := by rw [get_bt Z k hlt, hc]; rfl
        have HF : Hid ((bytesL Z).all (· == 45) = (sfx Z (k + 1)).all (· == 45)) := Lib.hid (by rw [Hk.out, all_yes Z k hlt hc])
        clear hc
        go_wp2_with fail
        go_round
        case rel => exact ⟨k + 1, by omega, by go_num, HF⟩
        case measure => simp [intOf]; omega
      · have z : (((Z[k].toNat : Nat) : Int) != 45) = true := by rw [get_bt Z k hlt]; simp; omega
        have HF : Hid (R = []) := Lib.hid (by rw [HX.out, if_pos (Or.inr (by rw [Hk.out]; exact all_no Z k hlt hc))])
        clear hc
        go_wp2_with fail
        go_ret
        exact ⟨ret_str (by rw [HF.out]; rfl), rfl⟩
    · have HA : Hid ((bytesL Z).all (· == 45) = true) := Lib.hid (by rw [Hk.out, all_end Z k (by omega)])
      by_cases h0 : Z.size = 0
      · have HF : Hid (R = []) := Lib.hid (by rw [HX.out, if_pos (Or.inl ((size_nil Z).1 h0))])
        obtain ⟨x1, x2⟩ := nil_list Z ((size_nil Z).1 h0)
        go_wp2_with fail
        go_ret
        exact ⟨ret_str (by rw [HF.out]; rfl), rfl⟩
      · have HF : Hid (R = letX p q) := Lib.hid (by rw [HX.out, if_neg (by rintro (e | e); exact h0 ((size_nil Z).2 e); rw [HA.out] at e; cases e)])
        obtain ⟨x1, x2⟩ := cons_list Z (fun e => h0 ((size_nil Z).2 e))
        cases p <;> cases q
        all_goals
          go_wp2_with fail
          go_ret
          exact ⟨ret_str (by rw [HF.out]; rfl), rfl⟩
end Go.Proofs.YtoageahnddepcaaDoor
