/-
  table.alignment; the reference's plain and letter.
-/
import Derived.Test.YtoageahnddepcaaDoorTabC
import Derived.Lib.TrimByte
set_option linter.unusedVariables false
set_option linter.unusedSimpArgs false
namespace Go.Pub
open Go.RowKit
def letX (l r : Bool) : List UInt8 := if l && r then [99] else if l then [108] else if r then [114] else [45]
def inn1 (c : List UInt8) : List UInt8 := Lib.trimPrefix c [58]
def inn2 (c : List UInt8) : List UInt8 := Lib.trimSuffix (inn1 c) [58]
/-- The alignment letter of a cell, or nothing. -/
def letL (c : List UInt8) : List UInt8 := if inn2 c = [] ∨ (inn2 c).all (· == 45) = false then [] else letX (Lib.hasPrefix c [58]) (Lib.hasSuffix (inn1 c) [58])
theorem dropWhile_nil {p : UInt8 → Bool} : ∀ l : List UInt8, l.dropWhile p = [] ↔ l.all p = true
  | [] => by simp
  | c :: l => by
    by_cases h : p c = true
    · rw [List.dropWhile_cons_of_pos h, dropWhile_nil l, List.all_cons, h, Bool.true_and]
    · rw [List.dropWhile_cons_of_neg h, List.all_cons]; simp [h]
theorem trimB_nil (l : List UInt8) : Lib.trimB l 45 = [] ↔ l.all (· == 45) = true := by
  unfold Lib.trimB Lib.trimRightB Lib.trimLeftB
  rw [dropWhile_nil, List.all_reverse]
  have e : l.all (· == 45) = l.reverse.all (· == 45) := List.all_reverse.symm
  rw [e]
  generalize l.reverse = m
  by_cases h : m.all (· == 45) = true
  · rw [(dropWhile_nil m).2 h]; simp [h]
  · constructor
    · intro h2
      rw [← List.takeWhile_append_dropWhile (p := (· == 45)) (l := m), List.all_append, h2, Bool.and_true]
      exact List.all_takeWhile
    · exact fun e => absurd e h
theorem letL_len (c : List UInt8) : (letL c).length ≤ 1 := by
  unfold letL letX
  split
  · simp
  · split
    · simp
    · split
      · simp
      · split <;> simp
theorem tsuf_len (c p : List UInt8) : (Lib.trimSuffix c p).length ≤ c.length := by
  unfold Lib.trimSuffix; split <;> simp
theorem tpre_len (c p : List UInt8) : (Lib.trimPrefix c p).length ≤ c.length := by
  unfold Lib.trimPrefix; split <;> simp
theorem inn2_len (c : List UInt8) : (inn2 c).length ≤ c.length := Nat.le_trans (tsuf_len _ _) (tpre_len _ _)
theorem unbar_at (s : ByteArray) (k : Nat) (h : k + 1 < s.size) (h1 : bt s k = 92) (h2 : bt s (k + 1) = 124) : unbarL (sfx s k) = s.get! (k + 1) :: unbarL (sfx s (k + 2)) := by
  rw [sfx_cons s k (by omega), sfx_cons s (k + 1) h]
  have e1 : s.get! k = 92 := (bt_u8 s k 92 (by decide)).2 h1
  have e2 : s.get! (k + 1) = 124 := (bt_u8 s (k + 1) 124 (by decide)).2 h2
  rw [e1, e2, unbarL_hit]
theorem unbar_not (s : ByteArray) (k : Nat) (hk : k < s.size) (h : ¬ (bt s k = 92 ∧ k + 1 < s.size ∧ bt s (k + 1) = 124)) : unbarL (sfx s k) = s.get! k :: unbarL (sfx s (k + 1)) := by
  rw [sfx_cons s k hk, unbarL_no]
  rintro ⟨e1, e2⟩
  have h1 : bt s k = 92 := (bt_u8 s k 92 (by decide)).1 e1
  by_cases hl : k + 1 < s.size
  · rw [sfx_cons s (k + 1) hl] at e2
    have e3 : s.get! (k + 1) = 124 := by simpa using e2
    exact h ⟨h1, hl, (bt_u8 s (k + 1) 124 (by decide)).1 e3⟩
  · rw [sfx_nil s (k + 1) (by omega)] at e2; simp at e2
theorem mk_snoc' (s : ByteArray) (acc : List UInt8) (k : Nat) (h : k < s.size) : mk acc ++ s.extract k (k + 1) = mk (acc ++ [s.get! k]) := by
  rw [mk_app_s, bytesL_sub]
  have := sub_snoc s k k (Nat.le_refl _) h
  rw [this, sub_self]; rfl
end Go.Pub
namespace Go.Proofs.YtoageahnddepcaaDoor
open Go.RowKit Go.Pub

set_option maxRecDepth 100000 in
set_option maxHeartbeats 1000000 in
theorem t_align1 (c : ByteArray) (w : World) (hs : c.size ≤ 1000000) : Calls Tryd.prog 33 #[.string c] w fun e w' => e = .returned (.string (mk (letL (bytesL c)))) ∧ Below w.heap.size w w' := by
  have hz1 := tpre_len (bytesL c) [58]
  have hz2 := inn2_len (bytesL c)
  rw [bytesL_length] at hz1 hz2
  have H1 : Hid (∀ W, Calls Tryd.prog 44 #[.string c, .string ⟨#[58]⟩] W fun e w' => e = .returned (.tuple #[.string (mk (inn1 (bytesL c))), .bool (Lib.hasPrefix (bytesL c) [58])]) ∧ w' = W) := Lib.hid fun W => Tryd.strings_CutPrefix c ⟨#[58]⟩ W
  have H2 : Hid (∀ W, Calls Tryd.prog 45 #[.string (mk (inn1 (bytesL c))), .string ⟨#[58]⟩] W fun e w' => e = .returned (.tuple #[.string (mk (inn2 (bytesL c))), .bool (Lib.hasSuffix (inn1 (bytesL c)) [58])]) ∧ w' = W) := Lib.hid fun W => Tryd.strings_CutSuffix (mk (inn1 (bytesL c))) ⟨#[58]⟩ W (by rw [mk_size]; unfold inn1; omega)
  have H3 : Hid (∀ W, Calls Tryd.prog 46 #[.string (mk (inn2 (bytesL c))), .string ⟨#[45]⟩] W fun e w' => e = .returned (.string (mk (Lib.trimB (inn2 (bytesL c)) 45))) ∧ Below W.heap.size W w') := Lib.hid fun W => by
    refine (Tryd.strings_Trim_one (mk (inn2 (bytesL c))) 45 (by decide) W (by rw [mk_size]; omega)).mono ?_
    rintro e w' ⟨rfl, rfl | rfl⟩
    · exact ⟨rfl, Below.refl _ _⟩
    · exact ⟨rfl, (Below.refl _ _).drew⟩
  have HX : Hid (letL (bytesL c) = if inn2 (bytesL c) = [] ∨ (inn2 (bytesL c)).all (· == 45) = false then [] else letX (Lib.hasPrefix (bytesL c) [58]) (Lib.hasSuffix (inn1 (bytesL c)) [58])) := Lib.hid rfl
  have HT := Lib.hid (trimB_nil (inn2 (bytesL c)))
  generalize letL (bytesL c) = R at *
  generalize Lib.hasPrefix (bytesL c) [58] = p at *
  generalize Lib.hasSuffix (inn1 (bytesL c)) [58] = q at *
  generalize Lib.trimB (inn2 (bytesL c)) 45 = T at *
  generalize inn2 (bytesL c) = I at *
  generalize mk (inn1 (bytesL c)) = J at *
  by_cases h0 : I = []
  · have HF : Hid (R = []) := Lib.hid (by rw [HX.out, if_pos (Or.inl h0)])
    subst h0
    have H2' : Hid (∀ W, Calls Tryd.prog 45 #[.string J, .string ⟨#[58]⟩] W fun e w' => e = .returned (.tuple #[.string ⟨#[]⟩, .bool q]) ∧ w' = W) := Lib.hid H2.out
    go_enter Tryd.func33, Tryd.ntmps33
    go_wp2_with fail
    ((with_reducible refine (H1.out _).mono ?_))
    rintro e w0 ⟨rfl, rfl⟩
    go_wp2_with fail
    ((with_reducible refine (H2'.out _).mono ?_))
    rintro e w0 ⟨rfl, rfl⟩
    go_wp2_with fail
    go_ret
    exact ⟨ret_str (by rw [HF.out]; rfl), Below.refl _ _⟩
  · obtain ⟨x1, x2⟩ := cons_list (mk I) (by rw [bytesL_mk']; exact h0)
    by_cases h1 : I.all (· == 45) = true
    · have HF : Hid (R = letX p q) := Lib.hid (by rw [HX.out, if_neg (by rintro (e | e); exact h0 e; rw [h1] at e; cases e)])
      obtain rfl : T = [] := HT.out.2 h1
      have H3' : Hid (∀ W, Calls Tryd.prog 46 #[.string (mk I), .string ⟨#[45]⟩] W fun e w' => e = .returned (.string ⟨#[]⟩) ∧ Below W.heap.size W w') := Lib.hid H3.out
      clear H3 h0 h1 HT HX
      generalize mk I = I' at *
      cases p <;> cases q
      all_goals
        go_enter Tryd.func33, Tryd.ntmps33
        go_wp2_with fail
        ((with_reducible refine (H1.out _).mono ?_))
        rintro e w0 ⟨rfl, rfl⟩
        go_wp2_with fail
        ((with_reducible refine (H2.out _).mono ?_))
        rintro e w0 ⟨rfl, rfl⟩
        go_wp2_with fail
        ((with_reducible refine (H3'.out _).mono ?_))
        rintro e w1 ⟨rfl, b1⟩
        go_wp2_with fail
        go_ret
        exact ⟨ret_str (by rw [HF.out]; rfl), b1⟩
    · have HF : Hid (R = []) := Lib.hid (by rw [HX.out, if_pos (Or.inr (by simpa using h1))])
      obtain ⟨y1, y2⟩ := cons_list (mk T) (by rw [bytesL_mk']; exact fun e => h1 (HT.out.1 e))
      clear h0 h1 HT HX
      generalize mk I = I' at *
      generalize mk T = T' at *
      go_enter Tryd.func33, Tryd.ntmps33
      go_wp2_with fail
      ((with_reducible refine (H1.out _).mono ?_))
      rintro e w0 ⟨rfl, rfl⟩
      go_wp2_with fail
      ((with_reducible refine (H2.out _).mono ?_))
      rintro e w0 ⟨rfl, rfl⟩
      go_wp2_with fail
      ((with_reducible refine (H3.out _).mono ?_))
      rintro e w1 ⟨rfl, b1⟩
      go_wp2_with fail
      go_ret
      exact ⟨ret_str (by rw [HF.out]; rfl), b1⟩

set_option maxRecDepth 100000 in
set_option maxHeartbeats 1000000 in
theorem r_plain (s : ByteArray) (w : World) (hs : s.size ≤ 1000000) : Calls Tryd.prog 31 #[.string s] w fun e w' => e = .returned (.string (mk (cellL (bytesL s)))) ∧ w = w' := by
  have HT := Lib.hid fun W => r_trim s W hs
  have hz : (mk (trimS (bytesL s))).size ≤ 1000000 := by rw [mk_size]; have := trimS_len (bytesL s); rw [bytesL_length] at this; omega
  have HX : Hid (unbarL (sfx (mk (trimS (bytesL s))) 0) = cellL (bytesL s)) := Lib.hid (by unfold sfx cellL; rw [bytesL_mk', List.drop_zero])
  generalize cellL (bytesL s) = R at *
  generalize mk (trimS (bytesL s)) = T at *
  go_enter Tryd.func31, Tryd.ntmps31
  go_wp2_with fail
  ((with_reducible refine (HT.out _).mono ?_))
  rintro e w0 ⟨rfl, rfl⟩
  go_wp2_with fail
  go_loop [3, 4] (fun v3 v4 => ∃ (k : Nat) (acc : List UInt8), v3 = .string (mk acc) ∧ v4 = .int .i64 k ∧ k ≤ T.size ∧ acc.length ≤ k ∧ Hid (acc ++ unbarL (sfx T k) = R)) (fun _ v => T.size - (intOf v).toNat)
  case atStart => exact ⟨0, [], rfl, rfl, by omega, by simp, HX⟩
  case round =>
    obtain ⟨k, acc, rfl, rfl, hk, hal, Hacc⟩ := hrel
    by_cases hlt : k < T.size
    · have hlt2 : ((T[k].toNat : Nat) : Int) < 256 := by rw [get_bt T k hlt]; have := bt_lt T k; omega
      by_cases hc : bt T k = 92 ∧ k + 1 < T.size ∧ bt T (k + 1) = 124
      · obtain ⟨c1, c2, c3⟩ := hc
        have z1 : (((T[k].toNat : Nat) : Int) == 92) = true := by rw [get_bt T k hlt, c1]; rfl
        have z2 : (((T[k + 1].toNat : Nat) : Int) == 124) = true := by rw [get_bt T (k + 1) c2, c3]; rfl
        have HN : Hid (acc ++ [T.get! (k + 1)] ++ unbarL (sfx T (k + 2)) = R) := Lib.hid (by rw [← Hacc.out, unbar_at T k c2 c1 c3]; simp)
        have cat : ∀ w : World, (Op.stringOp .add (mk acc) (T.extract (k + 1) (k + 1 + 1))).run Tryd.prog w = .ok (.string (mk (acc ++ [T.get! (k + 1)]))) w := fun w => by
          rw [run_string_add_sum w _ _ (by rw [mk_size, ByteArray.size_extract]; omega), mk_snoc' T acc (k + 1) c2]
        clear c1 c3
        have j1 : (0 : Int) ≤ (k : Int) + 1 := by omega
        have j2 : (k : Int) + 1 ≤ (k : Int) + 1 + 1 := by omega
        have j3 : (k : Int) + 1 + 1 ≤ (T.size : Int) := by omega
        go_wp2_with fail
        go_round
        case rel => exact ⟨k + 2, acc ++ [T.get! (k + 1)], rfl, by go_num, by omega, by simp; omega, HN⟩
        case measure => simp [intOf]; omega
      · have HN : Hid (acc ++ [T.get! k] ++ unbarL (sfx T (k + 1)) = R) := Lib.hid (by rw [← Hacc.out, unbar_not T k hlt hc]; simp)
        have cat : ∀ w : World, (Op.stringOp .add (mk acc) (T.extract k (k + 1))).run Tryd.prog w = .ok (.string (mk (acc ++ [T.get! k]))) w := fun w => by
          rw [run_string_add_sum w _ _ (by rw [mk_size, ByteArray.size_extract]; omega), mk_snoc' T acc k hlt]
        have hw : (((T[k].toNat : Nat) : Int) == 92) = false ∨ ((((T[k].toNat : Nat) : Int) == 92) = true ∧ T.size ≤ k + 1) ∨ (∃ h2 : k + 1 < T.size, (((T[k].toNat : Nat) : Int) == 92) = true ∧ (((T[k + 1].toNat : Nat) : Int) == 124) = false) := by
          rw [get_bt T k hlt]
          by_cases c1 : bt T k = 92
          · right
            by_cases c2 : k + 1 < T.size
            · right
              refine ⟨c2, by rw [c1]; rfl, ?_⟩
              rw [get_bt T (k + 1) c2, beq_eq_false_iff_ne]
              intro e
              exact hc ⟨c1, c2, by omega⟩
            · left; exact ⟨by rw [c1]; rfl, by omega⟩
          · left; rw [beq_eq_false_iff_ne]; omega
        clear hc
        have j1 : (0 : Int) ≤ (k : Int) := by omega
        have j2 : (k : Int) ≤ (k : Int) + 1 := by omega
        have j3 : (k : Int) + 1 ≤ (T.size : Int) := by omega
        rcases hw with z1 | ⟨z1, z2⟩ | ⟨h2, z1, z2⟩
        all_goals
          go_wp2_with fail
          go_round
          case rel => exact ⟨k + 1, acc ++ [T.get! k], rfl, by go_num, by omega, by simp; omega, HN⟩
          case measure => simp [intOf]; omega
    · have HF : Hid (acc = R) := Lib.hid (by rw [← Hacc.out, sfx_nil T k (by omega)]; simp [unbarL])
      go_wp2_with fail
      go_ret
      exact ⟨ret_str (by rw [HF.out]), rfl⟩
end Go.Proofs.YtoageahnddepcaaDoor
