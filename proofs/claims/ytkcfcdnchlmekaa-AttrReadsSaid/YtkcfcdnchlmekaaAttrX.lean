/-
  The reference's value of a pair.
-/
import Derived.Test.YtkcfcdnchlmekaaAttrW
set_option linter.unusedVariables false
set_option linter.unusedSimpArgs false
namespace Go.Pub
theorem mk_snoc (s : ByteArray) (acc : List UInt8) (k : Nat) (h : k < s.size) : mk acc ++ s.extract k (k + 1) = mk (acc ++ [s.get! k]) := by
  rw [← mk_bytesL (mk acc ++ s.extract k (k + 1))]
  congr 1
  unfold bytesL
  rw [ByteArray.data_append, Array.toList_append, ByteArray.data_extract, Array.toList_extract]
  have e : (mk acc).data.toList = acc := bytesL_mk' acc
  rw [e]
  congr 1
  have hk : k < s.data.toList.length := by simpa using h
  rw [List.extract_eq_take_drop, Nat.add_sub_cancel_left, List.take_one, List.head?_drop, List.getElem?_eq_getElem hk]
  have : s.get! k = s.data[k]! := rfl
  rw [this, getElem!_pos s.data k (by simpa using h)]
  simp
end Go.Pub
namespace Go.Proofs.Ytkcfcdnchlmekaa
open Go.RowKit Go.Pub

/-- A value, or the empty answer where it is none. -/
def strictV (r : ByteArray × Nat × Bool) : ByteArray × Nat × Bool := if r.2.2 = true then r else (⟨#[]⟩, 0, false)

set_option maxRecDepth 100000 in
set_option maxHeartbeats 1000000 in
theorem rvalue_n (s : ByteArray) (i : Nat) (w : World) (hs : s.size ≤ 1000000) (hi : i ≤ s.size) (hq : ¬ (i < s.size ∧ bt s i = 34)) : Calls Try.prog 59 #[.string s, .int .i64 i] w (TripleBelow (strictV (bareVal s i)) w) := by
  have hwb := wEnd_bd s (s.size - i) i
  have hw1 : i ≤ wordAt s i := hwb.1
  have hw2 : wordAt s i ≤ s.size := hwb.2 hi
  clear hwb
  have HW := Lib.hid (word_any s i)
  have HN := Lib.hid (rname_any (s.extract i (wordAt s i)))
  have hsz : (s.extract i (wordAt s i)).size ≤ 1000000 := by rw [extract_size s i _ hw1 hw2]; omega
  have HB : Hid (strictV (bareVal s i) = if nameB (s.extract i (wordAt s i)) = true then (s.extract i (wordAt s i), wordAt s i, true) else (⟨#[]⟩, 0, false)) := Lib.hid (by unfold strictV bareVal; dsimp only; split <;> simp_all)
  generalize strictV (bareVal s i) = T at *
  generalize wordAt s i = j at *
  generalize nameB (s.extract i j) = nb at *
  have dg : decide (s.size < i) = false := decide_eq_false (by omega)
  by_cases h1 : i < s.size
  · have hne : bt s i ≠ 34 := fun e => hq ⟨h1, e⟩
    have hlt0 : ((s[i].toNat : Nat) : Int) < 256 := by rw [get_bt s i h1]; have := bt_lt s i; omega
    have z0 : (((s[i].toNat : Nat) : Int) != 34) = true := by rw [get_bt s i h1]; simp; omega
    have d0 : decide (s.size ≤ i) = false := decide_eq_false (by omega)
    clear hq hne
    cases nb
    all_goals
      go_enter Try.func59, Try.ntmps59
      go_wp2_with fail
      ((with_reducible refine (HW.out _ (by omega)).mono ?_))
      rintro e w1 ⟨rfl, rfl⟩
      go_wp2_with fail
      ((with_reducible refine (HN.out _ (by omega)).mono ?_))
      rintro e w1 ⟨rfl, rfl⟩
      go_wp2
      go_ret3
      refine ⟨?_, Below.refl _ _⟩
      rw [HB.out]; rfl
  · obtain rfl : i = s.size := by omega
    have d0 : decide (s.size ≤ s.size) = true := decide_eq_true (Nat.le_refl _)
    clear hq
    cases nb
    all_goals
      go_enter Try.func59, Try.ntmps59
      go_wp2_with fail
      ((with_reducible refine (HW.out _ (by omega)).mono ?_))
      rintro e w1 ⟨rfl, rfl⟩
      go_wp2_with fail
      ((with_reducible refine (HN.out _ (by omega)).mono ?_))
      rintro e w1 ⟨rfl, rfl⟩
      go_wp2
      go_ret3
      refine ⟨?_, Below.refl _ _⟩
      rw [HB.out]; rfl

def RVRel (s : ByteArray) (R : Option (List UInt8 × Nat)) (i out : Value) : Prop :=
  ∃ (k f : Nat) (acc : List UInt8), i = .int .i64 k ∧ out = .string (mk acc) ∧ qv s f k acc = R ∧ s.size ≤ k + f ∧ acc.length ≤ k

set_option maxRecDepth 100000 in
set_option maxHeartbeats 4000000 in
theorem rvalue_q (s : ByteArray) (i : Nat) (w : World) (hs : s.size ≤ 1000000) (hi : i < s.size) (hq : bt s i = 34) : Calls Try.prog 59 #[.string s, .int .i64 i] w (TripleBelow (strictV (valOf (qv s s.size (i + 1) []))) w) := by
  have hlt0 : ((s[i].toNat : Nat) : Int) < 256 := by rw [get_bt s i hi]; have := bt_lt s i; omega
  have z0 : (((s[i].toNat : Nat) : Int) != 34) = false := by rw [get_bt s i hi, hq]; rfl
  have hlenq : Hid (∀ l j, qv s s.size (i + 1) [] = some (l, j) → l.length ≤ s.size) := Lib.hid fun l j h => by
    have := (qv_len s _ _ _ l j h).1; simp at this; omega
  have d0 : decide (s.size ≤ i) = false := decide_eq_false (by omega)
  clear hq
  generalize hR : qv s s.size (i + 1) [] = R at *
  have HR := Lib.hid hR
  clear hR
  have HVO : Hid (∀ l j, R = some (l, j) → strictV (valOf R) = if lineB (mk l) = true then (mk l, j, true) else (⟨#[]⟩, 0, false)) := Lib.hid fun l j h => by
    rw [h]; unfold strictV valOf; dsimp only; split <;> simp_all
  have HVN : Hid (R = none → strictV (valOf R) = (⟨#[]⟩, 0, false)) := Lib.hid fun h => by rw [h]; rfl
  generalize strictV (valOf R) = T at *
  go_enter Try.func59, Try.ntmps59
  go_wp2
  go_loop [1, 8] (fun i out => RVRel s R i out) (fun v _ => s.size - (intOf v).toNat)
  case atStart => exact ⟨i + 1, s.size, [], by go_num, rfl, HR.out, by omega, by simp⟩
  case round =>
    obtain ⟨k, f, acc, rfl, rfl, hacc, hf, hal⟩ := hrel
    have Hacc := Lib.hid hacc
    clear hacc
    have hml : (mk acc).size ≤ k := by rw [← bytesL_length, bytesL_mk']; omega
    by_cases hk : k < s.size
    · have hb := bt_lt s k
      have hlt : ((s[k].toNat : Nat) : Int) < 256 := by rw [get_bt s k hk]; omega
      by_cases c1 : bt s k = 34
      · have z1 : (((s[k].toNat : Nat) : Int) != 34) = false := by rw [get_bt s k hk, c1]; rfl
        have hT := Lib.hid (HVO.out acc (k + 1) (by rw [← Hacc.out, qv_quote s f k acc hk hf c1]))
        have hll : acc.length ≤ s.size := hlenq.out acc (k + 1) (by rw [← Hacc.out, qv_quote s f k acc hk hf c1])
        have HCL := Lib.hid (rline_any (mk acc))
        have hms : (mk acc).size ≤ 1000000 := by rw [← bytesL_length, bytesL_mk']; omega
        have d1 : decide (s.size ≤ k) = false := decide_eq_false (by omega)
        clear c1
        generalize lineB (mk acc) = lb at *
        cases lb
        all_goals
          go_wp2_with fail
          ((with_reducible refine (HCL.out _ hms).mono ?_))
          rintro e W3 ⟨rfl, b3⟩
          go_wp2
          go_ret3
          refine ⟨?_, b3⟩
          rw [hT.out]; rfl
      · have z1 : (((s[k].toNat : Nat) : Int) != 34) = true := by rw [get_bt s k hk]; simp; omega
        by_cases c2 : bt s k = 92
        · have z2 : (((s[k].toNat : Nat) : Int) == 92) = true := by rw [get_bt s k hk, c2]; rfl
          have hst := Lib.hid (qv_esc s f k acc hk hf c2)
          clear c1 c2
          by_cases hk1 : k + 1 < s.size
          · have hb1 := bt_lt s (k + 1)
            have hlt1 : ((s[k + 1].toNat : Nat) : Int) < 256 := by rw [get_bt s _ hk1]; omega
            have hms := Lib.hid (mk_snoc s acc (k + 1) hk1)
            by_cases c3 : bt s (k + 1) = 34 ∨ bt s (k + 1) = 92
            · have hR1 := Lib.hid (hst.out.symm.trans Hacc.out)
              have hR2 : Hid (qv s (f - 1) (k + 2) (acc ++ [s.get! (k + 1)]) = R) := Lib.hid (by rw [← hR1.out, if_pos ⟨hk1, c3⟩])
              have cc : (((s[k + 1].toNat : Nat) : Int) != 34) = false ∨ ((((s[k + 1].toNat : Nat) : Int) != 34) = true ∧ (((s[k + 1].toNat : Nat) : Int) != 92) = false) := by
                rw [get_bt s _ hk1]
                rcases c3 with c | c
                · left; rw [c]; rfl
                · right; rw [c]; exact ⟨rfl, rfl⟩
              clear c3
              rcases cc with z3 | ⟨z3, z4⟩
              all_goals
                go_wp2_with fail
                go_round
                case rel => exact ⟨k + 2, f - 1, acc ++ [s.get! (k + 1)], by go_num, by rw [← hms.out], hR2.out, by omega, by simp; omega⟩
                case measure => simp [intOf]; omega
            · have hRn : Hid (T = (⟨#[]⟩, 0, false)) := Lib.hid (HVN.out (by rw [← Hacc.out, hst.out, if_neg (by intro h; exact c3 h.2)]))
              have z3 : (((s[k + 1].toNat : Nat) : Int) != 34) = true := by rw [get_bt s _ hk1]; simp; omega
              have z4 : (((s[k + 1].toNat : Nat) : Int) != 92) = true := by rw [get_bt s _ hk1]; simp; omega
              clear c3
              go_wp2_with fail
              go_ret3
              refine ⟨?_, Below.refl _ _⟩
              rw [hRn.out]; rfl
          · have hRn : Hid (T = (⟨#[]⟩, 0, false)) := Lib.hid (HVN.out (by rw [← Hacc.out, hst.out, if_neg (by intro h; exact hk1 h.1)]))
            go_wp2_with fail
            go_ret3
            refine ⟨?_, Below.refl _ _⟩
            rw [hRn.out]; rfl
        · have z2 : (((s[k].toNat : Nat) : Int) == 92) = false := by rw [get_bt s k hk, beq_eq_false_iff_ne]; omega
          have hR2 : Hid (qv s (f - 1) (k + 1) (acc ++ [s.get! k]) = R) := Lib.hid (by rw [← Hacc.out, qv_plain s f k acc hk hf c1 c2])
          have hms := Lib.hid (mk_snoc s acc k hk)
          clear c1 c2
          go_wp2_with fail
          go_round
          case rel => exact ⟨k + 1, f - 1, acc ++ [s.get! k], by go_num, by rw [← hms.out], hR2.out, by omega, by simp; omega⟩
          case measure => simp [intOf]; omega
    · have hRn : Hid (T = (⟨#[]⟩, 0, false)) := Lib.hid (HVN.out (by rw [← Hacc.out, qv_end s f k acc hk]))
      go_wp2
      go_ret3
      refine ⟨?_, Below.refl _ _⟩
      rw [hRn.out]; rfl

end Go.Proofs.Ytkcfcdnchlmekaa
