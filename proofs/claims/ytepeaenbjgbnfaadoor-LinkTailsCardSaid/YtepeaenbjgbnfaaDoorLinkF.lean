/-
  strings.Cut at one byte, link.bracketed, link.Tail.
-/
import Derived.Test.YtepeaenbjgbnfaaDoorLinkE
set_option linter.unusedVariables false
set_option linter.unusedSimpArgs false
namespace Go.Pub
theorem brk_index (l : List UInt8) : Lib.indexByte l 93 = if brk l < l.length then (brk l : Int) else -1 := by
  induction l with
  | nil => rfl
  | cons b l ih =>
    unfold Lib.indexByte
    by_cases hb : b = 93
    · subst hb
      simp [brk, List.findIdx_cons]
    · have h1 : (b == 93) = false := by simpa using hb
      have h2 : brk (b :: l) = brk l + 1 := by simp [brk, List.findIdx_cons, h1]
      show (if (b == 93) = true then 0 else if (Lib.indexByte l 93 == -1) = true then -1 else Lib.indexByte l 93 + 1) = _
      rw [h1, h2, ih]
      simp only [Bool.false_eq_true, if_false, List.length_cons]
      by_cases hl : brk l < l.length
      · have e1 : (if brk l < l.length then (brk l : Int) else -1) = brk l := if_pos hl
        rw [e1, if_pos (show brk l + 1 < l.length + 1 by omega)]
        have : ((brk l : Int) == -1) = false := by rw [beq_eq_false_iff_ne]; omega
        simp [this]
      · have e1 : (if brk l < l.length then (brk l : Int) else -1) = -1 := if_neg hl
        rw [e1, if_neg (show ¬ brk l + 1 < l.length + 1 by omega)]; simp
theorem brk_le (l : List UInt8) : brk l ≤ l.length := List.findIdx_le_length
theorem mk_size (l : List UInt8) : (mk l).size = l.length := by show l.toArray.size = _; simp
theorem extract_take (s : ByteArray) (k : Nat) : s.extract 0 k = mk ((bytesL s).take k) := by
  have := bytesL_sub s 0 k
  rw [← mk_bytesL (s.extract 0 k), this]; rfl
theorem extract_drop (s : ByteArray) (k : Nat) : s.extract k s.size = mk (sfx s k) := by
  have := bytesL_sub s k s.size
  rw [← mk_bytesL (s.extract k s.size), this]
  unfold sub sfx
  rw [List.take_of_length_le (by rw [List.length_drop, bytesL_length]; omega)]
end Go.Pub
namespace Go.Proofs.YtepeaenbjgbnfaaDoor
open Go.RowKit Go.Pub

theorem ret_cut {a b v : ByteArray} {p q : Bool} (h : a = b) (h2 : p = q) : Ending.returned (.tuple #[.string a, .string v, .bool p]) = .returned (.tuple #[.string b, .string v, .bool q]) := by rw [h, h2]

set_option maxRecDepth 100000 in
set_option maxHeartbeats 1000000 in
theorem cut_one (s : ByteArray) (w : World) (hs : s.size ≤ 1000000) :
    Calls Tryd.prog 58 #[.string s, .string ⟨#[93]⟩] w fun e w' => (∃ v, e = .returned (.tuple #[.string (mk ((bytesL s).take (brk (bytesL s)))), .string v, .bool (decide (brk (bytesL s) < s.size))])) ∧ Below w.heap.size w w' := by
  have HI : Hid (∀ W, Calls Tryd.prog 71 #[.string s, .string ⟨#[93]⟩] W fun e w' => e = .returned (.int .i64 (if brk (bytesL s) < s.size then (brk (bytesL s) : Int) else -1)) ∧ W = w') := Lib.hid fun W => by
    refine (Tryd.stringslite_Index_one s 93 W).mono ?_
    rintro e w' ⟨rfl, rfl⟩
    have := brk_index (bytesL s)
    rw [bytesL_length] at this
    exact ⟨ret_int this, rfl⟩
  have HL := brk_le (bytesL s)
  rw [bytesL_length] at HL
  have HX := Lib.hid (extract_take s (brk (bytesL s)))
  have HY : Hid ((bytesL s).take s.size = bytesL s) := Lib.hid (List.take_of_length_le (by rw [bytesL_length]; exact Nat.le_refl _))
  generalize brk (bytesL s) = k at *
  by_cases hk : k < s.size
  · rw [if_pos hk] at HI
    have HD : Hid (decide (k < s.size) = true) := Lib.hid (by simpa using hk)
    generalize decide (k < s.size) = d at *
    go_enter Tryd.func58, Tryd.ntmps58
    go_wp2_with fail
    ((with_reducible refine (HI.out _).mono ?_))
    rintro e w' ⟨rfl, rfl⟩
    go_wp2
    go_quiet (fail)
    go_wp2
    go_ret3
    exact ⟨⟨_, ret_cut HX.out HD.out.symm⟩, below_drewN (Below.refl _ _) _⟩
  · rw [if_neg hk] at HI
    have HD : Hid (decide (k < s.size) = false) := Lib.hid (by simpa using hk)
    generalize decide (k < s.size) = d at *
    obtain rfl : k = s.size := by omega
    have hm : Hid (mk ((bytesL s).take s.size) = s) := Lib.hid (by rw [HY.out, mk_bytesL])
    go_enter Tryd.func58, Tryd.ntmps58
    go_wp2_with fail
    ((with_reducible refine (HI.out _).mono ?_))
    rintro e w' ⟨rfl, rfl⟩
    go_wp2
    go_ret3
    exact ⟨⟨_, ret_cut hm.out.symm HD.out.symm⟩, Below.refl _ _⟩

def CutPost (s : ByteArray) (w : World) (e : Ending) (w' : World) : Prop := (∃ v, e = .returned (.tuple #[.string (mk ((bytesL s).take (brk (bytesL s)))), .string v, .bool (decide (brk (bytesL s) < s.size))])) ∧ Below w.heap.size w w'

set_option maxRecDepth 100000 in
set_option maxHeartbeats 1000000 in
theorem cut_any (s : ByteArray) (w : World) (hs : s.size ≤ 1000000) :
    Calls Tryd.prog 43 #[.string s, .string ⟨#[93]⟩] w (CutPost s w) := by
  have HC := Lib.hid fun W => cut_one s W hs
  go_enter Tryd.func43, Tryd.ntmps43
  go_wp2_with fail
  ((with_reducible refine (HC.out _).mono ?_))
  rintro e w' ⟨⟨v, rfl⟩, b0⟩
  go_wp2
  go_ret3
  exact ⟨⟨v, rfl⟩, b0⟩

set_option maxRecDepth 100000 in
set_option maxHeartbeats 4000000 in
theorem l_brack_no (s : ByteArray) (i : Nat) (w : World) (hs : s.size ≤ 1000000) (h : ¬ (i < s.size ∧ bt s i = 91)) (hi : i ≤ s.size) :
    Calls Tryd.prog 25 #[.string s, .int .i64 i] w (PartPost (brackR s i) w) := by
  have HR : Hid (brackR s i = none) := Lib.hid (by unfold brackR; rw [if_neg h])
  generalize brackR s i = R at *
  by_cases hlt : i < s.size
  · have z0 : (((s[i].toNat : Nat) : Int) != 91) = true := by rw [get_bt s i hlt]; simp; omega
    clear h
    go_enter Tryd.func25, Tryd.ntmps25
    go_wp2
    go_ret3
    exact part_none HR.out (Below.refl _ _)
  · clear h
    go_enter Tryd.func25, Tryd.ntmps25
    go_wp2
    go_ret3
    exact part_none HR.out (Below.refl _ _)

set_option maxRecDepth 100000 in
set_option maxHeartbeats 4000000 in
theorem l_brack_yes (s : ByteArray) (i : Nat) (w : World) (hs : s.size ≤ 1000000) (hlt : i < s.size) (h : bt s i = 91) :
    Calls Tryd.prog 25 #[.string s, .int .i64 i] w (PartPost (brackR s i) w) := by
  have z0 : (((s[i].toNat : Nat) : Int) != 91) = false := by rw [get_bt s i hlt, h]; rfl
  have hR : brackR s i = if brk (sfx s (i + 1)) < (sfx s (i + 1)).length ∧ labelL ((sfx s (i + 1)).take (brk (sfx s (i + 1)))) ≠ [] then
      some (labelL ((sfx s (i + 1)).take (brk (sfx s (i + 1)))), i + brk (sfx s (i + 1)) + 2) else none := by unfold brackR; rw [if_pos ⟨hlt, h⟩]
  have HR := Lib.hid hR
  clear hR h
  have HC : Hid (∀ W, Calls Tryd.prog 43 #[.string (s.extract (i + 1) s.size), .string ⟨#[93]⟩] W fun e w' => (∃ v, e = .returned (.tuple #[.string (mk ((sfx s (i + 1)).take (brk (sfx s (i + 1))))), .string v, .bool (decide (brk (sfx s (i + 1)) < (sfx s (i + 1)).length))])) ∧ Below W.heap.size W w') := Lib.hid fun W => by
    rw [extract_drop]
    have := cut_any (mk (sfx s (i + 1))) W (by rw [mk_size, sfx_len]; omega)
    unfold CutPost at this
    rw [bytesL_mk', mk_size] at this
    exact this
  have hbl := brk_le (sfx s (i + 1))
  have hsl := sfx_len s (i + 1)
  generalize sfx s (i + 1) = L at *
  have HL : Hid (∀ W, Calls Tryd.prog 18 #[.string (mk (L.take (brk L)))] W fun e w' => e = .returned (.string (mk (labelL (L.take (brk L))))) ∧ Below W.heap.size W w') := Lib.hid fun W => by
    have := l_label (mk (L.take (brk L))) W (by rw [mk_size, List.length_take]; omega)
    rw [bytesL_mk'] at this
    exact this
  have hml : (L.take (brk L)).length = brk L := by rw [List.length_take]; omega
  have hms : (mk (L.take (brk L))).size = brk L := by rw [mk_size]; exact hml
  generalize L.take (brk L) = T at *
  generalize brk L = k at *
  generalize labelL T = Lb at *
  have hsz : (mk T).size ≤ 1000000 := by omega
  have HM := Lib.hid hms
  clear hml hms
  generalize brackR s i = R at *
  have HNil : Hid (Lb = [] → R = none) := Lib.hid fun h => by rw [HR.out, if_neg (fun e => e.2 h)]
  have HNo : Hid (¬ k < L.length → R = none) := Lib.hid fun h => by rw [HR.out, if_neg (fun e => h e.1)]
  have HYes : Hid (k < L.length → Lb ≠ [] → R = some (Lb, i + k + 2)) := Lib.hid fun h g => by rw [HR.out, if_pos ⟨h, g⟩]
  clear HR
  by_cases h1 : k < L.length
  · rw [decide_eq_true h1] at HC
    cases Lb with
    | nil =>
      have HF := Lib.hid (HNil.out rfl)
      have HL' : Hid (∀ W, Calls Tryd.prog 18 #[.string (mk T)] W fun e w' => e = .returned (.string ⟨#[]⟩) ∧ Below W.heap.size W w') := Lib.hid HL.out
      go_enter Tryd.func25, Tryd.ntmps25
      go_wp2_with fail
      ((with_reducible refine (HC.out _).mono ?_))
      rintro e w1 ⟨⟨v, rfl⟩, b0⟩
      have hz0 := b0.size
      go_wp2_with fail
      ((with_reducible refine (HL'.out _).mono ?_))
      rintro e w' ⟨rfl, b1⟩
      go_wp2
      go_ret3
      exact part_none HF.out (b0.trans (b1.mono hz0))
    | cons c l =>
      have HF := Lib.hid (HYes.out h1 (by simp))
      have x1 : (mk (c :: l)).toList.isEmpty = false := by rw [Lib.toList_data]; rfl
      have x2 : (mk (c :: l)).toList = c :: l := by rw [Lib.toList_data]; rfl
      generalize hG : mk (c :: l) = G at *
      have HG := Lib.hid hG
      clear hG
      go_enter Tryd.func25, Tryd.ntmps25
      go_wp2_with fail
      ((with_reducible refine (HC.out _).mono ?_))
      rintro e w1 ⟨⟨v, rfl⟩, b0⟩
      have hz0 := b0.size
      go_wp2_with fail
      ((with_reducible refine (HL.out _).mono ?_))
      rintro e w' ⟨rfl, b1⟩
      go_wp2
      go_ret3
      have hp := part_some (w := w) (n := (i : Int) + (mk T).size + 2) HF.out (by have := HM.out; omega) (b0.trans (b1.mono hz0))
      rw [HG.out] at hp
      exact hp
  · have HF := Lib.hid (HNo.out h1)
    rw [decide_eq_false h1] at HC
    generalize mk Lb = G at *
    go_enter Tryd.func25, Tryd.ntmps25
    go_wp2_with fail
    ((with_reducible refine (HC.out _).mono ?_))
    rintro e w1 ⟨⟨v, rfl⟩, b0⟩
    have hz0 := b0.size
    go_wp2_with fail
    ((with_reducible refine (HL.out _).mono ?_))
    rintro e w' ⟨rfl, b1⟩
    go_wp2
    go_ret3
    exact part_none HF.out (b0.trans (b1.mono hz0))
end Go.Proofs.YtepeaenbjgbnfaaDoor
