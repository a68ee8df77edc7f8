/-
  attr.readValue: the value of a pair.
-/
import Derived.Test.YtkcfcdnchlmekaaAttrB
import Derived.Test.YtkcfcdnchlmekaaPureC
import Derived.Test.YtkcfcdnchlmekaaBuild
set_option linter.unusedVariables false
set_option linter.unusedSimpArgs false
namespace Go.Pub
/-- What stands between quotation marks from place i on, and the place behind. -/
def qv (s : ByteArray) : Nat → Nat → List UInt8 → Option (List UInt8 × Nat)
  | 0, _, _ => none
  | f + 1, i, acc =>
    if i < s.size then
      (if bt s i = 34 then some (acc, i + 1)
       else if bt s i = 92 then (if i + 1 < s.size ∧ (bt s (i + 1) = 34 ∨ bt s (i + 1) = 92) then qv s f (i + 2) (acc ++ [s.get! (i + 1)]) else none)
       else qv s f (i + 1) (acc ++ [s.get! i]))
    else none
theorem qv_end (s : ByteArray) (f i : Nat) (acc : List UInt8) (h : ¬ i < s.size) : qv s f i acc = none := by
  cases f <;> simp [qv, h]
theorem qv_quote (s : ByteArray) (f i : Nat) (acc : List UInt8) (h : i < s.size) (hf : s.size ≤ i + f) (hb : bt s i = 34) : qv s f i acc = some (acc, i + 1) := by
  obtain ⟨g, rfl⟩ : ∃ g, f = g + 1 := ⟨f - 1, by omega⟩
  simp [qv, h, hb]
theorem qv_esc (s : ByteArray) (f i : Nat) (acc : List UInt8) (h : i < s.size) (hf : s.size ≤ i + f) (hb : bt s i = 92) : qv s f i acc = if i + 1 < s.size ∧ (bt s (i + 1) = 34 ∨ bt s (i + 1) = 92) then qv s (f - 1) (i + 2) (acc ++ [s.get! (i + 1)]) else none := by
  obtain ⟨g, rfl⟩ : ∃ g, f = g + 1 := ⟨f - 1, by omega⟩
  simp only [qv, if_pos h, if_neg (show ¬ bt s i = 34 by omega), if_pos hb, Nat.add_sub_cancel]
theorem qv_plain (s : ByteArray) (f i : Nat) (acc : List UInt8) (h : i < s.size) (hf : s.size ≤ i + f) (h1 : bt s i ≠ 34) (h2 : bt s i ≠ 92) : qv s f i acc = qv s (f - 1) (i + 1) (acc ++ [s.get! i]) := by
  obtain ⟨g, rfl⟩ : ∃ g, f = g + 1 := ⟨f - 1, by omega⟩
  simp only [qv, if_pos h, if_neg h1, if_neg h2, Nat.add_sub_cancel]
theorem qv_len (s : ByteArray) : ∀ f i acc l j, qv s f i acc = some (l, j) → l.length ≤ acc.length + (s.size - i) ∧ i < j ∧ j ≤ s.size
  | 0, i, acc, l, j, h => by simp [qv] at h
  | f + 1, i, acc, l, j, h => by
    unfold qv at h
    split at h
    · rename_i hi
      split at h
      · injection h with h; injection h with h1 h2; subst h1 h2; omega
      · split at h
        · split at h
          · rename_i hq
            have := qv_len s f _ _ l j h
            simp at this; omega
          · cases h
        · have := qv_len s f _ _ l j h
          simp at this; omega
    · cases h
end Go.Pub
namespace Go.Proofs.Ytkcfcdnchlmekaa
open Go.RowKit Go.Pub

def valOf (o : Option (List UInt8 × Nat)) : ByteArray × Nat × Bool :=
  match o with
  | some (l, j) => (mk l, j, lineB (mk l))
  | none => (⟨#[]⟩, 0, false)
def TripleBelow (r : ByteArray × Nat × Bool) (w : World) (e : Ending) (w' : World) : Prop := e = .returned (.tuple #[.string r.1, .int .i64 r.2.1, .bool r.2.2]) ∧ Below w.heap.size w w'

theorem byte_cell (s : ByteArray) (k : Nat) : Lib.byteCells [s.get! k] = [.int .u8 (bt s k)] := rfl

def VRel (s : ByteArray) (R : Option (List UInt8 × Nat)) (w : World) (i : Value) (wr : World) : Prop :=
  ∃ (k f : Nat) (acc : List UInt8), i = .int .i64 k ∧ Lib.IsBuilderF 61 5 w.heap.size w.heap.size (Lib.byteCells acc) wr ∧ Below w.heap.size w wr ∧ qv s f k acc = R ∧ s.size ≤ k + f ∧ acc.length ≤ k ∧ w.heap.size < wr.heap.size

set_option maxRecDepth 100000 in
set_option maxHeartbeats 8000000 in
theorem readValue_q (s : ByteArray) (i : Nat) (w : World) (hs : s.size ≤ 1000000) (hi : i < s.size) (hq : bt s i = 34) : Calls Try.prog 56 #[.string s, .int .i64 i] w (TripleBelow (valOf (qv s s.size (i + 1) [])) w) := by
  have hlt0 : ((s[i].toNat : Nat) : Int) < 256 := by rw [get_bt s i hi]; have := bt_lt s i; omega
  have z0 : (((s[i].toNat : Nat) : Int) != 34) = false := by rw [get_bt s i hi, hq]; rfl
  have hlenq : Hid (∀ l j, qv s s.size (i + 1) [] = some (l, j) → l.length ≤ s.size) := Lib.hid fun l j h => by
    have := (qv_len s _ _ _ l j h).1; simp at this; omega
  have Hq := Lib.hid hq
  have d0 : decide (s.size ≤ i) = false := decide_eq_false (by omega)
  clear hq
  generalize hR : qv s s.size (i + 1) [] = R at *
  have HR := Lib.hid hR
  clear hR
  have HVO : Hid (∀ l j, R = some (l, j) → valOf R = (mk l, j, lineB (mk l))) := Lib.hid fun l j h => by rw [h]; rfl
  have HVN : Hid (R = none → valOf R = (⟨#[]⟩, 0, false)) := Lib.hid fun h => by rw [h]; rfl
  generalize valOf R = T at *
  go_enter Try.func56, Try.ntmps56
  go_wp2
  go_loopw [8] (fun v wr => VRel s R w v wr) (fun v _ => s.size - (intOf v).toNat)
  case atStart => exact ⟨i + 1, s.size, [], by go_num, Lib.IsBuilderF.of (Lib.fresh_isBuilder 61 5 w), (Below.refl _ w).alloc (Nat.le_refl _) _, HR.out, by omega, by simp, by simp⟩
  case round =>
    obtain ⟨k, f, acc, rfl, hI, hbw, hacc, hf, hal, hsz⟩ := hrel
    have Hacc := Lib.hid hacc
    clear hacc
    by_cases hk : k < s.size
    · have hb := bt_lt s k
      have hlt : ((s[k].toNat : Nat) : Int) < 256 := by rw [get_bt s k hk]; omega
      have hbi := Lib.hid (bt_int s k hk)
      by_cases c1 : bt s k = 34
      · have z1 : (((s[k].toNat : Nat) : Int) == 34) = true := by rw [get_bt s k hk, c1]; rfl
        have hT := Lib.hid (HVO.out acc (k + 1) (by rw [← Hacc.out, qv_quote s f k acc hk hf c1]))
        have hll : acc.length ≤ s.size := hlenq.out acc (k + 1) (by rw [← Hacc.out, qv_quote s f k acc hk hf c1])
        have HCL := Lib.hid (cleanLine_any (mk acc))
        have hms : (mk acc).size ≤ 1000000 := by rw [← bytesL_length, bytesL_mk']; omega
        clear c1
        go_wp2_with fail
        refine (Try.Builder_String_any_k w.heap.size w.heap.size acc _ hI (by omega)).mono ?_
        rintro e W1 ⟨rfl, h1, b1, _⟩
        have hz1 := b1.size
        go_wp2_with fail
        refine (Try.Builder_String_any_k w.heap.size w.heap.size acc _ h1 (by omega)).mono ?_
        rintro e W2 ⟨rfl, h2, b2, _⟩
        have hz2 := b2.size
        go_wp2_with fail
        refine (HCL.out _ (by omega)).mono ?_
        rintro e W3 ⟨rfl, b3⟩
        go_wp2
        go_ret3
        refine ⟨?_, (((hbw.trans b1).trans b2).trans (b3.mono (by omega)))⟩
        rw [hT.out]; rfl
      · have z1 : (((s[k].toNat : Nat) : Int) == 34) = false := by rw [get_bt s k hk, beq_eq_false_iff_ne]; omega
        by_cases c2 : bt s k = 92
        · have z2 : (((s[k].toNat : Nat) : Int) == 92) = true := by rw [get_bt s k hk, c2]; rfl
          have hst := Lib.hid (qv_esc s f k acc hk hf c2)
          clear c1 c2
          by_cases hk1 : k + 1 < s.size
          · have hb1 := bt_lt s (k + 1)
            have hlt1 : ((s[k + 1].toNat : Nat) : Int) < 256 := by rw [get_bt s _ hk1]; omega
            have hbi1 := Lib.hid (bt_int s (k + 1) hk1)
            by_cases c3 : bt s (k + 1) = 34 ∨ bt s (k + 1) = 92
            · have hR1 := Lib.hid (hst.out.symm.trans Hacc.out)
              have hR2 : Hid (qv s (f - 1) (k + 2) (acc ++ [s.get! (k + 1)]) = R) := Lib.hid (by rw [← hR1.out, if_pos ⟨hk1, c3⟩])
              have cc : (((s[k + 1].toNat : Nat) : Int) != 34) = false ∨ ((((s[k + 1].toNat : Nat) : Int) != 34) = true ∧ (((s[k + 1].toNat : Nat) : Int) != 92) = false) := by
                rw [get_bt s _ hk1]
                rcases c3 with c | c
                · left; rw [c]; rfl
                · right; rw [c]; exact ⟨rfl, rfl⟩
              clear c3
              rcases cc with z3 | ⟨z3, z4⟩
              all_goals
                go_wp2_with fail
                refine (writeByte_k w.heap.size w.heap.size _ _ _ hI (by rw [Lib.byteCells_length]; omega) (by omega)).mono ?_
                rintro e W1 ⟨rfl, h1, b1, _⟩
                have hz1 := b1.size
                go_wp2
                go_roundw
                case rel => exact ⟨k + 2, f - 1, acc ++ [s.get! (k + 1)], by go_num, by rw [Lib.byteCells_append, byte_cell, ← hbi1.out]; exact Or.inr h1, hbw.trans b1, hR2.out, by omega, by simp; omega, by omega⟩
                case measure => simp [intOf]; omega
            · have hRn : Hid (T = (⟨#[]⟩, 0, false)) := Lib.hid (HVN.out (by rw [← Hacc.out, hst.out, if_neg (by intro h; exact c3 h.2)]))
              have z3 : (((s[k + 1].toNat : Nat) : Int) != 34) = true := by rw [get_bt s _ hk1]; simp; omega
              have z4 : (((s[k + 1].toNat : Nat) : Int) != 92) = true := by rw [get_bt s _ hk1]; simp; omega
              clear c3
              go_wp2_with fail
              go_ret3
              refine ⟨?_, hbw⟩
              rw [hRn.out]; rfl
          · have hRn : Hid (T = (⟨#[]⟩, 0, false)) := Lib.hid (HVN.out (by rw [← Hacc.out, hst.out, if_neg (by intro h; exact hk1 h.1)]))
            go_wp2_with fail
            go_ret3
            refine ⟨?_, hbw⟩
            rw [hRn.out]; rfl
        · have z2 : (((s[k].toNat : Nat) : Int) == 92) = false := by rw [get_bt s k hk, beq_eq_false_iff_ne]; omega
          have hR2 : Hid (qv s (f - 1) (k + 1) (acc ++ [s.get! k]) = R) := Lib.hid (by rw [← Hacc.out, qv_plain s f k acc hk hf c1 c2])
          clear c1 c2
          go_wp2_with fail
          refine (writeByte_k w.heap.size w.heap.size _ _ _ hI (by rw [Lib.byteCells_length]; omega) (by omega)).mono ?_
          rintro e W1 ⟨rfl, h1, b1, _⟩
          have hz1 := b1.size
          go_wp2
          go_roundw
          case rel => exact ⟨k + 1, f - 1, acc ++ [s.get! k], by go_num, by rw [Lib.byteCells_append, byte_cell, ← hbi.out]; exact Or.inr h1, hbw.trans b1, hR2.out, by omega, by simp; omega, by omega⟩
          case measure => simp [intOf]; omega
    · have hRn : Hid (T = (⟨#[]⟩, 0, false)) := Lib.hid (HVN.out (by rw [← Hacc.out, qv_end s f k acc hk]))
      go_wp2
      go_ret3
      refine ⟨?_, hbw⟩
      rw [hRn.out]; rfl
end Go.Proofs.Ytkcfcdnchlmekaa
