/-
  link.escaped, link.unescape.
-/
import Derived.Test.YtepeaenbjgbnfaaDoorLinkP
import Derived.Test.YtepeaenbjgbnfaaDoorCharsP
import Derived.Test.YtepeaenbjgbnfaaDoorBuild
set_option linter.unusedVariables false
set_option linter.unusedSimpArgs false
namespace Go.Pub
theorem byteCell1 (s : ByteArray) (k : Nat) : Lib.byteCells [s.get! k] = [.int .u8 (bt s k)] := rfl
theorem escAt_not (s : ByteArray) (k : Nat) (h : bt s k ≠ 92) : escAt s k = false := by
  rw [Bool.eq_false_iff]; intro e; exact h (escAt_lt e).2
/-- What is left to unescape from the byte k on. -/
theorem unescL_cons (c : UInt8) (l : List UInt8) : unescL (c :: l) = if escH (c :: l) then (match l with | [] => [] | d :: l' => d :: unescL l') else c :: unescL l := by cases l <;> rfl
theorem unesc_end (s : ByteArray) (k : Nat) (h : s.size ≤ k) : unescL (sfx s k) = [] := by rw [sfx_nil s k h]; rfl
theorem unesc_esc (s : ByteArray) (k : Nat) (h : escAt s k = true) : unescL (sfx s k) = s.get! (k + 1) :: unescL (sfx s (k + 2)) := by
  obtain ⟨h1, _⟩ := escAt_lt h
  unfold escAt at h
  rw [sfx_cons s k (by omega), sfx_cons s (k + 1) h1] at h ⊢
  rw [unescL_cons, if_pos h]
theorem unesc_step (s : ByteArray) (k : Nat) (hk : k < s.size) (h : escAt s k = false) : unescL (sfx s k) = s.get! k :: unescL (sfx s (k + 1)) := by
  unfold escAt at h
  rw [sfx_cons s k hk] at h ⊢
  rw [unescL_cons, if_neg (by rw [h]; simp)]
end Go.Pub
namespace Go.Proofs.YtepeaenbjgbnfaaDoor
open Go.RowKit Go.Pub

set_option maxRecDepth 100000 in
set_option maxHeartbeats 1000000 in
theorem l_escaped (s : ByteArray) (k : Nat) (w : World) (hs : s.size ≤ 1000000) (hk : k < s.size) :
    Calls Tryd.prog 20 #[.string s, .int .i64 k] w fun e w' => e = .returned (.bool (escAt s k)) ∧ w = w' := by
  have hlt2 : ((s[k].toNat : Nat) : Int) < 256 := by rw [get_bt s k hk]; have := bt_lt s k; omega
  by_cases h0 : bt s k = 92
  · have z0 : (((s[k].toNat : Nat) : Int) == 92) = true := by rw [get_bt s k hk, h0]; rfl
    by_cases h1 : k + 1 < s.size
    · have HE := Lib.hid (escAt_in s k h1)
      have hlt3 : ((s[k + 1].toNat : Nat) : Int) < 256 := by rw [get_bt s (k + 1) h1]; have := bt_lt s (k + 1); omega
      have hbi := Lib.hid (bt_int s (k + 1) h1)
      have H0 := Lib.hid h0
      clear h0
      generalize escAt s k = E at *
      by_cases h2 : bt s (k + 1) < 128
      · have z2 : ((s[k + 1].toNat : Nat) : Int) < 128 := by rw [get_bt s (k + 1) h1]; omega
        have HR : Hid (E = inB (bt s (k + 1) : Int) punctL) := Lib.hid (by rw [HE.out, H0.out, decide_eq_true h2]; simp)
        go_enter Tryd.func20, Tryd.ntmps20
        go_wp2_with (go_at_call 37; refine (punct_any _ _).mono ?_; rintro e w' ⟨rfl, rfl⟩)
        go_ret
        exact ⟨ret_bool (by rw [HR.out, hbi.out]), rfl⟩
      · have z2 : 128 ≤ ((s[k + 1].toNat : Nat) : Int) := by rw [get_bt s (k + 1) h1]; omega
        have HR : Hid (E = false) := Lib.hid (by rw [HE.out, decide_eq_false h2]; simp)
        go_enter Tryd.func20, Tryd.ntmps20
        go_wp2
        go_ret
        exact ⟨ret_bool (by rw [HR.out]), rfl⟩
    · have HR := Lib.hid (escAt_end s k (by omega))
      generalize escAt s k = E at *
      go_enter Tryd.func20, Tryd.ntmps20
      go_wp2
      go_ret
      exact ⟨ret_bool (by rw [HR.out]), rfl⟩
  · have z0 : (((s[k].toNat : Nat) : Int) == 92) = false := by rw [get_bt s k hk, beq_eq_false_iff_ne]; omega
    have HR := Lib.hid (escAt_not s k h0)
    generalize escAt s k = E at *
    go_enter Tryd.func20, Tryd.ntmps20
    go_wp2
    go_ret
    exact ⟨ret_bool (by rw [HR.out]), rfl⟩

def URel (s : ByteArray) (R : List UInt8) (w : World) (i : Value) (wr : World) : Prop :=
  ∃ (k : Nat) (acc : List UInt8), i = .int .i64 k ∧ k ≤ s.size ∧ Lib.IsBuilderF 49 5 w.heap.size w.heap.size (Lib.byteCells acc) wr ∧ Below w.heap.size w wr ∧ Hid (acc ++ unescL (sfx s k) = R) ∧ acc.length ≤ k ∧ w.heap.size < wr.heap.size

set_option maxRecDepth 100000 in
set_option maxHeartbeats 4000000 in
theorem l_unescape (s : ByteArray) (w : World) (hs : s.size ≤ 1000000) : Calls Tryd.prog 21 #[.string s] w fun e w' => e = .returned (.string (mk (unescL (bytesL s)))) ∧ Below w.heap.size w w' := by
  have HX : Hid (unescL (sfx s 0) = unescL (bytesL s)) := Lib.hid rfl
  generalize unescL (bytesL s) = R at *
  go_enter Tryd.func21, Tryd.ntmps21
  go_wp2
  go_loopw [4] (fun v wr => URel s R w v wr) (fun v _ => s.size - (intOf v).toNat)
  case atStart => exact ⟨0, [], rfl, by omega, Lib.IsBuilderF.of (Lib.fresh_isBuilder 49 5 w), (Below.refl _ w).alloc (Nat.le_refl _) _, HX, by simp, by simp⟩
  case round =>
    obtain ⟨k, acc, rfl, hk, hI, hbw, Hacc, hal, hsz⟩ := hrel
    by_cases hlt : k < s.size
    · have HC := Lib.hid fun W => l_escaped s k W hs hlt
      by_cases hE : escAt s k = true
      · have hk1 : k + 1 < s.size := (escAt_lt hE).1
        have hst := Lib.hid (unesc_esc s k hE)
        have hlt2 : ((s[k + 1].toNat : Nat) : Int) < 256 := by rw [get_bt s (k + 1) hk1]; have := bt_lt s (k + 1); omega
        have hbi := Lib.hid (bt_int s (k + 1) hk1)
        rw [hE] at HC
        clear hE
        go_wp2_with fail
        ((with_reducible refine (HC.out _).mono ?_))
        rintro e w' ⟨rfl, rfl⟩
        go_wp2_with fail
        refine (writeByte_k w.heap.size w.heap.size _ _ _ hI (by rw [Lib.byteCells_length]; omega) (by omega)).mono ?_
        rintro e W1 ⟨rfl, h1, b1, _⟩
        have hz1 := b1.size
        go_wp2
        go_roundw
        case rel =>
          refine ⟨k + 2, acc ++ [s.get! (k + 1)], by go_num, by omega, by rw [Lib.byteCells_append, byteCell1, ← hbi.out]; exact Or.inr h1, hbw.trans b1, Lib.hid (by rw [← Hacc.out, hst.out]; simp), by simp; omega, by omega⟩
        case measure => simp [intOf]; omega
      · rw [Bool.not_eq_true] at hE
        have hst := Lib.hid (unesc_step s k hlt hE)
        have hlt2 : ((s[k].toNat : Nat) : Int) < 256 := by rw [get_bt s k hlt]; have := bt_lt s k; omega
        have hbi := Lib.hid (bt_int s k hlt)
        rw [hE] at HC
        clear hE
        go_wp2_with fail
        ((with_reducible refine (HC.out _).mono ?_))
        rintro e w' ⟨rfl, rfl⟩
        go_wp2_with fail
        refine (writeByte_k w.heap.size w.heap.size _ _ _ hI (by rw [Lib.byteCells_length]; omega) (by omega)).mono ?_
        rintro e W1 ⟨rfl, h1, b1, _⟩
        have hz1 := b1.size
        go_wp2
        go_roundw
        case rel =>
          refine ⟨k + 1, acc ++ [s.get! k], by go_num, by omega, by rw [Lib.byteCells_append, byteCell1, ← hbi.out]; exact Or.inr h1, hbw.trans b1, Lib.hid (by rw [← Hacc.out, hst.out]; simp), by simp; omega, by omega⟩
        case measure => simp [intOf]; omega
    · have HR : Hid (acc = R) := Lib.hid (by rw [← Hacc.out, unesc_end s k (by omega), List.append_nil])
      go_wp2_with fail
      refine (Tryd.Builder_String_any_k w.heap.size w.heap.size acc _ hI (by omega)).mono ?_
      rintro e W1 ⟨rfl, h1, b1, _⟩
      go_wp2
      go_ret
      exact ⟨ret_str (by rw [HR.out]; rfl), hbw.trans b1⟩
end Go.Proofs.YtepeaenbjgbnfaaDoor
