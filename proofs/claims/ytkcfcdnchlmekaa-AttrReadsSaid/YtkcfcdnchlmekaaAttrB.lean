/-
  Lines of clean text, and values of attributes: attr.cleanLine, and the reference's line.
-/
import Derived.Test.YtkcfcdnchlmekaaAttrA
import Derived.Test.YtkcfcdnchlmekaaRefE
import Derived.Test.YtkcfcdnchlmekaaEnc
set_option linter.unusedVariables false
set_option linter.unusedSimpArgs false
namespace Go.Pub
theorem indexByte_neg (l : List UInt8) (c : UInt8) : -1 ≤ Lib.indexByte l c ∧ (decide (Lib.indexByte l c < 0) = !l.contains c) := by
  induction l with
  | nil => exact ⟨Int.le_refl _, rfl⟩
  | cons b l ih =>
    unfold Lib.indexByte
    by_cases h : b = c
    · subst h; simp
    · have h1 : (b == c) = false := by simpa using h
      have h2 : (c == b) = false := by simpa using fun e => h e.symm
      rw [h1]
      simp only [Bool.false_eq_true, if_false, List.contains_cons, h2, Bool.false_or]
      by_cases h3 : Lib.indexByte l c = -1
      · rw [show (Lib.indexByte l c == -1) = true by simpa using h3, if_pos rfl]
        refine ⟨by decide, ?_⟩
        rw [← ih.2, h3]
      · rw [show (Lib.indexByte l c == -1) = false by simpa using h3, if_neg (by decide)]
        have := ih.1
        refine ⟨by omega, ?_⟩
        rw [← ih.2]
        rw [decide_eq_false (by omega), decide_eq_false (by omega)]
def noLF (s : ByteArray) : Bool := !(bytesL s).contains 10
theorem noLF_iff (s : ByteArray) : noLF s = true ↔ ∀ k, k < s.size → bt s k ≠ 10 := by
  unfold noLF
  rw [Bool.not_eq_true', ← Bool.not_eq_true, List.contains_iff_mem]
  have key : ∀ k, k < s.size → ((bytesL s)[k]? = some (s.get! k)) := fun k hk => by
    unfold bytesL
    rw [Array.getElem?_toList]
    have : s.get! k = s.data[k]! := rfl
    rw [this, getElem!_pos s.data k hk, Array.getElem?_eq_getElem hk]
  constructor
  · intro h k hk e
    apply h
    have h10 : s.get! k = 10 := UInt8.toNat_inj.1 e
    have := key k hk
    rw [h10] at this
    exact List.mem_of_getElem? this
  · intro h hm
    obtain ⟨k, hk, he⟩ := List.mem_iff_getElem.1 hm
    have hk' : k < s.size := by have e : (bytesL s).length = s.size := Array.length_toList; omega
    have := key k hk'
    rw [List.getElem?_eq_getElem hk, he] at this
    injection this with this
    exact h k hk' (by unfold bt; rw [← this]; rfl)
end Go.Pub
namespace Go.Proofs.Ytkcfcdnchlmekaa
open Go.RowKit Go.Pub

def lineB (s : ByteArray) : Bool := validB s && noLF s

set_option maxRecDepth 100000 in
set_option maxHeartbeats 2000000 in
theorem cleanLine_any (s : ByteArray) (w : World) (hs : s.size < 9223372036854775800) : Calls Try.prog 32 #[.string s] w fun e w' => e = .returned (.bool (lineB s)) ∧ Below w.heap.size w w' := by
  have HL : Hid (lineB s = (validB s && noLF s)) := Lib.hid rfl
  have HV := Lib.hid (valid_any s)
  have HX : Hid (∀ W, Calls Try.prog 49 #[.string s, .int .u8 10] W fun e w' => e = .returned (.int .i64 (Lib.indexByte (bytesL s) 10)) ∧ w' = W) := Lib.hid fun W => Try.strings_IndexByte s 10 W
  have HD : Hid (decide (Lib.indexByte (bytesL s) 10 < 0) = noLF s) := Lib.hid (indexByte_neg _ _).2
  generalize lineB s = R at *
  generalize validB s = V at *
  generalize Lib.indexByte (bytesL s) 10 = x at *
  cases V
  · go_enter Try.func32, Try.ntmps32
    go_wp2_with fail
    refine (HV.out _ hs).mono ?_
    rintro e w1 ⟨rfl, b1⟩
    go_wp2_with fail
    go_ret
    exact ⟨ret_bool (by rw [HL.out]; rfl), b1⟩
  · go_enter Try.func32, Try.ntmps32
    go_wp2_with fail
    refine (HV.out _ hs).mono ?_
    rintro e w1 ⟨rfl, b1⟩
    go_wp2_with fail
    refine (HX.out _).mono ?_
    rintro e w2 ⟨rfl, rfl⟩
    go_wp2
    go_ret
    exact ⟨ret_bool (by rw [HL.out, ← HD.out]; rfl), b1⟩

set_option maxRecDepth 100000 in
set_option maxHeartbeats 2000000 in
theorem rline_any (s : ByteArray) (w : World) (hs : s.size ≤ 1000000) : Calls Try.prog 34 #[.string s] w fun e w' => e = .returned (.bool (lineB s)) ∧ Below w.heap.size w w' := by
  have HL : Hid (lineB s = (validB s && noLF s)) := Lib.hid rfl
  have HV := Lib.hid (rValid_any s)
  have HN := Lib.hid (noLF_iff s)
  generalize lineB s = R at *
  generalize validB s = V at *
  generalize noLF s = N at *
  cases V
  · go_enter Try.func34, Try.ntmps34
    go_wp2_with fail
    refine (HV.out _ hs).mono ?_
    rintro e w1 ⟨rfl, b1⟩
    go_wp2_with fail
    go_ret
    exact ⟨ret_bool (by rw [HL.out]; rfl), b1⟩
  · have HL2 : Hid (R = N) := Lib.hid (by rw [HL.out]; simp)
    go_enter Try.func34, Try.ntmps34
    go_wp2_with fail
    refine (HV.out _ hs).mono ?_
    rintro e w1 ⟨rfl, b1⟩
    go_wp2_with fail
    go_loop [3] (fun v => ∃ k : Nat, v = .int .i64 k ∧ k ≤ s.size ∧ (∀ j, j < k → bt s j ≠ 10)) (fun v => s.size - (intOf v).toNat)
    case atStart => exact ⟨0, rfl, by omega, fun j hj => absurd hj (by omega)⟩
    case round =>
      obtain ⟨k, rfl, hk, hno⟩ := hrel
      have Hno := Lib.hid hno
      clear hno
      by_cases hlt : k < s.size
      · have hb := bt_lt s k
        have hlt2 : ((s[k].toNat : Nat) : Int) < 256 := by rw [get_bt s k hlt]; omega
        by_cases h10 : bt s k = 10
        · have z : (((s[k].toNat : Nat) : Int) == 10) = true := by rw [get_bt s k hlt, h10]; rfl
          have hN : Hid (N = false) := Lib.hid (by
            rw [← Bool.not_eq_true]
            intro h
            exact HN.out.1 h k hlt h10)
          clear h10
          go_wp2
          go_ret
          exact ⟨ret_bool (by rw [HL2.out, hN.out]), b1⟩
        · have z : (((s[k].toNat : Nat) : Int) == 10) = false := by rw [get_bt s k hlt, beq_eq_false_iff_ne]; omega
          have H10 := Lib.hid h10
          clear h10
          go_wp2
          go_round
          case rel =>
            refine ⟨k + 1, by go_num, by omega, fun j hj => ?_⟩
            by_cases hj' : j < k
            · exact Hno.out j hj'
            · obtain rfl : j = k := by omega
              exact H10.out
          case measure => simp [intOf]; omega
      · obtain rfl : k = s.size := by omega
        have hN : Hid (N = true) := Lib.hid (HN.out.2 Hno.out)
        go_wp2
        go_ret
        exact ⟨ret_bool (by rw [HL2.out, hN.out]), b1⟩
end Go.Proofs.Ytkcfcdnchlmekaa
