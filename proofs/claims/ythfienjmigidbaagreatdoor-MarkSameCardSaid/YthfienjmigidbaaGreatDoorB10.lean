/-
  Texts of the proof, put together: AttrB, AttrV, AttrW.
-/
import Derived.Test.YthfienjmigidbaaGreatDoorB07
import Derived.Test.YthfienjmigidbaaGreatDoorB09
import Derived.Test.YthfienjmigidbaaGreatDoorB01
import Derived.Test.YthfienjmigidbaaGreatDoorB03
import Derived.Test.YthfienjmigidbaaGreatDoorB05
set_option linter.unusedVariables false
set_option linter.unusedSimpArgs false
namespace Go.Pub
theorem indexByte_neg (l : List UInt8) (c : UInt8) : -1 ≤ Lib.indexByte l c ∧ (decide (Lib.indexByte l c < 0) = !l.contains c) := by
  induction l with
  | nil => exact ⟨Int.le_refl _, rfl⟩
  | cons b l ih =>
    unfold Lib.indexByte
    by_cases h : b = c
    · subst h; simp
    · have h1 : (b == c) = false := by simpa using h
      have h2 : (c == b) = false := by simpa using fun e => h e.symm
      rw [h1]
      simp only [Bool.false_eq_true, if_false, List.contains_cons, h2, Bool.false_or]
      by_cases h3 : Lib.indexByte l c = -1
      · rw [show (Lib.indexByte l c == -1) = true by simpa using h3, if_pos rfl]
        refine ⟨by decide, ?_⟩
        rw [← ih.2, h3]
      · rw [show (Lib.indexByte l c == -1) = false by simpa using h3, if_neg (by decide)]
        have := ih.1
        refine ⟨by omega, ?_⟩
        rw [← ih.2]
        rw [decide_eq_false (by omega), decide_eq_false (by omega)]
def noLF (s : ByteArray) : Bool := !(bytesL s).contains 10
theorem noLF_iff (s : ByteArray) : noLF s = true ↔ ∀ k, k < s.size → bt s k ≠ 10 := by
  unfold noLF
  rw [Bool.not_eq_true', ← Bool.not_eq_true, List.contains_iff_mem]
  have key : ∀ k, k < s.size → ((bytesL s)[k]? = some (s.get! k)) := fun k hk => by
    unfold bytesL
    rw [Array.getElem?_toList]
    have : s.get! k = s.data[k]! := rfl
    rw [this, getElem!_pos s.data k hk, Array.getElem?_eq_getElem hk]
  constructor
  · intro h k hk e
    apply h
    have h10 : s.get! k = 10 := UInt8.toNat_inj.1 e
    have := key k hk
    rw [h10] at this
    exact List.mem_of_getElem? this
  · intro h hm
    obtain ⟨k, hk, he⟩ := List.mem_iff_getElem.1 hm
    have hk' : k < s.size := by have e : (bytesL s).length = s.size := Array.length_toList; omega
    have := key k hk'
    rw [List.getElem?_eq_getElem hk, he] at this
    injection this with this
    exact h k hk' (by unfold bt; rw [← this]; rfl)
end Go.Pub
namespace Go.Proofs.YthfienjmigidbaaGreatDoor
open Go.RowKit Go.Pub

def lineB (s : ByteArray) : Bool := validB s && noLF s

set_option maxRecDepth 100000 in
set_option maxHeartbeats 2000000 in
theorem cleanLine_any (s : ByteArray) (w : World) (hs : s.size < 9223372036854775800) : Calls Tryz.prog 158 #[.string s] w fun e w' => e = .returned (.bool (lineB s)) ∧ Below w.heap.size w w' := by
  have HL : Hid (lineB s = (validB s && noLF s)) := Lib.hid rfl
  have HV := Lib.hid (valid_any s)
  have HX : Hid (∀ W, Calls Tryz.prog 83 #[.string s, .int .u8 10] W fun e w' => e = .returned (.int .i64 (Lib.indexByte (bytesL s) 10)) ∧ w' = W) := Lib.hid fun W => Tryz.strings_IndexByte s 10 W
  have HD : Hid (decide (Lib.indexByte (bytesL s) 10 < 0) = noLF s) := Lib.hid (indexByte_neg _ _).2
  generalize lineB s = R at *
  generalize validB s = V at *
  generalize Lib.indexByte (bytesL s) 10 = x at *
  cases V
  · go_enter Tryz.func158, Tryz.ntmps158
    go_wp2_with fail
    refine (HV.out _ hs).mono ?_
    rintro e w1 ⟨rfl, b1⟩
    go_wp2_with fail
    go_ret
    exact ⟨ret_bool (by rw [HL.out]; rfl), b1⟩
  · go_enter Tryz.func158, Tryz.ntmps158
    go_wp2_with fail
    refine (HV.out _ hs).mono ?_
    rintro e w1 ⟨rfl, b1⟩
    go_wp2_with fail
    refine (HX.out _).mono ?_
    rintro e w2 ⟨rfl, rfl⟩
    go_wp2
    go_ret
    exact ⟨ret_bool (by rw [HL.out, ← HD.out]; rfl), b1⟩

set_option maxRecDepth 100000 in
set_option maxHeartbeats 2000000 in
theorem rline_any (s : ByteArray) (w : World) (hs : s.size ≤ 1000000) : Calls Tryz.prog 161 #[.string s] w fun e w' => e = .returned (.bool (lineB s)) ∧ Below w.heap.size w w' := by
  have HL : Hid (lineB s = (validB s && noLF s)) := Lib.hid rfl
  have HV := Lib.hid (rValid_any s)
  have HN := Lib.hid (noLF_iff s)
  generalize lineB s = R at *
  generalize validB s = V at *
  generalize noLF s = N at *
  cases V
  · go_enter Tryz.func161, Tryz.ntmps161
    go_wp2_with fail
    refine (HV.out _ hs).mono ?_
    rintro e w1 ⟨rfl, b1⟩
    go_wp2_with fail
    go_ret
    exact ⟨ret_bool (by rw [HL.out]; rfl), b1⟩
  · have HL2 : Hid (R = N) := Lib.hid (by rw [HL.out]; simp)
    go_enter Tryz.func161, Tryz.ntmps161
    go_wp2_with fail
    refine (HV.out _ hs).mono ?_
    rintro e w1 ⟨rfl, b1⟩
    go_wp2_with fail
    go_loop [3] (fun v => ∃ k : Nat, v = .int .i64 k ∧ k ≤ s.size ∧ (∀ j, j < k → bt s j ≠ 10)) (fun v => s.size - (intOf v).toNat)
    case atStart => exact ⟨0, rfl, by omega, fun j hj => absurd hj (by omega)⟩
    case round =>
      obtain ⟨k, rfl, hk, hno⟩ := hrel
      have Hno := Lib.hid hno
      clear hno
      by_cases hlt : k < s.size
      · have hb := bt_lt s k
        have hlt2 : ((s[k].toNat : Nat) : Int) < 256 := by rw [get_bt s k hlt]; omega
        by_cases h10 : bt s k = 10
        · have z : (((s[k].toNat : Nat) : Int) == 10) = true := by rw [get_bt s k hlt, h10]; rfl
          have hN : Hid (N = false) := Lib.hid (by
            rw [← Bool.not_eq_true]
            intro h
            exact HN.out.1 h k hlt h10)
          clear h10
          go_wp2
          go_ret
          exact ⟨ret_bool (by rw [HL2.out, hN.out]), b1⟩
        · have z : (((s[k].toNat : Nat) : Int) == 10) = false := by rw [get_bt s k hlt, beq_eq_false_iff_ne]; omega
          have H10 := Lib.hid h10
          clear h10
          go_wp2
          go_round
          case rel =>
            refine ⟨k + 1, by go_num, by omega, fun j hj => ?_⟩
            by_cases hj' : j < k
            · exact Hno.out j hj'
            · obtain rfl : j = k := by omega
              exact H10.out
          case measure => simp [intOf]; omega
      · obtain rfl : k = s.size := by omega
        have hN : Hid (N = true) := Lib.hid (HN.out.2 Hno.out)
        go_wp2
        go_ret
        exact ⟨ret_bool (by rw [HL2.out, hN.out]), b1⟩
end Go.Proofs.YthfienjmigidbaaGreatDoor
namespace Go.Pub
/-- What stands between quotation marks from place i on, and the place behind. -/
def qv (s : ByteArray) : Nat → Nat → List UInt8 → Option (List UInt8 × Nat)
  | 0, _, _ => none
  | f + 1, i, acc =>
    if i < s.size then
      (if bt s i = 34 then some (acc, i + 1)
       else if bt s i = 92 then (if i + 1 < s.size ∧ (bt s (i + 1) = 34 ∨ bt s (i + 1) = 92) then qv s f (i + 2) (acc ++ [s.get! (i + 1)]) else none)
       else qv s f (i + 1) (acc ++ [s.get! i]))
    else none
theorem qv_end (s : ByteArray) (f i : Nat) (acc : List UInt8) (h : ¬ i < s.size) : qv s f i acc = none := by
  cases f <;> simp [qv, h]
theorem qv_quote (s : ByteArray) (f i : Nat) (acc : List UInt8) (h : i < s.size) (hf : s.size ≤ i + f) (hb : bt s i = 34) : qv s f i acc = some (acc, i + 1) := by
  obtain ⟨g, rfl⟩ : ∃ g, f = g + 1 := ⟨f - 1, by omega⟩
  simp [qv, h, hb]
theorem qv_esc (s : ByteArray) (f i : Nat) (acc : List UInt8) (h : i < s.size) (hf : s.size ≤ i + f) (hb : bt s i = 92) : qv s f i acc = if i + 1 < s.size ∧ (bt s (i + 1) = 34 ∨ bt s (i + 1) = 92) then qv s (f - 1) (i + 2) (acc ++ [s.get! (i + 1)]) else none := by
  obtain ⟨g, rfl⟩ : ∃ g, f = g + 1 := ⟨f - 1, by omega⟩
  simp only [qv, if_pos h, if_neg (show ¬ bt s i = 34 by omega), if_pos hb, Nat.add_sub_cancel]
theorem qv_plain (s : ByteArray) (f i : Nat) (acc : List UInt8) (h : i < s.size) (hf : s.size ≤ i + f) (h1 : bt s i ≠ 34) (h2 : bt s i ≠ 92) : qv s f i acc = qv s (f - 1) (i + 1) (acc ++ [s.get! i]) := by
  obtain ⟨g, rfl⟩ : ∃ g, f = g + 1 := ⟨f - 1, by omega⟩
  simp only [qv, if_pos h, if_neg h1, if_neg h2, Nat.add_sub_cancel]
theorem qv_len (s : ByteArray) : ∀ f i acc l j, qv s f i acc = some (l, j) → l.length ≤ acc.length + (s.size - i) ∧ i < j ∧ j ≤ s.size
  | 0, i, acc, l, j, h => by simp [qv] at h
  | f + 1, i, acc, l, j, h => by
    unfold qv at h
    split at h
    · rename_i hi
      split at h
      · injection h with h; injection h with h1 h2; subst h1 h2; omega
      · split at h
        · split at h
          · rename_i hq
            have := qv_len s f _ _ l j h
            simp at this; omega
          · cases h
        · have := qv_len s f _ _ l j h
          simp at this; omega
    · cases h
end Go.Pub
namespace Go.Proofs.YthfienjmigidbaaGreatDoor
open Go.RowKit Go.Pub

def valOf (o : Option (List UInt8 × Nat)) : ByteArray × Nat × Bool :=
  match o with
  | some (l, j) => (mk l, j, lineB (mk l))
  | none => (⟨#[]⟩, 0, false)
def TripleBelow (r : ByteArray × Nat × Bool) (w : World) (e : Ending) (w' : World) : Prop := e = .returned (.tuple #[.string r.1, .int .i64 r.2.1, .bool r.2.2]) ∧ Below w.heap.size w w'

theorem byte_cell (s : ByteArray) (k : Nat) : Lib.byteCells [s.get! k] = [.int .u8 (bt s k)] := rfl

def VRel (s : ByteArray) (R : Option (List UInt8 × Nat)) (w : World) (i : Value) (wr : World) : Prop :=
  ∃ (k f : Nat) (acc : List UInt8), i = .int .i64 k ∧ Lib.IsBuilderF 75 5 w.heap.size w.heap.size (Lib.byteCells acc) wr ∧ Below w.heap.size w wr ∧ qv s f k acc = R ∧ s.size ≤ k + f ∧ acc.length ≤ k ∧ w.heap.size < wr.heap.size

set_option maxRecDepth 100000 in
set_option maxHeartbeats 8000000 in
theorem readValue_q (s : ByteArray) (i : Nat) (w : World) (hs : s.size ≤ 1000000) (hi : i < s.size) (hq : bt s i = 34) : Calls Tryz.prog 144 #[.string s, .int .i64 i] w (TripleBelow (valOf (qv s s.size (i + 1) [])) w) := by
  have hlt0 : ((s[i].toNat : Nat) : Int) < 256 := by rw [get_bt s i hi]; have := bt_lt s i; omega
  have z0 : (((s[i].toNat : Nat) : Int) != 34) = false := by rw [get_bt s i hi, hq]; rfl
  have hlenq : Hid (∀ l j, qv s s.size (i + 1) [] = some (l, j) → l.length ≤ s.size) := Lib.hid fun l j h => by
    have := (qv_len s _ _ _ l j h).1; simp at this; omega
  have Hq := Lib.hid hq
  have d0 : decide (s.size ≤ i) = false := decide_eq_false (by omega)
  clear hq
  generalize hR : qv s s.size (i + 1) [] = R at *
  have HR := Lib.hid hR
  clear hR
  have HVO : Hid (∀ l j, R = some (l, j) → valOf R = (mk l, j, lineB (mk l))) := Lib.hid fun l j h => by rw [h]; rfl
  have HVN : Hid (R = none → valOf R = (⟨#[]⟩, 0, false)) := Lib.hid fun h => by rw [h]; rfl
  generalize valOf R = T at *
  go_enter Tryz.func144, Tryz.ntmps144
  go_wp2
  go_loopw [8] (fun v wr => VRel s R w v wr) (fun v _ => s.size - (intOf v).toNat)
  case atStart => exact ⟨i + 1, s.size, [], by go_num, Lib.IsBuilderF.of (Lib.fresh_isBuilder 75 5 w), (Below.refl _ w).alloc (Nat.le_refl _) _, HR.out, by omega, by simp, by simp⟩
  case round =>
    obtain ⟨k, f, acc, rfl, hI, hbw, hacc, hf, hal, hsz⟩ := hrel
    have Hacc := Lib.hid hacc
    clear hacc
    by_cases hk : k < s.size
    · have hb := bt_lt s k
      have hlt : ((s[k].toNat : Nat) : Int) < 256 := by rw [get_bt s k hk]; omega
      have hbi := Lib.hid (bt_int s k hk)
      by_cases c1 : bt s k = 34
      · have z1 : (((s[k].toNat : Nat) : Int) == 34) = true := by rw [get_bt s k hk, c1]; rfl
        have hT := Lib.hid (HVO.out acc (k + 1) (by rw [← Hacc.out, qv_quote s f k acc hk hf c1]))
        have hll : acc.length ≤ s.size := hlenq.out acc (k + 1) (by rw [← Hacc.out, qv_quote s f k acc hk hf c1])
        have HCL := Lib.hid (cleanLine_any (mk acc))
        have hms : (mk acc).size ≤ 1000000 := by rw [← bytesL_length, bytesL_mk']; omega
        clear c1
        go_wp2_with fail
        refine (Tryz.Builder_String_any_k w.heap.size w.heap.size acc _ hI (by omega)).mono ?_
        rintro e W1 ⟨rfl, h1, b1, _⟩
        have hz1 := b1.size
        go_wp2_with fail
        refine (Tryz.Builder_String_any_k w.heap.size w.heap.size acc _ h1 (by omega)).mono ?_
        rintro e W2 ⟨rfl, h2, b2, _⟩
        have hz2 := b2.size
        go_wp2_with fail
        refine (HCL.out _ (by omega)).mono ?_
        rintro e W3 ⟨rfl, b3⟩
        go_wp2
        go_ret3
        refine ⟨?_, (((hbw.trans b1).trans b2).trans (b3.mono (by omega)))⟩
        rw [hT.out]; rfl
      · have z1 : (((s[k].toNat : Nat) : Int) == 34) = false := by rw [get_bt s k hk, beq_eq_false_iff_ne]; omega
        by_cases c2 : bt s k = 92
        · have z2 : (((s[k].toNat : Nat) : Int) == 92) = true := by rw [get_bt s k hk, c2]; rfl
          have hst := Lib.hid (qv_esc s f k acc hk hf c2)
          clear c1 c2
          by_cases hk1 : k + 1 < s.size
          · have hb1 := bt_lt s (k + 1)
            have hlt1 : ((s[k + 1].toNat : Nat) : Int) < 256 := by rw [get_bt s _ hk1]; omega
            have hbi1 := Lib.hid (bt_int s (k + 1) hk1)
            by_cases c3 : bt s (k + 1) = 34 ∨ bt s (k + 1) = 92
            · have hR1 := Lib.hid (hst.out.symm.trans Hacc.out)
              have hR2 : Hid (qv s (f - 1) (k + 2) (acc ++ [s.get! (k + 1)]) = R) := Lib.hid (by rw [← hR1.out, if_pos ⟨hk1, c3⟩])
              have cc : (((s[k + 1].toNat : Nat) : Int) != 34) = false ∨ ((((s[k + 1].toNat : Nat) : Int) != 34) = true ∧ (((s[k + 1].toNat : Nat) : Int) != 92) = false) := by
                rw [get_bt s _ hk1]
                rcases c3 with c | c
                · left; rw [c]; rfl
                · right; rw [c]; exact ⟨rfl, rfl⟩
              clear c3
              rcases cc with z3 | ⟨z3, z4⟩
              all_goals
                go_wp2_with fail
                refine (writeByte_k w.heap.size w.heap.size _ _ _ hI (by rw [Lib.byteCells_length]; omega) (by omega)).mono ?_
                rintro e W1 ⟨rfl, h1, b1, _⟩
                have hz1 := b1.size
                go_wp2
                go_roundw
                case rel => exact ⟨k + 2, f - 1, acc ++ [s.get! (k + 1)], by go_num, by rw [Lib.byteCells_append, byte_cell, ← hbi1.out]; exact Or.inr h1, hbw.trans b1, hR2.out, by omega, by simp; omega, by omega⟩
                case measure => simp [intOf]; omega
            · have hRn : Hid (T = (⟨#[]⟩, 0, false)) := Lib.hid (HVN.out (by rw [← Hacc.out, hst.out, if_neg (by intro h; exact c3 h.2)]))
              have z3 : (((s[k + 1].toNat : Nat) : Int) != 34) = true := by rw [get_bt s _ hk1]; simp; omega
              have z4 : (((s[k + 1].toNat : Nat) : Int) != 92) = true := by rw [get_bt s _ hk1]; simp; omega
              clear c3
              go_wp2_with fail
              go_ret3
              refine ⟨?_, hbw⟩
              rw [hRn.out]; rfl
          · have hRn : Hid (T = (⟨#[]⟩, 0, false)) := Lib.hid (HVN.out (by rw [← Hacc.out, hst.out, if_neg (by intro h; exact hk1 h.1)]))
            go_wp2_with fail
            go_ret3
            refine ⟨?_, hbw⟩
            rw [hRn.out]; rfl
        · have z2 : (((s[k].toNat : Nat) : Int) == 92) = false := by rw [get_bt s k hk, beq_eq_false_iff_ne]; omega
          have hR2 : Hid (qv s (f - 1) (k + 1) (acc ++ [s.get! k]) = R) := Lib.hid (by rw [← Hacc.out, qv_plain s f k acc hk hf c1 c2])
          clear c1 c2
          go_wp2_with fail
          refine (writeByte_k w.heap.size w.heap.size _ _ _ hI (by rw [Lib.byteCells_length]; omega) (by omega)).mono ?_
          rintro e W1 ⟨rfl, h1, b1, _⟩
          have hz1 := b1.size
          go_wp2
          go_roundw
          case rel => exact ⟨k + 1, f - 1, acc ++ [s.get! k], by go_num, by rw [Lib.byteCells_append, byte_cell, ← hbi.out]; exact Or.inr h1, hbw.trans b1, hR2.out, by omega, by simp; omega, by omega⟩
          case measure => simp [intOf]; omega
    · have hRn : Hid (T = (⟨#[]⟩, 0, false)) := Lib.hid (HVN.out (by rw [← Hacc.out, qv_end s f k acc hk]))
      go_wp2
      go_ret3
      refine ⟨?_, hbw⟩
      rw [hRn.out]; rfl
end Go.Proofs.YthfienjmigidbaaGreatDoor
namespace Go.Proofs.YthfienjmigidbaaGreatDoor
open Go.RowKit Go.Pub

/-- The value that attr.readValue gives where no quotation mark stands. -/
def bareVal (s : ByteArray) (i : Nat) : ByteArray × Nat × Bool := (s.extract i (wordAt s i), wordAt s i, nameB (s.extract i (wordAt s i)))

theorem extract_size (s : ByteArray) (i j : Nat) (h : i ≤ j) (hj : j ≤ s.size) : (s.extract i j).size = j - i := by
  rw [ByteArray.size_extract]; omega

set_option maxRecDepth 100000 in
set_option maxHeartbeats 1000000 in
theorem readValue_n (s : ByteArray) (i : Nat) (w : World) (hs : s.size ≤ 1000000) (hi : i ≤ s.size) (hq : ¬ (i < s.size ∧ bt s i = 34)) : Calls Tryz.prog 144 #[.string s, .int .i64 i] w (TripleBelow (bareVal s i) w) := by
  have hwb := wEnd_bd s (s.size - i) i
  have hw1 : i ≤ wordAt s i := hwb.1
  have hw2 : wordAt s i ≤ s.size := hwb.2 hi
  clear hwb
  have HW := Lib.hid (wordEnd_any s i)
  have HN := Lib.hid (name_any (s.extract i (wordAt s i)))
  have hsz : (s.extract i (wordAt s i)).size ≤ 1000000 := by rw [extract_size s i _ hw1 hw2]; omega
  have HB : Hid (bareVal s i = (s.extract i (wordAt s i), wordAt s i, nameB (s.extract i (wordAt s i)))) := Lib.hid rfl
  generalize bareVal s i = T at *
  generalize wordAt s i = j at *
  have HM : ∀ w : World, (Builtin.min_ #[3, 3] 3 #[.int .i64 i, .int .i64 s.size]).run Tryz.prog w = .ok (.int .i64 i) w := fun w => by rw [run_min_int2, if_neg (by omega)]
  by_cases h1 : i < s.size
  · have hne : bt s i ≠ 34 := fun e => hq ⟨h1, e⟩
    have hlt0 : ((s[i].toNat : Nat) : Int) < 256 := by rw [get_bt s i h1]; have := bt_lt s i; omega
    have z0 : (((s[i].toNat : Nat) : Int) != 34) = true := by rw [get_bt s i h1]; simp; omega
    have d0 : decide (s.size ≤ i) = false := decide_eq_false (by omega)
    clear hq hne
    go_enter Tryz.func144, Tryz.ntmps144
    go_wp2_with fail
    ((with_reducible refine (HW.out _ (by omega)).mono ?_))
    rintro e w1 ⟨rfl, rfl⟩
    go_wp2_with fail
    ((with_reducible refine (HN.out _ (by omega)).mono ?_))
    rintro e w1 ⟨rfl, rfl⟩
    go_wp2
    go_ret3
    refine ⟨?_, Below.refl _ _⟩
    rw [HB.out]; rfl
  · obtain rfl : i = s.size := by omega
    have d0 : decide (s.size ≤ s.size) = true := decide_eq_true (Nat.le_refl _)
    clear hq
    go_enter Tryz.func144, Tryz.ntmps144
    go_wp2_with fail
    ((with_reducible refine (HW.out _ (by omega)).mono ?_))
    rintro e w1 ⟨rfl, rfl⟩
    go_wp2_with fail
    ((with_reducible refine (HN.out _ (by omega)).mono ?_))
    rintro e w1 ⟨rfl, rfl⟩
    go_wp2
    go_ret3
    refine ⟨?_, Below.refl _ _⟩
    rw [HB.out]; rfl
end Go.Proofs.YthfienjmigidbaaGreatDoor
