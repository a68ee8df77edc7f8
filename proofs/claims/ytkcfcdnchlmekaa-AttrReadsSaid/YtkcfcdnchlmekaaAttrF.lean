/-
  attr.readItem.
-/
import Derived.Test.YtkcfcdnchlmekaaAttrE
set_option linter.unusedVariables false
set_option linter.unusedSimpArgs false
namespace Go.Proofs.Ytkcfcdnchlmekaa
open Go.RowKit Go.Pub

/-- The value at place i. -/
def valL (s : ByteArray) (i : Nat) : ByteArray × Nat × Bool := if i < s.size ∧ bt s i = 34 then valOf (qv s s.size (i + 1) []) else bareVal s i
theorem readValue_any (s : ByteArray) (i : Nat) (w : World) (hs : s.size ≤ 1000000) (hi : i ≤ s.size) : Calls Try.prog 56 #[.string s, .int .i64 i] w (TripleBelow (valL s i) w) := by
  unfold valL
  by_cases h : i < s.size ∧ bt s i = 34
  · rw [if_pos h]; exact readValue_q s i w hs h.1 h.2
  · rw [if_neg h]; exact readValue_n s i w hs hi h
theorem rvalue_any (s : ByteArray) (i : Nat) (w : World) (hs : s.size ≤ 1000000) (hi : i ≤ s.size) : Calls Try.prog 59 #[.string s, .int .i64 i] w (TripleBelow (strictV (valL s i)) w) := by
  unfold valL
  by_cases h : i < s.size ∧ bt s i = 34
  · rw [if_pos h]; exact rvalue_q s i w hs h.1 h.2
  · rw [if_neg h]; exact rvalue_n s i w hs hi h

/-- The item's name from place i on. -/
def nameAt (s : ByteArray) (i : Nat) : ByteArray := s.extract i (wordAt s i)
/-- A pair whose key ends at place t: the place behind, the error, the attributes. -/
def pairItem (a : AttrL) (s : ByteArray) (name : ByteArray) (t : Nat) : Nat × Nat × AttrL :=
  if t < s.size ∧ bt s t = 61 then (if (valL s (t + 1)).2.2 = true then ((valL s (t + 1)).2.1, pairE a name, pairA a name (valL s (t + 1)).1) else (0, 5, a)) else (0, 5, a)
/-- The item at place i: the place behind it, the error, the attributes. -/
def itemL (a : AttrL) (s : ByteArray) (i : Nat) : Nat × Nat × AttrL :=
  if bt s i = 35 then (if nameB (nameAt s (i + 1)) = true then (if a.id = ⟨#[]⟩ then (wordAt s (i + 1), 0, { a with id := nameAt s (i + 1) }) else (0, 7, a)) else (0, 5, a))
  else if bt s i = 46 then (if nameB (nameAt s (i + 1)) = true then (wordAt s (i + 1), classE a (nameAt s (i + 1)), classA a (nameAt s (i + 1))) else (0, 5, a))
  else if nameB (nameAt s i) = true then pairItem a s (nameAt s i) (wordAt s i) else (0, 5, a)

def ReadPost (r : Nat × Nat × AttrL) (g base : Nat) (w : World) (e : Ending) (w' : World) : Prop :=
  e = .returned (.tuple #[.int .i64 r.1, .int .i64 r.2.1]) ∧ AttrAt w' g base r.2.2 ∧ BelowBut g base w w'

theorem AttrAt.below {w w' : World} {g base : Nat} {a : AttrL} (h : AttrAt w g base a) (hb : Below w.heap.size w w') : AttrAt w' g base a := by
  obtain ⟨vC, vP, h⟩ := h
  exact ⟨vC, vP, h.below hb⟩
theorem AttrAt.le {w : World} {g base : Nat} {a : AttrL} (h : AttrAt w g base a) : base ≤ w.heap.size := by
  obtain ⟨vC, vP, h⟩ := h
  exact h.le
theorem AttrAt.setId {w : World} {g base : Nat} {a : AttrL} (h : AttrAt w g base a) (x : ByteArray) : AttrAt (w.setCell ⟨g, 0, none⟩ (.string x)) g base { a with id := x } := by
  obtain ⟨vC, vP, h⟩ := h
  refine ⟨vC, vP, ?_, ownsRow_setCell_below h.cls h.lt _, ownsRow_setCell_below h.prs h.lt _, h.lt, by simpa [World.setCell] using h.le, h.c32, h.p32⟩
  have := h.blk.set_ 0 (.string x)
  simpa using this
theorem toList_nil : (⟨#[]⟩ : ByteArray).toList = [] := by
  unfold ByteArray.toList ByteArray.toList.loop
  rfl
theorem toList_iff (a : ByteArray) : a.toList = [] ↔ a = ⟨#[]⟩ := by
  rw [← Lib.bytes_beq_iff, toList_nil, beq_iff_eq]
theorem nat_succ (i : Nat) : ((i + 1 : Nat) : Int) = (i : Int) + 1 := by omega

set_option maxRecDepth 100000 in
set_option maxHeartbeats 2000000 in
theorem readItem_id (w : World) (g base : Nat) (a : AttrL) (s : ByteArray) (i : Nat) (h : AttrAt w g base a) (hs : s.size ≤ 1000000) (hi : i < s.size) (hb : bt s i = 35) :
    Calls Try.prog 41 #[.pointer (some ⟨g, 0, none⟩), .string s, .int .i64 i] w (ReadPost (itemL a s i) g base w) := by
  have HI : Hid (itemL a s i = (if nameB (nameAt s (i + 1)) = true then (if a.id = ⟨#[]⟩ then (wordAt s (i + 1), 0, { a with id := nameAt s (i + 1) }) else (0, 7, a)) else (0, 5, a))) := Lib.hid (by unfold itemL; rw [if_pos hb])
  have hlt : ((s[i].toNat : Nat) : Int) < 256 := by rw [get_bt s i hi]; omega
  have z1 : (((s[i].toNat : Nat) : Int) == 35) = true := by rw [get_bt s i hi, hb]; rfl
  clear hb
  have hwb := wEnd_bd s (s.size - (i + 1)) (i + 1)
  have hw1 : i + 1 ≤ wordAt s (i + 1) := hwb.1
  have hw2 : wordAt s (i + 1) ≤ s.size := hwb.2 hi
  clear hwb
  have HW : Hid (∀ W, Calls Try.prog 29 #[.string s, .int .i64 ((i : Int) + 1)] W fun e w' => e = .returned (.int .i64 (wordAt s (i + 1))) ∧ W = w') := Lib.hid fun W => by rw [← nat_succ]; exact wordEnd_any s (i + 1) W (by omega)
  have HN : Hid (∀ W, Calls Try.prog 11 #[.string (s.extract (i + 1) (wordAt s (i + 1)))] W fun e w' => e = .returned (.bool (nameB (nameAt s (i + 1)))) ∧ W = w') := Lib.hid fun W => name_any _ W (by rw [extract_size s _ _ hw1 hw2]; omega)
  have HNA : Hid (nameAt s (i + 1) = s.extract (i + 1) (wordAt s (i + 1))) := Lib.hid rfl
  have HA := Lib.hid h
  obtain ⟨vC, vP, hA⟩ := h
  have hc0 : w.cell? ⟨g, 0, none⟩ = some (.string a.id) := hA.blk.cell 0
  have hf0 := hA.blk.frozen 0
  clear hA
  generalize itemL a s i = T at *
  generalize nameB (nameAt s (i + 1)) = nb at *
  generalize nameAt s (i + 1) = na at *
  generalize wordAt s (i + 1) = t at *
  cases nb
  · go_enter Try.func41, Try.ntmps41
    go_wp2_with fail
    ((with_reducible refine (HW.out _).mono ?_))
    rintro e w1 ⟨rfl, rfl⟩
    go_wp2_with fail
    ((with_reducible refine (HN.out _).mono ?_))
    rintro e w1 ⟨rfl, rfl⟩
    go_wp2_with fail
    go_ret2
    rw [HI.out]
    exact ⟨rfl, HA.out, .refl⟩
  · by_cases hid : a.id = ⟨#[]⟩
    · have hT : Hid (T = (t, 0, { a with id := na })) := Lib.hid (by rw [HI.out, if_pos rfl, if_pos hid])
      have y1 : a.id.toList = [] := (toList_iff _).2 hid
      have y2 : a.id.toList.isEmpty = true := by rw [y1]; rfl
      clear hid
      go_enter Try.func41, Try.ntmps41
      go_wp2_with fail
      ((with_reducible refine (HW.out _).mono ?_))
      rintro e w1 ⟨rfl, rfl⟩
      go_wp2_with fail
      ((with_reducible refine (HN.out _).mono ?_))
      rintro e w1 ⟨rfl, rfl⟩
      go_wp2_with fail
      go_ret2
      rw [hT.out, HNA.out]
      exact ⟨rfl, HA.out.setId _, BelowBut.refl.store _ _⟩
    · have hT : Hid (T = (0, 7, a)) := Lib.hid (by rw [HI.out, if_pos rfl, if_neg hid])
      have y1 : ¬ a.id.toList = [] := fun e => hid ((toList_iff _).1 e)
      have y2 : a.id.toList.isEmpty = false := by rw [List.isEmpty_eq_false_iff]; exact y1
      clear hid
      go_enter Try.func41, Try.ntmps41
      go_wp2_with fail
      ((with_reducible refine (HW.out _).mono ?_))
      rintro e w1 ⟨rfl, rfl⟩
      go_wp2_with fail
      ((with_reducible refine (HN.out _).mono ?_))
      rintro e w1 ⟨rfl, rfl⟩
      go_wp2_with fail
      go_ret2
      rw [hT.out]
      exact ⟨rfl, HA.out, .refl⟩

set_option maxRecDepth 100000 in
set_option maxHeartbeats 2000000 in
theorem readItem_cl (w : World) (g base : Nat) (a : AttrL) (s : ByteArray) (i : Nat) (h : AttrAt w g base a) (hs : s.size ≤ 1000000) (hi : i < s.size) (hb : bt s i = 46) :
    Calls Try.prog 41 #[.pointer (some ⟨g, 0, none⟩), .string s, .int .i64 i] w (ReadPost (itemL a s i) g base w) := by
  have HI : Hid (itemL a s i = (if nameB (nameAt s (i + 1)) = true then (wordAt s (i + 1), classE a (nameAt s (i + 1)), classA a (nameAt s (i + 1))) else (0, 5, a))) := Lib.hid (by unfold itemL; rw [if_neg (by omega), if_pos hb])
  have hlt : ((s[i].toNat : Nat) : Int) < 256 := by rw [get_bt s i hi]; omega
  have z1 : (((s[i].toNat : Nat) : Int) == 35) = false := by rw [get_bt s i hi, hb]; rfl
  have z2 : (((s[i].toNat : Nat) : Int) == 46) = true := by rw [get_bt s i hi, hb]; rfl
  clear hb
  have hwb := wEnd_bd s (s.size - (i + 1)) (i + 1)
  have hw1 : i + 1 ≤ wordAt s (i + 1) := hwb.1
  have hw2 : wordAt s (i + 1) ≤ s.size := hwb.2 hi
  clear hwb
  have HW : Hid (∀ W, Calls Try.prog 29 #[.string s, .int .i64 ((i : Int) + 1)] W fun e w' => e = .returned (.int .i64 (wordAt s (i + 1))) ∧ W = w') := Lib.hid fun W => by rw [← nat_succ]; exact wordEnd_any s (i + 1) W (by omega)
  have HN : Hid (∀ W, Calls Try.prog 11 #[.string (s.extract (i + 1) (wordAt s (i + 1)))] W fun e w' => e = .returned (.bool (nameB (nameAt s (i + 1)))) ∧ W = w') := Lib.hid fun W => name_any _ W (by rw [extract_size s _ _ hw1 hw2]; omega)
  have HC : Hid (Calls Try.prog 55 #[.pointer (some ⟨g, 0, none⟩), .string (s.extract (i + 1) (wordAt s (i + 1)))] w (ItemPost (classE a (nameAt s (i + 1))) (classA a (nameAt s (i + 1))) g base w)) := Lib.hid (addClass_any w g base a (nameAt s (i + 1)) h)
  have HA := Lib.hid h
  clear h
  generalize itemL a s i = T at *
  generalize nameB (nameAt s (i + 1)) = nb at *
  generalize classE a (nameAt s (i + 1)) = E1 at *
  generalize classA a (nameAt s (i + 1)) = A1 at *
  generalize wordAt s (i + 1) = t at *
  cases nb
  · go_enter Try.func41, Try.ntmps41
    go_wp2_with fail
    ((with_reducible refine (HW.out _).mono ?_))
    rintro e w1 ⟨rfl, rfl⟩
    go_wp2_with fail
    ((with_reducible refine (HN.out _).mono ?_))
    rintro e w1 ⟨rfl, rfl⟩
    go_wp2_with fail
    go_ret2
    rw [HI.out]
    exact ⟨rfl, HA.out, .refl⟩
  · go_enter Try.func41, Try.ntmps41
    go_wp2_with fail
    ((with_reducible refine (HW.out _).mono ?_))
    rintro e w1 ⟨rfl, rfl⟩
    go_wp2_with fail
    ((with_reducible refine (HN.out _).mono ?_))
    rintro e w1 ⟨rfl, rfl⟩
    go_wp2_with fail
    ((with_reducible refine HC.out.mono ?_))
    rintro e w1 ⟨rfl, hA1, hb1⟩
    go_wp2_with fail
    go_ret2
    rw [HI.out]
    exact ⟨rfl, hA1, hb1⟩

set_option maxRecDepth 100000 in
set_option maxHeartbeats 4000000 in
theorem readItem_pr (w : World) (g base : Nat) (a : AttrL) (s : ByteArray) (i : Nat) (h : AttrAt w g base a) (hs : s.size ≤ 1000000) (hi : i < s.size) (hb1 : bt s i ≠ 35) (hb2 : bt s i ≠ 46) :
    Calls Try.prog 41 #[.pointer (some ⟨g, 0, none⟩), .string s, .int .i64 i] w (ReadPost (itemL a s i) g base w) := by
  have HI : Hid (itemL a s i = if nameB (nameAt s i) = true then pairItem a s (nameAt s i) (wordAt s i) else (0, 5, a)) := Lib.hid (by unfold itemL; rw [if_neg hb1, if_neg hb2])
  have hlt : ((s[i].toNat : Nat) : Int) < 256 := by rw [get_bt s i hi]; have := bt_lt s i; omega
  have z1 : (((s[i].toNat : Nat) : Int) == 35) = false := by rw [get_bt s i hi, beq_eq_false_iff_ne]; omega
  have z2 : (((s[i].toNat : Nat) : Int) == 46) = false := by rw [get_bt s i hi, beq_eq_false_iff_ne]; omega
  clear hb1 hb2
  have hwb := wEnd_bd s (s.size - i) i
  have hw1 : i ≤ wordAt s i := hwb.1
  have hw2 : wordAt s i ≤ s.size := hwb.2 (by omega)
  clear hwb
  have HW := Lib.hid (fun W => wordEnd_any s i W (by omega))
  have HN : Hid (∀ W, Calls Try.prog 11 #[.string (s.extract i (wordAt s i))] W fun e w' => e = .returned (.bool (nameB (nameAt s i))) ∧ W = w') := Lib.hid fun W => name_any _ W (by rw [extract_size s _ _ hw1 hw2]; omega)
  have HP : Hid (∀ v W, AttrAt W g base a → Calls Try.prog 57 #[.pointer (some ⟨g, 0, none⟩), .string (s.extract i (wordAt s i)), .string v] W (ItemPost (pairE a (nameAt s i)) (pairA a (nameAt s i) v) g base W)) := Lib.hid fun v W h => addPair_any W g base a (nameAt s i) v h
  have HPI : Hid (pairItem a s (nameAt s i) (wordAt s i) = if wordAt s i < s.size ∧ bt s (wordAt s i) = 61 then (if (valL s (wordAt s i + 1)).2.2 = true then ((valL s (wordAt s i + 1)).2.1, pairE a (nameAt s i), pairA a (nameAt s i) (valL s (wordAt s i + 1)).1) else (0, 5, a)) else (0, 5, a)) := Lib.hid rfl
  have HA := Lib.hid h
  clear h
  generalize pairItem a s (nameAt s i) (wordAt s i) = PI at *
  generalize itemL a s i = T at *
  generalize nameB (nameAt s i) = nb at *
  generalize pairE a (nameAt s i) = E1 at *
  generalize pairA a (nameAt s i) = A1 at *
  generalize wordAt s i = t at *
  cases nb
  · go_enter Try.func41, Try.ntmps41
    go_wp2_with fail
    ((with_reducible refine (HW.out _).mono ?_))
    rintro e w1 ⟨rfl, rfl⟩
    go_wp2_with fail
    ((with_reducible refine (HN.out _).mono ?_))
    rintro e w1 ⟨rfl, rfl⟩
    go_wp2_with fail
    go_ret2
    rw [HI.out]
    exact ⟨rfl, HA.out, .refl⟩
  · by_cases ht : t < s.size
    · have htl : ((s[t].toNat : Nat) : Int) < 256 := by rw [get_bt s t ht]; have := bt_lt s t; omega
      by_cases h61 : bt s t = 61
      · have z3 : (((s[t].toNat : Nat) : Int) != 61) = false := by rw [get_bt s t ht, h61]; rfl
        have hT : Hid (T = if (valL s (t + 1)).2.2 = true then ((valL s (t + 1)).2.1, E1, A1 (valL s (t + 1)).1) else (0, 5, a)) := Lib.hid (by rw [HI.out, if_pos rfl, HPI.out, if_pos ⟨ht, h61⟩])
        have d1 : decide (s.size ≤ t) = false := decide_eq_false (by omega)
        clear h61
        have HV : Hid (∀ W, Calls Try.prog 56 #[.string s, .int .i64 ((t : Int) + 1)] W (TripleBelow (valL s (t + 1)) W)) := Lib.hid fun W => by rw [← nat_succ]; exact readValue_any s (t + 1) W hs (by omega)
        generalize valL s (t + 1) = V at *
        obtain ⟨v, t2, ok⟩ := V
        cases ok
        · go_enter Try.func41, Try.ntmps41
          go_wp2_with fail
          ((with_reducible refine (HW.out _).mono ?_))
          rintro e w1 ⟨rfl, rfl⟩
          go_wp2_with fail
          ((with_reducible refine (HN.out _).mono ?_))
          rintro e w1 ⟨rfl, rfl⟩
          go_wp2_with fail
          ((with_reducible refine (HV.out _).mono ?_))
          rintro e w1 ⟨rfl, b1⟩
          go_wp2_with fail
          go_ret2
          rw [hT.out]
          exact ⟨rfl, HA.out.below b1, .of (b1.mono HA.out.le)⟩
        · go_enter Try.func41, Try.ntmps41
          go_wp2_with fail
          ((with_reducible refine (HW.out _).mono ?_))
          rintro e w1 ⟨rfl, rfl⟩
          go_wp2_with fail
          ((with_reducible refine (HN.out _).mono ?_))
          rintro e w1 ⟨rfl, rfl⟩
          go_wp2_with fail
          ((with_reducible refine (HV.out _).mono ?_))
          rintro e w1 ⟨rfl, b1⟩
          go_wp2_with fail
          ((with_reducible refine (HP.out _ _ (HA.out.below b1)).mono ?_))
          rintro e w2 ⟨rfl, hA1, hb1⟩
          go_wp2_with fail
          go_ret2
          rw [hT.out]
          exact ⟨rfl, hA1, (BelowBut.of (b1.mono HA.out.le)).trans hb1⟩
      · have z3 : (((s[t].toNat : Nat) : Int) != 61) = true := by rw [get_bt s t ht]; simp; omega
        have d1 : decide (s.size ≤ t) = false := decide_eq_false (by omega)
        have hT : Hid (T = (0, 5, a)) := Lib.hid (by rw [HI.out, if_pos rfl, HPI.out, if_neg (fun h => h61 h.2)])
        clear h61
        go_enter Try.func41, Try.ntmps41
        go_wp2_with fail
        ((with_reducible refine (HW.out _).mono ?_))
        rintro e w1 ⟨rfl, rfl⟩
        go_wp2_with fail
        ((with_reducible refine (HN.out _).mono ?_))
        rintro e w1 ⟨rfl, rfl⟩
        go_wp2_with fail
        go_ret2
        rw [hT.out]
        exact ⟨rfl, HA.out, .refl⟩
    · have d1 : decide (s.size ≤ t) = true := decide_eq_true (by omega)
      have hT : Hid (T = (0, 5, a)) := Lib.hid (by rw [HI.out, if_pos rfl, HPI.out, if_neg (fun h => ht h.1)])
      go_enter Try.func41, Try.ntmps41
      go_wp2_with fail
      ((with_reducible refine (HW.out _).mono ?_))
      rintro e w1 ⟨rfl, rfl⟩
      go_wp2_with fail
      ((with_reducible refine (HN.out _).mono ?_))
      rintro e w1 ⟨rfl, rfl⟩
      go_wp2_with fail
      go_ret2
      rw [hT.out]
      exact ⟨rfl, HA.out, .refl⟩

theorem readItem_any (w : World) (g base : Nat) (a : AttrL) (s : ByteArray) (i : Nat) (h : AttrAt w g base a) (hs : s.size ≤ 1000000) (hi : i < s.size) :
    Calls Try.prog 41 #[.pointer (some ⟨g, 0, none⟩), .string s, .int .i64 i] w (ReadPost (itemL a s i) g base w) := by
  by_cases h1 : bt s i = 35
  · exact readItem_id w g base a s i h hs hi h1
  · by_cases h2 : bt s i = 46
    · exact readItem_cl w g base a s i h hs hi h2
    · exact readItem_pr w g base a s i h hs hi h1 h2
end Go.Proofs.Ytkcfcdnchlmekaa
