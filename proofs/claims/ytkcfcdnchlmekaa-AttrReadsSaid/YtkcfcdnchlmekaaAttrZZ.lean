/-
  What is read is valid: plain mathematics.
-/
import Derived.Test.YtkcfcdnchlmekaaAttrZ
set_option linter.unusedVariables false
set_option linter.unusedSimpArgs false
namespace Go.Proofs.Ytkcfcdnchlmekaa
open Go.RowKit Go.Pub

theorem part_rng {b : Nat} (h : partN b = true) : 45 ≤ b ∧ b ≤ 122 := by
  unfold partN letterN at h
  simp at h
  omega
theorem okPt_part {b : Nat} (h : 45 ≤ b ∧ b ≤ 122) : okPt (b, 1) = true := by
  unfold okPt uncleanB
  have h1 : (b == 65533) = false := by rw [beq_eq_false_iff_ne]; omega
  have h2 : decide ((b : Int) < 32) = false := decide_eq_false (by omega)
  have h3 : ((b : Int) == 127) = false := by rw [beq_eq_false_iff_ne]; omega
  simp only [h1, h2, h3, Bool.false_and, Bool.or_false, Bool.not_false, Bool.and_self]
theorem pts_part (s : ByteArray) (hp : ∀ j, j < s.size → partN (bt s j) = true) : ∀ f pos, (ptsFrom s f pos).all okPt = true
  | 0, _ => rfl
  | f + 1, pos => by
    unfold ptsFrom
    split
    · rename_i h
      have hb := part_rng (hp pos h)
      rw [dec_one s pos (by omega), List.all_cons, okPt_part hb, Bool.true_and]
      exact pts_part s hp f _
    · rfl
theorem name_line (x : ByteArray) (h : nameB x = true) : lineB x = true := by
  have hp : ∀ j, j < x.size → partN (bt x j) = true := by
    unfold nameB at h
    simp only [Bool.and_eq_true, decide_eq_true_eq, beq_iff_eq] at h
    exact fun j hj => wEnd_all _ 0 h.2 j (Nat.zero_le _) hj
  unfold lineB validB pts
  rw [pts_part x hp, Bool.true_and, noLF_iff]
  intro k hk e
  have := part_rng (hp k hk)
  omega
theorem val_line (s : ByteArray) (i : Nat) (h : (valL s i).2.2 = true) : lineB (valL s i).1 = true := by
  unfold valL at h ⊢
  split at h
  · rename_i c
    rw [if_pos c]
    cases hq : qv s s.size (i + 1) [] with
    | none => rw [hq] at h; cases h
    | some p => rw [hq] at h; exact h
  · rename_i c
    rw [if_neg c]
    exact name_line _ h

theorem clsE_snoc : ∀ (l seen : List ByteArray) (x : ByteArray), clsE seen l = 0 → nameB x = true → Lib.containsS (seen ++ l) x = false → clsE seen (l ++ [x]) = 0
  | [], seen, x, _, hn, hc => by
    rw [List.append_nil] at hc
    show clsE seen [x] = 0
    unfold clsE
    rw [hn, hc]; rfl
  | y :: l, seen, x, h, hn, hc => by
    rw [List.cons_append]
    unfold clsE at h ⊢
    split at h
    · cases h
    · split at h
      · cases h
      · rename_i h1 h2
        rw [if_neg h1, if_neg h2]
        exact clsE_snoc l (seen ++ [y]) x h hn (by simpa using hc)
theorem prsE_snoc : ∀ (l : List (ByteArray × ByteArray)) (seen : List ByteArray) (k v : ByteArray), prsE seen l = 0 → nameB k = true → lineB v = true → Lib.containsS (seen ++ keysOf l) k = false → prsE seen (l ++ [(k, v)]) = 0
  | [], seen, k, v, _, hn, hv, hc => by
    have hc' : Lib.containsS seen k = false := by simpa [keysOf] using hc
    show prsE seen [(k, v)] = 0
    unfold prsE
    simp only [hn, hv, hc', Bool.true_eq_false, if_false, Bool.false_eq_true]
    rfl
  | y :: l, seen, k, v, h, hn, hv, hc => by
    rw [List.cons_append]
    unfold prsE at h ⊢
    split at h
    · cases h
    · split at h
      · cases h
      · split at h
        · cases h
        · rename_i h1 h2 h3
          rw [if_neg h1, if_neg h2, if_neg h3]
          exact prsE_snoc l (seen ++ [y.1]) k v h hn hv (by simpa [keysOf] using hc)

structure VA (a : AttrL) : Prop where
  id : a.id = ⟨#[]⟩ ∨ nameB a.id = true
  cl : clsE [] a.cl = 0
  pr : prsE [] a.pr = 0
  lc : a.cl.length ≤ 32
  lp : a.pr.length ≤ 32
theorem VA.empty : VA emptyA := ⟨Or.inl rfl, rfl, rfl, Nat.zero_le _, Nat.zero_le _⟩
theorem VA.check {a : AttrL} (h : VA a) : checkE a = 0 := by
  have hr : restE a = 0 := by
    unfold restE limE
    rw [if_pos h.cl, if_pos h.pr, if_neg (by have := h.lc; have := h.lp; omega)]
  unfold checkE
  rcases h.id with e | e
  · rw [if_pos e]; exact hr
  · by_cases e' : a.id = ⟨#[]⟩
    · rw [if_pos e']; exact hr
    · rw [if_neg e', if_pos e]; exact hr
theorem class_valid {a : AttrL} {x : ByteArray} (h : VA a) (hn : nameB x = true) (he : classE a x = 0) : VA (classA a x) := by
  unfold classA
  rw [if_pos he]
  unfold classE at he
  split at he
  · cases he
  · split at he
    · cases he
    · rename_i h1 h2
      exact ⟨h.id, clsE_snoc a.cl [] x h.cl hn (by simpa using h1), h.pr, by simp; omega, h.lp⟩
theorem pair_valid {a : AttrL} {k v : ByteArray} (h : VA a) (hn : nameB k = true) (hv : lineB v = true) (he : pairE a k = 0) : VA (pairA a k v) := by
  unfold pairA
  rw [if_pos he]
  unfold pairE at he
  split at he
  · cases he
  · split at he
    · cases he
    · rename_i h1 h2
      rw [contains_keys] at h1
      exact ⟨h.id, h.cl, prsE_snoc a.pr [] k v h.pr hn hv (by simpa using h1), h.lc, by simp; omega⟩
theorem item_valid {a : AttrL} {s : ByteArray} {i : Nat} (h : VA a) (he : (itemL a s i).2.1 = 0) : VA (itemL a s i).2.2 := by
  unfold itemL at he ⊢
  by_cases c1 : bt s i = 35
  · rw [if_pos c1] at he ⊢
    by_cases c2 : nameB (nameAt s (i + 1)) = true
    · rw [if_pos c2] at he ⊢
      by_cases c3 : a.id = ⟨#[]⟩
      · rw [if_pos c3]; exact ⟨Or.inr c2, h.cl, h.pr, h.lc, h.lp⟩
      · rw [if_neg c3] at he; cases he
    · rw [if_neg c2] at he; cases he
  · rw [if_neg c1] at he ⊢
    by_cases c4 : bt s i = 46
    · rw [if_pos c4] at he ⊢
      by_cases c2 : nameB (nameAt s (i + 1)) = true
      · rw [if_pos c2] at he ⊢
        exact class_valid h c2 he
      · rw [if_neg c2] at he; cases he
    · rw [if_neg c4] at he ⊢
      by_cases c2 : nameB (nameAt s i) = true
      · rw [if_pos c2] at he ⊢
        unfold pairItem at he ⊢
        by_cases c5 : wordAt s i < s.size ∧ bt s (wordAt s i) = 61
        · rw [if_pos c5] at he ⊢
          by_cases c6 : (valL s (wordAt s i + 1)).2.2 = true
          · rw [if_pos c6] at he ⊢
            exact pair_valid h c2 (val_line _ _ c6) he
          · rw [if_neg c6] at he; cases he
        · rw [if_neg c5] at he; cases he
      · rw [if_neg c2] at he; cases he
theorem parse_valid {s : ByteArray} : ∀ (f i : Nat) (b : Bool) (a : AttrL), VA a → ((parseF s f i b a).2.2 = 0 → VA (parseF s f i b a).1 ∧ i < (parseF s f i b a).2.1 ∧ (parseF s f i b a).2.1 ≤ s.size ∧ bt s ((parseF s f i b a).2.1 - 1) = 125) ∧ ((parseF s f i b a).2.2 ≠ 0 → (parseF s f i b a).1 = emptyA ∧ (parseF s f i b a).2.1 = 0)
  | 0, i, b, a, h => ⟨(fun h => by cases h), fun _ => ⟨rfl, rfl⟩⟩
  | f + 1, i, b, a, h => by
    by_cases h1 : i < s.size
    · by_cases h2 : bt s i = 125
      · have e : parseF s (f + 1) i b a = (a, i + 1, 0) := by unfold parseF; rw [if_pos h1, if_pos h2]
        rw [e]
        refine ⟨fun _ => ⟨h, by show i < i + 1; omega, by show i + 1 ≤ s.size; omega, ?_⟩, fun h => absurd rfl h⟩
        show bt s (i + 1 - 1) = 125
        rw [Nat.add_sub_cancel]; exact h2
      · by_cases h3 : b = false
        · have e : parseF s (f + 1) i b a = (emptyA, 0, 5) := by unfold parseF; rw [if_pos h1, if_neg h2, if_pos h3]
          rw [e]; exact ⟨(fun h => by cases h), fun _ => ⟨rfl, rfl⟩⟩
        · by_cases h4 : (itemL a s i).2.1 = 0
          · have e : parseF s (f + 1) i b a = parseF s f (spAt s (itemL a s i).1) (decide ((itemL a s i).1 < spAt s (itemL a s i).1)) (itemL a s i).2.2 := by
              rw [parseF, if_pos h1, if_neg h2, if_neg h3, if_pos h4]
            rw [e]
            have ih := parse_valid (s := s) f (spAt s (itemL a s i).1) (decide ((itemL a s i).1 < spAt s (itemL a s i).1)) _ (item_valid h h4)
            have hb := itemL_bd a s i h1 h4
            have hs : (itemL a s i).1 ≤ spAt s (itemL a s i).1 := (spEnd_bd s _ _).1
            refine ⟨fun hh => ?_, ih.2⟩
            obtain ⟨g1, g2, g3, g4⟩ := ih.1 hh
            exact ⟨g1, by omega, g3, g4⟩
          · have e : parseF s (f + 1) i b a = (emptyA, 0, (itemL a s i).2.1) := by rw [parseF, if_pos h1, if_neg h2, if_neg h3, if_neg h4]
            rw [e]; exact ⟨fun h => absurd h h4, fun _ => ⟨rfl, rfl⟩⟩
    · have e : parseF s (f + 1) i b a = (emptyA, 0, 5) := by unfold parseF; rw [if_neg h1]
      rw [e]; exact ⟨(fun h => by cases h), fun _ => ⟨rfl, rfl⟩⟩
theorem reads_pure (s : ByteArray) : ((parseL s 0).2.2 = 0 → VA (parseL s 0).1 ∧ 2 ≤ (parseL s 0).2.1 ∧ (parseL s 0).2.1 ≤ s.size ∧ bt s ((parseL s 0).2.1 - 1) = 125) ∧ ((parseL s 0).2.2 ≠ 0 → (parseL s 0).1 = emptyA ∧ (parseL s 0).2.1 = 0) := by
  unfold parseL
  split
  · have hs : 0 + 1 ≤ spAt s (0 + 1) := (spEnd_bd s _ _).1
    have := parse_valid (s := s) (s.size + 1) (spAt s (0 + 1)) true emptyA VA.empty
    refine ⟨fun h => ?_, this.2⟩
    obtain ⟨g1, g2, g3, g4⟩ := this.1 h
    refine ⟨g1, ?_, g3, g4⟩
    have g2' : spAt s (0 + 1) < (parseF s (s.size + 1) (spAt s ((0 : Int).toNat + 1)) true emptyA).2.1 := g2
    omega
  · exact ⟨(fun h => by cases h), fun _ => ⟨rfl, rfl⟩⟩
end Go.Proofs.Ytkcfcdnchlmekaa
