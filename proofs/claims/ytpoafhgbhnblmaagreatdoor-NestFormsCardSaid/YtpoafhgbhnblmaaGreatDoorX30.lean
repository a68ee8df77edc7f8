/-
  Texts of the proof, put together (what this law reaches): AttrO, AttrZ, AttrZZ, NfA, NfB, NfC, NfD.
-/
import Derived.Test.YtpoafhgbhnblmaaGreatDoorX24
import Derived.Test.YtpoafhgbhnblmaaGreatDoorX08
import Derived.Test.YtpoafhgbhnblmaaGreatDoorX05
import Derived.Test.YtpoafhgbhnblmaaGreatDoorX26
import Derived.Deep.RegionHeld3
import Derived.Deep.AppendLies
import Derived.Test.YtpoafhgbhnblmaaGreatDoorX25
import Derived.Test.YtpoafhgbhnblmaaGreatDoorX11
import Derived.Test.YtpoafhgbhnblmaaGreatDoorX13
import Derived.Test.YtpoafhgbhnblmaaGreatDoorX12
import Derived.Test.YtpoafhgbhnblmaaGreatDoorX19
import Derived.Test.YtpoafhgbhnblmaaGreatDoorX07
set_option linter.unusedVariables false
set_option linter.unusedSimpArgs false
namespace Go.Proofs.YtpoafhgbhnblmaaGreatDoor
open Go.RowKit Go.Pub
structure TInv (w : World) (a : AttrL) (A : Option Addr) (c : Nat) (D : Option Addr) (d : Nat) (its : List ByteArray) (v : Value) (wr : World) : Prop where
  blk : Blk wr w.heap.size 43 #[.string a.id, .slice A a.cl.length c, .slice D a.pr.length d]
  own : wr.ownsRow (w.heap.size + 1) 9 1 v its.length (strs its)
  bel : Below w.heap.size w wr
  le : w.heap.size + 1 ≤ wr.heap.size
theorem strs_snoc (l : List ByteArray) (x : ByteArray) : strs (l ++ [x]) = strs l ++ [.string x] := by unfold strs; rw [List.map_append]; rfl
theorem TInv.push {w : World} {a : AttrL} {A : Option Addr} {c : Nat} {D : Option Addr} {d : Nat} {its : List ByteArray} {v v' : Value} {wr w2 : World} {x : ByteArray} (h : TInv w a A c D d its v wr)
    (hown : w2.ownsRow (w.heap.size + 1) 9 1 v' (its.length + 1) (strs its ++ [.string x])) (hg : (wr.alloc (.cells #[.string x] 9)).grownBy w2 v.ownBlock) : TInv w a A c D d (its ++ [x]) v' w2 := by
  have hne : some w.heap.size ≠ v.ownBlock := fun e => by have := (h.own.lt _ e.symm).1; omega
  have hz := hg.size
  have hle := h.le
  simp only [heap_alloc_size] at hz
  refine ⟨(h.blk.alloc _).grown hg hne, ?_, (h.bel.alloc (by omega) _).grown hg (by simp; omega) (fun k hk => by have := (h.own.lt k hk).1; omega), by omega⟩
  rw [List.length_append, strs_snoc]
  exact hown
theorem TInv.below {w : World} {a : AttrL} {A : Option Addr} {c : Nat} {D : Option Addr} {d : Nat} {its : List ByteArray} {v : Value} {wr w2 : World} (h : TInv w a A c D d its v wr) (hb : Below wr.heap.size wr w2) : TInv w a A c D d its v w2 :=
  ⟨h.blk.below hb h.blk.lt, own_below h.own hb, h.bel.trans (hb.mono h.bel.size), Nat.le_trans h.le hb.size⟩
end Go.Proofs.YtpoafhgbhnblmaaGreatDoor
namespace Go.Pub
theorem wEnd_all {s : ByteArray} : ∀ (f i : Nat), wEnd s f i = s.size → ∀ j, i ≤ j → j < s.size → partN (bt s j) = true
  | 0, i, h, j, h1, h2 => by
    have : i = s.size := h
    omega
  | f + 1, i, h, j, h1, h2 => by
    unfold wEnd at h
    split at h
    · rename_i hc
      by_cases e : j = i
      · subst e; exact hc.2
      · exact wEnd_all f (i + 1) h j (by omega) h2
    · omega
end Go.Pub
namespace Go.Proofs.YtpoafhgbhnblmaaGreatDoor
open Go.RowKit Go.Pub
end Go.Proofs.YtpoafhgbhnblmaaGreatDoor
namespace Go.Proofs.YtpoafhgbhnblmaaGreatDoor
open Go.RowKit Go.Pub
theorem part_rng {b : Nat} (h : partN b = true) : 45 ≤ b ∧ b ≤ 122 := by
  unfold partN letterN at h
  simp at h
  omega
theorem okPt_part {b : Nat} (h : 45 ≤ b ∧ b ≤ 122) : okPt (b, 1) = true := by
  unfold okPt uncleanB
  have h1 : (b == 65533) = false := by rw [beq_eq_false_iff_ne]; omega
  have h2 : decide ((b : Int) < 32) = false := decide_eq_false (by omega)
  have h3 : ((b : Int) == 127) = false := by rw [beq_eq_false_iff_ne]; omega
  simp only [h1, h2, h3, Bool.false_and, Bool.or_false, Bool.not_false, Bool.and_self]
theorem pts_part (s : ByteArray) (hp : ∀ j, j < s.size → partN (bt s j) = true) : ∀ f pos, (ptsFrom s f pos).all okPt = true
  | 0, _ => rfl
  | f + 1, pos => by
    unfold ptsFrom
    split
    · rename_i h
      have hb := part_rng (hp pos h)
      rw [dec_one s pos (by omega), List.all_cons, okPt_part hb, Bool.true_and]
      exact pts_part s hp f _
    · rfl
theorem name_line (x : ByteArray) (h : nameB x = true) : lineB x = true := by
  have hp : ∀ j, j < x.size → partN (bt x j) = true := by
    unfold nameB at h
    simp only [Bool.and_eq_true, decide_eq_true_eq, beq_iff_eq] at h
    exact fun j hj => wEnd_all _ 0 h.2 j (Nat.zero_le _) hj
  unfold lineB validB pts
  rw [pts_part x hp, Bool.true_and, noLF_iff]
  intro k hk e
  have := part_rng (hp k hk)
  omega
theorem val_line (s : ByteArray) (i : Nat) (h : (valL s i).2.2 = true) : lineB (valL s i).1 = true := by
  unfold valL at h ⊢
  split at h
  · rename_i c
    rw [if_pos c]
    cases hq : qv s s.size (i + 1) [] with
    | none => rw [hq] at h; cases h
    | some p => rw [hq] at h; exact h
  · rename_i c
    rw [if_neg c]
    exact name_line _ h
theorem clsE_snoc : ∀ (l seen : List ByteArray) (x : ByteArray), clsE seen l = 0 → nameB x = true → Lib.containsS (seen ++ l) x = false → clsE seen (l ++ [x]) = 0
  | [], seen, x, _, hn, hc => by
    rw [List.append_nil] at hc
    show clsE seen [x] = 0
    unfold clsE
    rw [hn, hc]; rfl
  | y :: l, seen, x, h, hn, hc => by
    rw [List.cons_append]
    unfold clsE at h ⊢
    split at h
    · cases h
    · split at h
      · cases h
      · rename_i h1 h2
        rw [if_neg h1, if_neg h2]
        exact clsE_snoc l (seen ++ [y]) x h hn (by simpa using hc)
theorem prsE_snoc : ∀ (l : List (ByteArray × ByteArray)) (seen : List ByteArray) (k v : ByteArray), prsE seen l = 0 → nameB k = true → lineB v = true → Lib.containsS (seen ++ keysOf l) k = false → prsE seen (l ++ [(k, v)]) = 0
  | [], seen, k, v, _, hn, hv, hc => by
    have hc' : Lib.containsS seen k = false := by simpa [keysOf] using hc
    show prsE seen [(k, v)] = 0
    unfold prsE
    simp only [hn, hv, hc', Bool.true_eq_false, if_false, Bool.false_eq_true]
    rfl
  | y :: l, seen, k, v, h, hn, hv, hc => by
    rw [List.cons_append]
    unfold prsE at h ⊢
    split at h
    · cases h
    · split at h
      · cases h
      · split at h
        · cases h
        · rename_i h1 h2 h3
          rw [if_neg h1, if_neg h2, if_neg h3]
          exact prsE_snoc l (seen ++ [y.1]) k v h hn hv (by simpa [keysOf] using hc)
structure VA (a : AttrL) : Prop where
  id : a.id = ⟨#[]⟩ ∨ nameB a.id = true
  cl : clsE [] a.cl = 0
  pr : prsE [] a.pr = 0
  lc : a.cl.length ≤ 32
  lp : a.pr.length ≤ 32
theorem VA.empty : VA emptyA := ⟨Or.inl rfl, rfl, rfl, Nat.zero_le _, Nat.zero_le _⟩
theorem VA.check {a : AttrL} (h : VA a) : checkE a = 0 := by
  have hr : restE a = 0 := by
    unfold restE limE
    rw [if_pos h.cl, if_pos h.pr, if_neg (by have := h.lc; have := h.lp; omega)]
  unfold checkE
  rcases h.id with e | e
  · rw [if_pos e]; exact hr
  · by_cases e' : a.id = ⟨#[]⟩
    · rw [if_pos e']; exact hr
    · rw [if_neg e', if_pos e]; exact hr
theorem class_valid {a : AttrL} {x : ByteArray} (h : VA a) (hn : nameB x = true) (he : classE a x = 0) : VA (classA a x) := by
  unfold classA
  rw [if_pos he]
  unfold classE at he
  split at he
  · cases he
  · split at he
    · cases he
    · rename_i h1 h2
      exact ⟨h.id, clsE_snoc a.cl [] x h.cl hn (by simpa using h1), h.pr, by simp; omega, h.lp⟩
theorem pair_valid {a : AttrL} {k v : ByteArray} (h : VA a) (hn : nameB k = true) (hv : lineB v = true) (he : pairE a k = 0) : VA (pairA a k v) := by
  unfold pairA
  rw [if_pos he]
  unfold pairE at he
  split at he
  · cases he
  · split at he
    · cases he
    · rename_i h1 h2
      rw [contains_keys] at h1
      exact ⟨h.id, h.cl, prsE_snoc a.pr [] k v h.pr hn hv (by simpa using h1), h.lc, by simp; omega⟩
theorem item_valid {a : AttrL} {s : ByteArray} {i : Nat} (h : VA a) (he : (itemL a s i).2.1 = 0) : VA (itemL a s i).2.2 := by
  unfold itemL at he ⊢
  by_cases c1 : bt s i = 35
  · rw [if_pos c1] at he ⊢
    by_cases c2 : nameB (nameAt s (i + 1)) = true
    · rw [if_pos c2] at he ⊢
      by_cases c3 : a.id = ⟨#[]⟩
      · rw [if_pos c3]; exact ⟨Or.inr c2, h.cl, h.pr, h.lc, h.lp⟩
      · rw [if_neg c3] at he; cases he
    · rw [if_neg c2] at he; cases he
  · rw [if_neg c1] at he ⊢
    by_cases c4 : bt s i = 46
    · rw [if_pos c4] at he ⊢
      by_cases c2 : nameB (nameAt s (i + 1)) = true
      · rw [if_pos c2] at he ⊢
        exact class_valid h c2 he
      · rw [if_neg c2] at he; cases he
    · rw [if_neg c4] at he ⊢
      by_cases c2 : nameB (nameAt s i) = true
      · rw [if_pos c2] at he ⊢
        unfold pairItem at he ⊢
        by_cases c5 : wordAt s i < s.size ∧ bt s (wordAt s i) = 61
        · rw [if_pos c5] at he ⊢
          by_cases c6 : (valL s (wordAt s i + 1)).2.2 = true
          · rw [if_pos c6] at he ⊢
            exact pair_valid h c2 (val_line _ _ c6) he
          · rw [if_neg c6] at he; cases he
        · rw [if_neg c5] at he; cases he
      · rw [if_neg c2] at he; cases he
theorem parse_valid {s : ByteArray} : ∀ (f i : Nat) (b : Bool) (a : AttrL), VA a → ((parseF s f i b a).2.2 = 0 → VA (parseF s f i b a).1 ∧ i < (parseF s f i b a).2.1 ∧ (parseF s f i b a).2.1 ≤ s.size ∧ bt s ((parseF s f i b a).2.1 - 1) = 125) ∧ ((parseF s f i b a).2.2 ≠ 0 → (parseF s f i b a).1 = emptyA ∧ (parseF s f i b a).2.1 = 0)
  | 0, i, b, a, h => ⟨(fun h => by cases h), fun _ => ⟨rfl, rfl⟩⟩
  | f + 1, i, b, a, h => by
    by_cases h1 : i < s.size
    · by_cases h2 : bt s i = 125
      · have e : parseF s (f + 1) i b a = (a, i + 1, 0) := by unfold parseF; rw [if_pos h1, if_pos h2]
        rw [e]
        refine ⟨fun _ => ⟨h, by show i < i + 1; omega, by show i + 1 ≤ s.size; omega, ?_⟩, fun h => absurd rfl h⟩
        show bt s (i + 1 - 1) = 125
        rw [Nat.add_sub_cancel]; exact h2
      · by_cases h3 : b = false
        · have e : parseF s (f + 1) i b a = (emptyA, 0, 5) := by unfold parseF; rw [if_pos h1, if_neg h2, if_pos h3]
          rw [e]; exact ⟨(fun h => by cases h), fun _ => ⟨rfl, rfl⟩⟩
        · by_cases h4 : (itemL a s i).2.1 = 0
          · have e : parseF s (f + 1) i b a = parseF s f (spAt s (itemL a s i).1) (decide ((itemL a s i).1 < spAt s (itemL a s i).1)) (itemL a s i).2.2 := by
              rw [parseF, if_pos h1, if_neg h2, if_neg h3, if_pos h4]
            rw [e]
            have ih := parse_valid (s := s) f (spAt s (itemL a s i).1) (decide ((itemL a s i).1 < spAt s (itemL a s i).1)) _ (item_valid h h4)
            have hb := itemL_bd a s i h1 h4
            have hs : (itemL a s i).1 ≤ spAt s (itemL a s i).1 := (spEnd_bd s _ _).1
            refine ⟨fun hh => ?_, ih.2⟩
            obtain ⟨g1, g2, g3, g4⟩ := ih.1 hh
            exact ⟨g1, by omega, g3, g4⟩
          · have e : parseF s (f + 1) i b a = (emptyA, 0, (itemL a s i).2.1) := by rw [parseF, if_pos h1, if_neg h2, if_neg h3, if_neg h4]
            rw [e]; exact ⟨fun h => absurd h h4, fun _ => ⟨rfl, rfl⟩⟩
    · have e : parseF s (f + 1) i b a = (emptyA, 0, 5) := by unfold parseF; rw [if_neg h1]
      rw [e]; exact ⟨(fun h => by cases h), fun _ => ⟨rfl, rfl⟩⟩
theorem reads_pure (s : ByteArray) : ((parseL s 0).2.2 = 0 → VA (parseL s 0).1 ∧ 2 ≤ (parseL s 0).2.1 ∧ (parseL s 0).2.1 ≤ s.size ∧ bt s ((parseL s 0).2.1 - 1) = 125) ∧ ((parseL s 0).2.2 ≠ 0 → (parseL s 0).1 = emptyA ∧ (parseL s 0).2.1 = 0) := by
  unfold parseL
  split
  · have hs : 0 + 1 ≤ spAt s (0 + 1) := (spEnd_bd s _ _).1
    have := parse_valid (s := s) (s.size + 1) (spAt s (0 + 1)) true emptyA VA.empty
    refine ⟨fun h => ?_, this.2⟩
    obtain ⟨g1, g2, g3, g4⟩ := this.1 h
    refine ⟨g1, ?_, g3, g4⟩
    have g2' : spAt s (0 + 1) < (parseF s (s.size + 1) (spAt s ((0 : Int).toNat + 1)) true emptyA).2.1 := g2
    omega
  · exact ⟨(fun h => by cases h), fun _ => ⟨rfl, rfl⟩⟩
end Go.Proofs.YtpoafhgbhnblmaaGreatDoor
namespace Go.Proofs.YtpoafhgbhnblmaaGreatDoor
open Go.RowKit Go.Pub
/-- Clean text. -/
def gdP (l : List UInt8) : Prop := validB (mk l) = true
/-- A line of clean text. -/
def lnP (l : List UInt8) : Prop := gdP l ∧ ∀ b ∈ l, b ≠ 10
theorem gd_iff (l : List UInt8) : gdP l ↔ ∃ cs : List Nat, l = cs.flatMap enc ∧ ∀ c ∈ cs, Scalar c ∧ uncleanB (c : Int) = false := by
  constructor
  · intro h
    have hv := valid_pts (mk l) h
    refine ⟨(pts (mk l)).map (·.1), ?_, fun c hc => ?_⟩
    · rw [pts_back (mk l) fun p hp => (hv p hp).1, bytesL_mk']
    · obtain ⟨p, hp, rfl⟩ := List.mem_map.1 hc
      exact ⟨pts_scalar _ p hp, (hv p hp).2⟩
  · rintro ⟨cs, rfl, h⟩
    unfold gdP validB
    rw [pts_enc cs fun c hc => (h c hc).1, List.all_eq_true]
    intro p hp
    obtain ⟨c, hc, rfl⟩ := List.mem_map.1 hp
    exact okPt_len c (h c hc).2
theorem gd_nil : gdP [] := (gd_iff []).2 ⟨[], rfl, fun c h => by cases h⟩
theorem gd_app {a b : List UInt8} (ha : gdP a) (hb : gdP b) : gdP (a ++ b) := by
  obtain ⟨cs, rfl, h1⟩ := (gd_iff a).1 ha
  obtain ⟨ds, rfl, h2⟩ := (gd_iff b).1 hb
  refine (gd_iff _).2 ⟨cs ++ ds, by rw [List.flatMap_append], fun c hc => ?_⟩
  rcases List.mem_append.1 hc with h | h
  · exact h1 c h
  · exact h2 c h
theorem gd_cut {a b : List UInt8} {x : UInt8} (hx : x.toNat < 128) (h : gdP (a ++ x :: b)) : gdP a ∧ okPt (x.toNat, 1) = true ∧ gdP b := by
  unfold gdP validB at *
  rw [pts_mk] at *
  rw [ptsL_ascii _ a b x (Nat.le_refl _) hx, ptsL_cons (x :: b) (by simp), dec_ascii_head x b hx, List.all_append, Bool.and_eq_true, List.all_cons, Bool.and_eq_true] at h
  refine ⟨h.1, h.2.1, ?_⟩
  rw [pts_mk]
  exact h.2.2
theorem gd_one {x : UInt8} (hx : x.toNat < 128) (h : okPt (x.toNat, 1) = true) : gdP [x] := by
  unfold gdP validB
  rw [pts_mk, ptsL_cons [x] (by simp), dec_ascii_head x [] hx]
  show ((x.toNat, 1) :: ptsL []).all okPt = true
  rw [ptsL_nil, List.all_cons, h]; rfl
theorem ln_nil : lnP [] := ⟨gd_nil, fun b h => by cases h⟩
theorem ln_app {a b : List UInt8} (ha : lnP a) (hb : lnP b) : lnP (a ++ b) :=
  ⟨gd_app ha.1 hb.1, fun c hc => (List.mem_append.1 hc).elim (ha.2 c) (hb.2 c)⟩
theorem ln_left {a b : List UInt8} {x : UInt8} (hx : x.toNat < 128) (h : lnP (a ++ x :: b)) : lnP a :=
  ⟨(gd_cut hx h.1).1, fun c hc => h.2 c (List.mem_append.2 (.inl hc))⟩
theorem ln_right {a b : List UInt8} {x : UInt8} (hx : x.toNat < 128) (h : lnP (a ++ x :: b)) : lnP b :=
  ⟨(gd_cut hx h.1).2.2, fun c hc => h.2 c (List.mem_append.2 (.inr (List.mem_cons_of_mem _ hc)))⟩
theorem ln_one {a b : List UInt8} {x : UInt8} (hx : x.toNat < 128) (h : lnP (a ++ x :: b)) : lnP [x] :=
  ⟨gd_one hx (gd_cut hx h.1).2.1, fun c hc => h.2 c (by rw [List.mem_singleton] at hc; subst hc; simp)⟩
theorem ln_tail {b : List UInt8} {x : UInt8} (hx : x.toNat < 128) (h : lnP (x :: b)) : lnP b := ln_right (a := []) hx h
theorem ln_lineB (s : ByteArray) : lineB s = true ↔ lnP (bytesL s) := by
  unfold lineB lnP gdP
  rw [Bool.and_eq_true, mk_bytesL]
  refine and_congr Iff.rfl ?_
  unfold noLF
  rw [Bool.not_eq_true', ← Bool.not_eq_true, List.contains_iff_mem]
  exact ⟨fun h b hb e => h (e ▸ hb), fun h hm => h 10 hm rfl⟩
/-- Behind a plain byte. -/
theorem ln_sfx {s : ByteArray} {k : Nat} (h : lnP (bytesL s)) (hb : k = 0 ∨ (k ≤ s.size ∧ bt s (k - 1) < 128)) : lnP (sfx s k) := by
  rcases hb with rfl | ⟨hk, hb⟩
  · exact h
  · obtain ⟨j, rfl | rfl⟩ : ∃ j, k = 0 ∨ k = j + 1 := ⟨k - 1, by omega⟩
    · exact h
    · have e : bytesL s = (bytesL s).take j ++ s.get! j :: sfx s (j + 1) := by
        have := sfx_cons s j (by omega)
        rw [← this]; exact (List.take_append_drop j (bytesL s)).symm
      rw [e] at h
      exact ln_right (by show bt s j < 128; exact hb) h
/-- Ahead of a plain byte. -/
theorem ln_pre {l : List UInt8} {k : Nat} (h : lnP l) (hb : l.length ≤ k ∨ ∃ x : UInt8, l[k]? = some x ∧ x.toNat < 128) : lnP (l.take k) := by
  rcases hb with hb | ⟨x, hx, hb⟩
  · rw [List.take_of_length_le hb]; exact h
  · have hk : k < l.length := by
      rcases Nat.lt_or_ge k l.length with hl | hl
      · exact hl
      · rw [List.getElem?_eq_none hl] at hx; cases hx
    have e : l = l.take k ++ x :: l.drop (k + 1) := by
      rw [List.getElem?_eq_getElem hk] at hx
      injection hx with hx
      rw [← hx, ← List.drop_eq_getElem_cons hk, List.take_append_drop]
    rw [e] at h
    exact ln_left hb h
theorem ln_trimF : ∀ l : List UInt8, lnP l → lnP (trimF l)
  | [], h => h
  | c :: l, h => by
    by_cases hc : c = 32
    · subst hc; rw [trimF_sp]; exact ln_trimF l (ln_tail (by decide) h)
    · rw [trimF_no l c hc]; exact h
theorem ln_trimR : ∀ (n : Nat) (l : List UInt8), l.length ≤ n → lnP l → lnP (trimR l)
  | 0, l, hl, h => by rw [List.eq_nil_of_length_eq_zero (by omega : l.length = 0)]; exact ln_nil
  | n + 1, l, hl, h => by
    rcases List.eq_nil_or_concat l with rfl | ⟨l', c, rfl⟩
    · exact ln_nil
    · rw [List.concat_eq_append] at hl h ⊢
      by_cases hc : c = 32
      · subst hc
        rw [trimR_sp]
        exact ln_trimR n l' (by rw [List.length_append, List.length_singleton] at hl; omega) (ln_left (x := 32) (b := []) (by decide) h)
      · rw [trimR_no l' c hc]; exact h
theorem ln_trimS {l : List UInt8} (h : lnP l) : lnP (trimS l) := ln_trimR _ _ (Nat.le_refl _) (ln_trimF l h)
theorem trimF_head (l : List UInt8) : (trimF l).head? ≠ some 32 := by
  induction l with
  | nil => simp [trimF]
  | cons c l ih =>
    by_cases hc : c = 32
    · subst hc; rw [trimF_sp]; exact ih
    · rw [trimF_no l c hc]; simpa using hc
theorem trimR_pre : ∀ (n : Nat) (l : List UInt8), l.length ≤ n → (trimR l).getLast? ≠ some 32 ∧ ((trimR l).head? = l.head? ∨ trimR l = [])
  | 0, l, hl => by rw [List.eq_nil_of_length_eq_zero (by omega : l.length = 0)]; exact ⟨by simp [trimR], .inr rfl⟩
  | n + 1, l, hl => by
    rcases List.eq_nil_or_concat l with rfl | ⟨l', c, rfl⟩
    · exact ⟨by simp [trimR], .inr rfl⟩
    · rw [List.concat_eq_append] at hl ⊢
      by_cases hc : c = 32
      · subst hc
        rw [trimR_sp]
        obtain ⟨h1, h2⟩ := trimR_pre n l' (by rw [List.length_append, List.length_singleton] at hl; omega)
        refine ⟨h1, ?_⟩
        rcases h2 with h2 | h2
        · cases l' with
          | nil => exact .inr rfl
          | cons d l'' => exact .inl h2
        · exact .inr h2
      · rw [trimR_no l' c hc]
        exact ⟨by rw [List.getLast?_concat]; simpa using hc, .inl rfl⟩
/-- No spaces at the ends. -/
theorem trimS_ends (l : List UInt8) : (trimS l).head? ≠ some 32 ∧ (trimS l).getLast? ≠ some 32 := by
  obtain ⟨h1, h2⟩ := trimR_pre _ (trimF l) (Nat.le_refl _)
  refine ⟨?_, h1⟩
  unfold trimS
  rcases h2 with h2 | h2
  · rw [h2]; exact trimF_head l
  · rw [h2]; simp
theorem ln_unesc : ∀ (n : Nat) (l pre : List UInt8), l.length ≤ n → lnP (pre ++ l) → lnP (pre ++ unescL l)
  | 0, l, pre, hl, h => by rw [List.eq_nil_of_length_eq_zero (by omega : l.length = 0)] at h ⊢; exact h
  | n + 1, [], pre, hl, h => h
  | n + 1, c :: l, pre, hl, h => by
    have hn : l.length ≤ n := by simpa using hl
    unfold unescL
    by_cases he : escH (c :: l) = true
    · rw [if_pos he]
      cases l with
      | nil => cases he
      | cons d l' =>
        have hc : c = 92 := by
          unfold escH at he
          rw [Bool.and_eq_true, beq_iff_eq] at he
          exact he.1
        subst hc
        have h1 := ln_app (ln_left (x := 92) (by decide) h) (ln_right (x := 92) (by decide) h)
        have := ln_unesc n l' (pre ++ [d]) (by rw [List.length_cons] at hn; omega) (by rw [List.append_assoc]; exact h1)
        rw [List.append_assoc] at this
        exact this
    · rw [if_neg he]
      have := ln_unesc n l (pre ++ [c]) hn (by rw [List.append_assoc]; exact h)
      rw [List.append_assoc] at this
      exact this
theorem ln_unescL {l : List UInt8} (h : lnP l) : lnP (unescL l) := ln_unesc _ l [] (Nat.le_refl _) h
theorem scan_at (a b : UInt8) : ∀ (n : Nat) (l : List UInt8), l.length ≤ n → ∀ k, scanL a b l = some k → l[k]? = some a
  | 0, l, h, k, hk => by rw [List.eq_nil_of_length_eq_zero (by omega : l.length = 0)] at hk; cases hk
  | n + 1, [], _, k, hk => by cases hk
  | n + 1, c :: l, h, k, hk => by
    rw [scanL_cons] at hk
    split at hk
    · rename_i e; injection hk with hk; subst hk; rw [e]; rfl
    · split at hk
      · cases hk
      · split at hk
        · cases l with
          | nil => cases hk
          | cons d l' =>
            simp only [Option.map_eq_some_iff] at hk
            obtain ⟨j, hj, rfl⟩ := hk
            exact scan_at a b n l' (by simp at h; omega) j hj
        · simp only [Option.map_eq_some_iff] at hk
          obtain ⟨j, hj, rfl⟩ := hk
          exact scan_at a b n l (by simp at h; omega) j hj
theorem dest_at : ∀ (n : Nat) (o : Nat) (l : List UInt8), l.length ≤ n → ∀ k, destL o l = some k → l.length ≤ k ∨ ∃ x : UInt8, l[k]? = some x ∧ x.toNat < 128
  | 0, o, l, h, k, hk => .inl (by omega)
  | n + 1, o, [], _, k, hk => .inl (Nat.zero_le _)
  | n + 1, o, c :: l, h, k, hk => by
    have hl : l.length ≤ n := by simp at h; omega
    rw [destL_cons] at hk
    split at hk
    · rename_i hs
      split at hk
      · injection hk with hk; subst hk
        refine .inr ⟨c, rfl, ?_⟩
        rcases hs with hs | hs | ⟨hs, _⟩ <;> subst hs <;> decide
      · cases hk
    · split at hk
      · cases l with
        | nil => cases hk
        | cons d l' =>
          simp only [Option.map_eq_some_iff] at hk
          obtain ⟨j, hj, rfl⟩ := hk
          rcases dest_at n o l' (by simp at h; omega) j hj with e | e
          · exact .inl (by simp; omega)
          · exact .inr e
      · split at hk
        · split at hk
          · cases hk
          · simp only [Option.map_eq_some_iff] at hk
            obtain ⟨j, hj, rfl⟩ := hk
            rcases dest_at n _ l hl j hj with e | e
            · exact .inl (by simp; omega)
            · exact .inr e
        · split at hk
          · simp only [Option.map_eq_some_iff] at hk
            obtain ⟨j, hj, rfl⟩ := hk
            rcases dest_at n _ l hl j hj with e | e
            · exact .inl (by simp; omega)
            · exact .inr e
          · simp only [Option.map_eq_some_iff] at hk
            obtain ⟨j, hj, rfl⟩ := hk
            rcases dest_at n _ l hl j hj with e | e
            · exact .inl (by simp; omega)
            · exact .inr e
theorem ln_betw {s : ByteArray} {i a b : Nat} {r : List UInt8 × Nat} (hl : lnP (bytesL s)) (hi : i < s.size) (hb : bt s i < 128) (ha : a < 128) (h : betw s i a b = some r) : lnP r.1 ∧ r.2 ≤ s.size ∧ 1 ≤ r.2 ∧ bt s (r.2 - 1) < 128 := by
  unfold betw at h
  simp only [Option.map_eq_some_iff] at h
  obtain ⟨k, hk, rfl⟩ := h
  have hlt := scanA_lt hk
  unfold scanA at hk
  simp only [Option.map_eq_some_iff] at hk
  obtain ⟨j, hj, rfl⟩ := hk
  have hat := scan_at _ _ _ _ (Nat.le_refl _) j hj
  have ha' : (UInt8.ofNat a).toNat = a := ofNat_toNat a (by omega)
  have h1 : lnP (sfx s (i + 1)) := ln_sfx hl (.inr ⟨by omega, by rw [Nat.add_sub_cancel]; exact hb⟩)
  have h2 : sub s (i + 1) (j + (i + 1)) = (sfx s (i + 1)).take j := by
    show ((bytesL s).drop (i + 1)).take (j + (i + 1) - (i + 1)) = _
    rw [Nat.add_sub_cancel]; rfl
  refine ⟨?_, by show j + (i + 1) + 1 ≤ _; omega, by show 1 ≤ j + (i + 1) + 1; omega, ?_⟩
  · show lnP (unescL (sub s (i + 1) (j + (i + 1))))
    rw [h2]
    exact ln_unescL (ln_pre h1 (.inr ⟨_, hat, by rw [ha']; exact ha⟩))
  · show bt s (j + (i + 1) + 1 - 1) < 128
    rw [Nat.add_sub_cancel]
    have e : sfx s (j + (i + 1)) = s.get! (j + (i + 1)) :: sfx s (j + (i + 1) + 1) := sfx_cons s _ (by omega)
    have e2 : (sfx s (i + 1))[j]? = some (s.get! (j + (i + 1))) := by
      have : (sfx s (j + (i + 1)))[0]? = some (s.get! (j + (i + 1))) := by rw [e]; rfl
      unfold sfx at this ⊢
      rw [List.getElem?_drop] at this ⊢
      rw [← this]; congr 1; omega
    rw [e2] at hat
    injection hat with hat
    show (s.get! (j + (i + 1))).toNat < 128
    rw [hat, ha']; exact ha
theorem bt_pre {s : ByteArray} {i j : Nat} {x : UInt8} (h : (sfx s i)[j]? = some x) : bt s (i + j) = x.toNat ∧ i + j < s.size := by
  unfold sfx at h
  rw [List.getElem?_drop] at h
  have hlt : i + j < (bytesL s).length := by
    rcases Nat.lt_or_ge (i + j) (bytesL s).length with h1 | h1
    · exact h1
    · rw [List.getElem?_eq_none h1] at h; cases h
  rw [bytesL_length] at hlt
  refine ⟨?_, hlt⟩
  have e := sfx_cons s (i + j) hlt
  have : (sfx s (i + j))[0]? = some (s.get! (i + j)) := by rw [e]; rfl
  unfold sfx at this
  rw [List.getElem?_drop, Nat.add_zero, h] at this
  injection this with this
  show (s.get! (i + j)).toNat = _
  rw [this]
theorem ln_from {s : ByteArray} {k : Nat} (h : lnP (bytesL s)) (hb : s.size ≤ k ∨ bt s k < 128) : lnP (sfx s k) := by
  by_cases hk : k < s.size
  · have hb : bt s k < 128 := hb.resolve_left (by omega)
    have e : bytesL s = (bytesL s).take k ++ s.get! k :: sfx s (k + 1) := by
      rw [← sfx_cons s k hk]; exact (List.take_append_drop k (bytesL s)).symm
    rw [e] at h
    rw [sfx_cons s k hk]
    exact ln_app (a := [s.get! k]) (ln_one (by show bt s k < 128; exact hb) h) (ln_right (by show bt s k < 128; exact hb) h)
  · rw [sfx_nil s k (by omega)]; exact ln_nil
theorem ln_destR {s : ByteArray} {r : List UInt8 × Nat} (hl : lnP (bytesL s)) (h : destR s 0 = some r) : lnP r.1 ∧ lnP (sfx s r.2) := by
  have hle := destR_le h
  unfold destR at h
  split at h
  · rename_i hi
    have h0 : (0 : Int).toNat = 0 := rfl
    rw [h0] at h
    split at h
    · rename_i h60
      obtain ⟨h1, h2, h3, h4⟩ := ln_betw hl (by omega) (by omega) (by decide) h
      exact ⟨h1, ln_sfx hl (.inr ⟨h2, h4⟩)⟩
    · rw [Option.bind_eq_some_iff] at h
      obtain ⟨k, hk, h⟩ := h
      split at h
      · cases h
      · injection h with h
        subst h
        unfold destA at hk
        simp only [Option.map_eq_some_iff] at hk
        obtain ⟨j, hj, rfl⟩ := hk
        have hat := dest_at _ _ _ (Nat.le_refl _) j hj
        have h2 : sub s 0 (j + 0) = (bytesL s).take j := rfl
        refine ⟨?_, ln_from hl ?_⟩
        · show lnP (unescL (sub s 0 (j + 0)))
          rw [h2]
          exact ln_unescL (ln_pre hl hat)
        · rcases hat with e | ⟨x, hx, hb⟩
          · left; show s.size ≤ j + 0
            have e : (bytesL s).length ≤ j := e
            rw [bytesL_length] at e; omega
          · right
            show bt s (j + 0) < 128
            have := bt_pre (s := s) (i := 0) (j := j) hx
            rw [Nat.zero_add] at this
            rw [Nat.add_zero, this.1]; exact hb
  · cases h
theorem ln_titleR {s : ByteArray} {r : List UInt8 × Nat} (hl : lnP (bytesL s)) (h : titleR s 0 = some r) : lnP r.1 := by
  unfold titleR at h
  split at h
  · rename_i hi
    have h0 : (0 : Int).toNat = 0 := rfl
    rw [h0] at h
    split at h
    · exact (ln_betw hl (by omega) (by omega) (by decide) h).1
    · split at h
      · exact (ln_betw hl (by omega) (by omega) (by decide) h).1
      · cases h
  · cases h
end Go.Proofs.YtpoafhgbhnblmaaGreatDoor
namespace Go.Proofs.YtpoafhgbhnblmaaGreatDoor
open Go.RowKit Go.Pub
theorem ln_ext {s : ByteArray} {k : Nat} (h : lnP (sfx s k)) : lnP (bytesL (s.extract k s.size)) := by rw [extract_drop, bytesL_mk']; exact h
theorem ind_sp : ∀ (l : List UInt8) (j : Nat), j < indN l → l[j]? = some 32
  | [], j, h => absurd h (Nat.not_lt_zero _)
  | c :: l, j, h => by
    unfold indN at h
    by_cases hc : c = 32
    · rw [if_pos hc] at h
      cases j with
      | zero => rw [hc]; rfl
      | succ j => exact ind_sp l j (by omega)
    · rw [if_neg hc] at h; omega
theorem indA_sp' {s : ByteArray} {j : Nat} (h : j < indA s 0) : bt s j = 32 := by
  unfold indA at h
  have := bt_pre (s := s) (i := 0) (j := j) (ind_sp _ j (by omega))
  rw [Nat.zero_add] at this
  exact this.1
theorem ln_ind {s : ByteArray} {k : Nat} (h : lnP (bytesL s)) (hk : k ≤ indA s 0) : lnP (sfx s k) := by
  refine ln_sfx h ?_
  rcases Nat.eq_zero_or_pos k with e | e
  · exact .inl e
  · have := indA_le s
    exact .inr ⟨by omega, by rw [indA_sp' (by omega : k - 1 < indA s 0)]; decide⟩
theorem ln_strip {s : ByteArray} {n : Nat} (h : lnP (bytesL s)) : lnP (bytesL (stripB s n)) := ln_ext (ln_ind h (Nat.min_le_right _ _))
theorem ln_tl1 {s : ByteArray} (h : lnP (bytesL s)) (hb : s.size = 0 ∨ bt s 0 < 128) : lnP (bytesL (tl1 s)) := by
  refine ln_ext ?_
  rcases hb with hb | hb
  · rw [sfx_nil s 1 (by omega)]; exact ln_nil
  · by_cases h0 : s.size = 0
    · rw [sfx_nil s 1 (by omega)]; exact ln_nil
    · exact ln_sfx h (.inr ⟨by omega, hb⟩)
theorem ln_sp {s : ByteArray} (h : lnP (bytesL s)) (hb : spB s = true) : lnP (bytesL (tl1 s)) := by
  unfold spB at hb
  rw [Bool.or_eq_true, decide_eq_true_eq, decide_eq_true_eq] at hb
  exact ln_tl1 h (hb.imp id fun e => by omega)
theorem ln_pfx {s : ByteArray} {p : List UInt8} (h : lnP (bytesL s)) (hp : Lib.hasPrefix (bytesL s) p = true) (ha : ∀ x ∈ p, x.toNat < 128) : lnP (sfx s p.length) := by
  have hp' : p <+: bytesL s := by simpa [Lib.hasPrefix] using hp
  clear hp
  obtain ⟨r, hr⟩ := hp'
  have e : sfx s p.length = r := by
    unfold sfx; rw [← hr, List.drop_left]
  rw [e]
  rw [← hr] at h
  clear hr e
  induction p with
  | nil => exact h
  | cons x p ih => exact ih (fun y hy => ha y (List.mem_cons_of_mem _ hy)) (ln_tail (ha x (by simp)) h)
theorem firstN_lt {s : ByteArray} {p : Nat → Bool} {j : Nat} (h : j < firstN s p) : p (bt s j) = false := by
  have hl := firstN_le s p
  have hj : j < (bytesL s).length := by rw [bytesL_length]; omega
  have e := bytesL_at s j (by omega)
  unfold firstN at h
  have := List.not_of_lt_findIdx h
  rw [List.getElem?_eq_getElem hj] at e
  injection e with e
  rw [e] at this
  show p (s.get! j).toNat = false
  simpa using this
theorem numVal_bd (c : ByteArray) : ∀ k, (∀ j, j < k → digN (bt c j) = true) → numVal c k < 10 ^ k
  | 0, _ => by show 0 < 10 ^ 0; decide
  | k + 1, h => by
    have ih := numVal_bd c k fun j hj => h j (by omega)
    have hd := h k (by omega)
    have e : numVal c (k + 1) = 10 * numVal c k + (bt c k - 48) := by
      unfold numVal; rw [List.range_succ, List.foldl_append]; rfl
    unfold digN at hd
    rw [Bool.and_eq_true, decide_eq_true_iff, decide_eq_true_iff] at hd
    rw [e, Nat.pow_succ]
    omega
/-- A label. -/
def labP (s : ByteArray) : Prop := s ≠ ⟨#[]⟩ ∧ s.size ≤ 60 ∧ foldL s = bytesL s ∧ (pts s).all (fun p => labB p.1) = true
theorem lab_of {l : List UInt8} (h : labelL l ≠ []) : labP (mk (labelL l)) := by
  unfold labelL at h ⊢
  by_cases h1 : 60 < (foldL (mk l)).length
  · rw [if_pos h1] at h; exact absurd rfl h
  rw [if_neg h1] at h ⊢
  by_cases h2 : ((pts (mk (foldL (mk l)))).all fun p => labB p.1) = true
  · rw [if_pos h2] at h ⊢
    refine ⟨fun e => h ?_, by rw [mk_size]; omega, by rw [fold_fold, bytesL_mk'], h2⟩
    have := congrArg bytesL e
    rw [bytesL_mk'] at this
    exact this
  · rw [if_neg h2] at h; exact absurd rfl h
def trmP (s : ByteArray) : Prop := (bytesL s).head? ≠ some 32 ∧ (bytesL s).getLast? ≠ some 32
/-- What a mark holds. -/
structure MkG (s : ByteArray) (m : MkL) : Prop where
  rest : m.kind = 4 ∨ m.kind = 5 ∨ m.kind = 6 ∨ m.kind = 10 → lnP (bytesL m.rest) ∧ m.rest.size ≤ s.size
  head : m.kind = 2 → 1 ≤ m.n ∧ m.n ≤ 6 ∧ VA m.att
  num : m.kind = 6 → m.n ≤ 999999999
  fen : m.kind = 7 → lnP (bytesL m.info) ∧ trmP m.info ∧ m.info.size ≤ s.size
  div : m.kind = 9 → nameB m.info = true ∧ VA m.att
  note : m.kind = 10 → nameB m.info = true
  deff : m.kind = 11 → labP m.info ∧ lnP (bytesL m.dest) ∧ lnP (bytesL m.title) ∧ m.dest.size ≤ s.size ∧ m.title.size ≤ s.size
theorem MkG.of {s : ByteArray} {m : MkL} (h4 : m.kind ≠ 4) (h5 : m.kind ≠ 5) (h6 : m.kind ≠ 6) (h10 : m.kind ≠ 10) (h2 : m.kind = 2 → 1 ≤ m.n ∧ m.n ≤ 6 ∧ VA m.att) (h7 : m.kind = 7 → lnP (bytesL m.info) ∧ trmP m.info ∧ m.info.size ≤ s.size)
    (h9 : m.kind = 9 → nameB m.info = true ∧ VA m.att) (h11 : m.kind = 11 → labP m.info ∧ lnP (bytesL m.dest) ∧ lnP (bytesL m.title) ∧ m.dest.size ≤ s.size ∧ m.title.size ≤ s.size) : MkG s m :=
  ⟨fun h => by omega, h2, fun h => absurd h h6, h7, h9, fun h => absurd h h10, h11⟩
theorem MkG.none_ {s : ByteArray} {m : MkL} (h : m.kind = 0 ∨ m.kind = 1 ∨ m.kind = 3 ∨ m.kind = 8) : MkG s m :=
  MkG.of (by omega) (by omega) (by omega) (by omega) (fun h => by omega) (fun h => by omega) (fun h => by omega) (fun h => by omega)
theorem parse_va (s : ByteArray) (k : Nat) (hk : k < s.size) (h1 : (parseL s k).2.2 = 0) (h2 : (parseL s k).2.1 = s.size) : VA (parseL s k).1 := by
  obtain ⟨hi, ha⟩ := parse_rest s k hk
  rw [← ha ⟨h1, h2⟩]
  exact ((reads_pure _).1 (hi.2 ⟨h1, h2⟩).1).1
theorem attrEnd_va (s : ByteArray) : VA (attrEndR s).2 := by
  unfold attrEndR
  by_cases h : attrK s < s.size
  · rw [if_pos h]
    have hat : attrOkB s (attrK s) = true := by
      have hlt : (List.range s.size).findIdx (attrOkB s) < (List.range s.size).length := by rw [List.length_range]; exact h
      have := List.findIdx_getElem (w := hlt)
      rw [List.getElem_range] at this
      exact this
    unfold attrOkB at hat
    simp only [Bool.and_eq_true, decide_eq_true_eq] at hat
    exact parse_va s _ h hat.2.1 hat.2.2
  · rw [if_neg h]; exact VA.empty
theorem only_va {s : ByteArray} {a : AttrL} (h : onlyR s = some a) : VA a := by
  unfold onlyR at h
  split at h
  · injection h with h; subst h; exact VA.empty
  · split at h
    · rename_i h2
      injection h with h; subst h
      exact ((reads_pure _).1 h2.1).1
    · cases h
theorem cutRest_ln {s : ByteArray} (h : lnP (bytesL s)) : lnP (bytesL (cutRest s)) := by
  unfold cutRest
  by_cases hb : brk (bytesL s) < s.size
  · rw [if_pos hb]
    refine ln_ext (ln_sfx h (.inr ⟨hb, ?_⟩))
    rw [Nat.add_sub_cancel]
    have hlt : (bytesL s).findIdx (· == 93) < (bytesL s).length := by rw [bytesL_length]; exact hb
    have := List.findIdx_getElem (w := hlt)
    rw [beq_iff_eq] at this
    have e := bytesL_at s (brk (bytesL s)) hb
    rw [show brk (bytesL s) = (bytesL s).findIdx (· == 93) from rfl] at e ⊢
    rw [List.getElem?_eq_getElem hlt, this] at e
    injection e with e
    show (s.get! _).toNat < 128
    rw [← e]; decide
  · rw [if_neg hb]; exact ln_nil
theorem ln_triL : ∀ l : List UInt8, lnP l → lnP (triL l)
  | [], h => h
  | c :: l, h => by
    rw [triL_cons]
    by_cases hc : c = 32
    · rw [if_pos hc]; subst hc; exact ln_triL l (ln_tail (by decide) h)
    · rw [if_neg hc]; exact h
theorem ln_triB {s : ByteArray} (h : lnP (bytesL s)) : lnP (bytesL (triB s)) := by unfold triB; rw [bytesL_mk']; exact ln_triL _ h
theorem head_good {s c : ByteArray} {m : MkL} (h : headM c = some m) : MkG s m := by
  have hk := head_kind h
  refine MkG.of (by omega) (by omega) (by omega) (by omega) (fun _ => ?_) (fun h => by omega) (fun h => by omega) (fun h => by omega)
  unfold headM at h
  split at h
  · rename_i h1
    split at h
    · injection h with h; subst h
      exact ⟨h1.1, h1.2, attrEnd_va _⟩
    · cases h
  · cases h
theorem bullet_good {s c : ByteArray} {ind : Nat} {m : MkL} (hs : c.size ≤ s.size) (hl : lnP (bytesL c)) (h : bulletM c ind = some m) : MkG s m := by
  have hm := bullet_some h
  unfold bulletM at h
  split at h
  · rename_i h0
    split at h
    · rename_i h1
      subst hm
      refine ⟨fun _ => ⟨?_, ?_⟩, (fun h => nomatch h), (fun h => nomatch h), (fun h => nomatch h), (fun h => nomatch h), (fun h => nomatch h), (fun h => nomatch h)⟩
      · exact ln_sp (ln_tl1 hl (.inr (by omega))) h1
      · show (tl1 (tl1 c)).size ≤ _
        rw [tl1_size, tl1_size]; omega
    · cases h
  · cases h
theorem number_good {s c : ByteArray} {ind : Nat} {m : MkL} (hs : c.size ≤ s.size) (hl : lnP (bytesL c)) (h : numberM c ind = some m) : MkG s m := by
  have hv := numVal_bd c (numDig c) fun j hj => by
    have := firstN_lt (p := fun b => !digN b) hj
    simpa using this
  unfold numberM numR at h
  generalize numDig c = k at h hv
  generalize numVal c k = v at h hv
  split at h
  · rename_i h0
    split at h
    · rename_i h1
      injection h with h; subst h
      refine ⟨fun _ => ⟨?_, ?_⟩, (fun h => nomatch h), (fun _ => ?_), (fun h => nomatch h), (fun h => nomatch h), (fun h => nomatch h), (fun h => nomatch h)⟩
      · exact ln_sp (ln_ext (ln_sfx hl (.inr ⟨by omega, by rw [Nat.add_sub_cancel]; omega⟩))) h1
      · show (tl1 (c.extract (k + 1) c.size)).size ≤ _
        rw [tl1_size, ByteArray.size_extract]; omega
      · have : 10 ^ k ≤ 10 ^ 9 := Nat.pow_le_pow_right (by decide) h0.1.2.1
        show v ≤ 999999999
        have e : 10 ^ 9 = 1000000000 := by decide
        omega
    · cases h
  · cases h
theorem fence_good {s c : ByteArray} {ind : Nat} {m : MkL} (hs : c.size ≤ s.size) (hl : lnP (bytesL c)) (h : fenceM c ind = some m) : MkG s m := by
  unfold fenceM at h
  have hf := fun j (hj : j < firstN c (· != bt c 0)) => firstN_lt hj
  have hle := firstN_le c (· != bt c 0)
  generalize firstN c (· != bt c 0) = n at h hf hle
  split at h
  · rename_i h0
    split at h
    · rename_i h1
      injection h with h; subst h
      refine MkG.of (show (7 : Nat) ≠ 4 by decide) (show (7 : Nat) ≠ 5 by decide) (show (7 : Nat) ≠ 6 by decide) (show (7 : Nat) ≠ 10 by decide) (fun h => nomatch h) (fun _ => ?_) (fun h => nomatch h) (fun h => nomatch h)
      refine ⟨?_, ?_, Nat.le_trans (mk_trim_le c n) hs⟩
      · show lnP (bytesL (mk _))
        rw [bytesL_mk']
        refine ln_trimS (ln_sfx hl ?_)
        rcases Nat.eq_zero_or_pos n with e | e
        · exact .inl e
        · have := hf (n - 1) (by omega)
          simp only [bne_eq_false_iff_eq] at this
          exact .inr ⟨hle, by rw [this]; omega⟩
      · show (bytesL (mk _)).head? ≠ some 32 ∧ (bytesL (mk _)).getLast? ≠ some 32
        rw [bytesL_mk']
        exact trimS_ends _
    · cases h
  · cases h
theorem div_good {s c : ByteArray} {m : MkL} (h : divM c = some m) : MkG s m := by
  have hk := div_kind h
  refine MkG.of (by omega) (by omega) (by omega) (by omega) (fun h => by omega) (fun h => by omega) (fun _ => ?_) (fun h => by omega)
  unfold divM at h
  split at h
  · unfold divT at h
    split at h
    · rename_i h1
      rw [Option.map_eq_some_iff] at h
      obtain ⟨a, ha, rfl⟩ := h
      exact ⟨h1, only_va ha⟩
    · cases h
  · cases h
theorem note_good {s c : ByteArray} {m : MkL} (hs : c.size ≤ s.size) (hl : lnP (bytesL c)) (h : noteM c = some m) : MkG s m := by
  obtain ⟨_, hm⟩ := note_some h
  unfold noteM noteX at h
  split at h
  · rename_i h0
    split at h
    · rename_i h1
      have g2 : lnP (sfx c 2) := ln_pfx (p := [91, 94]) hl h0 (by decide)
      have h2 : lnP (bytesL (cutRest (c.extract 2 c.size))) := cutRest_ln (ln_ext g2)
      have g3 : lnP (sfx (cutRest (c.extract 2 c.size)) 1) := ln_pfx (p := [58]) h2 h1.2.2 (by decide)
      have g4 : lnP (bytesL (stripB (tl1 (cutRest (c.extract 2 c.size))) 1)) := ln_strip (by rw [tl1_sfx, bytesL_mk']; exact g3)
      have hn := h1.2.1
      have hmk : m.kind = 10 ∧ m.info = cutHead (c.extract 2 c.size) ∧ m.rest = stripB (tl1 (cutRest (c.extract 2 c.size))) 1 := by rw [hm]; exact ⟨rfl, rfl, rfl⟩
      obtain ⟨m1, m2, m3⟩ := hmk
      refine ⟨fun _ => ?_, (fun h => by omega), (fun h => by omega), (fun h => by omega), (fun h => by omega), (fun _ => by rw [m2]; exact hn), (fun h => by omega)⟩
      rw [m3]
      refine ⟨g4, ?_⟩
      · have a1 := stripB_size (tl1 (cutRest (c.extract 2 c.size))) 1
        have a2 := tl1_size (cutRest (c.extract 2 c.size))
        have a3 := cutRest_size (c.extract 2 c.size)
        have a4 := extract_le c 2 c.size
        omega
    · cases h
  · cases h
theorem def_good {s c : ByteArray} {m : MkL} (hs : c.size ≤ s.size) (hl : lnP (bytesL c)) (h : defM c = some m) : MkG s m := by
  have hk := def_kind h
  refine MkG.of (by omega) (by omega) (by omega) (by omega) (fun h => by omega) (fun h => by omega) (fun h => by omega) (fun _ => ?_)
  unfold defM at h
  split at h
  · rename_i h0
    have hT : lnP (bytesL (triB (tl1 (cutRest (tl1 c))))) := by
      have h2 : lnP (bytesL (cutRest (tl1 c))) := cutRest_ln (ln_tl1 hl (.inr (by omega)))
      have g3 : lnP (sfx (cutRest (tl1 c)) 1) := ln_pfx (p := [58]) h2 h0.2.2.1 (by decide)
      exact ln_triB (by rw [tl1_sfx, bytesL_mk']; exact g3)
    have hz : (triB (tl1 (cutRest (tl1 c)))).size ≤ s.size := by
      have a1 := triB_size (tl1 (cutRest (tl1 c)))
      have a2 := tl1_size (cutRest (tl1 c))
      have a3 := cutRest_size (tl1 c)
      have a4 := tl1_size c
      omega
    have hL := lab_of h0.2.2.2
    generalize triB (tl1 (cutRest (tl1 c))) = T at h hT hz
    unfold defTail at h
    cases hd : destR T 0 with
    | none => rw [hd] at h; cases h
    | some d =>
      obtain ⟨d, p⟩ := d
      rw [hd] at h
      obtain ⟨d1, d2⟩ := ln_destR hT hd
      have d3 := (destR_le hd).2.2
      have d4 : lnP (bytesL (triB (T.extract p T.size))) := ln_triB (ln_ext d2)
      have d5 : (triB (T.extract p T.size)).size ≤ s.size := Nat.le_trans (triB_size _) (Nat.le_trans (extract_le _ _ _) hz)
      have d6 : (mk d).size ≤ s.size := by rw [mk_size]; exact Nat.le_trans d3 hz
      have d7 : lnP (bytesL (mk d)) := by rw [bytesL_mk']; exact d1
      simp only [] at h
      generalize triB (T.extract p T.size) = A at h d4 d5
      unfold defTitle at h
      split at h
      · injection h with h; subst h
        exact ⟨hL, d7, ln_nil, d6, Nat.zero_le _⟩
      · split at h
        · cases h
        · cases ht : titleR A 0 with
          | none => rw [ht] at h; cases h
          | some t =>
            obtain ⟨t, q⟩ := t
            rw [ht] at h
            simp only [] at h
            have t1 := ln_titleR d4 ht
            have t2 := (titleR_le ht).2.2
            split at h
            · injection h with h; subst h
              refine ⟨hL, d7, ?_, d6, ?_⟩
              · show lnP (bytesL (mk t)); rw [bytesL_mk']; exact t1
              · show (mk t).size ≤ _; rw [mk_size]; exact Nat.le_trans t2 d5
            · cases h
  · cases h
theorem mark_good (s : ByteArray) (hl : lnP (bytesL s)) : MkG s (markM s) := by
  unfold markM
  by_cases hb : blankB s = true
  · rw [if_pos hb]; exact MkG.none_ (.inr (.inl rfl))
  rw [if_neg hb]
  have hc : lnP (bytesL (s.extract (indA s 0) s.size)) := ln_ext (ln_ind hl (Nat.le_refl _))
  have hs : (s.extract (indA s 0) s.size).size ≤ s.size := extract_le _ _ _
  generalize s.extract (indA s 0) s.size = c at hc hs
  unfold markC
  by_cases h3 : 3 < indA s 0
  · rw [if_pos h3]; exact MkG.none_ (.inl rfl)
  rw [if_neg h3]
  cases hf : firstS (rdrs c (indA s 0)) with
  | none => exact MkG.none_ (.inl rfl)
  | some m =>
    have h := first_mem _ _ hf
    show MkG s m
    unfold rdrs at h
    simp only [List.mem_cons, List.not_mem_nil, or_false] at h
    rcases h with h | h | h | h | h | h | h | h | h | h
    · exact head_good h.symm
    · exact MkG.none_ (.inr (.inr (.inl (rule_kind h.symm))))
    · obtain ⟨h0, rfl⟩ := quote_some h.symm
      refine ⟨fun _ => ⟨ln_strip (ln_tl1 hc (.inr (by omega))), ?_⟩, (fun h => nomatch h), (fun h => nomatch h), (fun h => nomatch h), (fun h => nomatch h), (fun h => nomatch h), (fun h => nomatch h)⟩
      show (stripB (tl1 c) 1).size ≤ _
      have a1 := stripB_size (tl1 c) 1
      have a2 := tl1_size c
      omega
    · exact bullet_good hs hc h.symm
    · exact number_good hs hc h.symm
    · exact fence_good hs hc h.symm
    · exact MkG.none_ (.inr (.inr (.inr (math_kind h.symm))))
    · exact div_good h.symm
    · exact note_good hs hc h.symm
    · exact def_good hs hc h.symm
end Go.Proofs.YtpoafhgbhnblmaaGreatDoor
namespace Go.Proofs.YtpoafhgbhnblmaaGreatDoor
open Go.RowKit Go.Pub
/-- The text that stands for a source. -/
def xT : ByteArray := ⟨#[120]⟩
mutual
/-- The block with its sources replaced. -/
def srcB : BkT → BkT
  | .mk k lv i t d ti a l ks => .mk k lv i t d ti a (if l.size = 0 then l else xT) (srcK ks)
def srcK : List BkT → List BkT
  | [] => []
  | b :: bs => srcB b :: srcK bs
end
theorem srcK_len : ∀ bs : List BkT, (srcK bs).length = bs.length
  | [] => rfl
  | b :: bs => by rw [srcK, List.length_cons, srcK_len bs, List.length_cons]
theorem srcK_mem : ∀ {bs : List BkT} {b : BkT}, b ∈ srcK bs → ∃ c, c ∈ bs ∧ b = srcB c
  | [], b, h => by cases h
  | c :: bs, b, h => by
    rw [srcK, List.mem_cons] at h
    rcases h with h | h
    · exact ⟨c, List.mem_cons_self, h⟩
    · obtain ⟨d, h1, h2⟩ := srcK_mem h
      exact ⟨d, List.mem_cons_of_mem _ h1, h2⟩
def kdT : BkT → Nat | .mk k _ _ _ _ _ _ _ _ => k
def ksT : BkT → List BkT | .mk _ _ _ _ _ _ _ _ ks => ks
theorem ksT_src (b : BkT) : ksT (srcB b) = srcK (ksT b) := by cases b; rw [srcB]; rfl
/-- A line would close a formula. -/
def cloB (z : ByteArray) : Bool := decide (indA z 0 ≤ 3) && (Lib.hasPrefix (sfx z (indA z 0)) [36, 36] && (onlyR (mk (sfx z (indA z 0 + 2)))).isSome)
/-- Lines that are clean, few and short. -/
structure ClnL (zs : List ByteArray) : Prop where
  len : zs.length ≤ 60
  sz : ∀ z ∈ zs, z.size ≤ 150
  lns : ∀ z ∈ zs, lnP (bytesL z)
def tabC (b : UInt8) : Prop := b = 45 ∨ b = 108 ∨ b = 99 ∨ b = 114
/-- A block that is well-formed by itself. -/
inductive FormB : BkT → Prop
  | para : FormB (.mk 1 0 ⟨#[]⟩ ⟨#[]⟩ ⟨#[]⟩ ⟨#[]⟩ emptyA xT [])
  | head (n : Nat) (att : AttrL) (l : ByteArray) (h1 : 1 ≤ n) (h6 : n ≤ 6) (ha : VA att) (hs : SmallA 150 att) (hl : l = ⟨#[]⟩ ∨ l = xT) : FormB (.mk 2 n ⟨#[]⟩ ⟨#[]⟩ ⟨#[]⟩ ⟨#[]⟩ att l [])
  | code (info : ByteArray) (ls : List ByteArray) (h1 : lnP (bytesL info)) (h2 : trmP info) (h3 : info.size ≤ 150) (hc : ClnL ls) : FormB (.mk 3 0 info (mk (joinN ls)) ⟨#[]⟩ ⟨#[]⟩ emptyA ⟨#[]⟩ [])
  | math (ls : List ByteArray) (att : AttrL) (hc : ClnL ls) (hn : ∀ z ∈ ls, cloB z = false) (ha : VA att) (hs : SmallA 150 att) : FormB (.mk 4 0 ⟨#[]⟩ (mk (joinN ls)) ⟨#[]⟩ ⟨#[]⟩ att ⟨#[]⟩ [])
  | rule : FormB (.mk 5 0 ⟨#[]⟩ ⟨#[]⟩ ⟨#[]⟩ ⟨#[]⟩ emptyA ⟨#[]⟩ [])
  | holds (k : Nat) (hk : k = 6 ∨ k = 9 ∨ k = 11) (ks : List BkT) : FormB (.mk k 0 ⟨#[]⟩ ⟨#[]⟩ ⟨#[]⟩ ⟨#[]⟩ emptyA ⟨#[]⟩ ks)
  | list (k n : Nat) (hk : (k = 7 ∧ n = 0) ∨ (k = 8 ∧ n ≤ 999999999)) (ks : List BkT) (h : ks ≠ []) : FormB (.mk k n ⟨#[]⟩ ⟨#[]⟩ ⟨#[]⟩ ⟨#[]⟩ emptyA ⟨#[]⟩ ks)
  | table (r : List UInt8) (ks : List BkT) (h1 : r ≠ []) (h2 : r.length ≤ 32) (h3 : ∀ b ∈ r, tabC b) (h4 : ks ≠ []) (h5 : ∀ b ∈ ks, (ksT b).length = r.length) : FormB (.mk 10 0 (mk r) ⟨#[]⟩ ⟨#[]⟩ ⟨#[]⟩ emptyA ⟨#[]⟩ ks)
  | cell (l : ByteArray) (hl : l = ⟨#[]⟩ ∨ l = xT) : FormB (.mk 12 0 ⟨#[]⟩ ⟨#[]⟩ ⟨#[]⟩ ⟨#[]⟩ emptyA l [])
  | div (k : Nat) (hk : k = 13 ∨ k = 14) (info : ByteArray) (att : AttrL) (ks : List BkT) (h1 : nameB info = true) (ha : VA att) (hs : SmallA 150 att) (h14 : k = 14 → att = emptyA) : FormB (.mk k 0 info ⟨#[]⟩ ⟨#[]⟩ ⟨#[]⟩ att ⟨#[]⟩ ks)
  | deff (info dest title : ByteArray) (h1 : labP info) (h2 : lnP (bytesL dest)) (h3 : lnP (bytesL title)) (h4 : dest.size ≤ 150) (h5 : title.size ≤ 150) : FormB (.mk 15 0 info ⟨#[]⟩ dest title emptyA ⟨#[]⟩ [])
/-- A block of a kind may stand in one of another. -/
def fitN (k p : Nat) : Bool := if p = 7 ∨ p = 8 then k == 9 else if p = 10 then k == 11 else if p = 11 then k == 12 else !(k == 9 || k == 11 || k == 12)
/-- Blocks that are well-formed in a block of the kind p, n levels left. -/
inductive WfK : Nat → Nat → List BkT → Prop
  | nil (n p : Nat) : WfK n p []
  | cons (n p k lv : Nat) (i t d ti : ByteArray) (a : AttrL) (l : ByteArray) (ks bs : List BkT) : FormB (.mk k lv i t d ti a l ks) → fitN k p = true → ks.length ≤ 100 → WfK n k ks → WfK (n + 1) p bs → WfK (n + 1) p (.mk k lv i t d ti a l ks :: bs)
def OkB (n p : Nat) (b : BkT) : Prop := FormB (srcB b) ∧ fitN (kdT b) p = true ∧ WfK n (kdT b) (srcK (ksT b)) ∧ (ksT b).length ≤ 100
theorem WfK.of {n p : Nat} : ∀ bs : List BkT, (∀ b ∈ bs, OkB n p b) → WfK (n + 1) p (srcK bs)
  | [], _ => .nil _ _
  | b :: bs, h => by
    obtain ⟨h1, h2, h3, h5⟩ := h b List.mem_cons_self
    have h4 := WfK.of bs fun c hc => h c (List.mem_cons_of_mem _ hc)
    obtain ⟨k, lv, i, t, d, ti, a, l, ks⟩ := b
    rw [srcB] at h1
    rw [srcK, srcB]
    exact .cons n p k lv i t d ti a _ (srcK ks) (srcK bs) h1 h2 (by rw [srcK_len]; exact h5) h3 h4
def plainP (p : Nat) : Prop := p ≠ 7 ∧ p ≠ 8 ∧ p ≠ 10 ∧ p ≠ 11
theorem fit_plain {k p : Nat} (hp : plainP p) (hk : k ≠ 9 ∧ k ≠ 11 ∧ k ≠ 12) : fitN k p = true := by
  obtain ⟨p1, p2, p3, p4⟩ := hp
  unfold fitN
  rw [if_neg (by omega), if_neg p3, if_neg p4]
  simp [hk.1, hk.2.1, hk.2.2]
theorem cut_mem {zs : List ByteArray} {i k : Nat} {z : ByteArray} (h : z ∈ cutL zs i k) : z ∈ zs := List.mem_of_mem_drop (List.mem_of_mem_take h)
theorem cut_idx {zs : List ByteArray} {i k : Nat} {y : ByteArray} (h : y ∈ cutL zs i k) (hk : k ≤ zs.length) : ∃ j, i ≤ j ∧ j < k ∧ y = ln zs j := by
  unfold cutL at h
  obtain ⟨j, hj, e⟩ := List.mem_iff_getElem.1 h
  rw [List.length_take, List.length_drop] at hj
  rw [List.getElem_take, List.getElem_drop] at e
  exact ⟨i + j, by omega, by omega, by rw [← e, ln_at _ _ (by omega)]⟩
theorem ln_mem {zs : List ByteArray} {i : Nat} (h : i < zs.length) : ln zs i ∈ zs := by rw [← ln_at zs i h]; exact List.getElem_mem h
theorem ClnL.cut {zs : List ByteArray} (h : ClnL zs) (i k : Nat) : ClnL (cutL zs i k) :=
  ⟨by have := h.len; unfold cutL; rw [List.length_take, List.length_drop]; omega, fun z hz => h.sz z (cut_mem hz), fun z hz => h.lns z (cut_mem hz)⟩
theorem ClnL.strip {zs : List ByteArray} (h : ClnL zs) (n : Nat) : ClnL (zs.map fun z => stripB z n) := by
  refine ⟨by rw [List.length_map]; exact h.len, fun z hz => ?_, fun z hz => ?_⟩
  · obtain ⟨y, hy, rfl⟩ := List.mem_map.1 hz
    exact Nat.le_trans (stripB_size y n) (h.sz y hy)
  · obtain ⟨y, hy, rfl⟩ := List.mem_map.1 hz
    exact ln_strip (h.lns y hy)
theorem ClnL.mark {zs : List ByteArray} (h : ClnL zs) {i : Nat} (hi : i < zs.length) : MkG (ln zs i) (markM (ln zs i)) ∧ (ln zs i).size ≤ 150 :=
  ⟨mark_good _ (h.lns _ (ln_mem hi)), h.sz _ (ln_mem hi)⟩
theorem ClnL.quote {zs : List ByteArray} (h : ClnL zs) {i : Nat} (hi : i < zs.length) : ClnL (quoteIn zs i) := by
  have hq := seek_spec (fun j => !decide (kindOf zs j = 4)) zs.length i (by omega)
  have hk : ∀ z ∈ cutL zs i (quoteTo zs i), lnP (bytesL (markM z).rest) ∧ (markM z).rest.size ≤ 150 := fun z hz => by
    obtain ⟨j, h1, h2, rfl⟩ := cut_idx hz hq.2.1
    have h3 := hq.2.2.1 j h1 h2
    have h4 : (markM (ln zs j)).kind = 4 := by
      simp only [kindOf, Bool.not_eq_false'] at h3
      exact of_decide_eq_true h3
    have hj : j < zs.length := by have : quoteTo zs i ≤ zs.length := hq.2.1; omega
    obtain ⟨g, hz⟩ := h.mark hj
    exact ⟨(g.rest (.inl h4)).1, Nat.le_trans (g.rest (.inl h4)).2 hz⟩
  unfold quoteIn
  refine ⟨by rw [List.length_map]; exact (h.cut _ _).len, fun z hz => ?_, fun z hz => ?_⟩
  · obtain ⟨y, hy, rfl⟩ := List.mem_map.1 hz
    exact (hk y hy).2
  · obtain ⟨y, hy, rfl⟩ := List.mem_map.1 hz
    exact (hk y hy).1
theorem ClnL.cont {zs : List ByteArray} (h : ClnL zs) {i : Nat} (hi : i < zs.length) (hk : (markM (ln zs i)).kind = 5 ∨ (markM (ln zs i)).kind = 6 ∨ (markM (ln zs i)).kind = 10) : ClnL (contL zs i (markM (ln zs i))).1 := by
  obtain ⟨g, hz0⟩ := h.mark hi
  have hr := g.rest (by omega)
  have hb := contTo_bd zs i (markM (ln zs i)) hi
  generalize markM (ln zs i) = m at *
  unfold contL
  by_cases hn : contNo zs i m = true
  · rw [if_pos hn]; exact ⟨Nat.zero_le _, (fun z hz => by cases hz), (fun z hz => by cases hz)⟩
  · rw [if_neg hn]
    have hc := (h.cut (i + 1) (contTo zs i m)).strip m.off
    have hl := h.len
    refine ⟨?_, fun z hz => ?_, fun z hz => ?_⟩
    · show (_ :: _).length ≤ 60
      rw [List.length_cons, List.length_map, cutL_len zs _ _ hb.1 hb.2]; omega
    · rcases List.mem_cons.1 hz with rfl | hz
      · exact Nat.le_trans hr.2 hz0
      · exact hc.sz z hz
    · rcases List.mem_cons.1 hz with rfl | hz
      · exact hr.1
      · exact hc.lns z hz
theorem clo_eq (z ch : ByteArray) (n : Int) : (closesM z 8 n ch).2 = cloB z := by
  have e2 : sfx (z.extract (indA z 0) z.size) 2 = sfx z (indA z 0 + 2) := by
    rw [extract_drop]; unfold sfx; rw [bytesL_mk', List.drop_drop]
  unfold closesM cloB
  by_cases h3 : 3 < indA z 0
  · rw [if_pos h3, decide_eq_false (by omega)]; rfl
  · rw [if_neg h3, decide_eq_true (by omega : indA z 0 ≤ 3), Bool.true_and]
    unfold closeD
    rw [if_neg (by decide), if_pos rfl]
    have e1 : bytesL (z.extract (indA z 0) z.size) = sfx z (indA z 0) := by rw [extract_drop, bytesL_mk']
    rw [e1]
    by_cases hp : Lib.hasPrefix (sfx z (indA z 0)) [36, 36] = true
    · rw [if_pos hp, hp, Bool.true_and, extract_drop, e2]
      cases onlyR (mk (sfx z (indA z 0 + 2))) <;> rfl
    · rw [if_neg hp]
      have : Lib.hasPrefix (sfx z (indA z 0)) [36, 36] = false := by simpa using hp
      rw [this]; rfl
theorem closes_va (z ch : ByteArray) (n : Int) : VA (closesM z 8 n ch).1 ∧ SmallA z.size (closesM z 8 n ch).1 := by
  unfold closesM
  by_cases h3 : 3 < indA z 0
  · rw [if_pos h3]; exact ⟨VA.empty, emptyA_small _⟩
  · rw [if_neg h3]
    unfold closeD
    rw [if_neg (by decide), if_pos rfl]
    split
    · cases ho : onlyR ((z.extract (indA z 0) z.size).extract 2 (z.extract (indA z 0) z.size).size) with
      | none => exact ⟨VA.empty, emptyA_small _⟩
      | some a => exact ⟨only_va ho, small_mono (onlyR_small _ _ ho) (Nat.le_trans (extract_le _ _ _) (extract_le _ _ _))⟩
    · exact ⟨VA.empty, emptyA_small _⟩
theorem letX_tab (l r : Bool) : ∀ b ∈ letX l r, tabC b := by
  unfold tabC
  cases l <;> cases r <;> decide
theorem letP_tab (p : List UInt8) : ∀ b ∈ letP p, tabC b := by
  intro b hb
  unfold letP letL at hb
  split at hb
  · cases hb
  · exact letX_tab _ _ b hb
theorem align_tab {l r : List UInt8} (h : alignR l = some r) : r ≠ [] ∧ r.length ≤ 32 ∧ ∀ b ∈ r, tabC b := by
  unfold alignR at h
  split at h
  · unfold alnL at h
    have hp := partsL_pos l
    split at h
    · rename_i h1
      injection h with h
      have hne : ∀ p ∈ partsL l, letP p ≠ [] := fun p hp e => by
        have := List.all_eq_true.1 h1.2 p hp
        rw [e] at this; cases this
      have hlen := flat_len (partsL l) hne
      rw [h] at hlen
      refine ⟨fun e => ?_, by omega, fun b hb => ?_⟩
      · rw [e] at hlen; simp at hlen; omega
      · rw [← h] at hb
        obtain ⟨p, _, hb⟩ := List.mem_flatMap.1 hb
        exact letP_tab p b hb
    · cases h
  · cases h
theorem joinL_head (sep z : ByteArray) (zs : List ByteArray) (h : z.size ≠ 0) : (joinL sep (z :: zs)).length ≠ 0 := by
  have hz : (bytesL z).length ≠ 0 := by rw [bytesL_length]; exact h
  cases zs with
  | nil => show (bytesL z ++ []).length ≠ 0; rw [List.append_nil]; exact hz
  | cons y zs => unfold joinL; simp only [List.length_append]; omega
theorem trimS_blank (z : ByteArray) (h : blankB z = false) : (mk (trimS (bytesL z))).size ≠ 0 := by
  rw [mk_size]
  intro e
  have e := List.eq_nil_of_length_eq_zero e
  have h1 : trimF (bytesL z) = [] := by
    rcases List.eq_nil_or_concat (trimF (bytesL z)) with h1 | ⟨l, c, h1⟩
    · exact h1
    · exfalso
      have hh := trimF_head (bytesL z)
      have key : ∀ (n : Nat) (l : List UInt8), l.length ≤ n → trimR l = [] → ∀ x ∈ l, x = 32 := by
        intro n
        induction n with
        | zero => intro l hl _ x hx; rw [List.eq_nil_of_length_eq_zero (by omega : l.length = 0)] at hx; cases hx
        | succ n ih =>
          intro l hl ht x hx
          rcases List.eq_nil_or_concat l with rfl | ⟨l', c, rfl⟩
          · cases hx
          · rw [List.concat_eq_append] at hl ht hx
            by_cases hc : c = 32
            · subst hc
              rw [trimR_sp] at ht
              rcases List.mem_append.1 hx with hx | hx
              · exact ih l' (by rw [List.length_append, List.length_singleton] at hl; omega) ht x hx
              · simpa using hx
            · rw [trimR_no l' c hc] at ht
              simp at ht
      have := key _ _ (Nat.le_refl _) e
      cases hf : trimF (bytesL z) with
      | nil => rw [hf] at h1; simp at h1
      | cons x r =>
        rw [hf] at hh this
        exact hh (by rw [this x List.mem_cons_self]; rfl)
  rw [trimF_ind] at h1
  have := List.drop_eq_nil_iff.1 h1
  have h2 := indA_le z
  unfold blankB at h
  rw [decide_eq_false_iff_not] at h
  rw [bytesL_length] at this
  apply h
  unfold indA at h2 ⊢
  have e0 : sfx z 0 = bytesL z := rfl
  rw [e0] at h2 ⊢
  omega
theorem src_size {l : ByteArray} : (if l.size = 0 then l else xT) = ⟨#[]⟩ ∨ (if l.size = 0 then l else xT) = xT := by
  by_cases h : l.size = 0
  · rw [if_pos h]; left
    have : (bytesL l) = [] := List.eq_nil_of_length_eq_zero (by rw [bytesL_length]; exact h)
    rw [← mk_bytesL l, this]; rfl
  · rw [if_neg h]; exact .inr rfl
theorem items_wf (rec : List ByteArray → Option (List BkT)) (n : Nat) (zs : List ByteArray) (hc : ClnL zs) (H : ∀ l k, ClnL l → rec l = some k → WfK n 9 (srcK k) ∧ k.length ≤ 100) (q : Nat) (hq : q = 7 ∨ q = 8) :
    ∀ (f i : Nat) (r : List BkT × Nat), i < zs.length → ((markM (ln zs i)).kind = 5 ∨ (markM (ln zs i)).kind = 6) → itemsF rec zs f i (markM (ln zs i)) = some r → r.1 ≠ [] ∧ (∀ b ∈ r.1, OkB n q b) ∧ r.1.length ≤ f
  | 0, i, r, _, _, h => by cases h
  | f + 1, i, r, hi, hk, h => by
    have hcc := hc.cont hi (by omega)
    have hok : ∀ k, WfK n 9 (srcK k) ∧ k.length ≤ 100 → OkB n q (kidB 9 k) := fun k hw => by
      refine ⟨?_, ?_, hw.1, hw.2⟩
      · unfold kidB; rw [srcB]; exact .holds 9 (by omega) _
      · rcases hq with rfl | rfl <;> rfl
    unfold itemsF at h
    cases hr : rec (contL zs i (markM (ln zs i))).1 with
    | none => rw [hr] at h; cases h
    | some kids =>
      rw [hr] at h
      have hw := H _ _ hcc hr
      simp only [] at h
      split at h
      · rename_i hn
        rw [Option.map_eq_some_iff] at h
        obtain ⟨r', h', rfl⟩ := h
        have hs : (markM (ln zs i)).kind = (markM (ln zs (nextNB zs (contL zs i (markM (ln zs i))).2))).kind := by
          have := hn.2
          unfold sameR at this
          rw [decide_eq_true_eq] at this
          exact this.1
        have ih := items_wf rec n zs hc H q hq f _ r' hn.1 (by omega) h'
        refine ⟨by simp, fun b hb => ?_, by rw [List.length_cons]; have := ih.2.2; omega⟩
        rcases List.mem_cons.1 hb with rfl | hb
        · exact hok kids hw
        · exact ih.2.1 b hb
      · injection h with h
        subst h
        refine ⟨by simp, fun b hb => ?_, by simp⟩
        rw [List.mem_singleton] at hb
        subst hb
        exact hok kids hw
theorem row_wf (n : Nat) (z : ByteArray) (c : Nat) (h32 : c ≤ 32) : OkB (n + 1) 10 (rowT z c) ∧ (ksT (rowT z c)).length = c := by
  have hk : ksT (rowT z c) = (fitL (cellsB (bytesL z)) c).map (leafB 12) := rfl
  refine ⟨⟨?_, rfl, ?_, by rw [hk, List.length_map, fitL_len]; omega⟩, by rw [hk, List.length_map, fitL_len]⟩
  · unfold rowT kidB; rw [srcB]; exact .holds 11 (by omega) _
  · rw [hk]
    refine WfK.of _ fun b hb => ?_
    obtain ⟨y, _, rfl⟩ := List.mem_map.1 hb
    refine ⟨?_, rfl, .nil _ _, Nat.zero_le _⟩
    unfold leafB; rw [srcB]
    exact .cell _ src_size
theorem block_wf (rec1 rec2 : List ByteArray → Option (List BkT)) (d2 d3 : Bool) (n p : Nat) (hp : plainP p) (zs : List ByteArray) (i : Nat) (hc : ClnL zs) (hi : i < zs.length) (hb : blankB (ln zs i) = false)
    (H1 : ∀ l k, ClnL l → rec1 l = some k → (∀ q, plainP q → WfK n q (srcK k)) ∧ k.length ≤ 100) (H2 : d2 = true → ∃ m, n = m + 1 ∧ ∀ l k, ClnL l → rec2 l = some k → WfK m 9 (srcK k) ∧ k.length ≤ 100) (H3 : d3 = true → 2 ≤ n)
    (r : BkT × Nat) (e : blockT rec1 rec2 d2 d3 zs i (markM (ln zs i)) = some r) : OkB n p r.1 := by
  obtain ⟨g, hz⟩ := hc.mark hi
  have hsm := mark_small (ln zs i)
  have hcont : (markM (ln zs i)).kind = 10 → ClnL (contL zs i (markM (ln zs i))).1 := fun h => hc.cont hi (by omega)
  have hitems := fun m (H : ∀ l k, ClnL l → rec2 l = some k → WfK m 9 (srcK k) ∧ k.length ≤ 100) q hq f r h5 h => items_wf rec2 m zs hc H q hq f i r hi h5 h
  have hE : ∀ x : BkT, x = x → True := fun _ _ => trivial
  generalize markM (ln zs i) = m at *
  have hz0 : (⟨#[]⟩ : ByteArray).size = 0 := rfl
  have hF : ∀ (k lv : Nat) (i t d ti : ByteArray) (a : AttrL) (ks : List BkT), FormB (.mk k lv i t d ti a ⟨#[]⟩ (srcK ks)) → FormB (srcB (.mk k lv i t d ti a ⟨#[]⟩ ks)) := fun k lv i t d ti a ks h => by
    rw [srcB, if_pos hz0]; exact h
  unfold blockT at e
  by_cases h2 : m.kind = 2
  · rw [if_pos h2] at e; injection e with e; subst e
    obtain ⟨a1, a2, a3⟩ := g.head h2
    refine ⟨?_, fit_plain hp (show (2 : Nat) ≠ 9 ∧ (2 : Nat) ≠ 11 ∧ (2 : Nat) ≠ 12 by decide), .nil _ _, Nat.zero_le _⟩
    rw [srcB]
    exact .head m.n m.att _ a1 a2 a3 (small_mono hsm.1 hz) src_size
  rw [if_neg h2] at e
  by_cases h3 : m.kind = 3
  · rw [if_pos h3] at e; injection e with e; subst e
    exact ⟨hF _ _ _ _ _ _ _ _ .rule, fit_plain hp (show (5 : Nat) ≠ 9 ∧ (5 : Nat) ≠ 11 ∧ (5 : Nat) ≠ 12 by decide), .nil _ _, Nat.zero_le _⟩
  rw [if_neg h3] at e
  by_cases h11 : m.kind = 11
  · rw [if_pos h11] at e; injection e with e; subst e
    obtain ⟨a1, a2, a3, a4, a5⟩ := g.deff h11
    exact ⟨hF _ _ _ _ _ _ _ _ (.deff _ _ _ a1 a2 a3 (Nat.le_trans a4 hz) (Nat.le_trans a5 hz)), fit_plain hp (show (15 : Nat) ≠ 9 ∧ (15 : Nat) ≠ 11 ∧ (15 : Nat) ≠ 12 by decide), .nil _ _, Nat.zero_le _⟩
  rw [if_neg h11] at e
  by_cases h4 : m.kind = 4
  · rw [if_pos h4] at e
    obtain ⟨k, hk, rfl⟩ := opt_map_some e
    exact ⟨hF _ _ _ _ _ _ _ _ (.holds 6 (by omega) _), fit_plain hp (show (6 : Nat) ≠ 9 ∧ (6 : Nat) ≠ 11 ∧ (6 : Nat) ≠ 12 by decide), (H1 _ _ (hc.quote hi) hk).1 6 (show (6 : Nat) ≠ 7 ∧ (6 : Nat) ≠ 8 ∧ (6 : Nat) ≠ 10 ∧ (6 : Nat) ≠ 11 by decide), (H1 _ _ (hc.quote hi) hk).2⟩
  rw [if_neg h4] at e
  by_cases h7 : m.kind = 7
  · rw [if_pos h7] at e; injection e with e; subst e
    obtain ⟨a1, a2, a3⟩ := g.fen h7
    exact ⟨hF _ _ _ _ _ _ _ _ (.code m.info _ a1 a2 (Nat.le_trans a3 hz) ((hc.cut _ _).strip m.off)), fit_plain hp (show (3 : Nat) ≠ 9 ∧ (3 : Nat) ≠ 11 ∧ (3 : Nat) ≠ 12 by decide), .nil _ _, Nat.zero_le _⟩
  rw [if_neg h7] at e
  by_cases h8 : m.kind = 8
  · rw [if_pos h8] at e; injection e with e; subst e
    have hs := seek_spec (closeP zs m) zs.length (i + 1) (by omega)
    have hA : VA (closeA zs m (i + 1)) ∧ SmallA 150 (closeA zs m (i + 1)) := by
      unfold closeA
      split
      · rename_i hlt
        rw [h8]
        have := closes_va (ln zs (closeI zs m (i + 1))) m.ch (m.n : Int)
        exact ⟨this.1, small_mono this.2 (hc.sz _ (ln_mem hlt))⟩
      · exact ⟨VA.empty, emptyA_small _⟩
    refine ⟨hF _ _ _ _ _ _ _ _ (.math _ _ (hc.cut _ _) (fun z hzm => ?_) hA.1 hA.2), fit_plain hp (show (4 : Nat) ≠ 9 ∧ (4 : Nat) ≠ 11 ∧ (4 : Nat) ≠ 12 by decide), .nil _ _, Nat.zero_le _⟩
    obtain ⟨j, j1, j2, rfl⟩ := cut_idx hzm hs.2.1
    have := hs.2.2.1 j j1 j2
    unfold closeP at this
    rw [h8] at this
    rw [← clo_eq _ m.ch (m.n : Int)]
    exact this
  rw [if_neg h8] at e
  by_cases h9 : m.kind = 9
  · rw [if_pos h9] at e
    obtain ⟨k, hk, rfl⟩ := opt_map_some e
    obtain ⟨a1, a2⟩ := g.div h9
    exact ⟨hF _ _ _ _ _ _ _ _ (.div 13 (.inl rfl) m.info m.att _ a1 a2 (small_mono hsm.1 hz) (fun h => nomatch h)), fit_plain hp (show (13 : Nat) ≠ 9 ∧ (13 : Nat) ≠ 11 ∧ (13 : Nat) ≠ 12 by decide), (H1 _ _ (hc.cut _ _) hk).1 13 (show (13 : Nat) ≠ 7 ∧ (13 : Nat) ≠ 8 ∧ (13 : Nat) ≠ 10 ∧ (13 : Nat) ≠ 11 by decide), (H1 _ _ (hc.cut _ _) hk).2⟩
  rw [if_neg h9] at e
  by_cases h10 : m.kind = 10
  · rw [if_pos h10] at e
    obtain ⟨k, hk, rfl⟩ := opt_map_some e
    exact ⟨hF _ _ _ _ _ _ _ _ (.div 14 (.inr rfl) m.info emptyA _ (g.note h10) VA.empty (emptyA_small _) (fun _ => rfl)), fit_plain hp (show (14 : Nat) ≠ 9 ∧ (14 : Nat) ≠ 11 ∧ (14 : Nat) ≠ 12 by decide), (H1 _ _ (hcont h10) hk).1 14 (show (14 : Nat) ≠ 7 ∧ (14 : Nat) ≠ 8 ∧ (14 : Nat) ≠ 10 ∧ (14 : Nat) ≠ 11 by decide), (H1 _ _ (hcont h10) hk).2⟩
  rw [if_neg h10] at e
  by_cases h56 : m.kind = 5 ∨ m.kind = 6
  · rw [if_pos h56] at e
    by_cases hd : d2 = true
    · rw [if_pos hd] at e
      obtain ⟨q, hq, rfl⟩ := opt_map_some e
      obtain ⟨n', rfl, HH⟩ := H2 hd
      unfold listB
      by_cases h6 : m.kind = 6
      · rw [if_pos h6, if_pos h6]
        obtain ⟨i1, i2, i3⟩ := hitems n' HH 8 (.inr rfl) _ q h56 hq
        refine ⟨hF _ _ _ _ _ _ _ _ (.list 8 m.n (.inr ⟨rfl, g.num h6⟩) _ fun e => i1 ?_), fit_plain hp (show (8 : Nat) ≠ 9 ∧ (8 : Nat) ≠ 11 ∧ (8 : Nat) ≠ 12 by decide), WfK.of _ i2, by show q.1.length ≤ 100; have := hc.len; omega⟩
        have := congrArg List.length e
        rw [srcK_len] at this
        exact List.eq_nil_of_length_eq_zero this
      · rw [if_neg h6, if_neg h6]
        obtain ⟨i1, i2, i3⟩ := hitems n' HH 7 (.inl rfl) _ q h56 hq
        refine ⟨hF _ _ _ _ _ _ _ _ (.list 7 0 (.inl ⟨rfl, rfl⟩) _ fun e => i1 ?_), fit_plain hp (show (7 : Nat) ≠ 9 ∧ (7 : Nat) ≠ 11 ∧ (7 : Nat) ≠ 12 by decide), WfK.of _ i2, by show q.1.length ≤ 100; have := hc.len; omega⟩
        have := congrArg List.length e
        rw [srcK_len] at this
        exact List.eq_nil_of_length_eq_zero this
    · rw [if_neg hd] at e; cases e
  rw [if_neg h56] at e
  by_cases ht : headAt zs i = true
  · rw [if_pos ht] at e
    by_cases hd : d3 = true
    · rw [if_pos hd] at e
      injection e with e
      subst e
      obtain ⟨n', rfl⟩ : ∃ n', n = n' + 1 + 1 := ⟨n - 2, by have := H3 hd; omega⟩
      unfold headAt at ht
      rw [Bool.and_eq_true] at ht
      have ht := ht.2
      unfold headB at ht
      cases ha : alignR (bytesL (ln zs (i + 1))) with
      | none => rw [ha] at ht; cases ht
      | some r =>
        obtain ⟨t1, t2, t3⟩ := align_tab ha
        have hrow : ∀ b ∈ rowT (ln zs i) r.length :: (cutL zs (i + 2) (tableTo zs i)).map (fun z => rowT z r.length), OkB (n' + 1) 10 b ∧ (ksT b).length = r.length := fun b hbm => by
          rcases List.mem_cons.1 hbm with rfl | hbm
          · exact row_wf n' _ _ t2
          · obtain ⟨y, _, rfl⟩ := List.mem_map.1 hbm
            exact row_wf n' _ _ t2
        show OkB _ p (tableB zs i r)
        unfold tableB
        refine ⟨hF _ _ _ _ _ _ _ _ (.table r _ t1 t2 t3 (fun e => ?_) fun b hbm => ?_), fit_plain hp (show (10 : Nat) ≠ 9 ∧ (10 : Nat) ≠ 11 ∧ (10 : Nat) ≠ 12 by decide), WfK.of _ fun b hbm => (hrow b hbm).1, by
          show (_ :: List.map _ _).length ≤ 100
          have h1 := (hc.cut (i + 2) (tableTo zs i)).len
          rw [List.length_cons, List.length_map]; omega⟩
        · rw [srcK] at e; cases e
        · obtain ⟨c, hcm, rfl⟩ := srcK_mem hbm
          rw [ksT_src, srcK_len]
          exact (hrow c hcm).2
    · rw [if_neg hd] at e; cases e
  · rw [if_neg ht] at e
    injection e with e
    subst e
    refine ⟨?_, fit_plain hp (show (1 : Nat) ≠ 9 ∧ (1 : Nat) ≠ 11 ∧ (1 : Nat) ≠ 12 by decide), .nil _ _, Nat.zero_le _⟩
    show FormB (srcB (paraB zs i))
    unfold paraB leafB
    have hs := seek_spec (fun j => !decide (kindOf zs j = 0) || headAt zs j) zs.length (i + 1) (by omega)
    have hcl : cutL zs i (paraTo zs i) = ln zs i :: (cutL zs i (paraTo zs i)).tail := by
      have h0 : (cutL zs i (paraTo zs i)).length = paraTo zs i - i := cutL_len zs _ _ (by have : i + 1 ≤ paraTo zs i := hs.1; omega) hs.2.1
      cases hcc : cutL zs i (paraTo zs i) with
      | nil => rw [hcc] at h0; have : i + 1 ≤ paraTo zs i := hs.1; simp at h0; omega
      | cons x xs =>
        have := ln_cut zs i (paraTo zs i) 0 (by have : i + 1 ≤ paraTo zs i := hs.1; omega)
        rw [hcc, Nat.add_zero] at this
        rw [← this]; rfl
    rw [srcB, if_neg]
    · exact .para
    · rw [hcl, List.map_cons, mk_size]
      exact joinL_head _ _ _ (trimS_blank _ hb)
theorem loop_wf (at_ : Nat → MkL → Option (BkT × Nat)) (zs : List ByteArray) (P : BkT → Prop) (H : ∀ i r, i < zs.length → blankB (ln zs i) = false → at_ i (markM (ln zs i)) = some r → P r.1) :
    ∀ (f i : Nat) (r : List BkT × List (Nat × Nat)), loopT at_ zs f i = some r → ∀ b ∈ r.1, P b
  | 0, i, r, h => by injection h with h; subst h; intro b hb; cases hb
  | f + 1, i, r, h => by
    unfold loopT at h
    split at h
    · injection h with h; subst h; intro b hb; cases hb
    · rename_i hi
      split at h
      · exact loop_wf at_ zs P H f (i + 1) r h
      · rename_i hbl
        cases ha : at_ i (markM (ln zs i)) with
        | none => rw [ha] at h; cases h
        | some x =>
          obtain ⟨b, tq⟩ := x
          rw [ha] at h
          simp only [Option.map_eq_some_iff] at h
          obtain ⟨r', h', rfl⟩ := h
          have hb := H i _ (by omega) (by simpa using hbl) ha
          intro c hcm
          rcases List.mem_cons.1 hcm with rfl | hcm
          · exact hb
          · exact loop_wf at_ zs P H f tq r' h' c hcm
theorem loop_len (at_ : Nat → MkL → Option (BkT × Nat)) (zs : List ByteArray) : ∀ (f i : Nat) (r : List BkT × List (Nat × Nat)), loopT at_ zs f i = some r → r.1.length ≤ f
  | 0, i, r, h => by injection h with h; subst h; exact Nat.le_refl _
  | f + 1, i, r, h => by
    unfold loopT at h
    split at h
    · injection h with h; subst h; exact Nat.zero_le _
    · split at h
      · exact Nat.le_succ_of_le (loop_len at_ zs f (i + 1) r h)
      · cases ha : at_ i (markM (ln zs i)) with
        | none => rw [ha] at h; cases h
        | some x =>
          obtain ⟨b, tq⟩ := x
          rw [ha] at h
          simp only [Option.map_eq_some_iff] at h
          obtain ⟨r', h', rfl⟩ := h
          have := loop_len at_ zs f tq r' h'
          show (b :: r'.1).length ≤ f + 1
          rw [List.length_cons]; omega
theorem blocks_len (n : Nat) (zs : List ByteArray) (r : List BkT × List (Nat × Nat)) (h : blocksN n zs = some r) : r.1.length ≤ zs.length := by
  rw [blocksN_rest] at h
  unfold restT at h
  have := loop_len _ _ _ _ _ h
  omega
theorem map_fst {n : Nat} {l : List ByteArray} {k : List BkT} (h : (blocksN n l).map (·.1) = some k) : ∃ r, blocksN n l = some r ∧ k = r.1 := opt_map_some h
/-- The blocks of clean lines are well-formed. -/
theorem blocks_wf : ∀ (n : Nat) (zs : List ByteArray) (p : Nat) (r : List BkT × List (Nat × Nat)), ClnL zs → plainP p → blocksN n zs = some r → WfK n p (srcK r.1)
  | 0, zs, p, r, hc, hp, h => by
    have : ∀ b ∈ r.1, False := loop_wf _ zs (fun _ => False) (fun i r _ _ e => by cases e) _ _ r h
    have e : r.1 = [] := List.eq_nil_iff_forall_not_mem.2 this
    rw [e]; exact .nil _ _
  | 1, zs, p, r, hc, hp, h => by
    refine WfK.of _ (loop_wf _ zs (OkB 0 p) (fun i r hi hb e => ?_) _ _ r h)
    refine block_wf _ _ false false 0 p hp zs i hc hi hb (fun l k hl hk => ?_) (fun h => nomatch h) (fun h => nomatch h) r e
    obtain ⟨r', h', rfl⟩ := map_fst hk
    exact ⟨fun q hq => blocks_wf 0 l q r' hl hq h', by have := blocks_len _ _ _ h'; have := hl.len; omega⟩
  | n + 2, zs, p, r, hc, hp, h => by
    refine WfK.of _ (loop_wf _ zs (OkB (n + 1) p) (fun i r hi hb e => ?_) _ _ r h)
    refine block_wf _ _ true (decide (1 ≤ n)) (n + 1) p hp zs i hc hi hb (fun l k hl hk => ?_) (fun _ => ⟨n, rfl, fun l k hl hk => ?_⟩) (fun h => by rw [decide_eq_true_eq] at h; omega) r e
    · obtain ⟨r', h', rfl⟩ := map_fst hk
      exact ⟨fun q hq => blocks_wf (n + 1) l q r' hl hq h', by have := blocks_len _ _ _ h'; have := hl.len; omega⟩
    · obtain ⟨r', h', rfl⟩ := map_fst hk
      exact ⟨blocks_wf n l 9 r' hl (show (9 : Nat) ≠ 7 ∧ (9 : Nat) ≠ 8 ∧ (9 : Nat) ≠ 10 ∧ (9 : Nat) ≠ 11 by decide) h', by have := blocks_len _ _ _ h'; have := hl.len; omega⟩
end Go.Proofs.YtpoafhgbhnblmaaGreatDoor
namespace Go.Proofs.YtpoafhgbhnblmaaGreatDoor
open Go.RowKit Go.Pub
set_option maxRecDepth 100000 in
set_option maxHeartbeats 2000000 in
theorem f_cleanLine (s : ByteArray) (w : World) (hs : s.size ≤ 1000000) (hl : lineB s = true) : Calls Tryz.prog 45 #[.string s] w fun e w' => e = .returned (.bool true) ∧ Below w.heap.size w w' := by
  have h2 := hl
  unfold lineB at h2
  rw [Bool.and_eq_true] at h2
  have hx := (indexByte_neg (bytesL s) 10).2
  have HV : Hid (∀ W, Calls Tryz.prog 90 #[.string s] W fun e w' => e = .returned (.bool true) ∧ Below W.heap.size W w') := Lib.hid fun W => by
    have := valid_any s W (by omega)
    rw [h2.1] at this
    exact this
  have hn : decide (Lib.indexByte (bytesL s) 10 < 0) = true := by rw [hx]; exact h2.2
  have HX : Hid (∀ W, Calls Tryz.prog 91 #[.string s, .int .u8 10] W fun e w' => e = .returned (.int .i64 (Lib.indexByte (bytesL s) 10)) ∧ w' = W) := Lib.hid fun W => Tryz.strings_IndexByte s 10 W
  clear h2 hx hl
  generalize Lib.indexByte (bytesL s) 10 = x at *
  go_enter Tryz.func45, Tryz.ntmps45
  go_wp2_with fail
  refine (HV.out _).mono ?_
  rintro e w1 ⟨rfl, b1⟩
  go_wp2_with fail
  refine (HX.out _).mono ?_
  rintro e w2 ⟨rfl, rfl⟩
  go_wp2
  go_ret
  exact ⟨rfl, b1⟩

theorem ends_bt {s : ByteArray} (h0 : s.size ≠ 0) : (bytesL s).head? = some (s.get! 0) ∧ (bytesL s).getLast? = some (s.get! (s.size - 1)) := by
  have h1 := bytesL_at s 0 (by omega)
  have h2 := bytesL_at s (s.size - 1) (by omega)
  refine ⟨by rw [List.head?_eq_getElem?]; exact h1, ?_⟩
  rw [List.getLast?_eq_getElem?, bytesL_length]; exact h2
theorem empty_of {s : ByteArray} (h : s.size = 0) : s = ⟨#[]⟩ := by
  have : bytesL s = [] := List.eq_nil_of_length_eq_zero (by rw [bytesL_length]; exact h)
  rw [← mk_bytesL s, this]; rfl
set_option maxRecDepth 100000 in
set_option maxHeartbeats 2000000 in
theorem f_trimmed (s : ByteArray) (w : World) (hs : s.size ≤ 1000000) (ht : trmP s) : Calls Tryz.prog 46 #[.string s] w fun e w' => e = .returned (.bool true) ∧ w = w' := by
  by_cases h0 : s.size = 0
  · have := empty_of h0
    subst this
    go_enter Tryz.func46, Tryz.ntmps46
    go_wp2_with fail
    go_ret
    exact ⟨rfl, rfl⟩
  · obtain ⟨e1, e2⟩ := ends_bt h0
    unfold trmP at ht
    rw [e1, e2] at ht
    have g0 := get_bt s 0 (by omega)
    have g1 := get_bt s (s.size - 1) (by omega)
    have n1 : bt s 0 ≠ 32 := fun e => ht.1 (by rw [show s.get! 0 = 32 from UInt8.toNat_inj.1 e])
    have n2 : bt s (s.size - 1) ≠ 32 := fun e => ht.2 (by rw [show s.get! (s.size - 1) = 32 from UInt8.toNat_inj.1 e])
    have y1 : ¬ s.toList = [] := fun e => h0 (by rw [(toList_iff _).1 e]; rfl)
    have y2 : s.toList.isEmpty = false := by rw [List.isEmpty_eq_false_iff]; exact y1
    have l0 : 0 < s.size := by omega
    have l1 : s.size - 1 < s.size := by omega
    have q0 : (((s[0].toNat : Nat) : Int) != 32) = true := by rw [bne_iff_ne, g0]; omega
    have q1 : (((s[s.size - 1].toNat : Nat) : Int) != 32) = true := by rw [bne_iff_ne, g1]; omega
    have k1 : ((s.size : Int) - 1) = ((s.size - 1 : Nat) : Int) := by omega
    clear ht e1 e2 g0 g1 n1 n2
    go_enter Tryz.func46, Tryz.ntmps46
    go_wp2_with fail
    go_ret
    exact ⟨rfl, rfl⟩

set_option maxRecDepth 100000 in
set_option maxHeartbeats 2000000 in
theorem f_cleanText (s : ByteArray) (w : World) (hs : s.size ≤ 1000000) (hv : s.size = 0 ∨ (validB s = true ∧ bt s (s.size - 1) = 10)) : Calls Tryz.prog 47 #[.string s] w fun e w' => e = .returned (.bool true) ∧ Below w.heap.size w w' := by
  by_cases h0 : s.size = 0
  · have := empty_of h0
    subst this
    go_enter Tryz.func47, Tryz.ntmps47
    go_wp2_with fail
    go_ret
    exact ⟨rfl, Below.refl _ _⟩
  · obtain ⟨hv, n1⟩ := hv.resolve_left h0
    have g1 := get_bt s (s.size - 1) (by omega)
    have HV : Hid (∀ W, Calls Tryz.prog 90 #[.string s] W fun e w' => e = .returned (.bool true) ∧ Below W.heap.size W w') := Lib.hid fun W => by
      have := valid_any s W (by omega)
      rw [hv] at this
      exact this
    have y1 : ¬ s.toList = [] := fun e => h0 (by rw [(toList_iff _).1 e]; rfl)
    have y2 : s.toList.isEmpty = false := by rw [List.isEmpty_eq_false_iff]; exact y1
    have l1 : s.size - 1 < s.size := by omega
    have q1 : (((s[s.size - 1].toNat : Nat) : Int) == 10) = true := by rw [beq_iff_eq, g1]; omega
    have k1 : ((s.size : Int) - 1) = ((s.size - 1 : Nat) : Int) := by omega
    clear hv g1 n1
    go_enter Tryz.func47, Tryz.ntmps47
    go_wp2_with fail
    refine (HV.out _).mono ?_
    rintro e w1 ⟨rfl, b1⟩
    go_wp2_with fail
    go_ret
    exact ⟨rfl, b1⟩

set_option maxRecDepth 100000 in
set_option maxHeartbeats 2000000 in
theorem f_oneOf (n : Int) (ms : List Int) (A : Option Addr) (c : Nat) (w : World) (hr : Reads w w.heap.size 1 A ms.length (intCells ms)) (hl : ms.length ≤ 100) (hn : -9223372036854775808 ≤ n ∧ n ≤ 9223372036854775807) :
    Calls Tryz.prog 42 #[.int .i64 n, .slice A ms.length c] w fun e w' => e = .returned (.bool (ms.contains n)) ∧ w = w' := by
  obtain ⟨R, hR⟩ : ∃ R, R = ms.contains n := ⟨_, rfl⟩
  rw [← hR]
  have HR := Lib.hid hR
  clear hR
  go_enter Tryz.func42, Tryz.ntmps42
  go_wp2_with fail
  go_loop [9] (fun v => ∃ k : Nat, v = .int .i64 k ∧ k ≤ ms.length ∧ Hid (∀ j (h : j < ms.length), j < k → ms[j] ≠ n)) (fun v => ms.length - (intOf v).toNat)
  case atStart => exact ⟨0, rfl, Nat.zero_le _, Lib.hid fun j h hj => absurd hj (by omega)⟩
  case round =>
    obtain ⟨k, rfl, hk, Hno⟩ := hrel
    by_cases hlt : k < ms.length
    · obtain ⟨b, off, rfl, hb, hcell⟩ := hr.row (by omega) (by decide)
      have hc : w.cell? ⟨b, off + k, none⟩ = some (.int .i64 ms[k]) := hcell k _ (intCells_at ms k hlt)
      have HNx : ms[k] ≠ n → Hid (∀ j (h : j < ms.length), j < k + 1 → ms[j] ≠ n) := fun hne => Lib.hid fun j h hj => by
        by_cases e : j = k
        · subst e; exact hne
        · exact Hno.out j h (by omega)
      have HF : Hid (n = ms[k] → R = true) := Lib.hid fun e => by rw [HR.out]; exact List.contains_iff_mem.2 (by rw [e]; exact List.getElem_mem hlt)
      clear hcell hr Hno
      generalize ms[k] = m at *
      by_cases he : n = m
      · have hb1 : (n == m) = true := by rw [beq_iff_eq]; exact he
        have HT := Lib.hid (HF.out he)
        clear he HNx HF
        go_wp2_with fail
        go_ret
        exact ⟨ret_bool HT.out.symm, rfl⟩
      · have hb1 : (n == m) = false := by rw [beq_eq_false_iff_ne]; exact he
        have HN2 := HNx (fun e => he e.symm)
        clear he HNx HF
        go_wp2_with fail
        go_round
        case rel => exact ⟨k + 1, by go_num, by omega, HN2⟩
        case measure => simp [intOf]; omega
    · go_wp2_with fail
      go_ret
      refine ⟨ret_bool ?_, rfl⟩
      symm
      rw [HR.out, ← Bool.not_eq_true, List.contains_iff_mem]
      intro hm
      obtain ⟨j, hj, e⟩ := List.mem_iff_getElem.1 hm
      exact Hno.out j hj (by omega) e

theorem ints_new (w : World) (ms : List Int) (hl : ms.length ≤ 100) : Reads (w.alloc (.cells (intCells ms).toArray 3)) (w.alloc (.cells (intCells ms).toArray 3)).heap.size 1 (some ⟨w.heap.size, 0, none⟩) ms.length (intCells ms) := by
  have h := (ReadsS.block (w := w.alloc (.cells (intCells ms).toArray 3)) (S := fun g => g < (w.alloc (.cells (intCells ms).toArray 3)).heap.size) (n := ms.length) (size := 1) (heap_alloc_new w (.cells (intCells ms).toArray 3)) (by simp) (by simp [intCells]) (by unfold maxLen; omega)).reads (B := (w.alloc (.cells (intCells ms).toArray 3)).heap.size) (fun g h => h)
  exact h
def LaRel (g : ByteArray) (w w1 : World) (wr : World) : Prop :=
  ∃ (pos f : Nat), wr.heap[w1.heap.size]? = some (.stringIter g pos) ∧ Below w.heap.size w wr ∧ Hid ((ptsFrom g f pos).all (fun p => labB p.1) = true) ∧ g.size ≤ pos + f ∧ pos ≤ g.size
set_option maxRecDepth 100000 in
set_option maxHeartbeats 8000000 in
theorem f_label (s : ByteArray) (w : World) (hl : labP s) : Calls Tryz.prog 53 #[.string s] w fun e w' => e = .returned (.bool true) ∧ Below w.heap.size w w' := by
  obtain ⟨h0, h60, hf, hall⟩ := hl
  have HC : Hid (∀ W, Calls Tryz.prog 99 #[.string s] W fun e w' => e = .returned (.string s) ∧ Below W.heap.size W w') := Lib.hid fun W => by
    have := fold_any s W (by omega)
    have e : (⟨(foldL s).toArray⟩ : ByteArray) = s := by rw [hf]; exact mk_bytesL s
    rwa [e] at this
  have y1 : ¬ s.toList = [] := fun e => h0 ((toList_iff _).1 e)
  have y2 : s.toList.isEmpty = false := by rw [List.isEmpty_eq_false_iff]; exact y1
  have y3 : (s.toList != s.toList) = false := by rw [bne_eq_false_iff_eq]
  have zl : decide (60 < (s.size : Int)) = false := decide_eq_false (by omega)
  have HA := Lib.hid hall
  clear hf hall h0
  go_enter Tryz.func53, Tryz.ntmps53
  go_wp2_with fail
  ((with_reducible refine (HC.out _).mono ?_))
  rintro e w1 ⟨rfl, b1⟩
  have hz1 := b1.size
  go_wp2_with fail
  go_loopw [] (fun wr => LaRel s w w1 wr) (fun wr => s.size - wr.iterPos w1.heap.size)
  case atStart => exact ⟨0, s.size, World.iter_heap w1 s 0, b1.alloc hz1 _, HA, by omega, by omega⟩
  case round =>
    obtain ⟨pos, f, hit, hbw, Hok, hf, hps⟩ := hrel
    by_cases hp : pos < s.size
    · have hd := dec_bd s pos hp
      have hst : labB (Utf8.decode s pos).1 = true ∧ Hid ((ptsFrom s (f - 1) (pos + (Utf8.decode s pos).2)).all (fun p => labB p.1) = true) := by
        have := Hok.out
        rw [ptsFrom_step s f pos hp hf, List.all_cons, Bool.and_eq_true] at this
        exact ⟨this.1, Lib.hid this.2⟩
      have hnx : ∀ ty, (Instr.next (.pointer (some ⟨w1.heap.size, 0, none⟩)) true ty).run Tryz.prog wr = _ := fun ty => Lib.run_next_any_at wr w1.heap.size s pos ty hit hp
      have hit2 := Lib.hid (Lib.iterAt_heap wr w1.heap.size s pos (pos + (Utf8.decode s pos).2) hit)
      have hbw2 := Lib.below_iterAt hbw (k := w1.heap.size) hz1 s (pos + (Utf8.decode s pos).2)
      have hitk := Lib.hid hit
      clear hit
      generalize Utf8.decode s pos = D at *
      have HL : Hid (∀ W, Calls Tryz.prog 100 #[.int .i64 D.1] W fun e w' => e = .returned (.bool (inB D.1 letterL)) ∧ W = w') := Lib.hid fun W => letter_any D.1 W
      have HD : Hid (∀ W, Calls Tryz.prog 101 #[.int .i64 D.1] W fun e w' => e = .returned (.bool (digitB D.1)) ∧ W = w') := Lib.hid fun W => digit_any D.1 W
      have HO : Hid (([32, 45, 95, 46, 58] : List Int).contains (D.1 : Int) = true → ∀ W : World, Calls Tryz.prog 42 #[.int .i64 D.1, .slice (some ⟨W.heap.size, 0, none⟩) 5 5] (W.alloc (.cells #[.int .i64 32, .int .i64 45, .int .i64 95, .int .i64 46, .int .i64 58] 3)) fun e w' => e = .returned (.bool true) ∧ (W.alloc (.cells #[.int .i64 32, .int .i64 45, .int .i64 95, .int .i64 46, .int .i64 58] 3)) = w') := Lib.hid fun h W => by
        have := f_oneOf (D.1 : Int) [32, 45, 95, 46, 58] _ 5 _ (ints_new W [32, 45, 95, 46, 58] (by decide)) (by decide) (by omega)
        rw [h] at this
        exact this
      have hlb := hst.1
      have dn : Hid (∀ W, Below (wr.iterAt w1.heap.size s (pos + D.2)).heap.size (wr.iterAt w1.heap.size s (pos + D.2)) W → LaRel s w w1 W ∧ s.size - W.iterPos w1.heap.size < s.size - wr.iterPos w1.heap.size) := Lib.hid fun W hW => by
        have hk : W.heap[w1.heap.size]? = some (.stringIter s (pos + D.2)) := (hW.block _ (by
          have := hit2.out
          rcases Nat.lt_or_ge w1.heap.size (wr.iterAt w1.heap.size s (pos + D.2)).heap.size with h1 | h1
          · exact h1
          · rw [Array.getElem?_eq_none h1] at this; cases this)).trans hit2.out
        refine ⟨⟨pos + D.2, f - 1, hk, hbw2.trans (hW.mono hbw2.size), hst.2, by omega, by omega⟩, ?_⟩
        simp only [World.iterPos, hk, hitk.out]
        omega
      clear hst
      have hc3 : inB D.1 letterL = true ∨ (inB D.1 letterL = false ∧ digitB D.1 = true) ∨ (inB D.1 letterL = false ∧ digitB D.1 = false ∧ ([32, 45, 95, 46, 58] : List Int).contains (D.1 : Int) = true) := by
        rcases labB_yes _ hlb with y1 | ⟨y1, y2 | ⟨y2, y3 | ⟨y3, y4 | ⟨y4, y5 | ⟨y5, y6 | ⟨y6, y7⟩⟩⟩⟩⟩⟩
        · exact .inl y1
        · exact .inr (.inl ⟨y1, y2⟩)
        all_goals
          refine .inr (.inr ⟨y1, y2, ?_⟩)
          rw [List.contains_iff_mem]
          simp only [List.mem_cons, List.not_mem_nil, or_false, beq_iff_eq] at *
          omega
      clear hlb
      rcases hc3 with y1 | ⟨y1, y2⟩ | ⟨y1, y2, y3⟩
      · rw [y1] at HL
        clear y1
        go_wp2_with fail
        ((with_reducible refine (HL.out _).mono ?_))
        rintro e w' ⟨rfl, rfl⟩
        go_wp2_with fail
        have hd := dn.out _ (Below.refl _ _)
        go_roundw
        case rel => exact hd.1
        case measure => exact hd.2
      · rw [y1] at HL
        rw [y2] at HD
        clear y1 y2
        go_wp2_with fail
        ((with_reducible refine (HL.out _).mono ?_))
        rintro e w' ⟨rfl, rfl⟩
        go_wp2_with fail
        ((with_reducible refine (HD.out _).mono ?_))
        rintro e w' ⟨rfl, rfl⟩
        go_wp2_with fail
        have hd := dn.out _ (Below.refl _ _)
        go_roundw
        case rel => exact hd.1
        case measure => exact hd.2
      · rw [y1] at HL
        rw [y2] at HD
        have HO2 := Lib.hid (HO.out y3)
        clear y1 y2 y3 HO
        go_wp2_with fail
        ((with_reducible refine (HL.out _).mono ?_))
        rintro e w' ⟨rfl, rfl⟩
        go_wp2_with fail
        ((with_reducible refine (HD.out _).mono ?_))
        rintro e w' ⟨rfl, rfl⟩
        go_wp2_with fail
        ((with_reducible refine (HO2.out _).mono ?_))
        rintro e w' ⟨rfl, rfl⟩
        go_wp2_with fail
        go_roundw
        case rel => exact (dn.out _ ((Below.refl _ _).alloc (Nat.le_refl _) _)).1
        case measure => exact (dn.out _ ((Below.refl _ _).alloc (Nat.le_refl _) _)).2
    · have hnx : ∀ ty, (Instr.next (.pointer (some ⟨w1.heap.size, 0, none⟩)) true ty).run Tryz.prog wr = _ := fun ty => Lib.run_next_end_at wr w1.heap.size s pos ty hit hp
      go_wp2_with fail
      go_ret
      exact ⟨rfl, hbw⟩

end Go.Proofs.YtpoafhgbhnblmaaGreatDoor
