/-
  Texts of the proof, put together (what this law reaches): AttrE, AttrF, AttrG, AttrH.
-/
import Derived.Test.YtpoafhgbhnblmaaGreatDoorD07
import Derived.RegionTactic
import Derived.Outline
set_option linter.unusedVariables false
set_option linter.unusedSimpArgs false
namespace Go.Proofs.YtpoafhgbhnblmaaGreatDoor
open Go.RowKit Go.Pub
def pairE (a : AttrL) (key : ByteArray) : Nat := if hasKeyL a.pr key = true then 7 else if 32 ≤ a.pr.length then 3 else 0
def pairA (a : AttrL) (key val : ByteArray) : AttrL := if pairE a key = 0 then { a with pr := a.pr ++ [(key, val)] } else a
theorem pair_done {w1 w2 : World} {g base : Nat} {a : AttrL} {vC vP v' : Value} {key val : ByteArray} (h : AttrCells w1 g base a vC vP)
    (hown : w2.ownsRow base 81 2 v' (a.pr.length + 1) (prs a.pr ++ [.string key, .string val])) (hg : (w1.alloc (.cells #[.string key, .string val] 81)).grownBy w2 vP.ownBlock) (hl : a.pr.length < 32) :
    AttrCells (w2.setCell ⟨g, 2, none⟩ v') g base { a with pr := a.pr ++ [(key, val)] } vC v' ∧ BelowBut g base w1 (w2.setCell ⟨g, 2, none⟩ v') := by
  have hgne : some g ≠ vP.ownBlock := fun e => by have := (h.prs.lt g e.symm).1; have := h.lt; omega
  refine ⟨⟨?_, ?_, ?_, h.lt, ?_, h.c32, ?_⟩, ?_⟩
  · have := ((h.blk.alloc (.cells #[.string key, .string val] 81)).grown hg hgne).set_ 2 v'
    simpa using this
  · exact ownsRow_setCell_below ((h.cls.alloc _).kept hg (own_ne h.cls h.prs (by decide))) h.lt _
  · refine ownsRow_setCell_below ?_ h.lt _
    show w2.ownsRow base 81 2 v' (a.pr ++ [(key, val)]).length (prs (a.pr ++ [(key, val)]))
    unfold prs at hown ⊢
    rw [List.length_append, List.flatMap_append]
    exact hown
  · have := hg.size; have := h.le; simp [World.setCell] at *; omega
  · simp; omega
  · refine BelowBut.store ?_ _ _
    refine .of (((Below.refl _ _).alloc h.le _).grown hg (by have := h.le; simp; omega) (fun k hk => (h.prs.lt k hk).1))
set_option maxRecDepth 100000 in
set_option maxHeartbeats 1000000 in
theorem addPair_any (w : World) (g base : Nat) (a : AttrL) (key val : ByteArray) (h : AttrAt w g base a) :
    Calls Tryz.prog 233 #[.pointer (some ⟨g, 0, none⟩), .string key, .string val] w (ItemPost (pairE a key) (pairA a key val) g base w) := by
  obtain ⟨vC, vP, hA⟩ := h
  obtain ⟨AC, cC, rfl⟩ := own_slice hA.prs
  obtain ⟨i0, hi0, hz0, hz1, hz2⟩ := info_parts pair_info
  have HH := Lib.hid (get_any a.id AC cC w.heap.size a.pr vC key w (Nat.le_refl _) (Reads.of_own hA.prs) (by have := hA.p32; omega))
  have hc0 : w.cell? ⟨g, 0, none⟩ = some (.string a.id) := hA.blk.cell 0
  have hc1 : w.cell? ⟨g, 1, none⟩ = some vC := hA.blk.cell 1
  have hc2 : w.cell? ⟨g, 2, none⟩ = some (.slice AC a.pr.length cC) := hA.blk.cell 2
  have hgl := hA.blk.lt
  have HE : Hid (pairE a key = if hasKeyL a.pr key = true then 7 else if 32 ≤ a.pr.length then 3 else 0) := Lib.hid rfl
  have HA : Hid (pairA a key val = if pairE a key = 0 then { a with pr := a.pr ++ [(key, val)] } else a) := Lib.hid rfl
  have HK : Hid (hasKeyL a.pr key = (getL a.pr key).isSome) := Lib.hid rfl
  have HG : Hid (∀ e w', GetPost a.pr key w e w' → e = .returned (.tuple #[.string ((getL a.pr key).getD ⟨#[]⟩), .bool (getL a.pr key).isSome]) ∧ Below w.heap.size w w') := Lib.hid fun e w' h => h
  generalize pairA a key val = A1 at *
  generalize pairE a key = E1 at *
  generalize hasKeyL a.pr key = R at *
  generalize getL a.pr key = G at *
  cases G with
  | none =>
    obtain rfl : R = false := HK.out
    by_cases hl : 32 ≤ a.pr.length
    · have hE : Hid (E1 = 3) := Lib.hid (by rw [HE.out, if_neg (by decide), if_pos hl])
      go_enter Tryz.func233, Tryz.ntmps233
      go_wp2_with fail
      refine HH.out.mono ?_
      intro e w1 hpost
      obtain ⟨rfl, b1⟩ := HG.out _ _ hpost
      clear hpost
      have k1 := (hA.below b1).blk.cell 2
      simp at k1
      go_wp2
      go_ret
      refine ⟨by rw [hE.out]; rfl, ?_, .of (b1.mono hA.le)⟩
      rw [HA.out, if_neg (by rw [hE.out]; decide)]
      exact ⟨_, _, hA.below b1⟩
    · have hE : Hid (E1 = 0) := Lib.hid (by rw [HE.out, if_neg (by decide), if_neg hl])
      have hl' : a.pr.length < 32 := by omega
      go_enter Tryz.func233, Tryz.ntmps233
      go_wp2_with fail
      refine HH.out.mono ?_
      intro e w1 hpost
      obtain ⟨rfl, b1⟩ := HG.out _ _ hpost
      clear hpost
      have hA1 := hA.below b1
      have k1 := hA1.blk.cell 2
      simp at k1
      have f1 := hA1.blk.frozen 2
      have hgl1 := hA1.blk.lt
      go_wp2_with (at_builtin; refine wpList_append_own _ rfl _ _ 41 rfl base 81 i0 _ 2 32 Tryz.underlying41 hi0 hz0 hz1 hz2 rfl (by decide) _ _ _ rfl (hA1.prs.alloc _) ⟨w1.heap.size, 0, none⟩ 1 1 [.string key, .string val] rfl rfl ?c1 ?c2 ?c3 ?c4 ?c5 ?_)
      case c1 =>
        intro j u hj
        match j, hj with
        | 0, hj => simp at hj; subst hj; simp [Addr.add]
        | 1, hj => simp at hj; subst hj; simp [Addr.add]
      case c2 => intro u hu; simp at hu; rcases hu with rfl | rfl <;> rfl
      case c3 => unfold maxLen; omega
      case c4 => omega
      case c5 => have := hA1.le; simp; omega
      intro v' w2 hown2 hgrow _
      obtain ⟨A2, c2, rfl⟩ := own_slice hown2
      obtain ⟨hd1, hd2⟩ := pair_done hA1 hown2 hgrow hl'
      have hgne : some g ≠ (Value.slice AC a.pr.length cC).ownBlock := fun e => by have := (hA1.prs.lt g e.symm).1; have := hA1.lt; omega
      have hb2 := (hA1.blk.alloc (.cells #[.string key, .string val] 81)).grown hgrow hgne
      have k2 := hb2.cell 2
      simp at k2
      have f2 := hb2.frozen 2
      go_wp2
      go_ret
      refine ⟨by rw [hE.out]; rfl, ?_, (BelowBut.of (b1.mono hA.le)).trans hd2⟩
      rw [HA.out, if_pos hE.out]
      exact ⟨_, _, hd1⟩
  | some y =>
    obtain rfl : R = true := HK.out
    have hE : Hid (E1 = 7) := Lib.hid (by rw [HE.out, if_pos rfl])
    go_enter Tryz.func233, Tryz.ntmps233
    go_wp2_with fail
    refine HH.out.mono ?_
    intro e w1 hpost
    obtain ⟨rfl, b1⟩ := HG.out _ _ hpost
    clear hpost
    go_wp2
    go_ret
    refine ⟨by rw [hE.out]; rfl, ?_, .of (b1.mono hA.le)⟩
    rw [HA.out, if_neg (by rw [hE.out]; decide)]
    exact ⟨_, _, hA.below b1⟩

end Go.Proofs.YtpoafhgbhnblmaaGreatDoor
namespace Go.Proofs.YtpoafhgbhnblmaaGreatDoor
open Go.RowKit Go.Pub
/-- The value at place i. -/
def valL (s : ByteArray) (i : Nat) : ByteArray × Nat × Bool := if i < s.size ∧ bt s i = 34 then valOf (qv s s.size (i + 1) []) else bareVal s i
theorem readValue_any (s : ByteArray) (i : Nat) (w : World) (hs : s.size ≤ 1000000) (hi : i ≤ s.size) : Calls Tryz.prog 232 #[.string s, .int .i64 i] w (TripleBelow (valL s i) w) := by
  unfold valL
  by_cases h : i < s.size ∧ bt s i = 34
  · rw [if_pos h]; exact readValue_q s i w hs h.1 h.2
  · rw [if_neg h]; exact readValue_n s i w hs hi h
/-- The item's name from place i on. -/
def nameAt (s : ByteArray) (i : Nat) : ByteArray := s.extract i (wordAt s i)
/-- A pair whose key ends at place t: the place behind, the error, the attributes. -/
def pairItem (a : AttrL) (s : ByteArray) (name : ByteArray) (t : Nat) : Nat × Nat × AttrL :=
  if t < s.size ∧ bt s t = 61 then (if (valL s (t + 1)).2.2 = true then ((valL s (t + 1)).2.1, pairE a name, pairA a name (valL s (t + 1)).1) else (0, 5, a)) else (0, 5, a)
/-- The item at place i: the place behind it, the error, the attributes. -/
def itemL (a : AttrL) (s : ByteArray) (i : Nat) : Nat × Nat × AttrL :=
  if bt s i = 35 then (if nameB (nameAt s (i + 1)) = true then (if a.id = ⟨#[]⟩ then (wordAt s (i + 1), 0, { a with id := nameAt s (i + 1) }) else (0, 7, a)) else (0, 5, a))
  else if bt s i = 46 then (if nameB (nameAt s (i + 1)) = true then (wordAt s (i + 1), classE a (nameAt s (i + 1)), classA a (nameAt s (i + 1))) else (0, 5, a))
  else if nameB (nameAt s i) = true then pairItem a s (nameAt s i) (wordAt s i) else (0, 5, a)
def ReadPost (r : Nat × Nat × AttrL) (g base : Nat) (w : World) (e : Ending) (w' : World) : Prop :=
  e = .returned (.tuple #[.int .i64 r.1, .int .i64 r.2.1]) ∧ AttrAt w' g base r.2.2 ∧ BelowBut g base w w'
theorem AttrAt.below {w w' : World} {g base : Nat} {a : AttrL} (h : AttrAt w g base a) (hb : Below w.heap.size w w') : AttrAt w' g base a := by
  obtain ⟨vC, vP, h⟩ := h
  exact ⟨vC, vP, h.below hb⟩
theorem AttrAt.le {w : World} {g base : Nat} {a : AttrL} (h : AttrAt w g base a) : base ≤ w.heap.size := by
  obtain ⟨vC, vP, h⟩ := h
  exact h.le
theorem AttrAt.setId {w : World} {g base : Nat} {a : AttrL} (h : AttrAt w g base a) (x : ByteArray) : AttrAt (w.setCell ⟨g, 0, none⟩ (.string x)) g base { a with id := x } := by
  obtain ⟨vC, vP, h⟩ := h
  refine ⟨vC, vP, ?_, ownsRow_setCell_below h.cls h.lt _, ownsRow_setCell_below h.prs h.lt _, h.lt, by simpa [World.setCell] using h.le, h.c32, h.p32⟩
  have := h.blk.set_ 0 (.string x)
  simpa using this
theorem toList_nil : (⟨#[]⟩ : ByteArray).toList = [] := by
  unfold ByteArray.toList ByteArray.toList.loop
  rfl
theorem toList_iff (a : ByteArray) : a.toList = [] ↔ a = ⟨#[]⟩ := by
  rw [← Lib.bytes_beq_iff, toList_nil, beq_iff_eq]
theorem nat_succ (i : Nat) : ((i + 1 : Nat) : Int) = (i : Int) + 1 := by omega
set_option maxRecDepth 100000 in
set_option maxHeartbeats 2000000 in
theorem readItem_id (w : World) (g base : Nat) (a : AttrL) (s : ByteArray) (i : Nat) (h : AttrAt w g base a) (hs : s.size ≤ 1000000) (hi : i < s.size) (hb : bt s i = 35) :
    Calls Tryz.prog 204 #[.pointer (some ⟨g, 0, none⟩), .string s, .int .i64 i] w (ReadPost (itemL a s i) g base w) := by
  have HI : Hid (itemL a s i = (if nameB (nameAt s (i + 1)) = true then (if a.id = ⟨#[]⟩ then (wordAt s (i + 1), 0, { a with id := nameAt s (i + 1) }) else (0, 7, a)) else (0, 5, a))) := Lib.hid (by unfold itemL; rw [if_pos hb])
  have hlt : ((s[i].toNat : Nat) : Int) < 256 := by rw [get_bt s i hi]; omega
  have z1 : (((s[i].toNat : Nat) : Int) == 35) = true := by rw [get_bt s i hi, hb]; rfl
  clear hb
  have hwb := wEnd_bd s (s.size - (i + 1)) (i + 1)
  have hw1 : i + 1 ≤ wordAt s (i + 1) := hwb.1
  have hw2 : wordAt s (i + 1) ≤ s.size := hwb.2 hi
  clear hwb
  have HW : Hid (∀ W, Calls Tryz.prog 97 #[.string s, .int .i64 ((i : Int) + 1)] W fun e w' => e = .returned (.int .i64 (wordAt s (i + 1))) ∧ W = w') := Lib.hid fun W => by rw [← nat_succ]; exact wordEnd_any s (i + 1) W (by omega)
  have HN : Hid (∀ W, Calls Tryz.prog 51 #[.string (s.extract (i + 1) (wordAt s (i + 1)))] W fun e w' => e = .returned (.bool (nameB (nameAt s (i + 1)))) ∧ W = w') := Lib.hid fun W => name_any _ W (by rw [extract_size s _ _ hw1 hw2]; omega)
  have HNA : Hid (nameAt s (i + 1) = s.extract (i + 1) (wordAt s (i + 1))) := Lib.hid rfl
  have HA := Lib.hid h
  obtain ⟨vC, vP, hA⟩ := h
  have hc0 : w.cell? ⟨g, 0, none⟩ = some (.string a.id) := hA.blk.cell 0
  have hf0 := hA.blk.frozen 0
  clear hA
  generalize itemL a s i = T at *
  generalize nameB (nameAt s (i + 1)) = nb at *
  generalize nameAt s (i + 1) = na at *
  generalize wordAt s (i + 1) = t at *
  cases nb
  · go_enter Tryz.func204, Tryz.ntmps204
    go_wp2_with fail
    ((with_reducible refine (HW.out _).mono ?_))
    rintro e w1 ⟨rfl, rfl⟩
    go_wp2_with fail
    ((with_reducible refine (HN.out _).mono ?_))
    rintro e w1 ⟨rfl, rfl⟩
    go_wp2_with fail
    go_ret2
    rw [HI.out]
    exact ⟨rfl, HA.out, .refl⟩
  · by_cases hid : a.id = ⟨#[]⟩
    · have hT : Hid (T = (t, 0, { a with id := na })) := Lib.hid (by rw [HI.out, if_pos rfl, if_pos hid])
      have y1 : a.id.toList = [] := (toList_iff _).2 hid
      have y2 : a.id.toList.isEmpty = true := by rw [y1]; rfl
      clear hid
      go_enter Tryz.func204, Tryz.ntmps204
      go_wp2_with fail
      ((with_reducible refine (HW.out _).mono ?_))
      rintro e w1 ⟨rfl, rfl⟩
      go_wp2_with fail
      ((with_reducible refine (HN.out _).mono ?_))
      rintro e w1 ⟨rfl, rfl⟩
      go_wp2_with fail
      go_ret2
      rw [hT.out, HNA.out]
      exact ⟨rfl, HA.out.setId _, BelowBut.refl.store _ _⟩
    · have hT : Hid (T = (0, 7, a)) := Lib.hid (by rw [HI.out, if_pos rfl, if_neg hid])
      have y1 : ¬ a.id.toList = [] := fun e => hid ((toList_iff _).1 e)
      have y2 : a.id.toList.isEmpty = false := by rw [List.isEmpty_eq_false_iff]; exact y1
      clear hid
      go_enter Tryz.func204, Tryz.ntmps204
      go_wp2_with fail
      ((with_reducible refine (HW.out _).mono ?_))
      rintro e w1 ⟨rfl, rfl⟩
      go_wp2_with fail
      ((with_reducible refine (HN.out _).mono ?_))
      rintro e w1 ⟨rfl, rfl⟩
      go_wp2_with fail
      go_ret2
      rw [hT.out]
      exact ⟨rfl, HA.out, .refl⟩

set_option maxRecDepth 100000 in
set_option maxHeartbeats 2000000 in
theorem readItem_cl (w : World) (g base : Nat) (a : AttrL) (s : ByteArray) (i : Nat) (h : AttrAt w g base a) (hs : s.size ≤ 1000000) (hi : i < s.size) (hb : bt s i = 46) :
    Calls Tryz.prog 204 #[.pointer (some ⟨g, 0, none⟩), .string s, .int .i64 i] w (ReadPost (itemL a s i) g base w) := by
  have HI : Hid (itemL a s i = (if nameB (nameAt s (i + 1)) = true then (wordAt s (i + 1), classE a (nameAt s (i + 1)), classA a (nameAt s (i + 1))) else (0, 5, a))) := Lib.hid (by unfold itemL; rw [if_neg (by omega), if_pos hb])
  have hlt : ((s[i].toNat : Nat) : Int) < 256 := by rw [get_bt s i hi]; omega
  have z1 : (((s[i].toNat : Nat) : Int) == 35) = false := by rw [get_bt s i hi, hb]; rfl
  have z2 : (((s[i].toNat : Nat) : Int) == 46) = true := by rw [get_bt s i hi, hb]; rfl
  clear hb
  have hwb := wEnd_bd s (s.size - (i + 1)) (i + 1)
  have hw1 : i + 1 ≤ wordAt s (i + 1) := hwb.1
  have hw2 : wordAt s (i + 1) ≤ s.size := hwb.2 hi
  clear hwb
  have HW : Hid (∀ W, Calls Tryz.prog 97 #[.string s, .int .i64 ((i : Int) + 1)] W fun e w' => e = .returned (.int .i64 (wordAt s (i + 1))) ∧ W = w') := Lib.hid fun W => by rw [← nat_succ]; exact wordEnd_any s (i + 1) W (by omega)
  have HN : Hid (∀ W, Calls Tryz.prog 51 #[.string (s.extract (i + 1) (wordAt s (i + 1)))] W fun e w' => e = .returned (.bool (nameB (nameAt s (i + 1)))) ∧ W = w') := Lib.hid fun W => name_any _ W (by rw [extract_size s _ _ hw1 hw2]; omega)
  have HC : Hid (Calls Tryz.prog 231 #[.pointer (some ⟨g, 0, none⟩), .string (s.extract (i + 1) (wordAt s (i + 1)))] w (ItemPost (classE a (nameAt s (i + 1))) (classA a (nameAt s (i + 1))) g base w)) := Lib.hid (addClass_any w g base a (nameAt s (i + 1)) h)
  have HA := Lib.hid h
  clear h
  generalize itemL a s i = T at *
  generalize nameB (nameAt s (i + 1)) = nb at *
  generalize classE a (nameAt s (i + 1)) = E1 at *
  generalize classA a (nameAt s (i + 1)) = A1 at *
  generalize wordAt s (i + 1) = t at *
  cases nb
  · go_enter Tryz.func204, Tryz.ntmps204
    go_wp2_with fail
    ((with_reducible refine (HW.out _).mono ?_))
    rintro e w1 ⟨rfl, rfl⟩
    go_wp2_with fail
    ((with_reducible refine (HN.out _).mono ?_))
    rintro e w1 ⟨rfl, rfl⟩
    go_wp2_with fail
    go_ret2
    rw [HI.out]
    exact ⟨rfl, HA.out, .refl⟩
  · go_enter Tryz.func204, Tryz.ntmps204
    go_wp2_with fail
    ((with_reducible refine (HW.out _).mono ?_))
    rintro e w1 ⟨rfl, rfl⟩
    go_wp2_with fail
    ((with_reducible refine (HN.out _).mono ?_))
    rintro e w1 ⟨rfl, rfl⟩
    go_wp2_with fail
    ((with_reducible refine HC.out.mono ?_))
    rintro e w1 ⟨rfl, hA1, hb1⟩
    go_wp2_with fail
    go_ret2
    rw [HI.out]
    exact ⟨rfl, hA1, hb1⟩

set_option maxRecDepth 100000 in
set_option maxHeartbeats 4000000 in
theorem readItem_pr (w : World) (g base : Nat) (a : AttrL) (s : ByteArray) (i : Nat) (h : AttrAt w g base a) (hs : s.size ≤ 1000000) (hi : i < s.size) (hb1 : bt s i ≠ 35) (hb2 : bt s i ≠ 46) :
    Calls Tryz.prog 204 #[.pointer (some ⟨g, 0, none⟩), .string s, .int .i64 i] w (ReadPost (itemL a s i) g base w) := by
  have HI : Hid (itemL a s i = if nameB (nameAt s i) = true then pairItem a s (nameAt s i) (wordAt s i) else (0, 5, a)) := Lib.hid (by unfold itemL; rw [if_neg hb1, if_neg hb2])
  have hlt : ((s[i].toNat : Nat) : Int) < 256 := by rw [get_bt s i hi]; have := bt_lt s i; omega
  have z1 : (((s[i].toNat : Nat) : Int) == 35) = false := by rw [get_bt s i hi, beq_eq_false_iff_ne]; omega
  have z2 : (((s[i].toNat : Nat) : Int) == 46) = false := by rw [get_bt s i hi, beq_eq_false_iff_ne]; omega
  clear hb1 hb2
  have hwb := wEnd_bd s (s.size - i) i
  have hw1 : i ≤ wordAt s i := hwb.1
  have hw2 : wordAt s i ≤ s.size := hwb.2 (by omega)
  clear hwb
  have HW := Lib.hid (fun W => wordEnd_any s i W (by omega))
  have HN : Hid (∀ W, Calls Tryz.prog 51 #[.string (s.extract i (wordAt s i))] W fun e w' => e = .returned (.bool (nameB (nameAt s i))) ∧ W = w') := Lib.hid fun W => name_any _ W (by rw [extract_size s _ _ hw1 hw2]; omega)
  have HP : Hid (∀ v W, AttrAt W g base a → Calls Tryz.prog 233 #[.pointer (some ⟨g, 0, none⟩), .string (s.extract i (wordAt s i)), .string v] W (ItemPost (pairE a (nameAt s i)) (pairA a (nameAt s i) v) g base W)) := Lib.hid fun v W h => addPair_any W g base a (nameAt s i) v h
  have HPI : Hid (pairItem a s (nameAt s i) (wordAt s i) = if wordAt s i < s.size ∧ bt s (wordAt s i) = 61 then (if (valL s (wordAt s i + 1)).2.2 = true then ((valL s (wordAt s i + 1)).2.1, pairE a (nameAt s i), pairA a (nameAt s i) (valL s (wordAt s i + 1)).1) else (0, 5, a)) else (0, 5, a)) := Lib.hid rfl
  have HA := Lib.hid h
  clear h
  generalize pairItem a s (nameAt s i) (wordAt s i) = PI at *
  generalize itemL a s i = T at *
  generalize nameB (nameAt s i) = nb at *
  generalize pairE a (nameAt s i) = E1 at *
  generalize pairA a (nameAt s i) = A1 at *
  generalize wordAt s i = t at *
  cases nb
  · go_enter Tryz.func204, Tryz.ntmps204
    go_wp2_with fail
    ((with_reducible refine (HW.out _).mono ?_))
    rintro e w1 ⟨rfl, rfl⟩
    go_wp2_with fail
    ((with_reducible refine (HN.out _).mono ?_))
    rintro e w1 ⟨rfl, rfl⟩
    go_wp2_with fail
    go_ret2
    rw [HI.out]
    exact ⟨rfl, HA.out, .refl⟩
  · by_cases ht : t < s.size
    · have htl : ((s[t].toNat : Nat) : Int) < 256 := by rw [get_bt s t ht]; have := bt_lt s t; omega
      by_cases h61 : bt s t = 61
      · have z3 : (((s[t].toNat : Nat) : Int) != 61) = false := by rw [get_bt s t ht, h61]; rfl
        have hT : Hid (T = if (valL s (t + 1)).2.2 = true then ((valL s (t + 1)).2.1, E1, A1 (valL s (t + 1)).1) else (0, 5, a)) := Lib.hid (by rw [HI.out, if_pos rfl, HPI.out, if_pos ⟨ht, h61⟩])
        have d1 : decide (s.size ≤ t) = false := decide_eq_false (by omega)
        clear h61
        have HV : Hid (∀ W, Calls Tryz.prog 232 #[.string s, .int .i64 ((t : Int) + 1)] W (TripleBelow (valL s (t + 1)) W)) := Lib.hid fun W => by rw [← nat_succ]; exact readValue_any s (t + 1) W hs (by omega)
        generalize valL s (t + 1) = V at *
        obtain ⟨v, t2, ok⟩ := V
        cases ok
        · go_enter Tryz.func204, Tryz.ntmps204
          go_wp2_with fail
          ((with_reducible refine (HW.out _).mono ?_))
          rintro e w1 ⟨rfl, rfl⟩
          go_wp2_with fail
          ((with_reducible refine (HN.out _).mono ?_))
          rintro e w1 ⟨rfl, rfl⟩
          go_wp2_with fail
          ((with_reducible refine (HV.out _).mono ?_))
          rintro e w1 ⟨rfl, b1⟩
          go_wp2_with fail
          go_ret2
          rw [hT.out]
          exact ⟨rfl, HA.out.below b1, .of (b1.mono HA.out.le)⟩
        · go_enter Tryz.func204, Tryz.ntmps204
          go_wp2_with fail
          ((with_reducible refine (HW.out _).mono ?_))
          rintro e w1 ⟨rfl, rfl⟩
          go_wp2_with fail
          ((with_reducible refine (HN.out _).mono ?_))
          rintro e w1 ⟨rfl, rfl⟩
          go_wp2_with fail
          ((with_reducible refine (HV.out _).mono ?_))
          rintro e w1 ⟨rfl, b1⟩
          go_wp2_with fail
          ((with_reducible refine (HP.out _ _ (HA.out.below b1)).mono ?_))
          rintro e w2 ⟨rfl, hA1, hb1⟩
          go_wp2_with fail
          go_ret2
          rw [hT.out]
          exact ⟨rfl, hA1, (BelowBut.of (b1.mono HA.out.le)).trans hb1⟩
      · have z3 : (((s[t].toNat : Nat) : Int) != 61) = true := by rw [get_bt s t ht]; simp; omega
        have d1 : decide (s.size ≤ t) = false := decide_eq_false (by omega)
        have hT : Hid (T = (0, 5, a)) := Lib.hid (by rw [HI.out, if_pos rfl, HPI.out, if_neg (fun h => h61 h.2)])
        clear h61
        go_enter Tryz.func204, Tryz.ntmps204
        go_wp2_with fail
        ((with_reducible refine (HW.out _).mono ?_))
        rintro e w1 ⟨rfl, rfl⟩
        go_wp2_with fail
        ((with_reducible refine (HN.out _).mono ?_))
        rintro e w1 ⟨rfl, rfl⟩
        go_wp2_with fail
        go_ret2
        rw [hT.out]
        exact ⟨rfl, HA.out, .refl⟩
    · have d1 : decide (s.size ≤ t) = true := decide_eq_true (by omega)
      have hT : Hid (T = (0, 5, a)) := Lib.hid (by rw [HI.out, if_pos rfl, HPI.out, if_neg (fun h => ht h.1)])
      go_enter Tryz.func204, Tryz.ntmps204
      go_wp2_with fail
      ((with_reducible refine (HW.out _).mono ?_))
      rintro e w1 ⟨rfl, rfl⟩
      go_wp2_with fail
      ((with_reducible refine (HN.out _).mono ?_))
      rintro e w1 ⟨rfl, rfl⟩
      go_wp2_with fail
      go_ret2
      rw [hT.out]
      exact ⟨rfl, HA.out, .refl⟩

theorem readItem_any (w : World) (g base : Nat) (a : AttrL) (s : ByteArray) (i : Nat) (h : AttrAt w g base a) (hs : s.size ≤ 1000000) (hi : i < s.size) :
    Calls Tryz.prog 204 #[.pointer (some ⟨g, 0, none⟩), .string s, .int .i64 i] w (ReadPost (itemL a s i) g base w) := by
  by_cases h1 : bt s i = 35
  · exact readItem_id w g base a s i h hs hi h1
  · by_cases h2 : bt s i = 46
    · exact readItem_cl w g base a s i h hs hi h2
    · exact readItem_pr w g base a s i h hs hi h1 h2
end Go.Proofs.YtpoafhgbhnblmaaGreatDoor
namespace Go.Pub
open Go.RowKit
def spEnd (s : ByteArray) : Nat → Nat → Nat
  | 0, i => i
  | f + 1, i => if i < s.size ∧ bt s i = 32 then spEnd s f (i + 1) else i
def spAt (s : ByteArray) (i : Nat) : Nat := spEnd s (s.size - i) i
theorem spEnd_step (s : ByteArray) (f i : Nat) (h : i < s.size) (hp : bt s i = 32) (hf : s.size - i ≤ f) : spEnd s f i = spEnd s (f - 1) (i + 1) := by
  obtain ⟨g, rfl⟩ : ∃ g, f = g + 1 := ⟨f - 1, by omega⟩
  simp [spEnd, h, hp]
theorem spEnd_stop (s : ByteArray) (f i : Nat) (h : ¬ (i < s.size ∧ bt s i = 32)) : spEnd s f i = i := by
  cases f with
  | zero => rfl
  | succ f => simp only [spEnd]; rw [if_neg h]
theorem spEnd_bd (s : ByteArray) : ∀ f i, i ≤ spEnd s f i ∧ (i ≤ s.size → spEnd s f i ≤ s.size)
  | 0, i => ⟨Nat.le_refl _, fun h => h⟩
  | f + 1, i => by
    unfold spEnd
    split
    · rename_i h
      have := spEnd_bd s f (i + 1)
      exact ⟨by omega, fun _ => this.2 (by omega)⟩
    · exact ⟨Nat.le_refl _, fun h => h⟩
def cellNat (w : World) (g : Nat) : Nat := (intOf ((w.cell? ⟨g, 0, none⟩).getD undef)).toNat
theorem cellNat_of {w : World} {g : Nat} {t : TypeId} {i : Int} (h : Blk w g t #[.int .i64 i]) : cellNat w g = i.toNat := by
  unfold cellNat
  rw [h.cell 0]; rfl
theorem only_refl (w : World) (r : Option Nat) : w.grownBy w r := ⟨rfl, rfl, rfl, Nat.le_refl _, fun _ _ _ => rfl⟩
theorem only_store {a w : World} {g : Nat} (h : a.grownBy w (some g)) (i : Nat) (u : Value) : a.grownBy (w.setCell ⟨g, i, none⟩ u) (some g) :=
  ⟨h.os, h.tape, h.output, by simpa [World.setCell] using h.size, fun k hk hne => (Below.heap_setCell w _ u k (by rintro rfl; exact hne rfl)).trans (h.block k hk hne)⟩
end Go.Pub
namespace Go.Proofs.YtpoafhgbhnblmaaGreatDoor
open Go.RowKit Go.Pub
/-- Spaces are passed over: the place in block g has moved. -/
def SpPost (s : ByteArray) (k g : Nat) (w : World) (e : Ending) (w' : World) : Prop :=
  e = .returned (.bool (decide (k < spAt s k))) ∧ Blk w' g 3 #[.int .i64 (spAt s k)] ∧ w.grownBy w' (some g)
set_option maxRecDepth 100000 in
set_option maxHeartbeats 1000000 in
theorem spaces_any (w : World) (s : ByteArray) (k gs ga : Nat) (hs : s.size ≤ 1000000) (h1 : Blk w gs 9 #[.string s]) (h2 : Blk w ga 3 #[.int .i64 k]) (hne : gs ≠ ga) (hk : k ≤ s.size) :
    Calls Tryz.prog 202 #[.pointer (some ⟨ga, 0, none⟩), .pointer (some ⟨gs, 0, none⟩)] w (SpPost s k ga w) := by
  have HW : Hid (spEnd s (s.size - k) k = spAt s k) := Lib.hid rfl
  have HP : Hid (∀ e w', e = .returned (.bool (decide (k < spAt s k))) ∧ Blk w' ga 3 #[.int .i64 (spAt s k)] ∧ w.grownBy w' (some ga) → SpPost s k ga w e w') := Lib.hid fun e w' h => h
  have H1 := Lib.hid h1
  have H2 := Lib.hid h2
  have hc1 : w.cell? ⟨gs, 0, none⟩ = some (.string s) := h1.cell 0
  have hc2 : w.cell? ⟨ga, 0, none⟩ = some (.int .i64 k) := h2.cell 0
  clear h1 h2
  generalize spAt s k = R at *
  go_enter Tryz.func202, Tryz.ntmps202
  go_wp2
  clear hc1 hc2
  go_loopw [5] (fun _ wr => ∃ i f : Nat, Hid (Blk wr gs 9 #[.string s]) ∧ Hid (Blk wr ga 3 #[.int .i64 i]) ∧ Hid (w.grownBy wr (some ga)) ∧ Hid (spEnd s f i = R) ∧ s.size - i ≤ f ∧ k ≤ i ∧ i ≤ s.size) (fun _ wr => s.size - (cellNat wr ga))
  case atStart => exact ⟨k, s.size - k, H1, H2, Lib.hid (only_refl _ _), HW, Nat.le_refl _, Nat.le_refl _, hk⟩
  case round =>
    obtain ⟨i, f, K1, K2, K3, K4, hf, hki, his⟩ := hrel
    have hc1 : wr.cell? ⟨gs, 0, none⟩ = some (.string s) := K1.out.cell 0
    have hc2 : wr.cell? ⟨ga, 0, none⟩ = some (.int .i64 i) := K2.out.cell 0
    have hf2 := K2.out.frozen 0
    by_cases hi : i < s.size
    · have hlt : ((s[i].toNat : Nat) : Int) < 256 := by rw [get_bt s i hi]; have := bt_lt s i; omega
      by_cases hb : bt s i = 32
      · have z1 : (((s[i].toNat : Nat) : Int) == 32) = true := by rw [get_bt s i hi, hb]; rfl
        have hst := Lib.hid (spEnd_step s f i hi hb hf)
        clear hb
        go_wp2
        go_roundw
        case rel =>
          refine ⟨i + 1, f - 1, Lib.hid (K1.out.far (by omega) _), Lib.hid ?_, Lib.hid (only_store K3.out _ _), Lib.hid (by rw [← K4.out, hst.out]), by omega, by omega, by omega⟩
          have := K2.out.set_ 0 (.int .i64 ((i : Int) + 1))
          simpa using this
        case measure =>
          have e1 := cellNat_of K2.out
          have e2 : cellNat (wr.setCell ⟨ga, 0, none⟩ (.int .i64 ((i : Int) + 1))) ga = ((i : Int) + 1).toNat := cellNat_of (t := 3) (by have := K2.out.set_ 0 (.int .i64 ((i : Int) + 1)); simpa using this)
          rw [e1, e2]; omega
      · have z1 : (((s[i].toNat : Nat) : Int) == 32) = false := by rw [get_bt s i hi, beq_eq_false_iff_ne]; omega
        have hR : Hid (R = i) := Lib.hid (by rw [← K4.out, spEnd_stop s f i (fun h => hb h.2)])
        clear hb
        go_wp2
        go_ret
        refine HP.out _ _ ⟨?_, ?_, K3.out⟩
        · rw [hR.out]
          refine ret_bool ?_
          rw [Bool.eq_iff_iff]; try simp
        · rw [hR.out]; exact K2.out
    · have hR : Hid (R = i) := Lib.hid (by rw [← K4.out, spEnd_stop s f i (fun h => hi h.1)])
      go_wp2
      go_ret
      refine HP.out _ _ ⟨?_, ?_, K3.out⟩
      · rw [hR.out]
        refine ret_bool ?_
        rw [Bool.eq_iff_iff]; try simp
      · rw [hR.out]; exact K2.out

/-- An item is read: block g holds the attributes, block ga the place. -/
def ClosPost (r : Nat × Nat × AttrL) (g ga base : Nat) (w : World) (e : Ending) (w' : World) : Prop :=
  e = .returned (.int .i64 r.2.1) ∧ ∃ w1, w' = w1.setCell ⟨ga, 0, none⟩ (.int .i64 r.1) ∧ AttrAt w1 g base r.2.2 ∧ BelowBut g base w w1
set_option maxRecDepth 100000 in
set_option maxHeartbeats 1000000 in
theorem item_clos (w : World) (s : ByteArray) (k g gs ga base : Nat) (a : AttrL) (hs : s.size ≤ 1000000) (h1 : Blk w gs 9 #[.string s]) (h2 : Blk w ga 3 #[.int .i64 k]) (h : AttrAt w g base a)
    (hne : ga ≠ g) (hga : ga < base) (hk : k < s.size) :
    Calls Tryz.prog 203 #[.pointer (some ⟨g, 0, none⟩), .pointer (some ⟨gs, 0, none⟩), .pointer (some ⟨ga, 0, none⟩)] w (ClosPost (itemL a s k) g ga base w) := by
  have HR := Lib.hid (readItem_any w g base a s k h hs hk)
  have H2 := Lib.hid h2
  have hc1 : w.cell? ⟨gs, 0, none⟩ = some (.string s) := h1.cell 0
  have hc2 : w.cell? ⟨ga, 0, none⟩ = some (.int .i64 k) := h2.cell 0
  clear h1 h2 h
  generalize itemL a s k = T at *
  go_enter Tryz.func203, Tryz.ntmps203
  go_wp2_with fail
  ((with_reducible refine HR.out.mono ?_))
  rintro e w1 ⟨rfl, hA, hb⟩
  have hB := hb.blk H2.out hga hne
  have hc3 : w1.cell? ⟨ga, 0, none⟩ = some (.int .i64 k) := hB.cell 0
  have hf3 := hB.frozen 0
  go_wp2_with fail
  go_ret
  exact ⟨rfl, w1, rfl, hA, hb⟩

end Go.Proofs.YtpoafhgbhnblmaaGreatDoor
namespace Go.Proofs.YtpoafhgbhnblmaaGreatDoor
open Go.RowKit Go.Pub
def emptyA : AttrL := ⟨⟨#[]⟩, [], []⟩
def parseF (s : ByteArray) : Nat → Nat → Bool → AttrL → AttrL × Nat × Nat
  | 0, _, _, _ => (emptyA, 0, 5)
  | f + 1, i, sep, a =>
    if i < s.size then
      (if bt s i = 125 then (a, i + 1, 0)
       else if sep = false then (emptyA, 0, 5)
       else if (itemL a s i).2.1 = 0 then parseF s f (spAt s (itemL a s i).1) (decide ((itemL a s i).1 < spAt s (itemL a s i).1)) (itemL a s i).2.2
       else (emptyA, 0, (itemL a s i).2.1))
    else (emptyA, 0, 5)
/-- What Parse gives: the attributes, the place behind them, the error. -/
def parseL (s : ByteArray) (i : Int) : AttrL × Nat × Nat :=
  if 0 ≤ i ∧ i < s.size ∧ bt s i.toNat = 123 then parseF s (s.size + 1) (spAt s (i.toNat + 1)) true emptyA else (emptyA, 0, 5)
structure AttrVal (w : World) (base : Nat) (v : Value) (a : AttrL) : Prop where
  val : ∃ vC vP, v = .agg #[.string a.id, vC, vP] ∧ w.ownsRow base 9 1 vC a.cl.length (strs a.cl) ∧ w.ownsRow base 81 2 vP a.pr.length (prs a.pr)
  c32 : a.cl.length ≤ 32
  p32 : a.pr.length ≤ 32
def ParsePost (r : AttrL × Nat × Nat) (w : World) (e : Ending) (w' : World) : Prop :=
  ∃ v, e = .returned (.tuple #[v, .int .i64 r.2.1, .int .i64 r.2.2]) ∧ AttrVal w' w.heap.size v r.1 ∧ Below w.heap.size w w'
/-- What stands in memory at the head of Parse's loop. -/
structure PInv (s : ByteArray) (w : World) (k : Nat) (a : AttrL) (wr : World) : Prop where
  str : Blk wr w.heap.size 9 #[.string s]
  res : Blk wr (w.heap.size + 1) 43 #[.string ⟨#[]⟩, .slice none 0 0, .slice none 0 0]
  plc : Blk wr (w.heap.size + 1 + 1 + 1) 3 #[.int .i64 k]
  att : AttrAt wr (w.heap.size + 1 + 1) (w.heap.size + 1 + 1 + 1 + 1) a
  bel : Below w.heap.size w wr
theorem pinv_start (s : ByteArray) (w : World) (n : Nat) : PInv s w (n + 1) emptyA ((((w.alloc (.cells #[.string s] 9)).alloc (.cells #[.string ⟨#[]⟩, .slice none 0 0, .slice none 0 0] 43)).alloc (.cells #[.string ⟨#[]⟩, .slice none 0 0, .slice none 0 0] 43)).alloc (.cells #[.int .i64 ((n : Int) + 1)] 3)) := by
  refine ⟨(((Blk.new _ _ _).alloc _).alloc _).alloc _, ?_, ?_, ⟨.slice none 0 0, .slice none 0 0, ?_, World.ownsRow_nil _ _ _ _, World.ownsRow_nil _ _ _ _, by omega, by simp, by decide, by decide⟩, ?_⟩
  · have := ((Blk.new (w.alloc (.cells #[.string s] 9)) 43 #[.string ⟨#[]⟩, .slice none 0 0, .slice none 0 0]).alloc (.cells #[.string ⟨#[]⟩, .slice none 0 0, .slice none 0 0] 43)).alloc (.cells #[.int .i64 ((n : Int) + 1)] 3)
    simpa using this
  · have := Blk.new (((w.alloc (.cells #[.string s] 9)).alloc (.cells #[.string ⟨#[]⟩, .slice none 0 0, .slice none 0 0] 43)).alloc (.cells #[.string ⟨#[]⟩, .slice none 0 0, .slice none 0 0] 43)) 3 #[.int .i64 ((n : Int) + 1)]
    rw [nat_succ]
    simpa using this
  · have := (Blk.new ((w.alloc (.cells #[.string s] 9)).alloc (.cells #[.string ⟨#[]⟩, .slice none 0 0, .slice none 0 0] 43)) 43 #[.string ⟨#[]⟩, .slice none 0 0, .slice none 0 0]).alloc (.cells #[.int .i64 ((n : Int) + 1)] 3)
    show Blk _ _ _ #[.string ⟨#[]⟩, .slice none 0 0, .slice none 0 0]
    simpa using this
  · exact ((((Below.refl _ _).alloc (Nat.le_refl _) _).alloc (by simp) _).alloc (by simp; omega) _).alloc (by simp; omega) _
theorem own_only {w w' : World} {base size n g : Nat} {e : TypeId} {v : Value} {xs : List Value} (h : w.ownsRow base e size v n xs) (hg : w.grownBy w' (some g)) (hlt : g < base) : w'.ownsRow base e size v n xs :=
  h.kept hg (by
    cases hv : v.ownBlock with
    | none => exact Or.inl rfl
    | some b =>
      right
      intro e0
      have := (h.lt b hv).1
      injection e0 with e0
      omega)
theorem pinv_spaces {s : ByteArray} {w wr w1 : World} {k k1 : Nat} {a : AttrL} (h : PInv s w k a wr) (hb : Blk w1 (w.heap.size + 1 + 1 + 1) 3 #[.int .i64 k1]) (hg : wr.grownBy w1 (some (w.heap.size + 1 + 1 + 1))) : PInv s w k1 a w1 := by
  obtain ⟨vC, vP, hA⟩ := h.att
  refine ⟨h.str.grown hg (by simp; omega), h.res.grown hg (by simp), hb, ⟨vC, vP, hA.blk.grown hg (by simp), own_only hA.cls hg (by omega), own_only hA.prs hg (by omega), hA.lt, Nat.le_trans hA.le hg.size, hA.c32, hA.p32⟩, ?_⟩
  exact h.bel.grown hg h.bel.size (fun k hk => by injection hk with hk; omega)
theorem pinv_item {s : ByteArray} {w wr w1 : World} {k k1 : Nat} {a a1 : AttrL} (h : PInv s w k a wr) (hA : AttrAt w1 (w.heap.size + 1 + 1) (w.heap.size + 1 + 1 + 1 + 1) a1) (hg : BelowBut (w.heap.size + 1 + 1) (w.heap.size + 1 + 1 + 1 + 1) wr w1) :
    PInv s w k1 a1 (w1.setCell ⟨w.heap.size + 1 + 1 + 1, 0, none⟩ (.int .i64 k1)) := by
  obtain ⟨vC, vP, hA⟩ := hA
  refine ⟨(hg.blk h.str (by omega) (by omega)).far (by simp; omega) _, (hg.blk h.res (by omega) (by omega)).far (by simp) _, ?_, ⟨vC, vP, hA.blk.far (by simp) _, ownsRow_setCell_below hA.cls (by simp) _, ownsRow_setCell_below hA.prs (by simp) _, hA.lt, by simpa [World.setCell] using hA.le, hA.c32, hA.p32⟩, ?_⟩
  · have := (hg.blk h.plc (by omega) (by omega)).set_ 0 (.int .i64 k1)
    simpa using this
  · exact (h.bel.trans (hg.below (by omega) (by omega))).setCell (by simp; omega) _
theorem parseF_end (s : ByteArray) (f k : Nat) (b : Bool) (a : AttrL) (h : ¬ k < s.size) : parseF s f k b a = (emptyA, 0, 5) := by
  cases f with
  | zero => rfl
  | succ f => unfold parseF; rw [if_neg h]
theorem parseF_close (s : ByteArray) (f k : Nat) (b : Bool) (a : AttrL) (h : k < s.size) (hf : s.size < k + f) (hb : bt s k = 125) : parseF s f k b a = (a, k + 1, 0) := by
  obtain ⟨g, rfl⟩ : ∃ g, f = g + 1 := ⟨f - 1, by omega⟩
  unfold parseF; rw [if_pos h, if_pos hb]
theorem parseF_tight (s : ByteArray) (f k : Nat) (a : AttrL) (h : k < s.size) (hb : bt s k ≠ 125) : parseF s f k false a = (emptyA, 0, 5) := by
  cases f with
  | zero => rfl
  | succ f => unfold parseF; rw [if_pos h, if_neg hb, if_pos rfl]
theorem parseF_bad (s : ByteArray) (f k : Nat) (a : AttrL) (h : k < s.size) (hf : s.size < k + f) (hb : bt s k ≠ 125) (he : (itemL a s k).2.1 ≠ 0) : parseF s f k true a = (emptyA, 0, (itemL a s k).2.1) := by
  obtain ⟨g, rfl⟩ : ∃ g, f = g + 1 := ⟨f - 1, by omega⟩
  unfold parseF; rw [if_pos h, if_neg hb, if_neg (by decide), if_neg he]
theorem parseF_next (s : ByteArray) (f k : Nat) (a : AttrL) (h : k < s.size) (hf : s.size < k + f) (hb : bt s k ≠ 125) (he : (itemL a s k).2.1 = 0) : parseF s f k true a = parseF s (f - 1) (spAt s (itemL a s k).1) (decide ((itemL a s k).1 < spAt s (itemL a s k).1)) (itemL a s k).2.2 := by
  obtain ⟨g, rfl⟩ : ∃ g, f = g + 1 := ⟨f - 1, by omega⟩
  rw [Nat.add_sub_cancel, parseF, if_pos h, if_neg hb, if_neg (by decide), if_pos he]
theorem pinv_fail {s : ByteArray} {w wr : World} {k : Nat} {a : AttrL} (h : PInv s w k a wr) :
    Blk (((wr.setCell ⟨w.heap.size + 1, 0, none⟩ (.string ⟨#[]⟩)).setCell ⟨w.heap.size + 1, 1, none⟩ (.slice none 0 0)).setCell ⟨w.heap.size + 1, 2, none⟩ (.slice none 0 0)) (w.heap.size + 1) 43 #[.string ⟨#[]⟩, .slice none 0 0, .slice none 0 0] ∧
    AttrVal (((wr.setCell ⟨w.heap.size + 1, 0, none⟩ (.string ⟨#[]⟩)).setCell ⟨w.heap.size + 1, 1, none⟩ (.slice none 0 0)).setCell ⟨w.heap.size + 1, 2, none⟩ (.slice none 0 0)) w.heap.size (.agg #[.string ⟨#[]⟩, .slice none 0 0, .slice none 0 0]) emptyA ∧
    Below w.heap.size w (((wr.setCell ⟨w.heap.size + 1, 0, none⟩ (.string ⟨#[]⟩)).setCell ⟨w.heap.size + 1, 1, none⟩ (.slice none 0 0)).setCell ⟨w.heap.size + 1, 2, none⟩ (.slice none 0 0)) := by
  refine ⟨?_, ⟨⟨_, _, rfl, World.ownsRow_nil _ _ _ _, World.ownsRow_nil _ _ _ _⟩, by decide, by decide⟩, ((h.bel.setCell (by simp) _).setCell (by simp) _).setCell (by simp) _⟩
  have := ((h.res.set_ 0 (.string ⟨#[]⟩)).set_ 1 (.slice none 0 0)).set_ 2 (.slice none 0 0)
  simpa using this
theorem own_base {w : World} {base base' size n : Nat} {e : TypeId} {v : Value} {xs : List Value} (h : w.ownsRow base e size v n xs) (hb : base' ≤ base) : w.ownsRow base' e size v n xs := by
  obtain ⟨h1, h2⟩ := h
  refine ⟨h1, ?_⟩
  rcases h2 with h2 | ⟨g, cap, cur, hv, hg, r⟩
  · exact Or.inl h2
  · exact Or.inr ⟨g, cap, cur, hv, by omega, r⟩
theorem pinv_done {s : ByteArray} {w wr : World} {k : Nat} {a : AttrL} {vC vP : Value} (h : PInv s w k a wr) (hA : AttrCells wr (w.heap.size + 1 + 1) (w.heap.size + 1 + 1 + 1 + 1) a vC vP) :
    Blk (((wr.setCell ⟨w.heap.size + 1, 0, none⟩ (.string a.id)).setCell ⟨w.heap.size + 1, 1, none⟩ vC).setCell ⟨w.heap.size + 1, 2, none⟩ vP).drew (w.heap.size + 1) 43 #[.string a.id, vC, vP] ∧
    AttrVal (((wr.setCell ⟨w.heap.size + 1, 0, none⟩ (.string a.id)).setCell ⟨w.heap.size + 1, 1, none⟩ vC).setCell ⟨w.heap.size + 1, 2, none⟩ vP).drew w.heap.size (.agg #[.string a.id, vC, vP]) a ∧
    Below w.heap.size w (((wr.setCell ⟨w.heap.size + 1, 0, none⟩ (.string a.id)).setCell ⟨w.heap.size + 1, 1, none⟩ vC).setCell ⟨w.heap.size + 1, 2, none⟩ vP).drew := by
  refine ⟨?_, ⟨⟨_, _, rfl, ?_, ?_⟩, hA.c32, hA.p32⟩, (((h.bel.setCell (by simp) _).setCell (by simp) _).setCell (by simp) _).drew⟩
  · have := ((h.res.set_ 0 (.string a.id)).set_ 1 vC).set_ 2 vP
    simp at this
    exact this
  · exact own_base (ownsRow_setCell_below (ownsRow_setCell_below (ownsRow_setCell_below hA.cls (by simp) _) (by simp) _) (by simp) _) (by omega)
  · exact own_base (ownsRow_setCell_below (ownsRow_setCell_below (ownsRow_setCell_below hA.prs (by simp) _) (by simp) _) (by simp) _) (by omega)
theorem nameAt_pos (s : ByteArray) (i : Nat) (hi : i ≤ s.size) (h : nameB (nameAt s i) = true) : i < wordAt s i ∧ wordAt s i ≤ s.size := by
  have hwb := wEnd_bd s (s.size - i) i
  have hw1 : i ≤ wordAt s i := hwb.1
  have hw2 : wordAt s i ≤ s.size := hwb.2 hi
  unfold nameB at h
  simp only [Bool.and_eq_true, decide_eq_true_eq] at h
  have := h.1.1.1
  unfold nameAt at this
  rw [extract_size s i _ hw1 hw2] at this
  exact ⟨by omega, hw2⟩
theorem valL_bd (s : ByteArray) (i : Nat) (hi : i ≤ s.size) (h : (valL s i).2.2 = true) : i ≤ (valL s i).2.1 ∧ (valL s i).2.1 ≤ s.size := by
  unfold valL at h ⊢
  by_cases c : i < s.size ∧ bt s i = 34
  · rw [if_pos c] at h ⊢
    cases hq : qv s s.size (i + 1) [] with
    | none => rw [hq] at h; cases h
    | some p =>
      obtain ⟨l, j⟩ := p
      have := qv_len s _ _ _ l j hq
      show i ≤ j ∧ j ≤ s.size
      omega
  · rw [if_neg c] at h ⊢
    have hwb := wEnd_bd s (s.size - i) i
    exact ⟨hwb.1, hwb.2 hi⟩
theorem itemL_bd (a : AttrL) (s : ByteArray) (i : Nat) (hi : i < s.size) (he : (itemL a s i).2.1 = 0) : i < (itemL a s i).1 ∧ (itemL a s i).1 ≤ s.size := by
  unfold itemL at he ⊢
  by_cases c1 : bt s i = 35
  · rw [if_pos c1] at he ⊢
    by_cases c2 : nameB (nameAt s (i + 1)) = true
    · rw [if_pos c2] at he ⊢
      have := nameAt_pos s (i + 1) (by omega) c2
      by_cases c3 : a.id = ⟨#[]⟩
      · rw [if_pos c3]; exact ⟨by show i < wordAt s (i + 1); omega, this.2⟩
      · rw [if_neg c3] at he; cases he
    · rw [if_neg c2] at he; cases he
  · rw [if_neg c1] at he ⊢
    by_cases c4 : bt s i = 46
    · rw [if_pos c4] at he ⊢
      by_cases c2 : nameB (nameAt s (i + 1)) = true
      · rw [if_pos c2]
        have := nameAt_pos s (i + 1) (by omega) c2
        exact ⟨by show i < wordAt s (i + 1); omega, this.2⟩
      · rw [if_neg c2] at he; cases he
    · rw [if_neg c4] at he ⊢
      by_cases c2 : nameB (nameAt s i) = true
      · rw [if_pos c2] at he ⊢
        have hn := nameAt_pos s i (by omega) c2
        unfold pairItem at he ⊢
        by_cases c5 : wordAt s i < s.size ∧ bt s (wordAt s i) = 61
        · rw [if_pos c5] at he ⊢
          by_cases c6 : (valL s (wordAt s i + 1)).2.2 = true
          · rw [if_pos c6]
            have := valL_bd s (wordAt s i + 1) (by omega) c6
            exact ⟨by show i < (valL s (wordAt s i + 1)).2.1; omega, this.2⟩
          · rw [if_neg c6] at he; cases he
        · rw [if_neg c5] at he; cases he
      · rw [if_neg c2] at he; cases he
theorem parse_ret {W : World} {g : Nat} {x y z a5 a6 : Value} {P : Ending → World → Prop} {act : Act} (hr : Blk W g 43 #[x, y, z]) (h4 : act.tmps.getD 4 undef = .pointer (some ⟨g, 0, none⟩))
    (h5 : act.tmps.getD 5 undef = a5) (h6 : act.tmps.getD 6 undef = a6) (hd : act.defers = []) (hP : P (.returned (.tuple #[.agg #[x, y, z], a5, a6])) W) : bodyPost Tryz.prog Tryz.f148 P Exit.ret act W := by
  have c0 : W.cell? ⟨g, 0, none⟩ = some x := hr.cell 0
  have c1 : W.cell? ⟨g, 1, none⟩ = some y := hr.cell 1
  have c2 : W.cell? ⟨g, 2, none⟩ = some z := hr.cell 2
  refine bodyPost_ret (v := .tuple #[.agg #[x, y, z], a5, a6]) ?_ hd hP
  rw [Array.getD_eq_getD_getElem?] at h4 h5 h6
  simp [results, Tryz.results148, go_sem, h4, h5, h6, c0, c1, c2]
set_option maxRecDepth 100000 in
set_option maxHeartbeats 2000000 in
theorem parse_in (w : World) (s : ByteArray) (n : Nat) (hs : s.size ≤ 1000000) (hn : n < s.size) (hb : bt s n = 123) :
    Calls Tryz.prog 148 #[.string s, .int .i64 n] w (ParsePost (parseF s (s.size + 1) (spAt s (n + 1)) true emptyA) w) := by
  have hlt : ((s[n].toNat : Nat) : Int) < 256 := by rw [get_bt s n hn]; have := bt_lt s n; omega
  have z1 : (((s[n].toNat : Nat) : Int) != 123) = false := by rw [get_bt s n hn, hb]; rfl
  have d1 : decide (s.size ≤ n) = false := decide_eq_false (by omega)
  clear hb
  have HS := Lib.hid (pinv_start s w n)
  have hsb := spEnd_bd s (s.size - (n + 1)) (n + 1)
  have hsb1 : n + 1 ≤ spAt s (n + 1) := hsb.1
  have hsb2 : spAt s (n + 1) ≤ s.size := hsb.2 (by omega)
  clear hsb
  generalize hR : parseF s (s.size + 1) (spAt s (n + 1)) true emptyA = R at *
  have HR := Lib.hid hR
  clear hR
  go_enter Tryz.func148, Tryz.ntmps148
  go_wp2_with fail
  refine (spaces_any _ s (n + 1) w.heap.size (w.heap.size + 1 + 1 + 1) hs HS.out.str HS.out.plc (by omega) (by omega)).mono ?_
  rintro e w1 ⟨rfl, hk1, hg1⟩
  have HP := Lib.hid (pinv_spaces HS.out hk1 hg1)
  clear hk1 hg1
  go_wp2_with fail
  go_loopw [11] (fun sep wr => ∃ (k f : Nat) (b : Bool) (a : AttrL), sep = .bool b ∧ Hid (PInv s w k a wr) ∧ Hid (parseF s f k b a = R) ∧ s.size < k + f ∧ k ≤ s.size) (fun _ wr => s.size - cellNat wr (w.heap.size + 1 + 1 + 1))
  case atStart => exact ⟨spAt s (n + 1), s.size + 1, true, emptyA, rfl, HP, HR, by omega, hsb2⟩
  case round =>
    obtain ⟨k, f, b, a, rfl, KP, KR, hkf, hks⟩ := hrel
    have c1 : wr.cell? ⟨w.heap.size, 0, none⟩ = some (.string s) := KP.out.str.cell 0
    have c2 : wr.cell? ⟨w.heap.size + 1 + 1 + 1, 0, none⟩ = some (.int .i64 k) := KP.out.plc.cell 0
    have r0 : wr.cell? ⟨w.heap.size + 1, 0, none⟩ = some (.string ⟨#[]⟩) := KP.out.res.cell 0
    have r1 : wr.cell? ⟨w.heap.size + 1, 1, none⟩ = some (.slice none 0 0) := KP.out.res.cell 1
    have r2 : wr.cell? ⟨w.heap.size + 1, 2, none⟩ = some (.slice none 0 0) := KP.out.res.cell 2
    have q0 := KP.out.res.frozen 0
    have q1 := KP.out.res.frozen 1
    have q2 := KP.out.res.frozen 2
    by_cases hk : k < s.size
    · have hlk : ((s[k].toNat : Nat) : Int) < 256 := by rw [get_bt s k hk]; have := bt_lt s k; omega
      have dk : decide (s.size ≤ k) = false := decide_eq_false (by omega)
      by_cases h125 : bt s k = 125
      · have z2 : (((s[k].toNat : Nat) : Int) == 125) = true := by rw [get_bt s k hk, h125]; rfl
        have hT : Hid (R = (a, k + 1, 0)) := Lib.hid (by rw [← KR.out, parseF_close s f k b a hk hkf h125])
        obtain ⟨vC, vP, hA⟩ := KP.out.att
        have KA := Lib.hid hA
        have a0 : wr.cell? ⟨w.heap.size + 1 + 1, 0, none⟩ = some (.string a.id) := hA.blk.cell 0
        have a1 : wr.cell? ⟨w.heap.size + 1 + 1, 1, none⟩ = some vC := hA.blk.cell 1
        have a2 : wr.cell? ⟨w.heap.size + 1 + 1, 2, none⟩ = some vP := hA.blk.cell 2
        obtain ⟨AC, cC, rfl⟩ := own_slice hA.cls
        obtain ⟨AP, cP, rfl⟩ := own_slice hA.prs
        clear h125 hA
        have hfin := Lib.hid (pinv_done KP.out KA.out)
        go_wp2
        go_region
        go_wp2
        refine parse_ret hfin.out.1 rfl rfl rfl rfl ?_
        rw [hT.out]
        exact ⟨_, rfl, hfin.out.2.1, hfin.out.2.2⟩
      · have z2 : (((s[k].toNat : Nat) : Int) == 125) = false := by rw [get_bt s k hk, beq_eq_false_iff_ne]; omega
        cases b
        · have hT : Hid (R = (emptyA, 0, 5)) := Lib.hid (by rw [← KR.out, parseF_tight s f k a hk h125])
          have hfin := Lib.hid (pinv_fail KP.out)
          clear h125
          go_wp2
          refine parse_ret hfin.out.1 rfl rfl rfl rfl ?_
          rw [hT.out]
          exact ⟨_, rfl, hfin.out.2.1, hfin.out.2.2⟩
        · have HI := Lib.hid (item_clos wr s k (w.heap.size + 1 + 1) w.heap.size (w.heap.size + 1 + 1 + 1) (w.heap.size + 1 + 1 + 1 + 1) a hs KP.out.str KP.out.plc KP.out.att (by omega) (by omega) hk)
          have hbd := Lib.hid (itemL_bd a s k hk)
          have hbad := Lib.hid (parseF_bad s f k a hk hkf h125)
          have hnxt := Lib.hid (parseF_next s f k a hk hkf h125)
          clear h125
          generalize itemL a s k = T at *
          obtain ⟨t, en, a1⟩ := T
          by_cases he : en = 0
          · obtain ⟨hb1, hb2⟩ := hbd.out he
            have hN := Lib.hid (hnxt.out he)
            clear hnxt hbad
            subst he
            have hsp := spEnd_bd s (s.size - t) t
            have hsp1 : t ≤ spAt s t := hsp.1
            have hsp2 : spAt s t ≤ s.size := hsp.2 hb2
            clear hsp
            go_wp2_with fail
            ((with_reducible refine HI.out.mono ?_))
            rintro e w2 ⟨rfl, w3, rfl, hA3, hb3⟩
            have KP2 := Lib.hid (pinv_item (k1 := t) KP.out hA3 hb3)
            go_wp2_with fail
            refine (spaces_any _ s t w.heap.size (w.heap.size + 1 + 1 + 1) hs KP2.out.str KP2.out.plc (by omega) hb2).mono ?_
            rintro e w4 ⟨rfl, hk4, hg4⟩
            have KP4 := Lib.hid (pinv_spaces KP2.out hk4 hg4)
            go_wp2
            go_roundw
            case rel => exact ⟨spAt s t, f - 1, decide (t < spAt s t), a1, rfl, KP4, Lib.hid (by rw [← KR.out, hN.out]), by omega, hsp2⟩
            case measure =>
              rw [cellNat_of KP.out.plc, cellNat_of KP4.out.plc]; omega
          · have hT : Hid (R = (emptyA, 0, en)) := Lib.hid (by rw [← KR.out, hbad.out he])
            have z3 : ((en : Int) != 0) = true := by simp; exact he
            clear hnxt hbad hbd
            go_wp2_with fail
            ((with_reducible refine HI.out.mono ?_))
            rintro e w2 ⟨rfl, w3, rfl, hA3, hb3⟩
            have KP2 := Lib.hid (pinv_item (k1 := t) KP.out hA3 hb3)
            have r0 := KP2.out.res.cell 0
            have r1 := KP2.out.res.cell 1
            have r2 := KP2.out.res.cell 2
            simp at r0 r1 r2
            have q0 := KP2.out.res.frozen 0
            have q1 := KP2.out.res.frozen 1
            have q2 := KP2.out.res.frozen 2
            have hfin := Lib.hid (pinv_fail KP2.out)
            go_wp2
            refine parse_ret hfin.out.1 rfl rfl rfl rfl ?_
            rw [hT.out]
            exact ⟨_, rfl, hfin.out.2.1, hfin.out.2.2⟩
    · have hT : Hid (R = (emptyA, 0, 5)) := Lib.hid (by rw [← KR.out, parseF_end s f k b a hk])
      have hfin := Lib.hid (pinv_fail KP.out)
      go_wp2
      refine parse_ret hfin.out.1 rfl rfl rfl rfl ?_
      rw [hT.out]
      exact ⟨_, rfl, hfin.out.2.1, hfin.out.2.2⟩

/-- The world of Parse where it fails at once. -/
def failW (w : World) (s : ByteArray) : World := ((w.alloc (.cells #[.string s] 9)).alloc (.cells #[.string ⟨#[]⟩, .slice none 0 0, .slice none 0 0] 43))
theorem failW_ok (w : World) (s : ByteArray) : Blk (failW w s) (w.heap.size + 1) 43 #[.string ⟨#[]⟩, .slice none 0 0, .slice none 0 0] ∧ AttrVal (failW w s) w.heap.size (.agg #[.string ⟨#[]⟩, .slice none 0 0, .slice none 0 0]) emptyA ∧ Below w.heap.size w (failW w s) := by
  refine ⟨?_, ⟨⟨_, _, rfl, World.ownsRow_nil _ _ _ _, World.ownsRow_nil _ _ _ _⟩, by decide, by decide⟩, ((Below.refl _ _).alloc (Nat.le_refl _) _).alloc (by simp) _⟩
  have := Blk.new (w.alloc (.cells #[.string s] 9)) 43 #[.string ⟨#[]⟩, .slice none 0 0, .slice none 0 0]
  simp at this
  exact this
set_option maxRecDepth 100000 in
set_option maxHeartbeats 2000000 in
theorem parse_out (w : World) (s : ByteArray) (i : Int) (hs : s.size ≤ 1000000) (h : i < 0 ∨ (0 ≤ i ∧ (s.size : Int) ≤ i) ∨ (∃ n : Nat, i = n ∧ n < s.size ∧ bt s n ≠ 123)) :
    Calls Tryz.prog 148 #[.string s, .int .i64 i] w (ParsePost (emptyA, 0, 5) w) := by
  have hfin := Lib.hid (failW_ok w s)
  rcases h with h | ⟨h0, h⟩ | ⟨n, rfl, hn, hb⟩
  · have d0 : decide (i < 0) = true := decide_eq_true h
    go_enter Tryz.func148, Tryz.ntmps148
    go_wp2
    refine parse_ret hfin.out.1 rfl rfl rfl rfl ?_
    exact ⟨_, rfl, hfin.out.2.1, hfin.out.2.2⟩
  · have d0 : decide (i < 0) = false := decide_eq_false (by omega)
    have d1 : decide ((s.size : Int) ≤ i) = true := decide_eq_true h
    go_enter Tryz.func148, Tryz.ntmps148
    go_wp2
    refine parse_ret hfin.out.1 rfl rfl rfl rfl ?_
    exact ⟨_, rfl, hfin.out.2.1, hfin.out.2.2⟩
  · have hlt : ((s[n].toNat : Nat) : Int) < 256 := by rw [get_bt s n hn]; have := bt_lt s n; omega
    have z1 : (((s[n].toNat : Nat) : Int) != 123) = true := by rw [get_bt s n hn]; simp; omega
    have d1 : decide (s.size ≤ n) = false := decide_eq_false (by omega)
    clear hb
    go_enter Tryz.func148, Tryz.ntmps148
    go_wp2
    refine parse_ret hfin.out.1 rfl rfl rfl rfl ?_
    exact ⟨_, rfl, hfin.out.2.1, hfin.out.2.2⟩

theorem parse_any (w : World) (s : ByteArray) (i : Int) (hs : s.size ≤ 1000000) : Calls Tryz.prog 148 #[.string s, .int .i64 i] w (ParsePost (parseL s i) w) := by
  unfold parseL
  by_cases h : 0 ≤ i ∧ i < s.size ∧ bt s i.toNat = 123
  · rw [if_pos h]
    obtain ⟨n, rfl⟩ : ∃ n : Nat, i = n := ⟨i.toNat, by omega⟩
    exact parse_in w s n hs (by omega) h.2.2
  · rw [if_neg h]
    refine parse_out w s i hs ?_
    by_cases h0 : i < 0
    · exact Or.inl h0
    · by_cases h1 : (s.size : Int) ≤ i
      · exact Or.inr (Or.inl ⟨by omega, h1⟩)
      · refine Or.inr (Or.inr ⟨i.toNat, by omega, by omega, fun hb => h ⟨by omega, by omega, hb⟩⟩)
end Go.Proofs.YtpoafhgbhnblmaaGreatDoor
