/-
  Texts of the proof, put together: MkS, MkSF, RefF, RefG, MkZ.
-/
import Derived.Test.YthfienjmigidbaaGreatDoorB29
import Derived.Test.YthfienjmigidbaaGreatDoorB21
import Derived.Test.YthfienjmigidbaaGreatDoorB23
import Derived.Test.YthfienjmigidbaaGreatDoorB09
import Derived.Test.YthfienjmigidbaaGreatDoorB16
import Derived.Test.YthfienjmigidbaaGreatDoorB06
import Derived.Test.YthfienjmigidbaaGreatDoorB30
set_option linter.unusedVariables false
set_option linter.unusedSimpArgs false
namespace Go.Proofs.YthfienjmigidbaaGreatDoor
open Go.RowKit Go.Pub

def shiftM (k : Nat) (m : MkL) : MkL := if m.kind = 4 ∨ m.kind = 5 ∨ m.kind = 6 ∨ m.kind = 7 then { m with off := m.off + k } else m
theorem shift_none {o : Option MkL} (k : Nat) (h : ∀ m, o = some m → ¬ (m.kind = 4 ∨ m.kind = 5 ∨ m.kind = 6 ∨ m.kind = 7)) : o = o.map (shiftM k) := by
  cases o with
  | none => rfl
  | some m => show some m = some (shiftM k m); unfold shiftM; rw [if_neg (h m rfl)]
theorem head_kind {c : ByteArray} {m : MkL} (h : headM c = some m) : m.kind = 2 := by
  unfold headM at h
  split at h
  · split at h
    · injection h with h; subst h; rfl
    · cases h
  · cases h
theorem rule_kind {c : ByteArray} {m : MkL} (h : ruleM c = some m) : m.kind = 3 := by
  unfold ruleM at h
  split at h
  · split at h
    · injection h with h; subst h; rfl
    · cases h
  · cases h
theorem quote_some {c : ByteArray} {ind : Nat} {m : MkL} (h : quoteM c ind = some m) : bt c 0 = 62 ∧ m = { kind := 4, off := ind + c.size - (stripB (tl1 c) 1).size, rest := stripB (tl1 c) 1 } := by
  unfold quoteM at h
  split at h
  · rename_i h0; injection h with h; exact ⟨h0, h.symm⟩
  · cases h
theorem bullet_some {c : ByteArray} {ind : Nat} {m : MkL} (h : bulletM c ind = some m) : m = { kind := 5, ch := c.extract 0 1, off := ind + 2, rest := tl1 (tl1 c) } := by
  unfold bulletM at h
  split at h
  · split at h
    · injection h with h; exact h.symm
    · cases h
  · cases h
theorem number_some {c : ByteArray} {ind : Nat} {m : MkL} (h : numberM c ind = some m) : ∃ k v, m = { kind := 6, n := v, ch := c.extract k (k + 1), off := ind + k + 2, info := c.extract 0 k, rest := tl1 (c.extract (k + 1) c.size) } := by
  unfold numberM numR at h
  split at h
  · split at h
    · injection h with h; exact ⟨_, _, h.symm⟩
    · cases h
  · cases h
theorem fence_some {c : ByteArray} {ind : Nat} {m : MkL} (h : fenceM c ind = some m) : m.kind = 7 := by
  unfold fenceM at h
  split at h
  · split at h
    · injection h with h; subst h; rfl
    · cases h
  · cases h
theorem math_kind {c : ByteArray} {m : MkL} (h : mathM c = some m) : m.kind = 8 := by
  unfold mathM at h
  split at h
  · injection h with h; subst h; rfl
  · cases h
theorem div_kind {c : ByteArray} {m : MkL} (h : divM c = some m) : m.kind = 9 := by
  unfold divM divT at h
  split at h
  · split at h
    · generalize onlyR _ = o at h
      cases o with
      | none => cases h
      | some a => injection h with h; subst h; rfl
    · cases h
  · cases h
theorem note_some {c : ByteArray} {m : MkL} (h : noteM c = some m) : cutB (c.extract 2 c.size) = true ∧ m = { kind := 10, info := cutHead (c.extract 2 c.size), off := 4, rest := stripB (tl1 (cutRest (c.extract 2 c.size))) 1 } := by
  unfold noteM noteX at h
  split at h
  · split at h
    · rename_i h0; injection h with h; exact ⟨h0.1, h.symm⟩
    · cases h
  · cases h
theorem defTitle_kind {L : ByteArray} {d : List UInt8} {A : ByteArray} {n : Nat} {m : MkL} (h : defTitle L d A n = some m) : m.kind = 11 := by
  unfold defTitle at h
  by_cases h1 : A.size = 0
  · rw [if_pos h1] at h; injection h with h; rw [← h]
  rw [if_neg h1] at h
  by_cases h2 : A.size = n
  · rw [if_pos h2] at h; cases h
  rw [if_neg h2] at h
  generalize titleR A 0 = o at h
  cases o with
  | none => cases h
  | some p =>
    obtain ⟨t, q⟩ := p
    simp only at h
    by_cases h3 : blankB (A.extract q A.size) = true
    · rw [if_pos h3] at h; injection h with h; rw [← h]
    · rw [if_neg h3] at h; cases h
theorem defTail_kind {L r : ByteArray} {m : MkL} (h : defTail L r = some m) : m.kind = 11 := by
  unfold defTail at h
  generalize destR r 0 = o at h
  cases o with
  | none => cases h
  | some p => exact defTitle_kind h
theorem def_kind {c : ByteArray} {m : MkL} (h : defM c = some m) : m.kind = 11 := by
  unfold defM at h
  by_cases h1 : bt c 0 = 91 ∧ cutB (tl1 c) = true ∧ Lib.hasPrefix (bytesL (cutRest (tl1 c))) [58] = true ∧ labelL (bytesL (cutHead (tl1 c))) ≠ []
  · rw [if_pos h1] at h; exact defTail_kind h
  · rw [if_neg h1] at h; cases h
theorem shift_off {k : Nat} {m : MkL} (h : m.kind = 4 ∨ m.kind = 5 ∨ m.kind = 6 ∨ m.kind = 7) : shiftM k m = { m with off := m.off + k } := if_pos h
theorem quote_shift (c : ByteArray) (ind k : Nat) : quoteM c (ind + k) = (quoteM c ind).map (shiftM k) := by
  have h1 := stripB_size (tl1 c) 1
  have h2 := tl1_size c
  unfold quoteM
  generalize stripB (tl1 c) 1 = S at *
  by_cases h : bt c 0 = 62
  · rw [if_pos h, if_pos h]
    have e : ind + k + c.size - S.size = ind + c.size - S.size + k := by omega
    rw [e]
    exact congrArg some (shift_off (k := k) (m := { kind := 4, off := ind + c.size - S.size, rest := S }) (Or.inl rfl)).symm
  · rw [if_neg h, if_neg h]; rfl
theorem bullet_shift (c : ByteArray) (ind k : Nat) : bulletM c (ind + k) = (bulletM c ind).map (shiftM k) := by
  unfold bulletM
  generalize tl1 (tl1 c) = S
  by_cases h : bt c 0 = 45 ∨ bt c 0 = 43 ∨ bt c 0 = 42
  · rw [if_pos h, if_pos h]
    by_cases h' : spB (tl1 c) = true
    · rw [if_pos h', if_pos h', show ind + k + 2 = ind + 2 + k by omega]
      exact congrArg some (shift_off (k := k) (m := { kind := 5, ch := c.extract 0 1, off := ind + 2, rest := S }) (Or.inr (Or.inl rfl))).symm
    · rw [if_neg h', if_neg h']; rfl
  · rw [if_neg h, if_neg h]; rfl
theorem numR_shift (c : ByteArray) (ind k d v : Nat) : numR c (ind + k) d v = (numR c ind d v).map (shiftM k) := by
  unfold numR
  generalize tl1 (c.extract (d + 1) c.size) = S
  by_cases h : (1 ≤ d ∧ d ≤ 9 ∧ d < c.size) ∧ (bt c d = 46 ∨ bt c d = 41)
  · rw [if_pos h, if_pos h]
    by_cases h' : spB (c.extract (d + 1) c.size) = true
    · rw [if_pos h', if_pos h', show ind + k + d + 2 = ind + d + 2 + k by omega]
      exact congrArg some (shift_off (k := k) (m := { kind := 6, n := v, ch := c.extract d (d + 1), off := ind + d + 2, info := c.extract 0 d, rest := S }) (Or.inr (Or.inr (Or.inl rfl)))).symm
    · rw [if_neg h', if_neg h']; rfl
  · rw [if_neg h, if_neg h]; rfl
theorem number_shift (c : ByteArray) (ind k : Nat) : numberM c (ind + k) = (numberM c ind).map (shiftM k) := numR_shift c ind k _ _
theorem fence_shift (c : ByteArray) (ind k : Nat) : fenceM c (ind + k) = (fenceM c ind).map (shiftM k) := by
  unfold fenceM
  generalize firstN c (· != bt c 0) = n
  generalize mk (trimS (sfx c n)) = S
  by_cases h : bt c 0 = 96 ∨ bt c 0 = 126
  · rw [if_pos h, if_pos h]
    by_cases h' : fenceB c n = true
    · rw [if_pos h', if_pos h']
      exact congrArg some (shift_off (k := k) (m := { kind := 7, n := n, ch := c.extract 0 1, info := S, off := ind }) (Or.inr (Or.inr (Or.inr rfl)))).symm
    · rw [if_neg h', if_neg h']; rfl
  · rw [if_neg h, if_neg h]; rfl
theorem rdrs_shift (c : ByteArray) (ind k : Nat) : rdrs c (ind + k) = (rdrs c ind).map (Option.map (shiftM k)) := by
  unfold rdrs
  simp only [List.map_cons, List.map_nil]
  rw [quote_shift, bullet_shift, number_shift, fence_shift]
  congr 1
  · exact shift_none k fun m h => by rw [head_kind h]; omega
  congr 1
  · exact shift_none k fun m h => by rw [rule_kind h]; omega
  congr 5
  · exact shift_none k fun m h => by rw [math_kind h]; omega
  congr 1
  · exact shift_none k fun m h => by rw [div_kind h]; omega
  congr 1
  · refine shift_none k fun m h => ?_
    obtain ⟨_, rfl⟩ := note_some h
    show ¬ ((10 : Nat) = 4 ∨ (10 : Nat) = 5 ∨ (10 : Nat) = 6 ∨ (10 : Nat) = 7)
    omega
  congr 1
  · exact shift_none k fun m h => by rw [def_kind h]; omega
theorem first_map (f : MkL → MkL) : ∀ l : List (Option MkL), firstS (l.map (Option.map f)) = (firstS l).map f
  | [] => rfl
  | some m :: l => rfl
  | none :: l => first_map f l
theorem first_mem : ∀ (l : List (Option MkL)) (m : MkL), firstS l = some m → some m ∈ l
  | some x :: l, m, h => by injection h with h; subst h; exact List.mem_cons_self ..
  | none :: l, m, h => List.mem_cons_of_mem _ (first_mem l m h)
/-- k spaces ahead. -/
def spA (k : Nat) (s : ByteArray) : ByteArray := mk (List.replicate k 32 ++ bytesL s)
theorem spA_size (k : Nat) (s : ByteArray) : (spA k s).size = k + s.size := by unfold spA; rw [mk_size, List.length_append, List.length_replicate, bytesL_length]
theorem spA_ind (k : Nat) (s : ByteArray) : indA (spA k s) 0 = k + indA s 0 := by
  have e : ∀ k (l : List UInt8), indN (List.replicate k 32 ++ l) = k + indN l := by
    intro k l
    induction k with
    | zero => show indN l = 0 + indN l; omega
    | succ k ih =>
      show (if (32 : UInt8) = 32 then indN (List.replicate k 32 ++ l) + 1 else 0) = _
      rw [if_pos rfl, ih]; omega
  unfold indA sfx spA
  rw [bytesL_mk', List.drop_zero, List.drop_zero, e]; omega
theorem spA_core (k : Nat) (s : ByteArray) (i : Nat) : (spA k s).extract (k + i) (spA k s).size = s.extract i s.size := by
  rw [extract_drop, extract_drop]
  unfold sfx spA
  rw [bytesL_mk', List.drop_append, List.length_replicate, List.drop_eq_nil_of_le (by rw [List.length_replicate]; omega), List.nil_append, show k + i - k = i by omega]
theorem mark_shift (s : ByteArray) (k : Nat) (h : indA s 0 + k ≤ 3) : markM (spA k s) = shiftM k (markM s) := by
  have hb : blankB (spA k s) = blankB s := by
    unfold blankB
    rw [spA_ind, spA_size]
    by_cases e : indA s 0 = s.size
    · rw [decide_eq_true e, decide_eq_true (by omega)]
    · rw [decide_eq_false e, decide_eq_false (by omega)]
  unfold markM
  rw [hb]
  split
  · rfl
  · rw [spA_ind, spA_core]
    unfold markC
    rw [if_neg (by omega), if_neg (by omega), Nat.add_comm k, rdrs_shift, first_map]
    generalize firstS _ = o
    cases o with
    | some m => rfl
    | none =>
      show _ = shiftM k _
      unfold shiftM
      rw [if_neg]; rfl
      show ¬ ((0 : Nat) = 4 ∨ (0 : Nat) = 5 ∨ (0 : Nat) = 6 ∨ (0 : Nat) = 7)
      omega
theorem sfx_mk (c : ByteArray) (a b : Nat) : mk (sfx (mk (sfx c a)) b) = mk (sfx c (a + b)) := by
  unfold sfx; rw [bytesL_mk', List.drop_drop]
theorem tl1_sfx (x : ByteArray) : tl1 x = mk (sfx x 1) := extract_drop x 1
theorem strip_sfx (x : ByteArray) (n : Nat) : stripB x n = mk (sfx x (min n (indA x 0))) := extract_drop x _
/-- The rest of a mark is the end of its line. -/
def RestAt (c : ByteArray) (ind : Nat) (m : MkL) : Prop := m.kind = 4 ∨ m.kind = 5 ∨ m.kind = 6 ∨ m.kind = 10 → ∃ j, m.rest = mk (sfx c j) ∧ (m.kind = 10 → m.off = 4) ∧ (m.kind ≠ 10 → m.off = ind + j)
theorem rdrs_rest (c : ByteArray) (ind : Nat) (h0 : 0 < c.size) (m : MkL) (h : some m ∈ rdrs c ind) : RestAt c ind m := by
  unfold rdrs at h
  simp only [List.mem_cons, List.not_mem_nil, or_false] at h
  intro hk
  rcases h with h | h | h | h | h | h | h | h | h | h
  · have := head_kind h.symm; omega
  · have := rule_kind h.symm; omega
  · obtain ⟨hq, rfl⟩ := quote_some h.symm
    have e : stripB (tl1 c) 1 = mk (sfx c (1 + min 1 (indA (tl1 c) 0))) := by rw [strip_sfx, tl1_sfx, sfx_mk, ← tl1_sfx]
    refine ⟨1 + min 1 (indA (tl1 c) 0), e, (fun h => by cases h), fun _ => ?_⟩
    have h1 := indA_le (tl1 c)
    have h2 := tl1_size c
    show ind + c.size - (stripB (tl1 c) 1).size = _
    rw [e, mk_size, sfx_len]
    omega
  · have := bullet_some h.symm
    subst this
    exact ⟨2, by show tl1 (tl1 c) = _; rw [tl1_sfx, tl1_sfx, sfx_mk], (fun h => by cases h), fun _ => rfl⟩
  · obtain ⟨k, v, rfl⟩ := number_some h.symm
    refine ⟨k + 2, ?_, (fun h => by cases h), fun _ => ?_⟩
    · show tl1 (c.extract (k + 1) c.size) = _
      rw [extract_drop, tl1_sfx, sfx_mk]
    · show ind + k + 2 = _; omega
  · have := fence_some h.symm; omega
  · have := math_kind h.symm; omega
  · have := div_kind h.symm; omega
  · obtain ⟨hc, rfl⟩ := note_some h.symm
    unfold cutB at hc
    have hc := of_decide_eq_true hc
    refine ⟨2 + (brk (bytesL (c.extract 2 c.size)) + 1) + (1 + min 1 (indA (tl1 (cutRest (c.extract 2 c.size))) 0)), ?_, fun _ => rfl, fun h => absurd rfl h⟩
    show stripB (tl1 (cutRest (c.extract 2 c.size))) 1 = _
    rw [strip_sfx]
    generalize min 1 (indA (tl1 (cutRest (c.extract 2 c.size))) 0) = q
    have e : cutRest (c.extract 2 c.size) = mk (sfx c (2 + (brk (bytesL (c.extract 2 c.size)) + 1))) := by
      unfold cutRest
      rw [if_pos hc, extract_drop, extract_drop, sfx_mk]
    rw [e, tl1_sfx, sfx_mk, sfx_mk]
  · have := def_kind h.symm; omega
theorem mark_rest (s : ByteArray) (hk : (markM s).kind = 4 ∨ (markM s).kind = 5 ∨ (markM s).kind = 6 ∨ (markM s).kind = 10) :
    (markM s).rest.size ≤ s.size ∧ s.extract (s.size - (markM s).rest.size) s.size = (markM s).rest ∧ ((markM s).kind = 10 → (markM s).off = 4) ∧ ((markM s).kind ≠ 10 → s.size - (markM s).rest.size = (markM s).off ∨ (markM s).rest.size = 0 ∧ s.size - (markM s).rest.size ≤ (markM s).off) := by
  have hR : (0 < (s.extract (indA s 0) s.size).size ∧ some (markM s) ∈ rdrs (s.extract (indA s 0) s.size) (indA s 0)) := by
    unfold markM at hk ⊢
    by_cases hb : blankB s = true
    · rw [if_pos hb] at hk
      have : (1 : Nat) = 4 ∨ (1 : Nat) = 5 ∨ (1 : Nat) = 6 ∨ (1 : Nat) = 10 := hk
      omega
    · rw [if_neg hb] at hk ⊢
      unfold markC at hk ⊢
      by_cases h3 : 3 < indA s 0
      · rw [if_pos h3] at hk
        have : (0 : Nat) = 4 ∨ (0 : Nat) = 5 ∨ (0 : Nat) = 6 ∨ (0 : Nat) = 10 := hk
        omega
      · rw [if_neg h3] at hk ⊢
        have h1 := indA_le s
        have h2 : indA s 0 ≠ s.size := fun e => hb (by unfold blankB; exact decide_eq_true e)
        refine ⟨by rw [ByteArray.size_extract]; omega, ?_⟩
        cases hf : firstS (rdrs (s.extract (indA s 0) s.size) (indA s 0)) with
        | none =>
          rw [hf] at hk
          have : (0 : Nat) = 4 ∨ (0 : Nat) = 5 ∨ (0 : Nat) = 6 ∨ (0 : Nat) = 10 := hk
          omega
        | some m => exact first_mem _ _ hf
  obtain ⟨h0, hm⟩ := hR
  obtain ⟨j, e1, e2, e3⟩ := rdrs_rest _ _ h0 _ hm hk
  have e4 : (markM s).rest = mk (sfx s (indA s 0 + j)) := by rw [e1, extract_drop, sfx_mk]
  have hz : (markM s).rest.size = s.size - (indA s 0 + j) := by rw [e4, mk_size, sfx_len]
  refine ⟨by omega, ?_, e2, fun h => ?_⟩
  · rw [hz, extract_drop, e4]
    rcases Nat.le_total (indA s 0 + j) s.size with h | h
    · rw [show s.size - (s.size - (indA s 0 + j)) = indA s 0 + j by omega]
    · rw [sfx_nil s _ h, sfx_nil s _ (by omega)]
  · have := e3 h
    omega
/-- Fences. -/
theorem firstN_rep (q : UInt8) (r : List UInt8) (hr : r.head? ≠ some q) : ∀ a, firstN (mk (List.replicate a q ++ r)) (· != q.toNat) = a := by
  intro a
  unfold firstN
  rw [bytesL_mk']
  induction a with
  | zero =>
    cases r with
    | nil => rfl
    | cons b r =>
      have hb : (b.toNat != q.toNat) = true := by rw [bne_iff_ne]; intro e; exact hr (by rw [UInt8.toNat_inj.1 e]; rfl)
      show List.findIdx (fun b => b.toNat != q.toNat) (b :: r) = 0
      rw [List.findIdx_cons]
      simp only [hb, cond_true]
  | succ a ih =>
    show List.findIdx _ (q :: (List.replicate a q ++ r)) = a + 1
    have hb : (q.toNat != q.toNat) = false := by simp
    have ih' : List.findIdx (fun b => b.toNat != q.toNat) (List.replicate a q ++ r) = a := ih
    show List.findIdx (fun b => b.toNat != q.toNat) (q :: (List.replicate a q ++ r)) = a + 1
    rw [List.findIdx_cons]
    simp only [hb, cond_false, ih']
theorem mark_first (s : ByteArray) (h0 : 0 < s.size) (hq : bt s 0 = 96 ∨ bt s 0 = 126) : markM s = (fenceM s 0).getD { rest := s } := by
  have hi : indA s 0 = 0 := indA_no s 0 h0 (by omega)
  have hz : s.extract 0 s.size = s := ByteArray.extract_zero_size
  unfold markM blankB
  rw [hi, decide_eq_false (by omega), if_neg Bool.false_ne_true, hz]
  unfold markC
  rw [if_neg (by omega)]
  have hr : ∀ n : Nat, bt s 0 ≠ n → firstN s (· != n) = 0 := fun n hn => firstN_eq s _ 0 (by omega) (fun j hj => by omega) (fun _ => by rw [bne_iff_ne]; exact hn)
  have r0 : headM s = none := by unfold headM; rw [hr 35 (by omega), if_neg (by omega)]
  have r1 : ruleM s = none := by unfold ruleM; rw [if_neg (by omega)]
  have r2 : quoteM s 0 = none := by unfold quoteM; rw [if_neg (by omega)]
  have r3 : bulletM s 0 = none := by unfold bulletM; rw [if_neg (by omega)]
  have r4 : numberM s 0 = none := by
    have : numDig s = 0 := firstN_eq s _ 0 (by omega) (fun j hj => by omega) (fun _ => by
      cases hd : digN (bt s 0)
      · rfl
      · have := (digN_iff _).1 hd; omega)
    unfold numberM numR
    rw [this, if_neg (by omega)]
  have hp : ∀ (x y : UInt8), x.toNat ≠ bt s 0 → Lib.hasPrefix (bytesL s) [x, y] = false := fun x y hx => by
    have e := sfx_cons s 0 h0
    unfold sfx at e
    rw [List.drop_zero] at e
    rw [e]
    have hx' : ¬ (x = s.get! 0) := fun e => hx (by rw [e]; rfl)
    show ([x, y].isPrefixOf (s.get! 0 :: _)) = false
    rw [List.isPrefixOf, show (x == s.get! 0) = false from beq_eq_false_iff_ne.2 hx']; rfl
  have r6 : mathM s = none := by
    unfold mathM; rw [hp 36 36 (by show 36 ≠ _; omega), if_neg (fun h => by cases h.1)]
  have r7 : divM s = none := by unfold divM; rw [hr 58 (by omega), if_neg (by omega)]
  have r8 : noteM s = none := by
    unfold noteM; rw [hp 91 94 (by show 91 ≠ _; omega), if_neg Bool.false_ne_true]
  have r9 : defM s = none := by unfold defM; rw [if_neg (fun h => by omega)]
  unfold rdrs
  rw [r0, r1, r2, r3, r4, r6, r7, r8, r9]
  show (firstS [fenceM s 0, none, none, none, none]).getD _ = _
  cases fenceM s 0 <;> rfl
end Go.Proofs.YthfienjmigidbaaGreatDoor
namespace Go.Proofs.YthfienjmigidbaaGreatDoor
open Go.RowKit Go.Pub

theorem rep_bt (q : UInt8) (a : Nat) (r : List UInt8) (ha : 0 < a) : 0 < (mk (List.replicate a q ++ r)).size ∧ bt (mk (List.replicate a q ++ r)) 0 = q.toNat := by
  cases a with
  | zero => omega
  | succ a =>
    refine ⟨by rw [mk_size]; simp; omega, ?_⟩
    have h : 0 < (mk (List.replicate (a + 1) q ++ r)).size := by rw [mk_size]; simp; omega
    have e := sfx_cons _ 0 h
    have e2 : sfx (mk (List.replicate (a + 1) q ++ r)) 0 = q :: (List.replicate a q ++ r) := by unfold sfx; rw [bytesL_mk']; rfl
    rw [e2] at e
    injection e with e _
    show ((mk (List.replicate (a + 1) q ++ r)).get! 0).toNat = _
    rw [← e]
theorem rep_sfx (q : UInt8) (a : Nat) (r : List UInt8) : sfx (mk (List.replicate a q ++ r)) a = r := by
  unfold sfx
  rw [bytesL_mk', List.drop_append, List.length_replicate, List.drop_eq_nil_of_le (by rw [List.length_replicate]; omega), List.nil_append, Nat.sub_self, List.drop_zero]
theorem rep_ext (q : UInt8) (a : Nat) (r : List UInt8) : (mk (List.replicate a q ++ r)).extract a (mk (List.replicate a q ++ r)).size = mk r := by rw [extract_drop, rep_sfx]
theorem rep_one (q : UInt8) (a : Nat) (r : List UInt8) (ha : 0 < a) : (mk (List.replicate a q ++ r)).extract 0 1 = mk [q] := by
  rw [extract_take, bytesL_mk']
  cases a with
  | zero => omega
  | succ a => rfl
theorem mark_rep (q : UInt8) (a : Nat) (r : List UInt8) (hq : q.toNat = 96 ∨ q.toNat = 126) (ha : 3 ≤ a) (hr : r.head? ≠ some q) :
    markM (mk (List.replicate a q ++ r)) = if q.toNat = 96 ∧ r.contains 96 = true then { rest := mk (List.replicate a q ++ r) } else { kind := 7, n := a, ch := mk [q], info := mk (trimS r) } := by
  obtain ⟨h0, h1⟩ := rep_bt q a r (by omega)
  rw [mark_first _ h0 (by omega)]
  unfold fenceM fenceB
  rw [h1, if_pos hq, firstN_rep q r hr, rep_sfx, rep_one q a r (by omega), decide_eq_true ha]
  by_cases h : q.toNat = 96 ∧ r.contains 96 = true
  · rw [if_pos h, decide_eq_true h.1, h.2]; rfl
  · rw [if_neg h]
    have : (true && !(decide (q.toNat = 96) && r.contains 96)) = true := by
      by_cases h2 : q.toNat = 96
      · have : r.contains 96 = false := by cases hc : r.contains 96; rfl; exact absurd ⟨h2, hc⟩ h
        rw [this, Bool.and_false]; rfl
      · rw [decide_eq_false h2]; rfl
    rw [this]; rfl
theorem close_ind (q : UInt8) (b : Nat) (r : List UInt8) (hq : q.toNat ≠ 32) (hb : 0 < b) (K N : Int) (ch : ByteArray) : closesM (mk (List.replicate b q ++ r)) K N ch = closeD (mk (List.replicate b q ++ r)) K N ch := by
  obtain ⟨h0, h1⟩ := rep_bt q b r hb
  have hi : indA (mk (List.replicate b q ++ r)) 0 = 0 := indA_no _ 0 h0 (by omega)
  unfold closesM
  rw [hi, if_neg (by omega), ByteArray.extract_zero_size]
theorem mk_one (q : UInt8) : bt (mk [q]) 0 = q.toNat := by
  have := (rep_bt q 1 [] (by omega)).2
  exact this
theorem close_fence (q : UInt8) (a b : Nat) (r : List UInt8) (hq : q.toNat = 96 ∨ q.toNat = 126) (ha : 3 ≤ a) (hb : 3 ≤ b) (hr : r.head? ≠ some q) :
    closesM (mk (List.replicate b q ++ r)) 7 a (mk [q]) = (emptyA, decide (a ≤ b) && blankB (mk r)) := by
  rw [close_ind q b r (by omega) (by omega)]
  unfold closeD
  rw [if_pos rfl, mk_one, firstN_rep q r hr, rep_ext, decide_eq_true ⟨by rw [mk_size]; rfl, by omega⟩, Bool.true_and]
  congr 2
  by_cases h : a ≤ b
  · rw [decide_eq_true h, decide_eq_true (by omega)]
  · rw [decide_eq_false h, decide_eq_false (by omega)]
theorem blank_sp : blankB (mk [32]) = true := by decide +kernel
theorem blank_x : blankB (mk [120]) = false := by decide +kernel
theorem blank_nil : blankB (mk []) = true := by decide +kernel
theorem close_div (a b : Nat) (ch : ByteArray) (ha : 3 ≤ a) (hb : 3 ≤ b) : closesM (mk (List.replicate b 58)) 9 a ch = (emptyA, decide (a = b)) := by
  have e := close_ind 58 b [] (by decide) (by omega) 9 a ch
  have e2 : List.replicate b (58 : UInt8) ++ [] = List.replicate b 58 := List.append_nil _
  rw [e2] at e
  have f := firstN_rep 58 [] (by decide) b
  have g := rep_ext 58 b []
  rw [e2] at f g
  rw [e]
  unfold closeD
  rw [if_neg (by decide), if_neg (by decide), if_pos rfl]
  have f' : firstN (mk (List.replicate b 58)) (· != 58) = b := f
  rw [f', g, blank_nil, Bool.and_true, decide_eq_true (by omega), Bool.true_and]
  congr 1
  by_cases h : a = b
  · rw [decide_eq_true h, decide_eq_true (by omega)]
  · rw [decide_eq_false h, decide_eq_false (by omega)]
/-- What a reader of references sees: the same. -/
theorem close_rest (c : ByteArray) (h : 2 ≤ c.size) : onlyR (c.extract 2 c.size) = attrRestM c 2 := only_rest c 2 h
end Go.Proofs.YthfienjmigidbaaGreatDoor
namespace Go.Pub
open Go.RowKit
theorem intCells_append (a b : List Int) : intCells (a ++ b) = intCells a ++ intCells b := by simp [intCells]
theorem intCells_length (a : List Int) : (intCells a).length = a.length := by simp [intCells]
theorem encL_ascii (n : Nat) (h : n < 128) : encL (n : Int) = [UInt8.ofNat n] := by
  rw [encL_nat n (valid_of n (by omega)), encN_one n h]; rfl
/-- What an append next to a struct of two cells of the call's own leaves of it. -/
theorem two_cells {w w1 w2 : World} {B n : Nat} {v x y : Value} {e t : TypeId} {xs : List Value} {o2 : Obj} (hown1 : w1.ownsRow B e 1 v n xs) (hgrow : ((w1.alloc (.cells #[x, y] t)).alloc o2).grownBy w2 v.ownBlock)
    (hbw : Below w.heap.size w w1) (hB : B = w.heap.size) :
    w2.cell? ⟨w1.heap.size, 0, none⟩ = some x ∧ w2.cell? ⟨w1.heap.size, 1, none⟩ = some y ∧ Below w.heap.size w w2 := by
  have hne : some w1.heap.size ≠ v.ownBlock := fun e => by have := (hown1.lt _ e.symm).2; omega
  have hz := hbw.size
  refine ⟨hgrow.cell ?_ hne, hgrow.cell ?_ hne, ((hbw.alloc hz _).alloc (by simp; omega) _).grown hgrow (by simp; omega) (fun k hk => by have := (hown1.lt k hk).1; omega)⟩
  · simp
  · simp
end Go.Pub
namespace Go.Proofs.YthfienjmigidbaaGreatDoor
open Go.RowKit Go.Pub

theorem intInfo : (Tryz.prog.info? 3).map (fun i => (i.zero, i.size, i.bytes)) = some (some (.int .i64 0), 1, 8) := by kernel_rfl

def RcRel (s : ByteArray) (R : List UInt8) (w : World) (v i : Value) (wr : World) : Prop :=
  ∃ (pos f : Nat) (acc : List Int), i = .int .i64 pos ∧ wr.ownsRow w.heap.size 3 1 v acc.length (intCells acc) ∧ Below w.heap.size w wr ∧ acc.flatMap encL ++ cleanP (ptsFrom s f pos) = R ∧ s.size ≤ pos + f ∧ pos ≤ s.size ∧ acc.length ≤ 4 * pos

theorem cleanP_lf (l : List (Nat × Nat)) (p : Nat × Nat) (h : p.1 = 10) : cleanP (p :: l) = [10] ++ cleanP l := by
  show cleanPiece p.1 (headLF l) ++ cleanP l = _
  rw [h]
  have : cleanPiece 10 (headLF l) = [10] := by
    unfold cleanPiece
    rw [if_neg (by decide), if_neg (by decide), if_neg (by decide)]
    exact encL_ascii 10 (by decide)
  rw [this]

end Go.Proofs.YthfienjmigidbaaGreatDoor
namespace Go.Proofs.YthfienjmigidbaaGreatDoor
open Go.RowKit Go.Pub

theorem flat_empty (acc : List Int) : (acc.flatMap encL).isEmpty = acc.isEmpty := by
  cases acc with
  | nil => rfl
  | cons a l =>
    have := encL_length a
    simp only [List.flatMap_cons]
    cases h : encL a with
    | nil => rw [h] at this; simp at this
    | cons x y => rfl

def RfRel (l : List (Nat × Nat)) (R : List UInt8) (w1 : World) (v gv i : Value) (wr : World) : Prop :=
  ∃ (k : Nat) (g : Bool) (acc : List Int), i = .int .i64 k ∧ gv = .bool g ∧ k ≤ l.length ∧ wr.ownsRow w1.heap.size 3 1 v acc.length (intCells acc) ∧ Below w1.heap.size w1 wr ∧ foldP g (acc.flatMap encL) (l.drop k) = R ∧ acc.length ≤ 2 * k

set_option maxRecDepth 100000 in
set_option maxHeartbeats 8000000 in
theorem rFold_any (s : ByteArray) (w : World) (hs : s.size ≤ 1000000) : Calls Tryz.prog 16 #[.string s] w fun e w' => e = .returned (.string ⟨(foldL s).toArray⟩) ∧ Below w.heap.size w w' := by
  have HC : Hid (foldP false [] (pts s) = foldL s) := Lib.hid rfl
  have HP := Lib.hid (points_any s)
  have hlen := pts_length s
  generalize foldL s = R at *
  generalize pts s = l at *
  obtain ⟨i0, hi0, hz0, hz1, hz2⟩ := info_parts intInfo
  go_enter Tryz.func16, Tryz.ntmps16
  go_wp2_with fail
  refine (HP.out _ hs).mono ?_
  rintro e w1 ⟨v0, rfl, hown0, hb1⟩
  obtain ⟨A, cp, rfl⟩ := own_slice hown0
  have hrd := Reads.of_own hown0
  go_wp2
  go_loopw [3, 4, 10] (fun v g i wr => RfRel l R w1 v g i wr) (fun _ _ i _ => l.length - (intOf i).toNat)
  case atStart => exact ⟨0, false, [], rfl, rfl, by omega, World.ownsRow_nil _ _ _ _, Below.refl _ w1, HC.out, by simp⟩
  case round =>
    obtain ⟨k, g, acc, rfl, rfl, hk, hown, hb, hacc, hacl⟩ := hrel
    have Hacc := Lib.hid hacc
    clear hacc
    by_cases hlt : k < l.length
    · obtain ⟨ad, rfl, hadb, hcell⟩ := hrd.2 (by omega)
      obtain ⟨gb, hg⟩ : ∃ g, ad = ⟨g, 0, none⟩ := by
        obtain ⟨g, cap, hv, _⟩ := hown0.form (by omega)
        injection hv with h1 h2 h3
        injection h1 with h1
        exact ⟨g, h1⟩
      subst hg
      have hp := ptCells_at l k l[k] (List.getElem?_eq_getElem hlt)
      have hc0 : wr.cell? ⟨gb, k * 2, none⟩ = some (.int .i64 l[k].1) := (hb.cell (p := ⟨gb, k * 2, none⟩) hadb).trans (by rw [← add_plain]; exact hcell _ _ hp.1)
      have hc1 : wr.cell? ⟨gb, k * 2 + 1, none⟩ = some (.int .i64 l[k].2) := (hb.cell (p := ⟨gb, k * 2 + 1, none⟩) hadb).trans (by rw [← add_plain]; exact hcell _ _ hp.2)
      have hz := hb.size
      have hstep : Hid (foldP g (acc.flatMap encL) (l[k] :: l.drop (k + 1)) = R) := Lib.hid (by rw [← Hacc.out, List.drop_eq_getElem_cons hlt])
      have hsp := Lib.hid (rSpace_any (l[k].1 : Int))
      have hlow := Lib.hid (rLower_any (l[k].1 : Int))
      clear hp hcell
      have hlk := hlt
      generalize l[k] = D at *
      by_cases csp : spaceB D.1 = true
      · have hst := Lib.hid ((foldP_space g (acc.flatMap encL) D (l.drop (k + 1)) csp).symm.trans hstep.out)
        go_wp2_with fail
        refine (hsp.out _).mono ?_
        rw [csp]
        rintro e w' ⟨rfl, rfl⟩
        go_wp2
        go_roundw
        case rel => exact ⟨k + 1, true, acc, by go_num, rfl, by omega, hown.alloc _, hb.alloc hz _, hst.out, by omega⟩
        case measure => simp [intOf]; omega
      · rw [Bool.not_eq_true] at csp
        have hst := Lib.hid ((foldP_other g (acc.flatMap encL) D (l.drop (k + 1)) csp).symm.trans hstep.out)
        have dn : Hid (∀ (pre : List Int) (v : Value) (w2 : World), pre.flatMap encL = (if g && !(acc.flatMap encL).isEmpty then [32] else []) → pre.length ≤ 1 → w2.ownsRow w1.heap.size 3 1 v ((acc ++ pre).length + [lowerZ (D.1 : Int)].length) (intCells (acc ++ pre) ++ intCells [lowerZ (D.1 : Int)]) → Below w1.heap.size w1 w2 → RfRel l R w1 v (.bool false) (.int .i64 ((k : Int) + 1)) w2) := Lib.hid (by
          intro pre v w2 e hl h1 h3
          refine ⟨k + 1, false, (acc ++ pre) ++ [lowerZ (D.1 : Int)], by go_num, rfl, by omega, ?_, h3, ?_, by simp; omega⟩
          · rw [intCells_append, List.length_append]; exact h1
          · rw [← hst.out, List.flatMap_append, List.flatMap_append, e]; simp)
        generalize lowerZ (D.1 : Int) = L at *
        by_cases hgap : g = true ∧ acc ≠ []
        · obtain ⟨rfl, hne⟩ := hgap
          have hpos : 0 < acc.length := List.length_pos_iff.2 hne
          have hpc : Hid (([32] : List Int).flatMap encL = (if true && !(acc.flatMap encL).isEmpty then [32] else [])) := Lib.hid (by
            rw [flat_empty, show acc.isEmpty = false by cases acc <;> simp_all]
            show encL ((32 : Nat) : Int) ++ [] = _
            rw [encL_ascii 32 (by decide)]; rfl)
          clear hne
          obtain ⟨A2, cp2, rfl⟩ := own_slice hown
          go_wp2_with fail
          refine (hsp.out _).mono ?_
          rw [csp]
          rintro e w' ⟨rfl, rfl⟩
          go_wp2_with (at_builtin; refine wpList_append_own _ rfl _ _ 57 rfl w1.heap.size 3 i0 _ 1 8 Tryz.underlying57 hi0 hz0 hz1 hz2 rfl (by decide) _ _ _ rfl ((hown.alloc _).alloc _) ⟨wr.heap.size + 1, 0, none⟩ 1 1 (intCells [32]) rfl rfl ?c1 ?c2 ?c3 ?c4 ?c5 ?_)
          case c1 =>
            intro j u hj
            match j, hj with
            | 0, hj => simp [intCells] at hj; subst hj; simp [Addr.add]
          case c2 => intro u hu; simp [intCells] at hu; subst hu; rfl
          case c3 => unfold maxLen; omega
          case c4 => omega
          case c5 => first | (simp; omega) | omega
          intro v' w2 hown2 hgrow _
          obtain ⟨t1, t2, t3⟩ := two_cells hown hgrow hb rfl
          have hown3 : w2.ownsRow w1.heap.size 3 1 v' (acc ++ [32]).length (intCells (acc ++ [32])) := by rw [intCells_append, List.length_append]; exact hown2
          have hzz := t3.size
          have hlz : (acc ++ [32]).length = acc.length + 1 := by simp
          have HLZ := Lib.hid hlz
          go_wp2_with fail
          refine (hlow.out _).mono ?_
          rintro e w' ⟨rfl, rfl⟩
          clear hlz
          go_wp2_with (at_builtin; refine wpList_append_own _ rfl _ _ 57 rfl w1.heap.size 3 i0 _ 1 8 Tryz.underlying57 hi0 hz0 hz1 hz2 rfl (by decide) _ _ _ rfl (hown3.alloc _) ⟨w2.heap.size, 0, none⟩ 1 1 (intCells [L]) rfl rfl ?c1 ?c2 ?c3 ?c4 ?c5 ?_)
          case c1 =>
            intro j u hj
            match j, hj with
            | 0, hj => simp [intCells] at hj; subst hj; simp [Addr.add]
          case c2 => intro u hu; simp [intCells] at hu; subst hu; rfl
          case c3 => rw [HLZ.out]; unfold maxLen; omega
          case c4 => rw [HLZ.out]; omega
          case c5 => first | (simp; omega) | omega
          intro v'' w4 hown4 hgrow4 _
          go_wp2
          go_roundw
          case rel => exact dn.out [32] _ _ hpc.out (by simp) (by rw [HLZ.out]; exact hown4) ((t3.alloc hzz _).grown hgrow4 (by simp; omega) (fun k hk => (hown3.lt k hk).1))
          case measure => simp [intOf]; omega
        · have hpc : Hid (([] : List Int).flatMap encL = (if g && !(acc.flatMap encL).isEmpty then [32] else [])) := Lib.hid (by
            rw [flat_empty]
            cases acc <;> cases g <;> simp_all)
          by_cases hg : g = true
          · subst hg
            have hne : acc = [] := Classical.not_not.1 fun h => hgap ⟨rfl, h⟩
            subst hne
            clear hgap
            obtain ⟨A2, cp2, rfl⟩ := own_slice hown
            go_wp2_with fail
            refine (hsp.out _).mono ?_
            rw [csp]
            rintro e w' ⟨rfl, rfl⟩
            go_wp2_with fail
            refine (hlow.out _).mono ?_
            rintro e w' ⟨rfl, rfl⟩
            go_wp2_with (at_builtin; refine wpList_append_own _ rfl _ _ 57 rfl w1.heap.size 3 i0 _ 1 8 Tryz.underlying57 hi0 hz0 hz1 hz2 rfl (by decide) _ _ _ rfl ((hown.alloc _).alloc _) ⟨wr.heap.size + 1, 0, none⟩ 1 1 (intCells [L]) rfl rfl ?c1 ?c2 ?c3 ?c4 ?c5 ?_)
            case c1 =>
              intro j u hj
              match j, hj with
              | 0, hj => simp [intCells] at hj; subst hj; simp [Addr.add]
            case c2 => intro u hu; simp [intCells] at hu; subst hu; rfl
            case c3 => unfold maxLen; omega
            case c4 => omega
            case c5 => first | (simp; omega) | omega
            intro v' w2 hown2 hgrow _
            obtain ⟨t1, t2, t3⟩ := two_cells hown hgrow hb rfl
            go_wp2
            go_roundw
            case rel => exact dn.out [] _ _ hpc.out (by simp) (by rw [List.append_nil]; exact hown2) t3
            case measure => simp [intOf]; omega
          · rw [Bool.not_eq_true] at hg
            subst hg
            clear hgap
            go_wp2_with fail
            refine (hsp.out _).mono ?_
            rw [csp]
            rintro e w' ⟨rfl, rfl⟩
            go_wp2_with fail
            refine (hlow.out _).mono ?_
            rintro e w' ⟨rfl, rfl⟩
            go_wp2_with (at_builtin; refine wpList_append_own _ rfl _ _ 57 rfl w1.heap.size 3 i0 _ 1 8 Tryz.underlying57 hi0 hz0 hz1 hz2 rfl (by decide) _ _ _ rfl ((hown.alloc _).alloc _) ⟨wr.heap.size + 1, 0, none⟩ 1 1 (intCells [L]) rfl rfl ?c1 ?c2 ?c3 ?c4 ?c5 ?_)
            case c1 =>
              intro j u hj
              match j, hj with
              | 0, hj => simp [intCells] at hj; subst hj; simp [Addr.add]
            case c2 => intro u hu; simp [intCells] at hu; subst hu; rfl
            case c3 => unfold maxLen; omega
            case c4 => omega
            case c5 => first | (simp; omega) | omega
            intro v' w2 hown2 hgrow _
            obtain ⟨t1, t2, t3⟩ := two_cells hown hgrow hb rfl
            go_wp2
            go_roundw
            case rel => exact dn.out [] _ _ hpc.out (by simp) (by rw [List.append_nil]; exact hown2) t3
            case measure => simp [intOf]; omega
    · obtain rfl : k = l.length := by omega
      have hR : Hid (acc.flatMap encL = R) := Lib.hid (by rw [← Hacc.out, List.drop_length]; rfl)
      obtain ⟨A2, cp2, rfl⟩ := own_slice hown
      have hA : A2 = none ∨ ∃ g, A2 = some ⟨g, 0, none⟩ := by
        rcases hown.2 with ⟨hv, _⟩ | ⟨g, cap, cur, hv, _⟩
        · injection hv with h1; exact .inl h1
        · injection hv with h1; exact .inr ⟨g, h1⟩
      have HT := Lib.hid (rText_any acc A2 cp2 wr (by omega) ⟨_, Nat.le_refl _, Reads.of_own hown⟩ hA)
      have hz := hb.size
      have hz1 := hb1.size
      go_wp2_with fail
      refine HT.out.mono ?_
      rintro e w3 ⟨rfl, b3⟩
      go_wp2
      go_ret
      exact ⟨ret_str (by rw [hR.out]), (hb1.trans (hb.mono hb1.size)).trans (b3.mono (by omega))⟩
end Go.Proofs.YthfienjmigidbaaGreatDoor
namespace Go.Proofs.YthfienjmigidbaaGreatDoor
open Go.RowKit Go.Pub

theorem fold_len8 (s : ByteArray) : (foldL s).length ≤ 8 * s.size := by
  have aux : ∀ (cs : List Nat) (g ne : Bool), ((outC g ne cs).flatMap enc).length ≤ 8 * cs.length := by
    intro cs
    induction cs with
    | nil => intros; simp [outC]
    | cons c cs ih =>
      intro g ne
      rw [outC_cons]
      by_cases hs : spaceB c = true
      · rw [if_pos hs]; have := ih true ne; simp only [List.length_cons]; omega
      · rw [if_neg hs, List.flatMap_append, List.flatMap_cons, List.length_append, List.length_append]
        have h1 := ih false true
        have h2 := (encL_length (low c : Int)).2
        have h3 : (enc (low c)).length ≤ 4 := h2
        have h4 : ((if (g && ne) = true then ([32] : List Nat) else []).flatMap enc).length ≤ 1 := by
          split
          · simp [enc_sp]
          · simp
        simp only [List.length_cons]; omega
  rw [foldL_out]
  have h := aux ((pts s).map (·.1)) false false
  have := pts_length s
  unfold foldC
  rw [List.length_map] at h; omega
theorem rep_snoc (q : UInt8) (i : Nat) : List.replicate i q ++ [q] = List.replicate (i + 1) q := List.replicate_succ'.symm
theorem cat_two {P : Program} (w : World) (a b r : List UInt8) (h : a.length + b.length ≤ 9223372036854775807) (hr : a ++ b = r) : (Op.stringOp .add (mk a) (mk b)).run P w = .ok (.string (mk r)) w :=
  cat_mk w a (mk b) r (by rw [mk_size]; exact h) (by rw [bytesL_mk']; exact hr)

set_option maxRecDepth 100000 in
set_option maxHeartbeats 4000000 in
theorem fences_t_fence (k n : Nat) (info : ByteArray) (w : World) (hk : k < 256) (hn : n < 256) (hi : info.size ≤ 200)  :
    Calls Tryz.prog 5 #[.int .u8 (k : Nat), .int .u8 (n : Nat), .bool true, .string info] w fun e w' => e = .returned (.bool true) ∧ Below w.heap.size w w' := by
  have HA := Lib.hid mk_awake
  have d1 : decide (200 < info.size) = false := decide_eq_false (by omega)
  obtain ⟨ra, hra⟩ : ∃ r, r = k % 20 := ⟨_, rfl⟩
  obtain ⟨rb, hrb⟩ : ∃ r, r = n % 20 := ⟨_, rfl⟩
  have hra20 : ra < 20 := by omega
  have hrb20 : rb < 20 := by omega
  have hrai : (k : Int) % 20 = (ra : Int) := by omega
  have hrbi : (n : Int) % 20 = (rb : Int) := by omega
  clear hra hrb
  obtain ⟨a, ha⟩ : ∃ a, a = 3 + ra := ⟨_, rfl⟩
  obtain ⟨b, hb⟩ : ∃ b, b = 3 + rb := ⟨_, rfl⟩
  have hai : 3 + (ra : Int) = (a : Int) := by omega
  have hbi : 3 + (rb : Int) = (b : Int) := by omega
  have ha3 : 3 ≤ a := by omega
  have hb3 : 3 ≤ b := by omega
  have ha22 : a ≤ 22 := by omega
  have hb22 : b ≤ 22 := by omega
  clear ha hb
  have hF := fold_len8 info
  have O1 : Hid (∀ W, Calls Tryz.prog 13 #[.string (mk (List.replicate a 126))] W fun e w' => ∃ A1 c1 A2 c2, e = .returned (.agg #[.int .i64 7, .int .i64 (a : Nat), .string ⟨#[126]⟩, .int .i64 0, .string ⟨#[]⟩, .string ⟨#[]⟩, .string ⟨#[]⟩, .string ⟨#[]⟩, .string ⟨#[]⟩, .slice A1 0 c1, .slice A2 0 c2]) ∧ Below W.heap.size W w') := Lib.hid fun W => by
    have h := mark_rep 126 a [] (by decide) ha3 (by decide)
    rw [if_neg (fun h => by cases h.2), List.append_nil] at h
    exact of_ex h W (by rw [mk_size, List.length_replicate]; omega)
  have O2 : Hid (∃ X, ∀ W, Calls Tryz.prog 13 #[.string (mk (List.replicate a 126 ++ 32 :: foldL info))] W fun e w' => ∃ A1 c1 A2 c2, e = .returned (.agg #[.int .i64 7, .int .i64 (a : Nat), .string ⟨#[126]⟩, .int .i64 0, .string X, .string ⟨#[]⟩, .string ⟨#[]⟩, .string ⟨#[]⟩, .string ⟨#[]⟩, .slice A1 0 c1, .slice A2 0 c2]) ∧ Below W.heap.size W w') := Lib.hid ⟨mk (trimS (32 :: foldL info)), fun W => by
    have h := mark_rep 126 a (32 :: foldL info) (by decide) ha3 (by intro h; injection h with h; exact absurd h (by decide))
    rw [if_neg (fun h => by cases h.1)] at h
    exact of_ex h W (by rw [mk_size, List.length_append, List.length_replicate, List.length_cons]; omega)⟩
  obtain ⟨X, hO2⟩ := O2.out
  have O3 := Lib.hid hO2
  clear hO2 O2
  have hfb : ∃ fb : Bool, decide ((a : Int) ≤ (b : Int)) = fb ∧ decide (a ≤ b) = fb := by
    by_cases h : a ≤ b
    · exact ⟨true, decide_eq_true (by omega), decide_eq_true h⟩
    · exact ⟨false, decide_eq_false (by omega), decide_eq_false h⟩
  obtain ⟨fb, hfb1, hfb2⟩ := hfb
  have heb : ∃ eb : Bool, ((a : Int) == (b : Int)) = eb ∧ decide (a = b) = eb ∧ (a == b) = eb := by
    by_cases h : a = b
    · exact ⟨true, by rw [beq_iff_eq]; omega, decide_eq_true h, by rw [beq_iff_eq]; exact h⟩
    · exact ⟨false, by rw [beq_eq_false_iff_ne]; omega, decide_eq_false h, by rw [beq_eq_false_iff_ne]; exact h⟩
  obtain ⟨eb, heb1, heb2, heb3⟩ := heb
  have C1 : Hid (∀ (A1 : Option Addr) (c1 : Nat) (A2 : Option Addr) (c2 : Nat) (W : World), Calls Tryz.prog 9 #[.string (mk (List.replicate b 126 ++ [32])), .agg #[.int .i64 7, .int .i64 (a : Nat), .string ⟨#[126]⟩, .int .i64 0, .string ⟨#[]⟩, .string ⟨#[]⟩, .string ⟨#[]⟩, .string ⟨#[]⟩, .string ⟨#[]⟩, .slice A1 0 c1, .slice A2 0 c2]] W fun e w' => ∃ A3 c3 A4 c4, e = .returned (.tuple #[.agg #[.string ⟨#[]⟩, .slice A3 0 c3, .slice A4 0 c4], .bool fb]) ∧ Below W.heap.size W w') := Lib.hid fun A1 c1 A2 c2 W => by
    have h := close_fence 126 a b [32] (by decide) ha3 hb3 (by decide)
    rw [blank_sp, Bool.and_true, hfb2] at h
    exact closes_ex h 0 ⟨#[]⟩ ⟨#[]⟩ ⟨#[]⟩ ⟨#[]⟩ ⟨#[]⟩ A1 0 c1 A2 0 c2 W (by rw [mk_size, List.length_append, List.length_replicate]; simp; omega)
  have C3 : Hid (∀ (A1 : Option Addr) (c1 : Nat) (A2 : Option Addr) (c2 : Nat) (W : World), Calls Tryz.prog 9 #[.string (mk (List.replicate b 126 ++ [120])), .agg #[.int .i64 7, .int .i64 (a : Nat), .string ⟨#[126]⟩, .int .i64 0, .string ⟨#[]⟩, .string ⟨#[]⟩, .string ⟨#[]⟩, .string ⟨#[]⟩, .string ⟨#[]⟩, .slice A1 0 c1, .slice A2 0 c2]] W fun e w' => ∃ A3 c3 A4 c4, e = .returned (.tuple #[.agg #[.string ⟨#[]⟩, .slice A3 0 c3, .slice A4 0 c4], .bool false]) ∧ Below W.heap.size W w') := Lib.hid fun A1 c1 A2 c2 W => by
    have h := close_fence 126 a b [120] (by decide) ha3 hb3 (by decide)
    rw [blank_x, Bool.and_false] at h
    exact closes_ex h 0 ⟨#[]⟩ ⟨#[]⟩ ⟨#[]⟩ ⟨#[]⟩ ⟨#[]⟩ A1 0 c1 A2 0 c2 W (by rw [mk_size, List.length_append, List.length_replicate]; simp; omega)
  have C2 : Hid (∀ (W : World), Calls Tryz.prog 9 #[.string (mk (List.replicate b 58)), .agg #[.int .i64 9, .int .i64 (a : Nat), .string ⟨#[]⟩, .int .i64 0, .string ⟨#[]⟩, .string ⟨#[]⟩, .string ⟨#[]⟩, .string ⟨#[]⟩, .string ⟨#[]⟩, .slice none 0 0, .slice none 0 0]] W fun e w' => ∃ A3 c3 A4 c4, e = .returned (.tuple #[.agg #[.string ⟨#[]⟩, .slice A3 0 c3, .slice A4 0 c4], .bool eb]) ∧ Below W.heap.size W w') := Lib.hid fun W => by
    have h := close_div a b ⟨#[]⟩ ha3 hb3
    rw [heb2] at h
    exact closes_ex h 0 ⟨#[]⟩ ⟨#[]⟩ ⟨#[]⟩ ⟨#[]⟩ ⟨#[]⟩ none 0 0 none 0 0 W (by rw [mk_size, List.length_replicate]; omega)
  have HR : Hid (∀ W, Calls Tryz.prog 16 #[.string info] W fun e w' => e = .returned (.string (mk (foldL info))) ∧ Below W.heap.size W w') := Lib.hid fun W => rFold_any info W (by omega)
  have E1 : ∀ i w, i ≤ 22 → (Op.stringOp .add (mk (List.replicate i 126)) ⟨#[126]⟩).run Tryz.prog w = .ok (.string (mk (List.replicate (i + 1) 126))) w := fun i w h => cat_two w _ [126] _ (by rw [List.length_replicate]; simp; omega) (rep_snoc _ _)
  have E2 : ∀ i w, i ≤ 22 → (Op.stringOp .add (mk (List.replicate i 58)) ⟨#[58]⟩).run Tryz.prog w = .ok (.string (mk (List.replicate (i + 1) 58))) w := fun i w h => cat_two w _ [58] _ (by rw [List.length_replicate]; simp; omega) (rep_snoc _ _)
  have E3 : ∀ w, (Op.stringOp .add (mk (List.replicate b 126)) ⟨#[32]⟩).run Tryz.prog w = .ok (.string (mk (List.replicate b 126 ++ [32]))) w := fun w => cat_two w _ [32] _ (by rw [List.length_replicate]; simp; omega) rfl
  have E4 : ∀ w, (Op.stringOp .add (mk (List.replicate b 126)) ⟨#[120]⟩).run Tryz.prog w = .ok (.string (mk (List.replicate b 126 ++ [120]))) w := fun w => cat_two w _ [120] _ (by rw [List.length_replicate]; simp; omega) rfl
  have E5 : ∀ w, (Op.stringOp .add (mk (List.replicate a 126)) ⟨#[32]⟩).run Tryz.prog w = .ok (.string (mk (List.replicate a 126 ++ [32]))) w := fun w => cat_two w _ [32] _ (by rw [List.length_replicate]; simp; omega) rfl
  have E6 : ∀ w, (Op.stringOp .add (mk (List.replicate a 126 ++ [32])) (mk (foldL info))).run Tryz.prog w = .ok (.string (mk (List.replicate a 126 ++ 32 :: foldL info))) w := fun w => cat_two w _ (foldL info) _ (by rw [List.length_append, List.length_replicate]; simp; omega) (by simp)
  have z0 : mk (List.replicate 0 126) = ⟨#[]⟩ := rfl
  have z1 : mk (List.replicate 0 58) = ⟨#[]⟩ := rfl
  generalize mk (foldL info) = F at *
  generalize mk (List.replicate a 126 ++ 32 :: foldL info) = G at *
  generalize mk (List.replicate a 126 ++ [32]) = G0 at *
  generalize mk (List.replicate b 126 ++ [32]) = G1 at *
  generalize mk (List.replicate b 126 ++ [120]) = G2 at *
  obtain ⟨f, hf⟩ : ∃ f : Nat → ByteArray, ∀ i, mk (List.replicate i 126) = f i := ⟨_, fun _ => rfl⟩
  obtain ⟨g, hg⟩ : ∃ g : Nat → ByteArray, ∀ i, mk (List.replicate i 58) = g i := ⟨_, fun _ => rfl⟩
  simp only [hf] at O1 E1 E3 E4 E5 z0
  simp only [hg] at C2 E2 z1
  clear hf hg hF
  go_enter Tryz.func5, Tryz.ntmps5
  go_wp2_with fail
  clear hrai hrbi hai hbi
  go_loop [12, 15] (fun s i => ∃ n : Nat, n ≤ a ∧ s = .string (f n) ∧ i = .int .i64 n) (fun _ i => a - (intOf i).toNat)
  case atStart => exact ⟨0, by omega, by rw [z0], rfl⟩
  case round =>
    obtain ⟨j, hj, rfl, rfl⟩ := hrel
    by_cases hlt : j < a
    · have C := fun w => E1 j w (by omega)
      have y1 : decide ((j : Int) < (a : Int)) = true := decide_eq_true (by omega)
      clear E1 E2 E3 E4 E5 E6
      go_wp2_with fail
      go_round
      case rel => exact ⟨j + 1, by omega, rfl, by go_num⟩
      case measure => simp [intOf]; omega
    obtain rfl : j = a := by omega
    go_wp2_with fail
    go_loop [13, 14, 16] (fun s c i => ∃ n : Nat, n ≤ b ∧ s = .string (f n) ∧ c = .string (g n) ∧ i = .int .i64 n) (fun _ _ i => b - (intOf i).toNat)
    case atStart => exact ⟨0, by omega, by rw [z0], by rw [z1], rfl⟩
    case round =>
      obtain ⟨j', hj', rfl, rfl, rfl⟩ := hrel
      by_cases hlt' : j' < b
      · have C := fun w => E1 j' w (by omega)
        have C' := fun w => E2 j' w (by omega)
        have y1 : decide ((j' : Int) < (b : Int)) = true := decide_eq_true (by omega)
        clear E1 E2 E3 E4 E5 E6
        go_wp2_with fail
        go_round
        case rel => exact ⟨j' + 1, by omega, rfl, rfl, by go_num⟩
        case measure => simp [intOf]; omega
      obtain rfl : j' = b := by omega
      clear E1 E2
      have q1 : ((⟨#[126]⟩ : ByteArray).toList == (⟨#[126]⟩ : ByteArray).toList) = true := beq_self_eq_true _
      have q2 : (fb == fb) = true := beq_self_eq_true _
      have q3 : (eb == eb) = true := beq_self_eq_true _
      go_wp2_with fail
      ((with_reducible refine (O1.out _).mono ?_))
      rintro e w1 ⟨A1, c1, A2, c2, rfl, b1⟩
      have K1 := Lib.hid b1
      clear b1
      go_wp2_with fail
      ((with_reducible refine (C1.out _ _ _ _ _).mono ?_))
      rintro e w2 ⟨A3, c3, A4, c4, rfl, b2⟩
      have K2 := Lib.hid (K1.out.trans (b2.mono K1.out.size))
      clear b2
      go_wp2_with fail
      ((with_reducible refine (C2.out _).mono ?_))
      rintro e w3 ⟨A5, c5, A6, c6, rfl, b3⟩
      have K3 := Lib.hid ((K2.out.alloc K2.out.size _).trans (b3.mono (K2.out.alloc K2.out.size _).size))
      clear b3
      go_wp2_with fail
      ((with_reducible refine (O1.out _).mono ?_))
      rintro e w4 ⟨A7, c7, A8, c8, rfl, b4⟩
      have K4 := Lib.hid ((K3.out.alloc K3.out.size _).trans (b4.mono (K3.out.alloc K3.out.size _).size))
      clear b4
      go_wp2_with fail
      ((with_reducible refine (C3.out _ _ _ _ _).mono ?_))
      rintro e w5 ⟨A9, c9, A10, c10, rfl, b5⟩
      have K5 := Lib.hid (K4.out.trans (b5.mono K4.out.size))
      clear b5
      go_wp2_with fail
      ((with_reducible refine (HR.out _).mono ?_))
      rintro e w6 ⟨rfl, b6⟩
      have K6 := Lib.hid ((K5.out.alloc K5.out.size _).trans (b6.mono (K5.out.alloc K5.out.size _).size))
      clear b6
      go_wp2_with fail
      ((with_reducible refine (O3.out _).mono ?_))
      rintro e w7 ⟨A11, c11, A12, c12, rfl, b7⟩
      have K7 := Lib.hid (K6.out.trans (b7.mono K6.out.size))
      clear b7
      go_wp2_with fail
      ((with_reducible refine (HA.out _).mono ?_))
      rintro e w8 ⟨rfl, b8⟩
      have K8 := Lib.hid ((K7.out.alloc K7.out.size _).trans (b8.mono (K7.out.alloc K7.out.size _).size))
      clear b8
      go_wp2_with fail
      go_ret
      exact ⟨rfl, K8.out⟩

set_option maxRecDepth 100000 in
set_option maxHeartbeats 4000000 in
theorem fences_b_fence (k n : Nat) (info : ByteArray) (w : World) (hk : k < 256) (hn : n < 256) (hi : info.size ≤ 200) (hc : (32 :: foldL info).contains 96 = false) :
    Calls Tryz.prog 5 #[.int .u8 (k : Nat), .int .u8 (n : Nat), .bool false, .string info] w fun e w' => e = .returned (.bool true) ∧ Below w.heap.size w w' := by
  have HA := Lib.hid mk_awake
  have d1 : decide (200 < info.size) = false := decide_eq_false (by omega)
  obtain ⟨ra, hra⟩ : ∃ r, r = k % 20 := ⟨_, rfl⟩
  obtain ⟨rb, hrb⟩ : ∃ r, r = n % 20 := ⟨_, rfl⟩
  have hra20 : ra < 20 := by omega
  have hrb20 : rb < 20 := by omega
  have hrai : (k : Int) % 20 = (ra : Int) := by omega
  have hrbi : (n : Int) % 20 = (rb : Int) := by omega
  clear hra hrb
  obtain ⟨a, ha⟩ : ∃ a, a = 3 + ra := ⟨_, rfl⟩
  obtain ⟨b, hb⟩ : ∃ b, b = 3 + rb := ⟨_, rfl⟩
  have hai : 3 + (ra : Int) = (a : Int) := by omega
  have hbi : 3 + (rb : Int) = (b : Int) := by omega
  have ha3 : 3 ≤ a := by omega
  have hb3 : 3 ≤ b := by omega
  have ha22 : a ≤ 22 := by omega
  have hb22 : b ≤ 22 := by omega
  clear ha hb
  have hF := fold_len8 info
  have O1 : Hid (∀ W, Calls Tryz.prog 13 #[.string (mk (List.replicate a 96))] W fun e w' => ∃ A1 c1 A2 c2, e = .returned (.agg #[.int .i64 7, .int .i64 (a : Nat), .string ⟨#[96]⟩, .int .i64 0, .string ⟨#[]⟩, .string ⟨#[]⟩, .string ⟨#[]⟩, .string ⟨#[]⟩, .string ⟨#[]⟩, .slice A1 0 c1, .slice A2 0 c2]) ∧ Below W.heap.size W w') := Lib.hid fun W => by
    have h := mark_rep 96 a [] (by decide) ha3 (by decide)
    rw [if_neg (fun h => by cases h.2), List.append_nil] at h
    exact of_ex h W (by rw [mk_size, List.length_replicate]; omega)
  have O2 : Hid (∃ X, ∀ W, Calls Tryz.prog 13 #[.string (mk (List.replicate a 96 ++ 32 :: foldL info))] W fun e w' => ∃ A1 c1 A2 c2, e = .returned (.agg #[.int .i64 7, .int .i64 (a : Nat), .string ⟨#[96]⟩, .int .i64 0, .string X, .string ⟨#[]⟩, .string ⟨#[]⟩, .string ⟨#[]⟩, .string ⟨#[]⟩, .slice A1 0 c1, .slice A2 0 c2]) ∧ Below W.heap.size W w') := Lib.hid ⟨mk (trimS (32 :: foldL info)), fun W => by
    have h := mark_rep 96 a (32 :: foldL info) (by decide) ha3 (by intro h; injection h with h; exact absurd h (by decide))
    rw [if_neg (fun h => by rw [hc] at h; cases h.2)] at h
    exact of_ex h W (by rw [mk_size, List.length_append, List.length_replicate, List.length_cons]; omega)⟩
  obtain ⟨X, hO2⟩ := O2.out
  have O3 := Lib.hid hO2
  clear hO2 O2
  have hfb : ∃ fb : Bool, decide ((a : Int) ≤ (b : Int)) = fb ∧ decide (a ≤ b) = fb := by
    by_cases h : a ≤ b
    · exact ⟨true, decide_eq_true (by omega), decide_eq_true h⟩
    · exact ⟨false, decide_eq_false (by omega), decide_eq_false h⟩
  obtain ⟨fb, hfb1, hfb2⟩ := hfb
  have heb : ∃ eb : Bool, ((a : Int) == (b : Int)) = eb ∧ decide (a = b) = eb ∧ (a == b) = eb := by
    by_cases h : a = b
    · exact ⟨true, by rw [beq_iff_eq]; omega, decide_eq_true h, by rw [beq_iff_eq]; exact h⟩
    · exact ⟨false, by rw [beq_eq_false_iff_ne]; omega, decide_eq_false h, by rw [beq_eq_false_iff_ne]; exact h⟩
  obtain ⟨eb, heb1, heb2, heb3⟩ := heb
  have C1 : Hid (∀ (A1 : Option Addr) (c1 : Nat) (A2 : Option Addr) (c2 : Nat) (W : World), Calls Tryz.prog 9 #[.string (mk (List.replicate b 96 ++ [32])), .agg #[.int .i64 7, .int .i64 (a : Nat), .string ⟨#[96]⟩, .int .i64 0, .string ⟨#[]⟩, .string ⟨#[]⟩, .string ⟨#[]⟩, .string ⟨#[]⟩, .string ⟨#[]⟩, .slice A1 0 c1, .slice A2 0 c2]] W fun e w' => ∃ A3 c3 A4 c4, e = .returned (.tuple #[.agg #[.string ⟨#[]⟩, .slice A3 0 c3, .slice A4 0 c4], .bool fb]) ∧ Below W.heap.size W w') := Lib.hid fun A1 c1 A2 c2 W => by
    have h := close_fence 96 a b [32] (by decide) ha3 hb3 (by decide)
    rw [blank_sp, Bool.and_true, hfb2] at h
    exact closes_ex h 0 ⟨#[]⟩ ⟨#[]⟩ ⟨#[]⟩ ⟨#[]⟩ ⟨#[]⟩ A1 0 c1 A2 0 c2 W (by rw [mk_size, List.length_append, List.length_replicate]; simp; omega)
  have C3 : Hid (∀ (A1 : Option Addr) (c1 : Nat) (A2 : Option Addr) (c2 : Nat) (W : World), Calls Tryz.prog 9 #[.string (mk (List.replicate b 96 ++ [120])), .agg #[.int .i64 7, .int .i64 (a : Nat), .string ⟨#[96]⟩, .int .i64 0, .string ⟨#[]⟩, .string ⟨#[]⟩, .string ⟨#[]⟩, .string ⟨#[]⟩, .string ⟨#[]⟩, .slice A1 0 c1, .slice A2 0 c2]] W fun e w' => ∃ A3 c3 A4 c4, e = .returned (.tuple #[.agg #[.string ⟨#[]⟩, .slice A3 0 c3, .slice A4 0 c4], .bool false]) ∧ Below W.heap.size W w') := Lib.hid fun A1 c1 A2 c2 W => by
    have h := close_fence 96 a b [120] (by decide) ha3 hb3 (by decide)
    rw [blank_x, Bool.and_false] at h
    exact closes_ex h 0 ⟨#[]⟩ ⟨#[]⟩ ⟨#[]⟩ ⟨#[]⟩ ⟨#[]⟩ A1 0 c1 A2 0 c2 W (by rw [mk_size, List.length_append, List.length_replicate]; simp; omega)
  have C2 : Hid (∀ (W : World), Calls Tryz.prog 9 #[.string (mk (List.replicate b 58)), .agg #[.int .i64 9, .int .i64 (a : Nat), .string ⟨#[]⟩, .int .i64 0, .string ⟨#[]⟩, .string ⟨#[]⟩, .string ⟨#[]⟩, .string ⟨#[]⟩, .string ⟨#[]⟩, .slice none 0 0, .slice none 0 0]] W fun e w' => ∃ A3 c3 A4 c4, e = .returned (.tuple #[.agg #[.string ⟨#[]⟩, .slice A3 0 c3, .slice A4 0 c4], .bool eb]) ∧ Below W.heap.size W w') := Lib.hid fun W => by
    have h := close_div a b ⟨#[]⟩ ha3 hb3
    rw [heb2] at h
    exact closes_ex h 0 ⟨#[]⟩ ⟨#[]⟩ ⟨#[]⟩ ⟨#[]⟩ ⟨#[]⟩ none 0 0 none 0 0 W (by rw [mk_size, List.length_replicate]; omega)
  have HR : Hid (∀ W, Calls Tryz.prog 16 #[.string info] W fun e w' => e = .returned (.string (mk (foldL info))) ∧ Below W.heap.size W w') := Lib.hid fun W => rFold_any info W (by omega)
  have E1 : ∀ i w, i ≤ 22 → (Op.stringOp .add (mk (List.replicate i 96)) ⟨#[96]⟩).run Tryz.prog w = .ok (.string (mk (List.replicate (i + 1) 96))) w := fun i w h => cat_two w _ [96] _ (by rw [List.length_replicate]; simp; omega) (rep_snoc _ _)
  have E2 : ∀ i w, i ≤ 22 → (Op.stringOp .add (mk (List.replicate i 58)) ⟨#[58]⟩).run Tryz.prog w = .ok (.string (mk (List.replicate (i + 1) 58))) w := fun i w h => cat_two w _ [58] _ (by rw [List.length_replicate]; simp; omega) (rep_snoc _ _)
  have E3 : ∀ w, (Op.stringOp .add (mk (List.replicate b 96)) ⟨#[32]⟩).run Tryz.prog w = .ok (.string (mk (List.replicate b 96 ++ [32]))) w := fun w => cat_two w _ [32] _ (by rw [List.length_replicate]; simp; omega) rfl
  have E4 : ∀ w, (Op.stringOp .add (mk (List.replicate b 96)) ⟨#[120]⟩).run Tryz.prog w = .ok (.string (mk (List.replicate b 96 ++ [120]))) w := fun w => cat_two w _ [120] _ (by rw [List.length_replicate]; simp; omega) rfl
  have E5 : ∀ w, (Op.stringOp .add (mk (List.replicate a 96)) ⟨#[32]⟩).run Tryz.prog w = .ok (.string (mk (List.replicate a 96 ++ [32]))) w := fun w => cat_two w _ [32] _ (by rw [List.length_replicate]; simp; omega) rfl
  have E6 : ∀ w, (Op.stringOp .add (mk (List.replicate a 96 ++ [32])) (mk (foldL info))).run Tryz.prog w = .ok (.string (mk (List.replicate a 96 ++ 32 :: foldL info))) w := fun w => cat_two w _ (foldL info) _ (by rw [List.length_append, List.length_replicate]; simp; omega) (by simp)
  have z0 : mk (List.replicate 0 96) = ⟨#[]⟩ := rfl
  have z1 : mk (List.replicate 0 58) = ⟨#[]⟩ := rfl
  generalize mk (foldL info) = F at *
  generalize mk (List.replicate a 96 ++ 32 :: foldL info) = G at *
  generalize mk (List.replicate a 96 ++ [32]) = G0 at *
  generalize mk (List.replicate b 96 ++ [32]) = G1 at *
  generalize mk (List.replicate b 96 ++ [120]) = G2 at *
  obtain ⟨f, hf⟩ : ∃ f : Nat → ByteArray, ∀ i, mk (List.replicate i 96) = f i := ⟨_, fun _ => rfl⟩
  obtain ⟨g, hg⟩ : ∃ g : Nat → ByteArray, ∀ i, mk (List.replicate i 58) = g i := ⟨_, fun _ => rfl⟩
  simp only [hf] at O1 E1 E3 E4 E5 z0
  simp only [hg] at C2 E2 z1
  clear hf hg hF
  go_enter Tryz.func5, Tryz.ntmps5
  go_wp2_with fail
  clear hrai hrbi hai hbi
  go_loop [12, 15] (fun s i => ∃ n : Nat, n ≤ a ∧ s = .string (f n) ∧ i = .int .i64 n) (fun _ i => a - (intOf i).toNat)
  case atStart => exact ⟨0, by omega, by rw [z0], rfl⟩
  case round =>
    obtain ⟨j, hj, rfl, rfl⟩ := hrel
    by_cases hlt : j < a
    · have C := fun w => E1 j w (by omega)
      have y1 : decide ((j : Int) < (a : Int)) = true := decide_eq_true (by omega)
      clear E1 E2 E3 E4 E5 E6
      go_wp2_with fail
      go_round
      case rel => exact ⟨j + 1, by omega, rfl, by go_num⟩
      case measure => simp [intOf]; omega
    obtain rfl : j = a := by omega
    go_wp2_with fail
    go_loop [13, 14, 16] (fun s c i => ∃ n : Nat, n ≤ b ∧ s = .string (f n) ∧ c = .string (g n) ∧ i = .int .i64 n) (fun _ _ i => b - (intOf i).toNat)
    case atStart => exact ⟨0, by omega, by rw [z0], by rw [z1], rfl⟩
    case round =>
      obtain ⟨j', hj', rfl, rfl, rfl⟩ := hrel
      by_cases hlt' : j' < b
      · have C := fun w => E1 j' w (by omega)
        have C' := fun w => E2 j' w (by omega)
        have y1 : decide ((j' : Int) < (b : Int)) = true := decide_eq_true (by omega)
        clear E1 E2 E3 E4 E5 E6
        go_wp2_with fail
        go_round
        case rel => exact ⟨j' + 1, by omega, rfl, rfl, by go_num⟩
        case measure => simp [intOf]; omega
      obtain rfl : j' = b := by omega
      clear E1 E2
      have q1 : ((⟨#[96]⟩ : ByteArray).toList == (⟨#[96]⟩ : ByteArray).toList) = true := beq_self_eq_true _
      have q2 : (fb == fb) = true := beq_self_eq_true _
      have q3 : (eb == eb) = true := beq_self_eq_true _
      go_wp2_with fail
      ((with_reducible refine (O1.out _).mono ?_))
      rintro e w1 ⟨A1, c1, A2, c2, rfl, b1⟩
      have K1 := Lib.hid b1
      clear b1
      go_wp2_with fail
      ((with_reducible refine (C1.out _ _ _ _ _).mono ?_))
      rintro e w2 ⟨A3, c3, A4, c4, rfl, b2⟩
      have K2 := Lib.hid (K1.out.trans (b2.mono K1.out.size))
      clear b2
      go_wp2_with fail
      ((with_reducible refine (C2.out _).mono ?_))
      rintro e w3 ⟨A5, c5, A6, c6, rfl, b3⟩
      have K3 := Lib.hid ((K2.out.alloc K2.out.size _).trans (b3.mono (K2.out.alloc K2.out.size _).size))
      clear b3
      go_wp2_with fail
      ((with_reducible refine (O1.out _).mono ?_))
      rintro e w4 ⟨A7, c7, A8, c8, rfl, b4⟩
      have K4 := Lib.hid ((K3.out.alloc K3.out.size _).trans (b4.mono (K3.out.alloc K3.out.size _).size))
      clear b4
      go_wp2_with fail
      ((with_reducible refine (C3.out _ _ _ _ _).mono ?_))
      rintro e w5 ⟨A9, c9, A10, c10, rfl, b5⟩
      have K5 := Lib.hid (K4.out.trans (b5.mono K4.out.size))
      clear b5
      go_wp2_with fail
      ((with_reducible refine (HR.out _).mono ?_))
      rintro e w6 ⟨rfl, b6⟩
      have K6 := Lib.hid ((K5.out.alloc K5.out.size _).trans (b6.mono (K5.out.alloc K5.out.size _).size))
      clear b6
      go_wp2_with fail
      ((with_reducible refine (O3.out _).mono ?_))
      rintro e w7 ⟨A11, c11, A12, c12, rfl, b7⟩
      have K7 := Lib.hid (K6.out.trans (b7.mono K6.out.size))
      clear b7
      go_wp2_with fail
      ((with_reducible refine (HA.out _).mono ?_))
      rintro e w8 ⟨rfl, b8⟩
      have K8 := Lib.hid ((K7.out.alloc K7.out.size _).trans (b8.mono (K7.out.alloc K7.out.size _).size))
      clear b8
      go_wp2_with fail
      go_ret
      exact ⟨rfl, K8.out⟩

set_option maxRecDepth 100000 in
set_option maxHeartbeats 4000000 in
theorem fences_b_text (k n : Nat) (info : ByteArray) (w : World) (hk : k < 256) (hn : n < 256) (hi : info.size ≤ 200) (hc : (32 :: foldL info).contains 96 = true) :
    Calls Tryz.prog 5 #[.int .u8 (k : Nat), .int .u8 (n : Nat), .bool false, .string info] w fun e w' => e = .returned (.bool true) ∧ Below w.heap.size w w' := by
  have HA := Lib.hid mk_awake
  have d1 : decide (200 < info.size) = false := decide_eq_false (by omega)
  obtain ⟨ra, hra⟩ : ∃ r, r = k % 20 := ⟨_, rfl⟩
  obtain ⟨rb, hrb⟩ : ∃ r, r = n % 20 := ⟨_, rfl⟩
  have hra20 : ra < 20 := by omega
  have hrb20 : rb < 20 := by omega
  have hrai : (k : Int) % 20 = (ra : Int) := by omega
  have hrbi : (n : Int) % 20 = (rb : Int) := by omega
  clear hra hrb
  obtain ⟨a, ha⟩ : ∃ a, a = 3 + ra := ⟨_, rfl⟩
  obtain ⟨b, hb⟩ : ∃ b, b = 3 + rb := ⟨_, rfl⟩
  have hai : 3 + (ra : Int) = (a : Int) := by omega
  have hbi : 3 + (rb : Int) = (b : Int) := by omega
  have ha3 : 3 ≤ a := by omega
  have hb3 : 3 ≤ b := by omega
  have ha22 : a ≤ 22 := by omega
  have hb22 : b ≤ 22 := by omega
  clear ha hb
  have hF := fold_len8 info
  have O1 : Hid (∀ W, Calls Tryz.prog 13 #[.string (mk (List.replicate a 96))] W fun e w' => ∃ A1 c1 A2 c2, e = .returned (.agg #[.int .i64 7, .int .i64 (a : Nat), .string ⟨#[96]⟩, .int .i64 0, .string ⟨#[]⟩, .string ⟨#[]⟩, .string ⟨#[]⟩, .string ⟨#[]⟩, .string ⟨#[]⟩, .slice A1 0 c1, .slice A2 0 c2]) ∧ Below W.heap.size W w') := Lib.hid fun W => by
    have h := mark_rep 96 a [] (by decide) ha3 (by decide)
    rw [if_neg (fun h => by cases h.2), List.append_nil] at h
    exact of_ex h W (by rw [mk_size, List.length_replicate]; omega)
  have O2 : Hid (∃ X, ∀ W, Calls Tryz.prog 13 #[.string (mk (List.replicate a 96 ++ 32 :: foldL info))] W fun e w' => ∃ A1 c1 A2 c2, e = .returned (.agg #[.int .i64 0, .int .i64 0, .string ⟨#[]⟩, .int .i64 0, .string ⟨#[]⟩, .string X, .string ⟨#[]⟩, .string ⟨#[]⟩, .string ⟨#[]⟩, .slice A1 0 c1, .slice A2 0 c2]) ∧ Below W.heap.size W w') := Lib.hid ⟨mk (List.replicate a 96 ++ 32 :: foldL info), fun W => by
    have h := mark_rep 96 a (32 :: foldL info) (by decide) ha3 (by intro h; injection h with h; exact absurd h (by decide))
    rw [if_pos ⟨by decide, hc⟩] at h
    exact of_ex h W (by rw [mk_size, List.length_append, List.length_replicate, List.length_cons]; omega)⟩
  obtain ⟨X, hO2⟩ := O2.out
  have O3 := Lib.hid hO2
  clear hO2 O2
  have hfb : ∃ fb : Bool, decide ((a : Int) ≤ (b : Int)) = fb ∧ decide (a ≤ b) = fb := by
    by_cases h : a ≤ b
    · exact ⟨true, decide_eq_true (by omega), decide_eq_true h⟩
    · exact ⟨false, decide_eq_false (by omega), decide_eq_false h⟩
  obtain ⟨fb, hfb1, hfb2⟩ := hfb
  have heb : ∃ eb : Bool, ((a : Int) == (b : Int)) = eb ∧ decide (a = b) = eb ∧ (a == b) = eb := by
    by_cases h : a = b
    · exact ⟨true, by rw [beq_iff_eq]; omega, decide_eq_true h, by rw [beq_iff_eq]; exact h⟩
    · exact ⟨false, by rw [beq_eq_false_iff_ne]; omega, decide_eq_false h, by rw [beq_eq_false_iff_ne]; exact h⟩
  obtain ⟨eb, heb1, heb2, heb3⟩ := heb
  have C1 : Hid (∀ (A1 : Option Addr) (c1 : Nat) (A2 : Option Addr) (c2 : Nat) (W : World), Calls Tryz.prog 9 #[.string (mk (List.replicate b 96 ++ [32])), .agg #[.int .i64 7, .int .i64 (a : Nat), .string ⟨#[96]⟩, .int .i64 0, .string ⟨#[]⟩, .string ⟨#[]⟩, .string ⟨#[]⟩, .string ⟨#[]⟩, .string ⟨#[]⟩, .slice A1 0 c1, .slice A2 0 c2]] W fun e w' => ∃ A3 c3 A4 c4, e = .returned (.tuple #[.agg #[.string ⟨#[]⟩, .slice A3 0 c3, .slice A4 0 c4], .bool fb]) ∧ Below W.heap.size W w') := Lib.hid fun A1 c1 A2 c2 W => by
    have h := close_fence 96 a b [32] (by decide) ha3 hb3 (by decide)
    rw [blank_sp, Bool.and_true, hfb2] at h
    exact closes_ex h 0 ⟨#[]⟩ ⟨#[]⟩ ⟨#[]⟩ ⟨#[]⟩ ⟨#[]⟩ A1 0 c1 A2 0 c2 W (by rw [mk_size, List.length_append, List.length_replicate]; simp; omega)
  have C3 : Hid (∀ (A1 : Option Addr) (c1 : Nat) (A2 : Option Addr) (c2 : Nat) (W : World), Calls Tryz.prog 9 #[.string (mk (List.replicate b 96 ++ [120])), .agg #[.int .i64 7, .int .i64 (a : Nat), .string ⟨#[96]⟩, .int .i64 0, .string ⟨#[]⟩, .string ⟨#[]⟩, .string ⟨#[]⟩, .string ⟨#[]⟩, .string ⟨#[]⟩, .slice A1 0 c1, .slice A2 0 c2]] W fun e w' => ∃ A3 c3 A4 c4, e = .returned (.tuple #[.agg #[.string ⟨#[]⟩, .slice A3 0 c3, .slice A4 0 c4], .bool false]) ∧ Below W.heap.size W w') := Lib.hid fun A1 c1 A2 c2 W => by
    have h := close_fence 96 a b [120] (by decide) ha3 hb3 (by decide)
    rw [blank_x, Bool.and_false] at h
    exact closes_ex h 0 ⟨#[]⟩ ⟨#[]⟩ ⟨#[]⟩ ⟨#[]⟩ ⟨#[]⟩ A1 0 c1 A2 0 c2 W (by rw [mk_size, List.length_append, List.length_replicate]; simp; omega)
  have C2 : Hid (∀ (W : World), Calls Tryz.prog 9 #[.string (mk (List.replicate b 58)), .agg #[.int .i64 9, .int .i64 (a : Nat), .string ⟨#[]⟩, .int .i64 0, .string ⟨#[]⟩, .string ⟨#[]⟩, .string ⟨#[]⟩, .string ⟨#[]⟩, .string ⟨#[]⟩, .slice none 0 0, .slice none 0 0]] W fun e w' => ∃ A3 c3 A4 c4, e = .returned (.tuple #[.agg #[.string ⟨#[]⟩, .slice A3 0 c3, .slice A4 0 c4], .bool eb]) ∧ Below W.heap.size W w') := Lib.hid fun W => by
    have h := close_div a b ⟨#[]⟩ ha3 hb3
    rw [heb2] at h
    exact closes_ex h 0 ⟨#[]⟩ ⟨#[]⟩ ⟨#[]⟩ ⟨#[]⟩ ⟨#[]⟩ none 0 0 none 0 0 W (by rw [mk_size, List.length_replicate]; omega)
  have HR : Hid (∀ W, Calls Tryz.prog 16 #[.string info] W fun e w' => e = .returned (.string (mk (foldL info))) ∧ Below W.heap.size W w') := Lib.hid fun W => rFold_any info W (by omega)
  have E1 : ∀ i w, i ≤ 22 → (Op.stringOp .add (mk (List.replicate i 96)) ⟨#[96]⟩).run Tryz.prog w = .ok (.string (mk (List.replicate (i + 1) 96))) w := fun i w h => cat_two w _ [96] _ (by rw [List.length_replicate]; simp; omega) (rep_snoc _ _)
  have E2 : ∀ i w, i ≤ 22 → (Op.stringOp .add (mk (List.replicate i 58)) ⟨#[58]⟩).run Tryz.prog w = .ok (.string (mk (List.replicate (i + 1) 58))) w := fun i w h => cat_two w _ [58] _ (by rw [List.length_replicate]; simp; omega) (rep_snoc _ _)
  have E3 : ∀ w, (Op.stringOp .add (mk (List.replicate b 96)) ⟨#[32]⟩).run Tryz.prog w = .ok (.string (mk (List.replicate b 96 ++ [32]))) w := fun w => cat_two w _ [32] _ (by rw [List.length_replicate]; simp; omega) rfl
  have E4 : ∀ w, (Op.stringOp .add (mk (List.replicate b 96)) ⟨#[120]⟩).run Tryz.prog w = .ok (.string (mk (List.replicate b 96 ++ [120]))) w := fun w => cat_two w _ [120] _ (by rw [List.length_replicate]; simp; omega) rfl
  have E5 : ∀ w, (Op.stringOp .add (mk (List.replicate a 96)) ⟨#[32]⟩).run Tryz.prog w = .ok (.string (mk (List.replicate a 96 ++ [32]))) w := fun w => cat_two w _ [32] _ (by rw [List.length_replicate]; simp; omega) rfl
  have E6 : ∀ w, (Op.stringOp .add (mk (List.replicate a 96 ++ [32])) (mk (foldL info))).run Tryz.prog w = .ok (.string (mk (List.replicate a 96 ++ 32 :: foldL info))) w := fun w => cat_two w _ (foldL info) _ (by rw [List.length_append, List.length_replicate]; simp; omega) (by simp)
  have z0 : mk (List.replicate 0 96) = ⟨#[]⟩ := rfl
  have z1 : mk (List.replicate 0 58) = ⟨#[]⟩ := rfl
  generalize mk (foldL info) = F at *
  generalize mk (List.replicate a 96 ++ 32 :: foldL info) = G at *
  generalize mk (List.replicate a 96 ++ [32]) = G0 at *
  generalize mk (List.replicate b 96 ++ [32]) = G1 at *
  generalize mk (List.replicate b 96 ++ [120]) = G2 at *
  obtain ⟨f, hf⟩ : ∃ f : Nat → ByteArray, ∀ i, mk (List.replicate i 96) = f i := ⟨_, fun _ => rfl⟩
  obtain ⟨g, hg⟩ : ∃ g : Nat → ByteArray, ∀ i, mk (List.replicate i 58) = g i := ⟨_, fun _ => rfl⟩
  simp only [hf] at O1 E1 E3 E4 E5 z0
  simp only [hg] at C2 E2 z1
  clear hf hg hF
  go_enter Tryz.func5, Tryz.ntmps5
  go_wp2_with fail
  clear hrai hrbi hai hbi
  go_loop [12, 15] (fun s i => ∃ n : Nat, n ≤ a ∧ s = .string (f n) ∧ i = .int .i64 n) (fun _ i => a - (intOf i).toNat)
  case atStart => exact ⟨0, by omega, by rw [z0], rfl⟩
  case round =>
    obtain ⟨j, hj, rfl, rfl⟩ := hrel
    by_cases hlt : j < a
    · have C := fun w => E1 j w (by omega)
      have y1 : decide ((j : Int) < (a : Int)) = true := decide_eq_true (by omega)
      clear E1 E2 E3 E4 E5 E6
      go_wp2_with fail
      go_round
      case rel => exact ⟨j + 1, by omega, rfl, by go_num⟩
      case measure => simp [intOf]; omega
    obtain rfl : j = a := by omega
    go_wp2_with fail
    go_loop [13, 14, 16] (fun s c i => ∃ n : Nat, n ≤ b ∧ s = .string (f n) ∧ c = .string (g n) ∧ i = .int .i64 n) (fun _ _ i => b - (intOf i).toNat)
    case atStart => exact ⟨0, by omega, by rw [z0], by rw [z1], rfl⟩
    case round =>
      obtain ⟨j', hj', rfl, rfl, rfl⟩ := hrel
      by_cases hlt' : j' < b
      · have C := fun w => E1 j' w (by omega)
        have C' := fun w => E2 j' w (by omega)
        have y1 : decide ((j' : Int) < (b : Int)) = true := decide_eq_true (by omega)
        clear E1 E2 E3 E4 E5 E6
        go_wp2_with fail
        go_round
        case rel => exact ⟨j' + 1, by omega, rfl, rfl, by go_num⟩
        case measure => simp [intOf]; omega
      obtain rfl : j' = b := by omega
      clear E1 E2
      have q1 : ((⟨#[96]⟩ : ByteArray).toList == (⟨#[96]⟩ : ByteArray).toList) = true := beq_self_eq_true _
      have q2 : (fb == fb) = true := beq_self_eq_true _
      have q3 : (eb == eb) = true := beq_self_eq_true _
      go_wp2_with fail
      ((with_reducible refine (O1.out _).mono ?_))
      rintro e w1 ⟨A1, c1, A2, c2, rfl, b1⟩
      have K1 := Lib.hid b1
      clear b1
      go_wp2_with fail
      ((with_reducible refine (C1.out _ _ _ _ _).mono ?_))
      rintro e w2 ⟨A3, c3, A4, c4, rfl, b2⟩
      have K2 := Lib.hid (K1.out.trans (b2.mono K1.out.size))
      clear b2
      go_wp2_with fail
      ((with_reducible refine (C2.out _).mono ?_))
      rintro e w3 ⟨A5, c5, A6, c6, rfl, b3⟩
      have K3 := Lib.hid ((K2.out.alloc K2.out.size _).trans (b3.mono (K2.out.alloc K2.out.size _).size))
      clear b3
      go_wp2_with fail
      ((with_reducible refine (O1.out _).mono ?_))
      rintro e w4 ⟨A7, c7, A8, c8, rfl, b4⟩
      have K4 := Lib.hid ((K3.out.alloc K3.out.size _).trans (b4.mono (K3.out.alloc K3.out.size _).size))
      clear b4
      go_wp2_with fail
      ((with_reducible refine (C3.out _ _ _ _ _).mono ?_))
      rintro e w5 ⟨A9, c9, A10, c10, rfl, b5⟩
      have K5 := Lib.hid (K4.out.trans (b5.mono K4.out.size))
      clear b5
      go_wp2_with fail
      ((with_reducible refine (HR.out _).mono ?_))
      rintro e w6 ⟨rfl, b6⟩
      have K6 := Lib.hid ((K5.out.alloc K5.out.size _).trans (b6.mono (K5.out.alloc K5.out.size _).size))
      clear b6
      go_wp2_with fail
      ((with_reducible refine (O3.out _).mono ?_))
      rintro e w7 ⟨A11, c11, A12, c12, rfl, b7⟩
      have K7 := Lib.hid (K6.out.trans (b7.mono K6.out.size))
      clear b7
      go_wp2_with fail
      ((with_reducible refine (HA.out _).mono ?_))
      rintro e w8 ⟨rfl, b8⟩
      have K8 := Lib.hid ((K7.out.alloc K7.out.size _).trans (b8.mono (K7.out.alloc K7.out.size _).size))
      clear b8
      go_wp2_with fail
      go_ret
      exact ⟨rfl, K8.out⟩

theorem lawFences_any (k n : Nat) (tilde : Bool) (info : ByteArray) (w : World) (hk : k < 256) (hn : n < 256) (hi : info.size ≤ 9223372036854775807) :
    Calls Tryz.prog 5 #[.int .u8 (k : Nat), .int .u8 (n : Nat), .bool tilde, .string info] w fun e w' => e = .returned (.bool true) ∧ Below w.heap.size w w' := by
  by_cases h : 200 < info.size
  · have HA := Lib.hid mk_awake
    have d1 : decide (200 < info.size) = true := decide_eq_true h
    go_enter Tryz.func5, Tryz.ntmps5
    go_wp2_with fail
    ((with_reducible refine (HA.out _).mono ?_))
    rintro e w1 ⟨rfl, b1⟩
    go_wp2_with fail
    go_ret
    exact ⟨rfl, b1⟩
  cases tilde with
  | true => exact fences_t_fence k n info w hk hn (by omega)
  | false =>
    cases hc : (32 :: foldL info).contains 96 with
    | true => exact fences_b_text k n info w hk hn (by omega) hc
    | false => exact fences_b_fence k n info w hk hn (by omega) hc
end Go.Proofs.YthfienjmigidbaaGreatDoor
