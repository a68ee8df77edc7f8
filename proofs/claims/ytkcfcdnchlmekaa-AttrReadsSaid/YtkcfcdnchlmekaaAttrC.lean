/-
  Attributes in memory: what is read of them. attr.Has, Get, Empty, and the reference's.
-/
import Derived.Test.YtkcfcdnchlmekaaAttrX
import Derived.SliceStrings
set_option linter.unusedVariables false
set_option linter.unusedSimpArgs false
namespace Go.Pub
structure AttrL where
  id : ByteArray
  cl : List ByteArray
  pr : List (ByteArray × ByteArray)
def strs (l : List ByteArray) : List Value := l.map Value.string
def prs (l : List (ByteArray × ByteArray)) : List Value := l.flatMap fun p => [.string p.1, .string p.2]
theorem strs_at (l : List ByteArray) (k : Nat) (h : k < l.length) : (strs l)[k]? = some (.string l[k]) := by
  unfold strs; rw [List.getElem?_map, List.getElem?_eq_getElem h]; rfl
theorem strs_len (l : List ByteArray) : (strs l).length = l.length := by unfold strs; rw [List.length_map]
theorem prs_len (l : List (ByteArray × ByteArray)) : (prs l).length = l.length * 2 := by
  induction l with
  | nil => rfl
  | cons p l ih => unfold prs at ih ⊢; rw [List.flatMap_cons, List.length_append, ih]; simp; omega
theorem prs_at (l : List (ByteArray × ByteArray)) (k : Nat) (h : k < l.length) : (prs l)[k * 2]? = some (.string l[k].1) ∧ (prs l)[k * 2 + 1]? = some (.string l[k].2) := by
  induction l generalizing k with
  | nil => exact absurd h (by simp)
  | cons p l ih =>
    cases k with
    | zero => exact ⟨rfl, rfl⟩
    | succ k =>
      have := ih k (by simpa using h)
      unfold prs at this ⊢
      rw [List.flatMap_cons]
      have e1 : (k + 1) * 2 = (k * 2) + 2 := by omega
      rw [e1]
      exact this
theorem Reads.row {w : World} {B size n : Nat} {A : Option Addr} {xs : List Value} (h : Reads w B size A n xs) (hn : 0 < n) (hs : 0 < size) : ∃ b off, A = some ⟨b, off, none⟩ ∧ b < B ∧ ∀ j u, xs[j]? = some u → w.cell? ⟨b, off + j, none⟩ = some u := by
  obtain ⟨ad, e, hb, hc⟩ := h.2 hn
  obtain ⟨b, off, sp⟩ := ad
  have hl : 0 < xs.length := by rw [h.1]; exact Nat.mul_pos hn hs
  have h0 := hc 0 _ (List.getElem?_eq_getElem hl)
  obtain rfl : sp = none := by simpa [Addr.add] using World.cell?_spot h0
  refine ⟨b, off, e, hb, fun j u hu => ?_⟩
  have := hc j u hu
  unfold Addr.add at this
  by_cases hj : j = 0
  · subst hj; simpa using this
  · simpa [hj] using this
def getL : List (ByteArray × ByteArray) → ByteArray → Option ByteArray
  | [], _ => none
  | p :: l, k => if p.1 = k then some p.2 else getL l k
theorem getL_hit (x : ByteArray) : ∀ (l : List (ByteArray × ByteArray)) (k : Nat) (h : k < l.length), l[k].1 = x → (∀ j (hj : j < l.length), j < k → l[j].1 ≠ x) → getL l x = some l[k].2
  | [], k, h, _, _ => absurd h (by simp)
  | p :: l, 0, h, e, _ => by
    have e' : p.1 = x := e
    simp [getL, e']
  | p :: l, k + 1, h, e, hno => by
    have h0 : p.1 ≠ x := hno 0 (by simp) (by omega)
    unfold getL
    rw [if_neg h0]
    exact getL_hit x l k (by simpa using h) e fun j hj hjk => hno (j + 1) (by simpa using hj) (by omega)
theorem getL_none (x : ByteArray) : ∀ (l : List (ByteArray × ByteArray)), (∀ j (hj : j < l.length), l[j].1 ≠ x) → getL l x = none
  | [], _ => rfl
  | p :: l, h => by
    unfold getL
    have h0 : p.1 ≠ x := h 0 (by simp)
    rw [if_neg h0]
    exact getL_none x l fun j hj => h (j + 1) (by simpa using hj)
def hasKeyL (l : List (ByteArray × ByteArray)) (k : ByteArray) : Bool := (getL l k).isSome
end Go.Pub
namespace Go.Proofs.Ytkcfcdnchlmekaa
open Go.RowKit Go.Pub

set_option maxRecDepth 100000 in
set_option maxHeartbeats 1000000 in
theorem hasText_any (A : Option Addr) (c B : Nat) (zs : List ByteArray) (x : ByteArray) (w : World) (hr : Reads w B 1 A zs.length (strs zs)) (hn : zs.length ≤ 1000000) :
    Calls Try.prog 33 #[.slice A zs.length c, .string x] w fun e w' => e = .returned (.bool (Lib.containsS zs x)) ∧ w = w' := by
  have HC := Lib.hid (Lib.containsS_iff zs x)
  have HR := Lib.hid hr
  clear hr
  generalize Lib.containsS zs x = R at *
  go_enter Try.func33, Try.ntmps33
  go_wp2
  go_loop [5] (fun v => ∃ k : Nat, v = .int .i64 k ∧ k ≤ zs.length ∧ ∀ j (h : j < zs.length), j < k → zs[j] ≠ x) (fun v => zs.length - (intOf v).toNat)
  case atStart => exact ⟨0, rfl, by omega, fun j h hj => absurd hj (by omega)⟩
  case round =>
    obtain ⟨k, rfl, hk, hno⟩ := hrel
    have HN := Lib.hid hno
    clear hno
    by_cases hlt : k < zs.length
    · obtain ⟨b, off, rfl, hb, hcell⟩ := HR.out.row (by omega) (by omega)
      have hc := hcell k _ (strs_at zs k hlt)
      clear hcell
      by_cases he : zs[k] = x
      · have hR : Hid (R = true) := Lib.hid (HC.out.2 (he ▸ List.getElem_mem hlt))
        generalize zs[k] = z at *
        subst he
        go_wp2
        go_ret
        exact ⟨ret_bool hR.out.symm, rfl⟩
      · have HE := Lib.hid he
        have z1 : (zs[k].toList == x.toList) = false := (Lib.bytes_beq_false_iff _ _).2 he
        clear he
        go_wp2
        go_round
        case rel =>
          refine ⟨k + 1, by go_num, by omega, fun j h hj => ?_⟩
          by_cases hj' : j < k
          · exact HN.out j h hj'
          · obtain rfl : j = k := by omega
            exact HE.out
        case measure => simp [intOf]; omega
    · obtain rfl : k = zs.length := by omega
      have hR : Hid (R = false) := Lib.hid (by
        rw [← Bool.not_eq_true, HC.out]
        intro hm
        obtain ⟨j, hj, e⟩ := List.mem_iff_getElem.1 hm
        exact HN.out j hj hj e)
      go_wp2
      go_ret
      exact ⟨ret_bool hR.out.symm, rfl⟩

set_option maxRecDepth 100000 in
set_option maxHeartbeats 1000000 in
theorem hasKey_any (A : Option Addr) (c B : Nat) (zs : List (ByteArray × ByteArray)) (x : ByteArray) (w : World) (hr : Reads w B 2 A zs.length (prs zs)) (hn : zs.length ≤ 1000000) :
    Calls Try.prog 35 #[.slice A zs.length c, .string x] w fun e w' => e = .returned (.bool (hasKeyL zs x)) ∧ w = w' := by
  have HH : Hid (∀ (k : Nat) (h : k < zs.length), zs[k].1 = x → (∀ j (hj : j < zs.length), j < k → zs[j].1 ≠ x) → hasKeyL zs x = true) := Lib.hid fun k h e hno => by unfold hasKeyL; rw [getL_hit x zs k h e hno]; rfl
  have HF : Hid ((∀ j (hj : j < zs.length), zs[j].1 ≠ x) → hasKeyL zs x = false) := Lib.hid fun h => by unfold hasKeyL; rw [getL_none x zs h]; rfl
  have HR := Lib.hid hr
  clear hr
  generalize hasKeyL zs x = R at *
  go_enter Try.func35, Try.ntmps35
  go_wp2
  go_loop [5] (fun v => ∃ k : Nat, v = .int .i64 k ∧ k ≤ zs.length ∧ ∀ j (h : j < zs.length), j < k → zs[j].1 ≠ x) (fun v => zs.length - (intOf v).toNat)
  case atStart => exact ⟨0, rfl, by omega, fun j h hj => absurd hj (by omega)⟩
  case round =>
    obtain ⟨k, rfl, hk, hno⟩ := hrel
    have HN := Lib.hid hno
    clear hno
    by_cases hlt : k < zs.length
    · obtain ⟨b, off, rfl, hb, hcell⟩ := HR.out.row (by omega) (by omega)
      have hc := hcell _ _ (prs_at zs k hlt).1
      clear hcell
      by_cases he : zs[k].1 = x
      · have hR : Hid (R = true) := Lib.hid (HH.out k hlt he HN.out)
        have z1 : (zs[k].1.toList == x.toList) = true := (Lib.bytes_beq_iff _ _).2 he
        clear he
        go_wp2
        go_ret
        exact ⟨ret_bool hR.out.symm, rfl⟩
      · have HE := Lib.hid he
        have z1 : (zs[k].1.toList == x.toList) = false := (Lib.bytes_beq_false_iff _ _).2 he
        clear he
        go_wp2
        go_round
        case rel =>
          refine ⟨k + 1, by go_num, by omega, fun j h hj => ?_⟩
          by_cases hj' : j < k
          · exact HN.out j h hj'
          · obtain rfl : j = k := by omega
            exact HE.out
        case measure => simp [intOf]; omega
    · obtain rfl : k = zs.length := by omega
      have hR : Hid (R = false) := Lib.hid (HF.out fun j hj => HN.out j hj hj)
      go_wp2
      go_ret
      exact ⟨ret_bool hR.out.symm, rfl⟩

set_option maxRecDepth 100000 in
set_option maxHeartbeats 1000000 in
theorem has_any (id : ByteArray) (A : Option Addr) (c B : Nat) (zs : List ByteArray) (v2 : Value) (x : ByteArray) (w : World) (hB : B ≤ w.heap.size) (hr : Reads w B 1 A zs.length (strs zs)) (hn : zs.length ≤ 1000000) :
    Calls Try.prog 26 #[.agg #[.string id, .slice A zs.length c, v2], .string x] w fun e w' => e = .returned (.bool (Lib.containsS zs x)) ∧ Below w.heap.size w w' := by
  have HC : Hid (∀ W, Reads W B 1 A zs.length (strs zs) → Calls Try.prog 45 #[.slice A zs.length c, .string x] W fun e w' => e = .returned (.bool (Lib.containsS zs x)) ∧ w' = W) := Lib.hid fun W hr => by
    by_cases h0 : zs.length = 0
    · have hz : zs = [] := List.eq_nil_of_length_eq_zero h0
      subst hz
      exact Try.slices_Contains_string_empty A c x W
    · obtain ⟨b, off, rfl, hb, hcell⟩ := hr.row (by omega) (by omega)
      have := Try.slices_Contains_string b off zs.length c zs x W (Nat.le_refl _) (by omega) (fun j hj => by
        have := hcell j _ (strs_at zs j hj)
        rw [this]; simp [List.getD_eq_getElem?_getD, List.getElem?_eq_getElem hj])
      rw [List.take_length] at this
      exact this
  have HR := Lib.hid hr
  clear hr
  generalize Lib.containsS zs x = R at *
  go_enter Try.func26, Try.ntmps26
  go_wp2_with fail
  refine (HC.out _ (HR.out.alloc hB _)).mono ?_
  rintro e w1 ⟨rfl, rfl⟩
  go_wp2
  go_ret
  exact ⟨rfl, (Below.refl _ _).alloc (Nat.le_refl _) _⟩

def GetPost (zs : List (ByteArray × ByteArray)) (x : ByteArray) (w : World) (e : Ending) (w' : World) : Prop := e = .returned (.tuple #[.string ((getL zs x).getD ⟨#[]⟩), .bool (getL zs x).isSome]) ∧ Below w.heap.size w w'
theorem heap_alloc_size (w : World) (o : Obj) : (w.alloc o).heap.size = w.heap.size + 1 := by simp

set_option maxRecDepth 100000 in
set_option maxHeartbeats 1000000 in
theorem get_any (id : ByteArray) (A : Option Addr) (c B : Nat) (zs : List (ByteArray × ByteArray)) (v1 : Value) (x : ByteArray) (w : World) (hB : B ≤ w.heap.size) (hr : Reads w B 2 A zs.length (prs zs)) (hn : zs.length ≤ 1000000) :
    Calls Try.prog 23 #[.agg #[.string id, v1, .slice A zs.length c], .string x] w (GetPost zs x w) := by
  have HH : Hid (∀ (k : Nat) (h : k < zs.length), zs[k].1 = x → (∀ j (hj : j < zs.length), j < k → zs[j].1 ≠ x) → getL zs x = some zs[k].2) := Lib.hid fun k h e hno => getL_hit x zs k h e hno
  have HF : Hid ((∀ j (hj : j < zs.length), zs[j].1 ≠ x) → getL zs x = none) := Lib.hid fun h => getL_none x zs h
  have HG : Hid (∀ e w', e = Ending.returned (.tuple #[.string ((getL zs x).getD ⟨#[]⟩), .bool (getL zs x).isSome]) ∧ Below w.heap.size w w' → GetPost zs x w e w') := Lib.hid fun e w' h => h
  have HR := Lib.hid hr
  clear hr
  generalize getL zs x = R at *
  have hs1 : w.heap.size < w.heap.size + 1 := by omega
  go_enter Try.func23, Try.ntmps23
  go_wp2
  go_loopw [11] (fun v wr => ∃ k : Nat, v = .int .i64 k ∧ k ≤ zs.length ∧ Hid (∀ j (h : j < zs.length), j < k → zs[j].1 ≠ x) ∧ Hid (Below (w.heap.size + 1) (w.alloc (.cells #[.string id, v1, .slice A zs.length c] 27)) wr)) (fun v _ => zs.length - (intOf v).toNat)
  case atStart => exact ⟨0, rfl, by omega, Lib.hid fun j h hj => absurd hj (by omega), Lib.hid (Below.refl _ _)⟩
  case round =>
    obtain ⟨k, rfl, hk, HN, HBW⟩ := hrel
    have hrd := Lib.hid ((HR.out.alloc hB (.cells #[.string id, v1, .slice A zs.length c] 27)).below (HBW.out.mono (by omega)))
    have hsz := HBW.out.size
    simp only [heap_alloc_size] at hsz
    have hcb : wr.cell? ⟨w.heap.size, 2, none⟩ = some (.slice A zs.length c) := by
      have := HBW.out.cell (p := ⟨w.heap.size, 2, none⟩) hs1
      rw [this]; simp [go_sem]
    by_cases hlt : k < zs.length
    · obtain ⟨b, off, rfl, hb, hcell⟩ := hrd.out.row (by omega) (by omega)
      have hc := hcell _ _ (prs_at zs k hlt).1
      have hc2 := hcell _ _ (prs_at zs k hlt).2
      rw [← Nat.add_assoc] at hc2
      clear hcell
      by_cases he : zs[k].1 = x
      · have hR : Hid (R = some zs[k].2) := Lib.hid (HH.out k hlt he HN.out)
        have z1 : (zs[k].1.toList == x.toList) = true := (Lib.bytes_beq_iff _ _).2 he
        clear he
        go_wp2
        go_ret2
        refine HG.out _ _ ⟨?_, ?_⟩
        · rw [hR.out]; rfl
        · exact (((Below.refl _ _).alloc (Nat.le_refl _) _).trans (HBW.out.mono (by omega))).alloc (by omega) _
      · have HE := Lib.hid he
        have z1 : (zs[k].1.toList == x.toList) = false := (Lib.bytes_beq_false_iff _ _).2 he
        clear he
        go_wp2
        go_roundw
        case rel =>
          refine ⟨k + 1, by go_num, by omega, Lib.hid fun j h hj => ?_, Lib.hid ?_⟩
          · by_cases hj' : j < k
            · exact HN.out j h hj'
            · obtain rfl : j = k := by omega
              exact HE.out
          · exact HBW.out.alloc (by omega) _
        case measure => simp [intOf]; omega
    · obtain rfl : k = zs.length := by omega
      have hR : Hid (R = none) := Lib.hid (HF.out fun j hj => HN.out j hj hj)
      go_wp2
      go_ret2
      refine HG.out _ _ ⟨?_, ?_⟩
      · rw [hR.out]; rfl
      · exact ((Below.refl _ _).alloc (Nat.le_refl _) _).trans (HBW.out.mono (by omega))

set_option maxRecDepth 100000 in
set_option maxHeartbeats 1000000 in
theorem rget_any (id : ByteArray) (A : Option Addr) (c B : Nat) (zs : List (ByteArray × ByteArray)) (v1 : Value) (x : ByteArray) (w : World) (hB : B ≤ w.heap.size) (hr : Reads w B 2 A zs.length (prs zs)) (hn : zs.length ≤ 1000000) :
    Calls Try.prog 24 #[.agg #[.string id, v1, .slice A zs.length c], .string x] w (GetPost zs x w) := by
  have HH : Hid (∀ (k : Nat) (h : k < zs.length), zs[k].1 = x → (∀ j (hj : j < zs.length), j < k → zs[j].1 ≠ x) → getL zs x = some zs[k].2) := Lib.hid fun k h e hno => getL_hit x zs k h e hno
  have HF : Hid ((∀ j (hj : j < zs.length), zs[j].1 ≠ x) → getL zs x = none) := Lib.hid fun h => getL_none x zs h
  have HG : Hid (∀ e w', e = Ending.returned (.tuple #[.string ((getL zs x).getD ⟨#[]⟩), .bool (getL zs x).isSome]) ∧ Below w.heap.size w w' → GetPost zs x w e w') := Lib.hid fun e w' h => h
  have HR := Lib.hid hr
  clear hr
  generalize getL zs x = R at *
  have hs1 : w.heap.size < w.heap.size + 1 := by omega
  go_enter Try.func24, Try.ntmps24
  go_wp2
  go_loopw [6] (fun v wr => ∃ k : Nat, v = .int .i64 k ∧ k ≤ zs.length ∧ Hid (∀ j (h : j < zs.length), j < k → zs[j].1 ≠ x) ∧ Hid (Below (w.heap.size + 1) (w.alloc (.cells #[.string id, v1, .slice A zs.length c] 27)) wr)) (fun v _ => zs.length - (intOf v).toNat)
  case atStart => exact ⟨0, rfl, by omega, Lib.hid fun j h hj => absurd hj (by omega), Lib.hid (Below.refl _ _)⟩
  case round =>
    obtain ⟨k, rfl, hk, HN, HBW⟩ := hrel
    have hrd := Lib.hid ((HR.out.alloc hB (.cells #[.string id, v1, .slice A zs.length c] 27)).below (HBW.out.mono (by omega)))
    have hsz := HBW.out.size
    simp only [heap_alloc_size] at hsz
    have hcb : wr.cell? ⟨w.heap.size, 2, none⟩ = some (.slice A zs.length c) := by
      have := HBW.out.cell (p := ⟨w.heap.size, 2, none⟩) hs1
      rw [this]; simp [go_sem]
    by_cases hlt : k < zs.length
    · obtain ⟨b, off, rfl, hb, hcell⟩ := hrd.out.row (by omega) (by omega)
      have hc := hcell _ _ (prs_at zs k hlt).1
      have hc2 := hcell _ _ (prs_at zs k hlt).2
      rw [← Nat.add_assoc] at hc2
      clear hcell
      by_cases he : zs[k].1 = x
      · have hR : Hid (R = some zs[k].2) := Lib.hid (HH.out k hlt he HN.out)
        have z1 : (zs[k].1.toList == x.toList) = true := (Lib.bytes_beq_iff _ _).2 he
        clear he
        go_wp2
        go_ret2
        refine HG.out _ _ ⟨?_, ?_⟩
        · rw [hR.out]; rfl
        · exact ((Below.refl _ _).alloc (Nat.le_refl _) _).trans (HBW.out.mono (by omega))
      · have HE := Lib.hid he
        have z1 : (zs[k].1.toList == x.toList) = false := (Lib.bytes_beq_false_iff _ _).2 he
        clear he
        go_wp2
        go_roundw
        case rel =>
          refine ⟨k + 1, by go_num, by omega, Lib.hid fun j h hj => ?_, Lib.hid ?_⟩
          · by_cases hj' : j < k
            · exact HN.out j h hj'
            · obtain rfl : j = k := by omega
              exact HE.out
          · exact HBW.out
        case measure => simp [intOf]; omega
    · obtain rfl : k = zs.length := by omega
      have hR : Hid (R = none) := Lib.hid (HF.out fun j hj => HN.out j hj hj)
      go_wp2
      go_ret2
      refine HG.out _ _ ⟨?_, ?_⟩
      · rw [hR.out]; rfl
      · exact ((Below.refl _ _).alloc (Nat.le_refl _) _).trans (HBW.out.mono (by omega))
end Go.Proofs.Ytkcfcdnchlmekaa
