/-
  Texts of the proof, put together (what this law reaches): AttrW, Strs, AttrC, Blk, AttrD.
-/
import Derived.Test.YtpoafhgbhnblmaaGreatDoorD06
import Derived.Test.YtpoafhgbhnblmaaGreatDoorD02
import Derived.SliceStrings
import Derived.Lib.Builder
import Derived.Lib.FrozenHead
import Derived.Deep.Draws
import Derived.Laws.Rows
set_option linter.unusedVariables false
set_option linter.unusedSimpArgs false
namespace Go.Proofs.YtpoafhgbhnblmaaGreatDoor
open Go.RowKit Go.Pub
/-- The value that attr.readValue gives where no quotation mark stands. -/
def bareVal (s : ByteArray) (i : Nat) : ByteArray × Nat × Bool := (s.extract i (wordAt s i), wordAt s i, nameB (s.extract i (wordAt s i)))
theorem extract_size (s : ByteArray) (i j : Nat) (h : i ≤ j) (hj : j ≤ s.size) : (s.extract i j).size = j - i := by
  rw [ByteArray.size_extract]; omega
set_option maxRecDepth 100000 in
set_option maxHeartbeats 1000000 in
theorem readValue_n (s : ByteArray) (i : Nat) (w : World) (hs : s.size ≤ 1000000) (hi : i ≤ s.size) (hq : ¬ (i < s.size ∧ bt s i = 34)) : Calls Tryz.prog 232 #[.string s, .int .i64 i] w (TripleBelow (bareVal s i) w) := by
  have hwb := wEnd_bd s (s.size - i) i
  have hw1 : i ≤ wordAt s i := hwb.1
  have hw2 : wordAt s i ≤ s.size := hwb.2 hi
  clear hwb
  have HW := Lib.hid (wordEnd_any s i)
  have HN := Lib.hid (name_any (s.extract i (wordAt s i)))
  have hsz : (s.extract i (wordAt s i)).size ≤ 1000000 := by rw [extract_size s i _ hw1 hw2]; omega
  have HB : Hid (bareVal s i = (s.extract i (wordAt s i), wordAt s i, nameB (s.extract i (wordAt s i)))) := Lib.hid rfl
  generalize bareVal s i = T at *
  generalize wordAt s i = j at *
  have HM : ∀ w : World, (Builtin.min_ #[3, 3] 3 #[.int .i64 i, .int .i64 s.size]).run Tryz.prog w = .ok (.int .i64 i) w := fun w => by rw [run_min_int2, if_neg (by omega)]
  by_cases h1 : i < s.size
  · have hne : bt s i ≠ 34 := fun e => hq ⟨h1, e⟩
    have hlt0 : ((s[i].toNat : Nat) : Int) < 256 := by rw [get_bt s i h1]; have := bt_lt s i; omega
    have z0 : (((s[i].toNat : Nat) : Int) != 34) = true := by rw [get_bt s i h1]; simp; omega
    have d0 : decide (s.size ≤ i) = false := decide_eq_false (by omega)
    clear hq hne
    go_enter Tryz.func232, Tryz.ntmps232
    go_wp2_with fail
    ((with_reducible refine (HW.out _ (by omega)).mono ?_))
    rintro e w1 ⟨rfl, rfl⟩
    go_wp2_with fail
    ((with_reducible refine (HN.out _ (by omega)).mono ?_))
    rintro e w1 ⟨rfl, rfl⟩
    go_wp2
    go_ret3
    refine ⟨?_, Below.refl _ _⟩
    rw [HB.out]; rfl
  · obtain rfl : i = s.size := by omega
    have d0 : decide (s.size ≤ s.size) = true := decide_eq_true (Nat.le_refl _)
    clear hq
    go_enter Tryz.func232, Tryz.ntmps232
    go_wp2_with fail
    ((with_reducible refine (HW.out _ (by omega)).mono ?_))
    rintro e w1 ⟨rfl, rfl⟩
    go_wp2_with fail
    ((with_reducible refine (HN.out _ (by omega)).mono ?_))
    rintro e w1 ⟨rfl, rfl⟩
    go_wp2
    go_ret3
    refine ⟨?_, Below.refl _ _⟩
    rw [HB.out]; rfl

end Go.Proofs.YtpoafhgbhnblmaaGreatDoor
namespace Go.Pub
open Go.RowKit
def strs (l : List ByteArray) : List Value := l.map Value.string
theorem strs_at (l : List ByteArray) (k : Nat) (h : k < l.length) : (strs l)[k]? = some (.string l[k]) := by
  unfold strs; rw [List.getElem?_map, List.getElem?_eq_getElem h]; rfl
theorem strs_len (l : List ByteArray) : (strs l).length = l.length := by unfold strs; rw [List.length_map]
theorem Reads.row {w : World} {B size n : Nat} {A : Option Addr} {xs : List Value} (h : Reads w B size A n xs) (hn : 0 < n) (hs : 0 < size) : ∃ b off, A = some ⟨b, off, none⟩ ∧ b < B ∧ ∀ j u, xs[j]? = some u → w.cell? ⟨b, off + j, none⟩ = some u := by
  obtain ⟨ad, e, hb, hc⟩ := h.2 hn
  obtain ⟨b, off, sp⟩ := ad
  have hl : 0 < xs.length := by rw [h.1]; exact Nat.mul_pos hn hs
  have h0 := hc 0 _ (List.getElem?_eq_getElem hl)
  obtain rfl : sp = none := by simpa [Addr.add] using World.cell?_spot h0
  refine ⟨b, off, e, hb, fun j u hu => ?_⟩
  have := hc j u hu
  unfold Addr.add at this
  by_cases hj : j = 0
  · subst hj; simpa using this
  · simpa [hj] using this
theorem reads_get {w : World} {B : Nat} {A : Option Addr} {zs : List ByteArray} (h : Reads w B 1 A zs.length (strs zs)) (hn : 0 < zs.length) : ∃ b off, A = some ⟨b, off, none⟩ ∧ b < B ∧ ∀ k (hk : k < zs.length), w.cell? ⟨b, off + k, none⟩ = some (.string zs[k]) := by
  obtain ⟨b, off, e, hb, hc⟩ := h.row hn (by omega)
  exact ⟨b, off, e, hb, fun k hk => hc k _ (strs_at zs k hk)⟩
end Go.Pub
namespace Go.Pub
structure AttrL where
  id : ByteArray
  cl : List ByteArray
  pr : List (ByteArray × ByteArray)
def prs (l : List (ByteArray × ByteArray)) : List Value := l.flatMap fun p => [.string p.1, .string p.2]
theorem prs_at (l : List (ByteArray × ByteArray)) (k : Nat) (h : k < l.length) : (prs l)[k * 2]? = some (.string l[k].1) ∧ (prs l)[k * 2 + 1]? = some (.string l[k].2) := by
  induction l generalizing k with
  | nil => exact absurd h (by simp)
  | cons p l ih =>
    cases k with
    | zero => exact ⟨rfl, rfl⟩
    | succ k =>
      have := ih k (by simpa using h)
      unfold prs at this ⊢
      rw [List.flatMap_cons]
      have e1 : (k + 1) * 2 = (k * 2) + 2 := by omega
      rw [e1]
      exact this
def getL : List (ByteArray × ByteArray) → ByteArray → Option ByteArray
  | [], _ => none
  | p :: l, k => if p.1 = k then some p.2 else getL l k
theorem getL_hit (x : ByteArray) : ∀ (l : List (ByteArray × ByteArray)) (k : Nat) (h : k < l.length), l[k].1 = x → (∀ j (hj : j < l.length), j < k → l[j].1 ≠ x) → getL l x = some l[k].2
  | [], k, h, _, _ => absurd h (by simp)
  | p :: l, 0, h, e, _ => by
    have e' : p.1 = x := e
    simp [getL, e']
  | p :: l, k + 1, h, e, hno => by
    have h0 : p.1 ≠ x := hno 0 (by simp) (by omega)
    unfold getL
    rw [if_neg h0]
    exact getL_hit x l k (by simpa using h) e fun j hj hjk => hno (j + 1) (by simpa using hj) (by omega)
theorem getL_none (x : ByteArray) : ∀ (l : List (ByteArray × ByteArray)), (∀ j (hj : j < l.length), l[j].1 ≠ x) → getL l x = none
  | [], _ => rfl
  | p :: l, h => by
    unfold getL
    have h0 : p.1 ≠ x := h 0 (by simp)
    rw [if_neg h0]
    exact getL_none x l fun j hj => h (j + 1) (by simpa using hj)
def hasKeyL (l : List (ByteArray × ByteArray)) (k : ByteArray) : Bool := (getL l k).isSome
end Go.Pub
namespace Go.Proofs.YtpoafhgbhnblmaaGreatDoor
open Go.RowKit Go.Pub
set_option maxRecDepth 100000 in
set_option maxHeartbeats 1000000 in
theorem has_any (id : ByteArray) (A : Option Addr) (c B : Nat) (zs : List ByteArray) (v2 : Value) (x : ByteArray) (w : World) (hB : B ≤ w.heap.size) (hr : Reads w B 1 A zs.length (strs zs)) (hn : zs.length ≤ 1000000) :
    Calls Tryz.prog 253 #[.agg #[.string id, .slice A zs.length c, v2], .string x] w fun e w' => e = .returned (.bool (Lib.containsS zs x)) ∧ Below w.heap.size w w' := by
  have HC : Hid (∀ W, Reads W B 1 A zs.length (strs zs) → Calls Tryz.prog 268 #[.slice A zs.length c, .string x] W fun e w' => e = .returned (.bool (Lib.containsS zs x)) ∧ w' = W) := Lib.hid fun W hr => by
    by_cases h0 : zs.length = 0
    · have hz : zs = [] := List.eq_nil_of_length_eq_zero h0
      subst hz
      exact Tryz.slices_Contains_string_empty A c x W
    · obtain ⟨b, off, rfl, hb, hcell⟩ := hr.row (by omega) (by omega)
      have := Tryz.slices_Contains_string b off zs.length c zs x W (Nat.le_refl _) (by omega) (fun j hj => by
        have := hcell j _ (strs_at zs j hj)
        rw [this]; simp [List.getD_eq_getElem?_getD, List.getElem?_eq_getElem hj])
      rw [List.take_length] at this
      exact this
  have HR := Lib.hid hr
  clear hr
  generalize Lib.containsS zs x = R at *
  go_enter Tryz.func253, Tryz.ntmps253
  go_wp2_with fail
  refine (HC.out _ (HR.out.alloc hB _)).mono ?_
  rintro e w1 ⟨rfl, rfl⟩
  go_wp2
  go_ret
  exact ⟨rfl, (Below.refl _ _).alloc (Nat.le_refl _) _⟩

def GetPost (zs : List (ByteArray × ByteArray)) (x : ByteArray) (w : World) (e : Ending) (w' : World) : Prop := e = .returned (.tuple #[.string ((getL zs x).getD ⟨#[]⟩), .bool (getL zs x).isSome]) ∧ Below w.heap.size w w'
theorem heap_alloc_size (w : World) (o : Obj) : (w.alloc o).heap.size = w.heap.size + 1 := by simp
set_option maxRecDepth 100000 in
set_option maxHeartbeats 1000000 in
theorem get_any (id : ByteArray) (A : Option Addr) (c B : Nat) (zs : List (ByteArray × ByteArray)) (v1 : Value) (x : ByteArray) (w : World) (hB : B ≤ w.heap.size) (hr : Reads w B 2 A zs.length (prs zs)) (hn : zs.length ≤ 1000000) :
    Calls Tryz.prog 254 #[.agg #[.string id, v1, .slice A zs.length c], .string x] w (GetPost zs x w) := by
  have HH : Hid (∀ (k : Nat) (h : k < zs.length), zs[k].1 = x → (∀ j (hj : j < zs.length), j < k → zs[j].1 ≠ x) → getL zs x = some zs[k].2) := Lib.hid fun k h e hno => getL_hit x zs k h e hno
  have HF : Hid ((∀ j (hj : j < zs.length), zs[j].1 ≠ x) → getL zs x = none) := Lib.hid fun h => getL_none x zs h
  have HG : Hid (∀ e w', e = Ending.returned (.tuple #[.string ((getL zs x).getD ⟨#[]⟩), .bool (getL zs x).isSome]) ∧ Below w.heap.size w w' → GetPost zs x w e w') := Lib.hid fun e w' h => h
  have HR := Lib.hid hr
  clear hr
  generalize getL zs x = R at *
  have hs1 : w.heap.size < w.heap.size + 1 := by omega
  go_enter Tryz.func254, Tryz.ntmps254
  go_wp2
  go_loopw [11] (fun v wr => ∃ k : Nat, v = .int .i64 k ∧ k ≤ zs.length ∧ Hid (∀ j (h : j < zs.length), j < k → zs[j].1 ≠ x) ∧ Hid (Below (w.heap.size + 1) (w.alloc (.cells #[.string id, v1, .slice A zs.length c] 43)) wr)) (fun v _ => zs.length - (intOf v).toNat)
  case atStart => exact ⟨0, rfl, by omega, Lib.hid fun j h hj => absurd hj (by omega), Lib.hid (Below.refl _ _)⟩
  case round =>
    obtain ⟨k, rfl, hk, HN, HBW⟩ := hrel
    have hrd := Lib.hid ((HR.out.alloc hB (.cells #[.string id, v1, .slice A zs.length c] 43)).below (HBW.out.mono (by omega)))
    have hsz := HBW.out.size
    simp only [heap_alloc_size] at hsz
    have hcb : wr.cell? ⟨w.heap.size, 2, none⟩ = some (.slice A zs.length c) := by
      have := HBW.out.cell (p := ⟨w.heap.size, 2, none⟩) hs1
      rw [this]; simp [go_sem]
    by_cases hlt : k < zs.length
    · obtain ⟨b, off, rfl, hb, hcell⟩ := hrd.out.row (by omega) (by omega)
      have hc := hcell _ _ (prs_at zs k hlt).1
      have hc2 := hcell _ _ (prs_at zs k hlt).2
      rw [← Nat.add_assoc] at hc2
      clear hcell
      by_cases he : zs[k].1 = x
      · have hR : Hid (R = some zs[k].2) := Lib.hid (HH.out k hlt he HN.out)
        have z1 : (zs[k].1.toList == x.toList) = true := (Lib.bytes_beq_iff _ _).2 he
        clear he
        go_wp2
        go_ret2
        refine HG.out _ _ ⟨?_, ?_⟩
        · rw [hR.out]; rfl
        · exact (((Below.refl _ _).alloc (Nat.le_refl _) _).trans (HBW.out.mono (by omega))).alloc (by omega) _
      · have HE := Lib.hid he
        have z1 : (zs[k].1.toList == x.toList) = false := (Lib.bytes_beq_false_iff _ _).2 he
        clear he
        go_wp2
        go_roundw
        case rel =>
          refine ⟨k + 1, by go_num, by omega, Lib.hid fun j h hj => ?_, Lib.hid ?_⟩
          · by_cases hj' : j < k
            · exact HN.out j h hj'
            · obtain rfl : j = k := by omega
              exact HE.out
          · exact HBW.out.alloc (by omega) _
        case measure => simp [intOf]; omega
    · obtain rfl : k = zs.length := by omega
      have hR : Hid (R = none) := Lib.hid (HF.out fun j hj => HN.out j hj hj)
      go_wp2
      go_ret2
      refine HG.out _ _ ⟨?_, ?_⟩
      · rw [hR.out]; rfl
      · exact ((Below.refl _ _).alloc (Nat.le_refl _) _).trans (HBW.out.mono (by omega))

end Go.Proofs.YtpoafhgbhnblmaaGreatDoor
namespace Go.Pub
open Go.RowKit
def Blk (w : World) (g : Nat) (t : TypeId) (cs : Array Value) : Prop := w.heap[g]? = some (.cells cs t (0, 0))
section
variable {w w' : World} {g : Nat} {t : TypeId} {cs : Array Value}
theorem Blk.lt (h : Blk w g t cs) : g < w.heap.size := by
  rcases Nat.lt_or_ge g w.heap.size with hlt | hge
  · exact hlt
  · unfold Blk at h; rw [Array.getElem?_eq_none hge] at h; cases h
theorem Blk.cell (h : Blk w g t cs) (i : Nat) : w.cell? ⟨g, i, none⟩ = cs[i]? := cell_of_row w g i cs t (0, 0) h
theorem Blk.frozen (h : Blk w g t cs) (i : Nat) : w.frozen? ⟨g, i, none⟩ = false := by
  unfold Blk at h
  simp [World.frozen?, h]
theorem Blk.new (w : World) (t : TypeId) (cs : Array Value) : Blk (w.alloc (.cells cs t)) w.heap.size t cs := heap_alloc_new w _
theorem Blk.drewN (h : Blk w g t cs) (n : Nat) : Blk (w.drewN n) g t cs := h
theorem Blk.alloc (h : Blk w g t cs) (o : Obj) : Blk (w.alloc o) g t cs := (Below.heap_alloc w o g h.lt).trans h
theorem Blk.set_ (h : Blk w g t cs) (i : Nat) (u : Value) : Blk (w.setCell ⟨g, i, none⟩ u) g t (cs.setIfInBounds i u) := by
  unfold Blk at h ⊢
  simp [World.setCell, Array.getElem?_modify, h]
theorem Blk.far (h : Blk w g t cs) {p : Addr} (hp : g ≠ p.block) (u : Value) : Blk (w.setCell p u) g t cs := (Below.heap_setCell w p u g hp).trans h
theorem Blk.below {B : Nat} (h : Blk w g t cs) (hb : Below B w w') (hg : g < B) : Blk w' g t cs := (hb.block g hg).trans h
theorem Blk.grown {row : Option Nat} (h : Blk w g t cs) (hb : w.grownBy w' row) (hg : some g ≠ row) : Blk w' g t cs := (hb.block g h.lt hg).trans h
end
theorem own_ne {w : World} {base base' size size' n n' : Nat} {e e' : TypeId} {v v' : Value} {xs xs' : List Value} (h : w.ownsRow base e size v n xs) (h' : w.ownsRow base' e' size' v' n' xs') (hne : e ≠ e') : v.ownBlock = none ∨ v.ownBlock ≠ v'.ownBlock := by
  rcases h.2 with ⟨rfl, _⟩ | ⟨g, cap, cur, rfl, _, hh, _⟩
  · exact Or.inl rfl
  · right
    rcases h'.2 with ⟨rfl, _⟩ | ⟨g', cap', cur', rfl, _, hh', _⟩
    · simp [Value.ownBlock]
    · intro e0
      have : g = g' := by simpa [Value.ownBlock] using e0
      subst this
      rw [hh] at hh'
      injection hh' with hh'
      injection hh' with _ ht
      exact hne ht
/-- Below block B all but block g is as it was. -/
structure BelowBut (g B : Nat) (w w' : World) : Prop where
  os : w'.os = w.os
  tape : w'.tape = w.tape
  output : w'.output = w.output
  size : w.heap.size ≤ w'.heap.size
  block : ∀ k, k < B → k ≠ g → w'.heap[k]? = w.heap[k]?
section
variable {g B : Nat} {a b c w w' : World}
theorem BelowBut.of (h : Below B a b) : BelowBut g B a b := ⟨h.os, h.tape, h.output, h.size, fun k hk _ => h.block k hk⟩
theorem BelowBut.refl : BelowBut g B a a := .of (Below.refl _ _)
theorem BelowBut.trans (h : BelowBut g B a b) (k : BelowBut g B b c) : BelowBut g B a c :=
  ⟨k.os.trans h.os, k.tape.trans h.tape, k.output.trans h.output, Nat.le_trans h.size k.size, fun i hi hg => (k.block i hi hg).trans (h.block i hi hg)⟩
theorem BelowBut.store (h : BelowBut g B a b) (i : Nat) (u : Value) : BelowBut g B a (b.setCell ⟨g, i, none⟩ u) :=
  h.trans ⟨rfl, rfl, rfl, by simp [World.setCell], fun k _ hg => Below.heap_setCell _ _ _ _ hg⟩
theorem BelowBut.below {B' : Nat} (h : BelowBut g B a b) (hB : B' ≤ B) (hg : B' ≤ g) : Below B' a b := ⟨h.os, h.tape, h.output, h.size, fun k hk => h.block k (by omega) (by omega)⟩
theorem BelowBut.blk {g' : Nat} {t : TypeId} {cs : Array Value} (h : BelowBut g B a b) (hk : Blk a g' t cs) (h1 : g' < B) (h2 : g' ≠ g) : Blk b g' t cs := (h.block g' h1 h2).trans hk
end
end Go.Pub
namespace Go.Proofs.YtpoafhgbhnblmaaGreatDoor
open Go.RowKit Go.Pub
structure AttrCells (w : World) (g base : Nat) (a : AttrL) (vC vP : Value) : Prop where
  blk : Blk w g 43 #[.string a.id, vC, vP]
  cls : w.ownsRow base 9 1 vC a.cl.length (strs a.cl)
  prs : w.ownsRow base 81 2 vP a.pr.length (prs a.pr)
  lt : g < base
  le : base ≤ w.heap.size
  c32 : a.cl.length ≤ 32
  p32 : a.pr.length ≤ 32
def AttrAt (w : World) (g base : Nat) (a : AttrL) : Prop := ∃ vC vP, AttrCells w g base a vC vP
theorem AttrCells.below {w w' : World} {g base : Nat} {a : AttrL} {vC vP : Value} (h : AttrCells w g base a vC vP) (hb : Below w.heap.size w w') : AttrCells w' g base a vC vP :=
  ⟨h.blk.below hb (by have := h.lt; have := h.le; omega), own_below h.cls hb, own_below h.prs hb, h.lt, Nat.le_trans h.le hb.size, h.c32, h.p32⟩
def classE (a : AttrL) (name : ByteArray) : Nat := if Lib.containsS a.cl name = true then 7 else if 32 ≤ a.cl.length then 3 else 0
def classA (a : AttrL) (name : ByteArray) : AttrL := if classE a name = 0 then { a with cl := a.cl ++ [name] } else a
def ItemPost (e0 : Nat) (a' : AttrL) (g base : Nat) (w : World) (e : Ending) (w' : World) : Prop := e = .returned (.int .i64 e0) ∧ AttrAt w' g base a' ∧ BelowBut g base w w'
theorem str_info : (Tryz.prog.info? 9).map (fun i => (i.zero, i.size, i.bytes)) = some (some (.string ⟨#[]⟩), 1, 16) := by kernel_rfl
theorem pair_info : (Tryz.prog.info? 81).map (fun i => (i.zero, i.size, i.bytes)) = some (some (.agg #[.string ⟨#[]⟩, .string ⟨#[]⟩]), 2, 32) := by kernel_rfl
theorem class_done {w1 w2 : World} {g base : Nat} {a : AttrL} {vC vP v' : Value} {name : ByteArray} (h : AttrCells w1 g base a vC vP)
    (hown : w2.ownsRow base 9 1 v' (a.cl.length + 1) (strs a.cl ++ [.string name])) (hg : (w1.alloc (.cells #[.string name] 9)).grownBy w2 vC.ownBlock) (hl : a.cl.length < 32) :
    AttrCells (w2.setCell ⟨g, 1, none⟩ v') g base { a with cl := a.cl ++ [name] } v' vP ∧ BelowBut g base w1 (w2.setCell ⟨g, 1, none⟩ v') := by
  have hgne : some g ≠ vC.ownBlock := fun e => by have := (h.cls.lt g e.symm).1; have := h.lt; omega
  refine ⟨⟨?_, ?_, ?_, h.lt, ?_, ?_, h.p32⟩, ?_⟩
  · have := ((h.blk.alloc (.cells #[.string name] 9)).grown hg hgne).set_ 1 v'
    simpa using this
  · refine ownsRow_setCell_below ?_ h.lt _
    show w2.ownsRow base 9 1 v' (a.cl ++ [name]).length (strs (a.cl ++ [name]))
    unfold strs at hown ⊢
    rw [List.length_append, List.map_append]
    exact hown
  · exact ownsRow_setCell_below ((h.prs.alloc _).kept hg (own_ne h.prs h.cls (by decide))) h.lt _
  · have := hg.size; have := h.le; simp [World.setCell] at *; omega
  · simp; omega
  · refine BelowBut.store ?_ _ _
    refine .of (((Below.refl _ _).alloc h.le _).grown hg (by have := h.le; simp; omega) (fun k hk => (h.cls.lt k hk).1))
set_option maxRecDepth 100000 in
set_option maxHeartbeats 1000000 in
theorem addClass_any (w : World) (g base : Nat) (a : AttrL) (name : ByteArray) (h : AttrAt w g base a) :
    Calls Tryz.prog 231 #[.pointer (some ⟨g, 0, none⟩), .string name] w (ItemPost (classE a name) (classA a name) g base w) := by
  obtain ⟨vC, vP, hA⟩ := h
  obtain ⟨AC, cC, rfl⟩ := own_slice hA.cls
  obtain ⟨i0, hi0, hz0, hz1, hz2⟩ := info_parts str_info
  have HH := Lib.hid (has_any a.id AC cC w.heap.size a.cl vP name w (Nat.le_refl _) (Reads.of_own hA.cls) (by have := hA.c32; omega))
  have hc0 : w.cell? ⟨g, 0, none⟩ = some (.string a.id) := hA.blk.cell 0
  have hc1 : w.cell? ⟨g, 1, none⟩ = some (.slice AC a.cl.length cC) := hA.blk.cell 1
  have hc2 : w.cell? ⟨g, 2, none⟩ = some vP := hA.blk.cell 2
  have hgl := hA.blk.lt
  have HE : Hid (classE a name = if Lib.containsS a.cl name = true then 7 else if 32 ≤ a.cl.length then 3 else 0) := Lib.hid rfl
  have HA : Hid (classA a name = if classE a name = 0 then { a with cl := a.cl ++ [name] } else a) := Lib.hid rfl
  generalize classA a name = A1 at *
  generalize classE a name = E1 at *
  generalize Lib.containsS a.cl name = R at *
  cases R
  · by_cases hl : 32 ≤ a.cl.length
    · have hE : Hid (E1 = 3) := Lib.hid (by rw [HE.out, if_neg (by decide), if_pos hl])
      go_enter Tryz.func231, Tryz.ntmps231
      go_wp2_with fail
      refine HH.out.mono ?_
      rintro e w1 ⟨rfl, b1⟩
      have k1 := (hA.below b1).blk.cell 1
      simp at k1
      go_wp2
      go_ret
      refine ⟨by rw [hE.out]; rfl, ?_, .of (b1.mono hA.le)⟩
      rw [HA.out, if_neg (by rw [hE.out]; decide)]
      exact ⟨_, _, hA.below b1⟩
    · have hE : Hid (E1 = 0) := Lib.hid (by rw [HE.out, if_neg (by decide), if_neg hl])
      have hl' : a.cl.length < 32 := by omega
      go_enter Tryz.func231, Tryz.ntmps231
      go_wp2_with fail
      refine HH.out.mono ?_
      rintro e w1 ⟨rfl, b1⟩
      have hA1 := hA.below b1
      have k1 := hA1.blk.cell 1
      simp at k1
      have f1 := hA1.blk.frozen 1
      have hgl1 := hA1.blk.lt
      go_wp2_with (at_builtin; refine wpList_append_own _ rfl _ _ 22 rfl base 9 i0 _ 1 16 Tryz.underlying22 hi0 hz0 hz1 hz2 rfl (by decide) _ _ _ rfl (hA1.cls.alloc _) ⟨w1.heap.size, 0, none⟩ 1 1 [.string name] rfl rfl ?c1 ?c2 ?c3 ?c4 ?c5 ?_)
      case c1 =>
        intro j u hj
        match j, hj with
        | 0, hj => simp at hj; subst hj; simp [Addr.add]
      case c2 => intro u hu; simp at hu; subst hu; rfl
      case c3 => unfold maxLen; omega
      case c4 => omega
      case c5 => have := hA1.le; simp; omega
      intro v' w2 hown2 hgrow _
      obtain ⟨A2, c2, rfl⟩ := own_slice hown2
      obtain ⟨hd1, hd2⟩ := class_done hA1 hown2 hgrow hl'
      have hgne : some g ≠ (Value.slice AC a.cl.length cC).ownBlock := fun e => by have := (hA1.cls.lt g e.symm).1; have := hA1.lt; omega
      have hb2 := (hA1.blk.alloc (.cells #[.string name] 9)).grown hgrow hgne
      have k2 := hb2.cell 1
      simp at k2
      have f2 := hb2.frozen 1
      go_wp2
      go_ret
      refine ⟨by rw [hE.out]; rfl, ?_, (BelowBut.of (b1.mono hA.le)).trans hd2⟩
      rw [HA.out, if_pos hE.out]
      exact ⟨_, _, hd1⟩
  · have hE : Hid (E1 = 7) := Lib.hid (by rw [HE.out, if_pos rfl])
    go_enter Tryz.func231, Tryz.ntmps231
    go_wp2_with fail
    refine HH.out.mono ?_
    rintro e w1 ⟨rfl, b1⟩
    go_wp2
    go_ret
    refine ⟨by rw [hE.out]; rfl, ?_, .of (b1.mono hA.le)⟩
    rw [HA.out, if_neg (by rw [hE.out]; decide)]
    exact ⟨_, _, hA.below b1⟩

end Go.Proofs.YtpoafhgbhnblmaaGreatDoor
