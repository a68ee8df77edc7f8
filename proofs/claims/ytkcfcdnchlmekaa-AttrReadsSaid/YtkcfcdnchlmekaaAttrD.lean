/-
  Attributes behind a pointer: attr.addClass, addPair.
-/
import Derived.Test.YtkcfcdnchlmekaaAttrC
import Derived.Deep.Draws
import Derived.Laws.Rows
set_option linter.unusedVariables false
set_option linter.unusedSimpArgs false
namespace Go.Pub
open Go.RowKit
def Blk (w : World) (g : Nat) (t : TypeId) (cs : Array Value) : Prop := w.heap[g]? = some (.cells cs t (0, 0))
section
variable {w w' : World} {g : Nat} {t : TypeId} {cs : Array Value}
theorem Blk.lt (h : Blk w g t cs) : g < w.heap.size := by
  rcases Nat.lt_or_ge g w.heap.size with hlt | hge
  · exact hlt
  · unfold Blk at h; rw [Array.getElem?_eq_none hge] at h; cases h
theorem Blk.cell (h : Blk w g t cs) (i : Nat) : w.cell? ⟨g, i, none⟩ = cs[i]? := cell_of_row w g i cs t (0, 0) h
theorem Blk.frozen (h : Blk w g t cs) (i : Nat) : w.frozen? ⟨g, i, none⟩ = false := by
  unfold Blk at h
  simp [World.frozen?, h]
theorem Blk.new (w : World) (t : TypeId) (cs : Array Value) : Blk (w.alloc (.cells cs t)) w.heap.size t cs := heap_alloc_new w _
theorem Blk.drewN (h : Blk w g t cs) (n : Nat) : Blk (w.drewN n) g t cs := h
theorem Blk.alloc (h : Blk w g t cs) (o : Obj) : Blk (w.alloc o) g t cs := (Below.heap_alloc w o g h.lt).trans h
theorem Blk.set_ (h : Blk w g t cs) (i : Nat) (u : Value) : Blk (w.setCell ⟨g, i, none⟩ u) g t (cs.setIfInBounds i u) := by
  unfold Blk at h ⊢
  simp [World.setCell, Array.getElem?_modify, h]
theorem Blk.far (h : Blk w g t cs) {p : Addr} (hp : g ≠ p.block) (u : Value) : Blk (w.setCell p u) g t cs := (Below.heap_setCell w p u g hp).trans h
theorem Blk.below {B : Nat} (h : Blk w g t cs) (hb : Below B w w') (hg : g < B) : Blk w' g t cs := (hb.block g hg).trans h
theorem Blk.grown {row : Option Nat} (h : Blk w g t cs) (hb : w.grownBy w' row) (hg : some g ≠ row) : Blk w' g t cs := (hb.block g h.lt hg).trans h
end
theorem own_ne {w : World} {base base' size size' n n' : Nat} {e e' : TypeId} {v v' : Value} {xs xs' : List Value} (h : w.ownsRow base e size v n xs) (h' : w.ownsRow base' e' size' v' n' xs') (hne : e ≠ e') : v.ownBlock = none ∨ v.ownBlock ≠ v'.ownBlock := by
  rcases h.2 with ⟨rfl, _⟩ | ⟨g, cap, cur, rfl, _, hh, _⟩
  · exact Or.inl rfl
  · right
    rcases h'.2 with ⟨rfl, _⟩ | ⟨g', cap', cur', rfl, _, hh', _⟩
    · simp [Value.ownBlock]
    · intro e0
      have : g = g' := by simpa [Value.ownBlock] using e0
      subst this
      rw [hh] at hh'
      injection hh' with hh'
      injection hh' with _ ht
      exact hne ht
/-- Below block B all but block g is as it was. -/
structure BelowBut (g B : Nat) (w w' : World) : Prop where
  os : w'.os = w.os
  tape : w'.tape = w.tape
  output : w'.output = w.output
  size : w.heap.size ≤ w'.heap.size
  block : ∀ k, k < B → k ≠ g → w'.heap[k]? = w.heap[k]?
section
variable {g B : Nat} {a b c w w' : World}
theorem BelowBut.of (h : Below B a b) : BelowBut g B a b := ⟨h.os, h.tape, h.output, h.size, fun k hk _ => h.block k hk⟩
theorem BelowBut.refl : BelowBut g B a a := .of (Below.refl _ _)
theorem BelowBut.trans (h : BelowBut g B a b) (k : BelowBut g B b c) : BelowBut g B a c :=
  ⟨k.os.trans h.os, k.tape.trans h.tape, k.output.trans h.output, Nat.le_trans h.size k.size, fun i hi hg => (k.block i hi hg).trans (h.block i hi hg)⟩
theorem BelowBut.store (h : BelowBut g B a b) (i : Nat) (u : Value) : BelowBut g B a (b.setCell ⟨g, i, none⟩ u) :=
  h.trans ⟨rfl, rfl, rfl, by simp [World.setCell], fun k _ hg => Below.heap_setCell _ _ _ _ hg⟩
theorem BelowBut.below {B' : Nat} (h : BelowBut g B a b) (hB : B' ≤ B) (hg : B' ≤ g) : Below B' a b := ⟨h.os, h.tape, h.output, h.size, fun k hk => h.block k (by omega) (by omega)⟩
theorem BelowBut.blk {g' : Nat} {t : TypeId} {cs : Array Value} (h : BelowBut g B a b) (hk : Blk a g' t cs) (h1 : g' < B) (h2 : g' ≠ g) : Blk b g' t cs := (h.block g' h1 h2).trans hk
end
end Go.Pub
namespace Go.Proofs.Ytkcfcdnchlmekaa
open Go.RowKit Go.Pub

structure AttrCells (w : World) (g base : Nat) (a : AttrL) (vC vP : Value) : Prop where
  blk : Blk w g 27 #[.string a.id, vC, vP]
  cls : w.ownsRow base 9 1 vC a.cl.length (strs a.cl)
  prs : w.ownsRow base 42 2 vP a.pr.length (prs a.pr)
  lt : g < base
  le : base ≤ w.heap.size
  c32 : a.cl.length ≤ 32
  p32 : a.pr.length ≤ 32
def AttrAt (w : World) (g base : Nat) (a : AttrL) : Prop := ∃ vC vP, AttrCells w g base a vC vP

theorem AttrCells.below {w w' : World} {g base : Nat} {a : AttrL} {vC vP : Value} (h : AttrCells w g base a vC vP) (hb : Below w.heap.size w w') : AttrCells w' g base a vC vP :=
  ⟨h.blk.below hb (by have := h.lt; have := h.le; omega), own_below h.cls hb, own_below h.prs hb, h.lt, Nat.le_trans h.le hb.size, h.c32, h.p32⟩

def classE (a : AttrL) (name : ByteArray) : Nat := if Lib.containsS a.cl name = true then 7 else if 32 ≤ a.cl.length then 3 else 0
def classA (a : AttrL) (name : ByteArray) : AttrL := if classE a name = 0 then { a with cl := a.cl ++ [name] } else a
def ItemPost (e0 : Nat) (a' : AttrL) (g base : Nat) (w : World) (e : Ending) (w' : World) : Prop := e = .returned (.int .i64 e0) ∧ AttrAt w' g base a' ∧ BelowBut g base w w'

theorem str_info : (Try.prog.info? 9).map (fun i => (i.zero, i.size, i.bytes)) = some (some (.string ⟨#[]⟩), 1, 16) := by kernel_rfl
theorem pair_info : (Try.prog.info? 42).map (fun i => (i.zero, i.size, i.bytes)) = some (some (.agg #[.string ⟨#[]⟩, .string ⟨#[]⟩]), 2, 32) := by kernel_rfl

theorem class_done {w1 w2 : World} {g base : Nat} {a : AttrL} {vC vP v' : Value} {name : ByteArray} (h : AttrCells w1 g base a vC vP)
    (hown : w2.ownsRow base 9 1 v' (a.cl.length + 1) (strs a.cl ++ [.string name])) (hg : (w1.alloc (.cells #[.string name] 9)).grownBy w2 vC.ownBlock) (hl : a.cl.length < 32) :
    AttrCells (w2.setCell ⟨g, 1, none⟩ v') g base { a with cl := a.cl ++ [name] } v' vP ∧ BelowBut g base w1 (w2.setCell ⟨g, 1, none⟩ v') := by
  have hgne : some g ≠ vC.ownBlock := fun e => by have := (h.cls.lt g e.symm).1; have := h.lt; omega
  refine ⟨⟨?_, ?_, ?_, h.lt, ?_, ?_, h.p32⟩, ?_⟩
  · have := ((h.blk.alloc (.cells #[.string name] 9)).grown hg hgne).set_ 1 v'
    simpa using this
  · refine ownsRow_setCell_below ?_ h.lt _
    show w2.ownsRow base 9 1 v' (a.cl ++ [name]).length (strs (a.cl ++ [name]))
    unfold strs at hown ⊢
    rw [List.length_append, List.map_append]
    exact hown
  · exact ownsRow_setCell_below ((h.prs.alloc _).kept hg (own_ne h.prs h.cls (by decide))) h.lt _
  · have := hg.size; have := h.le; simp [World.setCell] at *; omega
  · simp; omega
  · refine BelowBut.store ?_ _ _
    refine .of (((Below.refl _ _).alloc h.le _).grown hg (by have := h.le; simp; omega) (fun k hk => (h.cls.lt k hk).1))

set_option maxRecDepth 100000 in
set_option maxHeartbeats 1000000 in
theorem addClass_any (w : World) (g base : Nat) (a : AttrL) (name : ByteArray) (h : AttrAt w g base a) :
    Calls Try.prog 55 #[.pointer (some ⟨g, 0, none⟩), .string name] w (ItemPost (classE a name) (classA a name) g base w) := by
  obtain ⟨vC, vP, hA⟩ := h
  obtain ⟨AC, cC, rfl⟩ := own_slice hA.cls
  obtain ⟨i0, hi0, hz0, hz1, hz2⟩ := info_parts str_info
  have HH := Lib.hid (has_any a.id AC cC w.heap.size a.cl vP name w (Nat.le_refl _) (Reads.of_own hA.cls) (by have := hA.c32; omega))
  have hc0 : w.cell? ⟨g, 0, none⟩ = some (.string a.id) := hA.blk.cell 0
  have hc1 : w.cell? ⟨g, 1, none⟩ = some (.slice AC a.cl.length cC) := hA.blk.cell 1
  have hc2 : w.cell? ⟨g, 2, none⟩ = some vP := hA.blk.cell 2
  have hgl := hA.blk.lt
  have HE : Hid (classE a name = if Lib.containsS a.cl name = true then 7 else if 32 ≤ a.cl.length then 3 else 0) := Lib.hid rfl
  have HA : Hid (classA a name = if classE a name = 0 then { a with cl := a.cl ++ [name] } else a) := Lib.hid rfl
  generalize classA a name = A1 at *
  generalize classE a name = E1 at *
  generalize Lib.containsS a.cl name = R at *
  cases R
  · by_cases hl : 32 ≤ a.cl.length
    · have hE : Hid (E1 = 3) := Lib.hid (by rw [HE.out, if_neg (by decide), if_pos hl])
      go_enter Try.func55, Try.ntmps55
      go_wp2_with fail
      refine HH.out.mono ?_
      rintro e w1 ⟨rfl, b1⟩
      have k1 := (hA.below b1).blk.cell 1
      simp at k1
      go_wp2
      go_ret
      refine ⟨by rw [hE.out]; rfl, ?_, .of (b1.mono hA.le)⟩
      rw [HA.out, if_neg (by rw [hE.out]; decide)]
      exact ⟨_, _, hA.below b1⟩
    · have hE : Hid (E1 = 0) := Lib.hid (by rw [HE.out, if_neg (by decide), if_neg hl])
      have hl' : a.cl.length < 32 := by omega
      go_enter Try.func55, Try.ntmps55
      go_wp2_with fail
      refine HH.out.mono ?_
      rintro e w1 ⟨rfl, b1⟩
      have hA1 := hA.below b1
      have k1 := hA1.blk.cell 1
      simp at k1
      have f1 := hA1.blk.frozen 1
      have hgl1 := hA1.blk.lt
      go_wp2_with (at_builtin; refine wpList_append_own _ rfl _ _ 24 rfl base 9 i0 _ 1 16 Try.underlying24 hi0 hz0 hz1 hz2 rfl (by decide) _ _ _ rfl (hA1.cls.alloc _) ⟨w1.heap.size, 0, none⟩ 1 1 [.string name] rfl rfl ?c1 ?c2 ?c3 ?c4 ?c5 ?_)
      case c1 =>
        intro j u hj
        match j, hj with
        | 0, hj => simp at hj; subst hj; simp [Addr.add]
      case c2 => intro u hu; simp at hu; subst hu; rfl
      case c3 => unfold maxLen; omega
      case c4 => omega
      case c5 => have := hA1.le; simp; omega
      intro v' w2 hown2 hgrow _
      obtain ⟨A2, c2, rfl⟩ := own_slice hown2
      obtain ⟨hd1, hd2⟩ := class_done hA1 hown2 hgrow hl'
      have hgne : some g ≠ (Value.slice AC a.cl.length cC).ownBlock := fun e => by have := (hA1.cls.lt g e.symm).1; have := hA1.lt; omega
      have hb2 := (hA1.blk.alloc (.cells #[.string name] 9)).grown hgrow hgne
      have k2 := hb2.cell 1
      simp at k2
      have f2 := hb2.frozen 1
      go_wp2
      go_ret
      refine ⟨by rw [hE.out]; rfl, ?_, (BelowBut.of (b1.mono hA.le)).trans hd2⟩
      rw [HA.out, if_pos hE.out]
      exact ⟨_, _, hd1⟩
  · have hE : Hid (E1 = 7) := Lib.hid (by rw [HE.out, if_pos rfl])
    go_enter Try.func55, Try.ntmps55
    go_wp2_with fail
    refine HH.out.mono ?_
    rintro e w1 ⟨rfl, b1⟩
    go_wp2
    go_ret
    refine ⟨by rw [hE.out]; rfl, ?_, .of (b1.mono hA.le)⟩
    rw [HA.out, if_neg (by rw [hE.out]; decide)]
    exact ⟨_, _, hA.below b1⟩
end Go.Proofs.Ytkcfcdnchlmekaa
