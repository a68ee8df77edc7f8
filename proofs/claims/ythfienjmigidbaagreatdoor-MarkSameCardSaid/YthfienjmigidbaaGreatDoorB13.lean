/-
  Texts of the proof, put together: AttrI, MkC, MkD.
-/
import Derived.Test.YthfienjmigidbaaGreatDoorB12
import Derived.Test.YthfienjmigidbaaGreatDoorB07
import Derived.Test.YthfienjmigidbaaGreatDoorB11
import Derived.Test.YthfienjmigidbaaGreatDoorB10
import Derived.Test.YthfienjmigidbaaGreatDoorB06
set_option linter.unusedVariables false
set_option linter.unusedSimpArgs false
namespace Go.Proofs.YthfienjmigidbaaGreatDoor
open Go.RowKit Go.Pub

/-- Attributes by value, their rows the caller's own. -/
structure OwnA (w : World) (base : Nat) (a : AttrL) (vC vP : Value) : Prop where
  cls : w.ownsRow base 9 1 vC a.cl.length (strs a.cl)
  prs : w.ownsRow base 50 2 vP a.pr.length (prs a.pr)
  le : base ≤ w.heap.size
  c32 : a.cl.length ≤ 32
  p32 : a.pr.length ≤ 32
theorem OwnA.below {w w' : World} {base : Nat} {a : AttrL} {vC vP : Value} (h : OwnA w base a vC vP) (hb : Below w.heap.size w w') : OwnA w' base a vC vP :=
  ⟨own_below h.cls hb, own_below h.prs hb, Nat.le_trans h.le hb.size, h.c32, h.p32⟩
theorem OwnA.val {w : World} {base : Nat} {a : AttrL} {vC vP : Value} (h : OwnA w base a vC vP) : AttrVal w base (.agg #[.string a.id, vC, vP]) a := ⟨⟨vC, vP, rfl, h.cls, h.prs⟩, h.c32, h.p32⟩
theorem OwnA.setCell {w : World} {base : Nat} {a : AttrL} {vC vP : Value} (h : OwnA w base a vC vP) {p : Addr} (h1 : ∀ k, vC.ownBlock = some k → p.block ≠ k) (h2 : ∀ k, vP.ownBlock = some k → p.block ≠ k) (u : Value) : OwnA (w.setCell p u) base a vC vP := by
  have hg : w.grownBy (w.setCell p u) (some p.block) := ⟨rfl, rfl, rfl, by simp [World.setCell], fun k _ hk => Below.heap_setCell _ _ _ _ (fun e => hk (by rw [e]))⟩
  refine ⟨h.cls.kept hg ?_, h.prs.kept hg ?_, by simpa [World.setCell] using h.le, h.c32, h.p32⟩
  · cases hv : vC.ownBlock with
    | none => exact Or.inl rfl
    | some b => right; intro e; injection e with e; exact h1 b hv e.symm
  · cases hv : vP.ownBlock with
    | none => exact Or.inl rfl
    | some b => right; intro e; injection e with e; exact h2 b hv e.symm

def ClassPost (e0 : Nat) (a' : AttrL) (base : Nat) (row : Option Nat) (w : World) (e : Ending) (w' : World) : Prop :=
  ∃ v, e = .returned (.tuple #[v, .int .i64 e0]) ∧ AttrVal w' base v a' ∧ w.grownBy w' row

theorem class_ret {W : World} {g : Nat} {x y z a5 : Value} {P : Ending → World → Prop} {act : Act} (hr : Blk W g 25 #[x, y, z]) (h4 : act.tmps.getD 4 undef = .pointer (some ⟨g, 0, none⟩))
    (h5 : act.tmps.getD 5 undef = a5) (hd : act.defers = []) (hP : P (.returned (.tuple #[.agg #[x, y, z], a5])) W) : bodyPost Tryz.prog Tryz.f146 P Exit.ret act W := by
  have c0 : W.cell? ⟨g, 0, none⟩ = some x := hr.cell 0
  have c1 : W.cell? ⟨g, 1, none⟩ = some y := hr.cell 1
  have c2 : W.cell? ⟨g, 2, none⟩ = some z := hr.cell 2
  refine bodyPost_ret (v := .tuple #[.agg #[x, y, z], a5]) ?_ hd hP
  rw [Array.getD_eq_getD_getElem?] at h4 h5
  simp [results, Tryz.results146, go_sem, h4, h5, c0, c1, c2]

theorem two_alloc {w : World} (a : AttrL) (vC vP : Value) (base : Nat) (h : OwnA w base a vC vP) (o : Obj) :
    Blk ((w.alloc o).alloc (.cells #[.string a.id, vC, vP] 25)) (w.heap.size + 1) 25 #[.string a.id, vC, vP] ∧
    OwnA ((w.alloc o).alloc (.cells #[.string a.id, vC, vP] 25)) base a vC vP ∧ Below w.heap.size w ((w.alloc o).alloc (.cells #[.string a.id, vC, vP] 25)) := by
  have hb : Below w.heap.size w ((w.alloc o).alloc (.cells #[.string a.id, vC, vP] 25)) := ((Below.refl _ _).alloc (Nat.le_refl _) _).alloc (by simp) _
  refine ⟨?_, h.below hb, hb⟩
  have := Blk.new (w.alloc o) 25 #[.string a.id, vC, vP]
  simpa using this

theorem own_g {base gg : Nat} {cs : Array Value} {e : TypeId} {n size : Nat} {v : Value} {xs : List Value} {W : World} (ho : W.ownsRow base e size v n xs) (hbk : Blk W gg 25 cs) (hne : e ≠ 25) : ∀ k, v.ownBlock = some k → gg ≠ k := by
  intro k hk he
  subst he
  rcases ho.2 with ⟨rfl, _⟩ | ⟨g', cap, cur, rfl, _, hh, _⟩
  · cases hk
  · have : g' = gg := by simpa [Value.ownBlock] using hk
    subst this
    unfold Blk at hbk
    rw [hh] at hbk
    injection hbk with hbk
    injection hbk with _ ht
    exact hne ht
theorem rclass_done {w0 w1 w2 : World} {g g2 base : Nat} {a : AttrL} {vC vP v' x y z : Value} {name : ByteArray} (h : OwnA w1 base a vC vP) (hb : Blk w1 g 25 #[.string a.id, vC, vP]) (hb2 : Blk w1 g2 25 #[x, y, z]) (hg2 : g < g2) (h0 : Below w0.heap.size w0 w1) (hgb : w0.heap.size ≤ g)
    (hown : w2.ownsRow base 9 1 v' (a.cl.length + 1) (strs a.cl ++ [.string name])) (hg : (w1.alloc (.cells #[.string name] 9)).grownBy w2 vC.ownBlock) (hl : a.cl.length < 32) :
    (Blk w2 g 25 #[.string a.id, vC, vP] ∧ Blk w2 g2 25 #[x, y, z]) ∧
    (Blk (w2.setCell ⟨g, 1, none⟩ v') g 25 #[.string a.id, v', vP] ∧ Blk (w2.setCell ⟨g, 1, none⟩ v') g2 25 #[x, y, z]) ∧
    Blk ((((w2.setCell ⟨g, 1, none⟩ v').setCell ⟨g2, 0, none⟩ (.string a.id)).setCell ⟨g2, 1, none⟩ v').setCell ⟨g2, 2, none⟩ vP) g2 25 #[.string a.id, v', vP] ∧
    OwnA ((((w2.setCell ⟨g, 1, none⟩ v').setCell ⟨g2, 0, none⟩ (.string a.id)).setCell ⟨g2, 1, none⟩ v').setCell ⟨g2, 2, none⟩ vP) base { a with cl := a.cl ++ [name] } v' vP ∧
    w0.grownBy ((((w2.setCell ⟨g, 1, none⟩ v').setCell ⟨g2, 0, none⟩ (.string a.id)).setCell ⟨g2, 1, none⟩ v').setCell ⟨g2, 2, none⟩ vP) vC.ownBlock := by
  have e1 : some g ≠ vC.ownBlock := fun e => own_g h.cls hb (by decide) g e.symm rfl
  have e2 : some g2 ≠ vC.ownBlock := fun e => own_g h.cls hb2 (by decide) g2 e.symm rfl
  have B1 := (hb.alloc (.cells #[.string name] 9)).grown hg e1
  have B2 := (hb2.alloc (.cells #[.string name] 9)).grown hg e2
  have B3 : Blk (w2.setCell ⟨g, 1, none⟩ v') g 25 #[.string a.id, v', vP] := by have := B1.set_ 1 v'; simpa using this
  have B4 := B2.far (p := ⟨g, 1, none⟩) (by simp; omega) v'
  have hO : OwnA w2 base { a with cl := a.cl ++ [name] } v' vP := by
    refine ⟨?_, (h.prs.alloc _).kept hg (own_ne h.prs h.cls (by decide)), by have := hg.size; have := h.le; simp at *; omega, by simp; omega, h.p32⟩
    show w2.ownsRow base 9 1 v' (a.cl ++ [name]).length (strs (a.cl ++ [name]))
    unfold strs at hown ⊢
    rw [List.length_append, List.map_append]
    exact hown
  have o1 : ∀ k, v'.ownBlock = some k → g ≠ k := own_g hown B1 (by decide)
  have o2 : ∀ k, v'.ownBlock = some k → g2 ≠ k := own_g hown B2 (by decide)
  have o3 : ∀ k, vP.ownBlock = some k → g ≠ k := own_g h.prs hb (by decide)
  have o4 : ∀ k, vP.ownBlock = some k → g2 ≠ k := own_g h.prs hb2 (by decide)
  refine ⟨⟨B1, B2⟩, ⟨B3, B4⟩, ?_, (((hO.setCell o1 o3 _).setCell o2 o4 _).setCell o2 o4 _).setCell o2 o4 _, ?_⟩
  · have := ((B4.set_ 0 (.string a.id)).set_ 1 v').set_ 2 vP
    simpa using this
  · have hs0 := h0.size
    have hs1 := hg.size
    refine ⟨hg.os.trans h0.os, hg.tape.trans h0.tape, hg.output.trans h0.output, by simp [World.setCell] at *; omega, fun k hk hne => ?_⟩
    rw [Below.heap_setCell _ _ _ _ (by simp; omega), Below.heap_setCell _ _ _ _ (by simp; omega), Below.heap_setCell _ _ _ _ (by simp; omega), Below.heap_setCell _ _ _ _ (by simp; omega)]
    rw [hg.block k (by simp; omega) hne, Below.heap_alloc _ _ _ (by omega), h0.block k hk]

set_option maxRecDepth 100000 in
set_option maxHeartbeats 1000000 in
theorem rclass_any (w : World) (base : Nat) (a : AttrL) (vC vP : Value) (name : ByteArray) (h : OwnA w base a vC vP) :
    Calls Tryz.prog 146 #[.agg #[.string a.id, vC, vP], .string name] w (ClassPost (classE a name) (classA a name) base vC.ownBlock w) := by
  obtain ⟨AC, cC, rfl⟩ := own_slice h.cls
  obtain ⟨AP, cP, rfl⟩ := own_slice h.prs
  obtain ⟨i0, hi0, hz0, hz1, hz2⟩ := info_parts str_info
  have hle := h.le
  have HO := Lib.hid h
  have HH : Hid (∀ W, Below w.heap.size w W → Calls Tryz.prog 160 #[.slice AC a.cl.length cC, .string name] W fun e w' => e = .returned (.bool (Lib.containsS a.cl name)) ∧ W = w') := Lib.hid fun W hb => hasText_any AC cC w.heap.size a.cl name W ((Reads.of_own h.cls).below hb) (by have := h.c32; omega)
  have HE : Hid (classE a name = if Lib.containsS a.cl name = true then 7 else if 32 ≤ a.cl.length then 3 else 0) := Lib.hid rfl
  have HA : Hid (classA a name = if classE a name = 0 then { a with cl := a.cl ++ [name] } else a) := Lib.hid rfl
  have HT := Lib.hid (two_alloc a _ _ base h (.cells #[.string a.id, .slice AC a.cl.length cC, .slice AP a.pr.length cP] 25))
  clear h
  generalize classA a name = A1 at *
  generalize classE a name = E1 at *
  generalize Lib.containsS a.cl name = R at *
  cases R
  · by_cases hl : 32 ≤ a.cl.length
    · have hE : Hid (E1 = 3) := Lib.hid (by rw [HE.out, if_neg (by decide), if_pos hl])
      go_enter Tryz.func146, Tryz.ntmps146
      go_wp2_with fail
      ((with_reducible refine (HH.out _ (((Below.refl _ _).alloc (Nat.le_refl _) _).alloc (by simp) _)).mono ?_))
      rintro e w1 ⟨rfl, rfl⟩
      go_wp2
      refine class_ret HT.out.1 rfl rfl rfl ?_
      rw [HA.out, hE.out, if_neg (by decide)]
      exact ⟨_, rfl, HT.out.2.1.val, grown_of_below HT.out.2.2 _⟩
    · have hE : Hid (E1 = 0) := Lib.hid (by rw [HE.out, if_neg (by decide), if_neg hl])
      have hl' : a.cl.length < 32 := by omega
      have hbo := (((Below.refl _ w).alloc (Nat.le_refl _) (.cells #[.string a.id, .slice AC a.cl.length cC, .slice AP a.pr.length cP] 25)).alloc (by simp) (.cells #[.string ⟨#[]⟩, .slice none 0 0, .slice none 0 0] 25))
      have hO1 := HO.out.below hbo
      have hblk1 := (Blk.new w 25 #[.string a.id, .slice AC a.cl.length cC, .slice AP a.pr.length cP]).alloc (.cells #[.string ⟨#[]⟩, .slice none 0 0, .slice none 0 0] 25)
      have hblk2 : Blk ((w.alloc (.cells #[.string a.id, .slice AC a.cl.length cC, .slice AP a.pr.length cP] 25)).alloc (.cells #[.string ⟨#[]⟩, .slice none 0 0, .slice none 0 0] 25)) (w.heap.size + 1) 25 #[.string ⟨#[]⟩, .slice none 0 0, .slice none 0 0] := by
        have := Blk.new (w.alloc (.cells #[.string a.id, .slice AC a.cl.length cC, .slice AP a.pr.length cP] 25)) 25 #[.string ⟨#[]⟩, .slice none 0 0, .slice none 0 0]
        simpa using this
      have KO := Lib.hid hO1
      have K1 := Lib.hid hblk1
      have K2 := Lib.hid hblk2
      have KB := Lib.hid hbo
      clear hO1 hblk1 hblk2 hbo
      go_enter Tryz.func146, Tryz.ntmps146
      go_wp2_with fail
      ((with_reducible refine (HH.out _ (((Below.refl _ _).alloc (Nat.le_refl _) _).alloc (by simp) _)).mono ?_))
      rintro e w1 ⟨rfl, rfl⟩
      go_wp2_with (at_builtin; refine wpList_append_own _ rfl _ _ 22 rfl base 9 i0 _ 1 16 Tryz.underlying22 hi0 hz0 hz1 hz2 rfl (by decide) _ _ _ rfl (KO.out.cls.alloc _) ⟨w.heap.size + 1 + 1, 0, none⟩ 1 1 [.string name] rfl rfl ?c1 ?c2 ?c3 ?c4 ?c5 ?_)
      case c1 =>
        intro j u hj
        match j, hj with
        | 0, hj =>
          simp at hj; subst hj
          have := (Blk.new ((w.alloc (.cells #[.string a.id, .slice AC a.cl.length cC, .slice AP a.pr.length cP] 25)).alloc (.cells #[.string ⟨#[]⟩, .slice none 0 0, .slice none 0 0] 25)) 9 #[.string name]).cell 0
          simpa [Addr.add] using this
      case c2 => intro u hu; simp at hu; subst hu; rfl
      case c3 => unfold maxLen; omega
      case c4 => omega
      case c5 => simp; omega
      intro v' w2 hown2 hgrow _
      obtain ⟨A2, c2, rfl⟩ := own_slice hown2
      have hdone := rclass_done KO.out K1.out K2.out (by omega) KB.out (Nat.le_refl _) hown2 hgrow hl'
      obtain ⟨⟨B1, B2⟩, ⟨B3, B4⟩, hd⟩ := hdone
      have HD := Lib.hid hd
      clear hd hown2 hgrow
      have k2 := B1.cell 1
      have k3 := B3.cell 0
      have k4 := B3.cell 1
      have k5 := B3.cell 2
      have k6 := B4.cell 0
      have k7 := B4.cell 1
      have k8 := B4.cell 2
      simp at k2 k3 k4 k5 k6 k7 k8
      have f2 := B1.frozen 1
      have f6 := B4.frozen 0
      have f7 := B4.frozen 1
      have f8 := B4.frozen 2
      have m2 := B2.frozen 0
      have m3 := B2.frozen 1
      have m4 := B2.frozen 2
      have j0 := B1.cell 0
      have j2 := B1.cell 2
      have j3 := B2.cell 0
      have j4 := B2.cell 1
      have j5 := B2.cell 2
      simp at j0 j2 j3 j4 j5
      clear B1 B2 B3 B4 k3 k4 k5 k6 k7 k8 f6 f7 f8
      go_wp2
      refine class_ret HD.out.1 rfl rfl rfl ?_
      rw [HA.out, hE.out, if_pos rfl]
      exact ⟨_, rfl, HD.out.2.1.val, HD.out.2.2⟩
  · have hE : Hid (E1 = 7) := Lib.hid (by rw [HE.out, if_pos rfl])
    go_enter Tryz.func146, Tryz.ntmps146
    go_wp2_with fail
    ((with_reducible refine (HH.out _ (((Below.refl _ _).alloc (Nat.le_refl _) _).alloc (by simp) _)).mono ?_))
    rintro e w1 ⟨rfl, rfl⟩
    go_wp2
    refine class_ret HT.out.1 rfl rfl rfl ?_
    rw [HA.out, hE.out, if_neg (by decide)]
    exact ⟨_, rfl, HT.out.2.1.val, grown_of_below HT.out.2.2 _⟩
end Go.Proofs.YthfienjmigidbaaGreatDoor
namespace Go.Proofs.YthfienjmigidbaaGreatDoor
open Go.RowKit Go.Pub

/-- A mark. -/
structure MkL where
  kind : Nat := 0
  n : Nat := 0
  ch : ByteArray := ⟨#[]⟩
  off : Nat := 0
  info : ByteArray := ⟨#[]⟩
  rest : ByteArray := ⟨#[]⟩
  dest : ByteArray := ⟨#[]⟩
  title : ByteArray := ⟨#[]⟩
  att : AttrL := emptyA
def MkL.cells (m : MkL) (vC vP : Value) : Array Value := #[.int .i64 m.kind, .int .i64 m.n, .string m.ch, .int .i64 m.off, .string m.info, .string m.rest, .string m.dest, .string m.title, .string m.att.id, vC, vP]
def MkVal (w : World) (base : Nat) (v : Value) (m : MkL) : Prop := ∃ vC vP, v = .agg (m.cells vC vP) ∧ OwnA w base m.att vC vP
theorem ownA_empty (w : World) (base : Nat) (h : base ≤ w.heap.size) : OwnA w base emptyA (.slice none 0 0) (.slice none 0 0) := ⟨World.ownsRow_nil _ _ _ _, World.ownsRow_nil _ _ _ _, h, by decide, by decide⟩
theorem mkVal_plain {w : World} {base : Nat} {m : MkL} (h : m.att = emptyA) (hb : base ≤ w.heap.size) : MkVal w base (.agg (m.cells (.slice none 0 0) (.slice none 0 0))) m := ⟨_, _, rfl, by rw [h]; exact ownA_empty w base hb⟩
/-- Any mark's cells. -/
def AnyMk (v : Value) : Prop := ∃ (i0 i1 : Int) (s2 : ByteArray) (i3 : Int) (s4 s5 s6 s7 s8 : ByteArray) (A9 : Option Addr) (n9 c9 : Nat) (A10 : Option Addr) (n10 c10 : Nat), v = .agg #[.int .i64 i0, .int .i64 i1, .string s2, .int .i64 i3, .string s4, .string s5, .string s6, .string s7, .string s8, .slice A9 n9 c9, .slice A10 n10 c10]
theorem mkVal_any {w : World} {base : Nat} {v : Value} {m : MkL} (h : MkVal w base v m) : AnyMk v := by
  obtain ⟨vC, vP, rfl, h⟩ := h
  obtain ⟨A9, c9, rfl⟩ := own_slice h.cls
  obtain ⟨A10, c10, rfl⟩ := own_slice h.prs
  exact ⟨_, _, _, _, _, _, _, _, _, _, _, _, _, _, _, rfl⟩
/-- What a reader of marks returns: the mark, or that there is none. -/
def RdPost (r : Option MkL) (w : World) (e : Ending) (w' : World) : Prop :=
  (match r with
   | some m => ∃ v, e = .returned (.tuple #[v, .bool true]) ∧ MkVal w' w.heap.size v m
   | none => ∃ v, e = .returned (.tuple #[v, .bool false]) ∧ AnyMk v) ∧ Below w.heap.size w w'
theorem rd_none {r : Option MkL} {w w' : World} {v : Value} (hr : r = none) (hv : AnyMk v) (hb : Below w.heap.size w w') : RdPost r w (.returned (.tuple #[v, .bool false])) w' := by
  subst hr; exact ⟨⟨v, rfl, hv⟩, hb⟩
theorem rd_some {r : Option MkL} {m : MkL} {w w' : World} {v : Value} (hr : r = some m) (hv : MkVal w' w.heap.size v m) (hb : Below w.heap.size w w') : RdPost r w (.returned (.tuple #[v, .bool true])) w' := by
  subst hr; exact ⟨⟨v, rfl, hv⟩, hb⟩
/-- A reader that decides at its end. -/
theorem rd_if {r : Option MkL} {m : MkL} {b : Bool} {w w' : World} {v : Value} (hr : r = if b = true then some m else none) (hv : MkVal w' w.heap.size v m) (hb : Below w.heap.size w w') : RdPost r w (.returned (.tuple #[v, .bool b])) w' := by
  cases b
  · exact rd_none hr (mkVal_any hv) hb
  · exact rd_some hr hv hb
theorem blk11 {W : World} {g : Nat} {T : TypeId} {x0 x1 x2 x3 x4 x5 x6 x7 x8 x9 x10 : Value} (h : Blk W g T #[x0, x1, x2, x3, x4, x5, x6, x7, x8, x9, x10]) (y0 y1 y2 y3 y4 y5 y6 y7 y8 y9 y10 : Value) : Blk (((((((((((W.setCell ⟨g, 0, none⟩ y0).setCell ⟨g, 1, none⟩ y1).setCell ⟨g, 2, none⟩ y2).setCell ⟨g, 3, none⟩ y3).setCell ⟨g, 4, none⟩ y4).setCell ⟨g, 5, none⟩ y5).setCell ⟨g, 6, none⟩ y6).setCell ⟨g, 7, none⟩ y7).setCell ⟨g, 8, none⟩ y8).setCell ⟨g, 9, none⟩ y9).setCell ⟨g, 10, none⟩ y10) g T #[y0, y1, y2, y3, y4, y5, y6, y7, y8, y9, y10] := by
  have h0 := h.set_ 0 y0
  rw [show (#[x0, x1, x2, x3, x4, x5, x6, x7, x8, x9, x10] : Array Value).setIfInBounds 0 y0 = #[y0, x1, x2, x3, x4, x5, x6, x7, x8, x9, x10] from rfl] at h0
  have h1 := h0.set_ 1 y1
  rw [show (#[y0, x1, x2, x3, x4, x5, x6, x7, x8, x9, x10] : Array Value).setIfInBounds 1 y1 = #[y0, y1, x2, x3, x4, x5, x6, x7, x8, x9, x10] from rfl] at h1
  have h2 := h1.set_ 2 y2
  rw [show (#[y0, y1, x2, x3, x4, x5, x6, x7, x8, x9, x10] : Array Value).setIfInBounds 2 y2 = #[y0, y1, y2, x3, x4, x5, x6, x7, x8, x9, x10] from rfl] at h2
  have h3 := h2.set_ 3 y3
  rw [show (#[y0, y1, y2, x3, x4, x5, x6, x7, x8, x9, x10] : Array Value).setIfInBounds 3 y3 = #[y0, y1, y2, y3, x4, x5, x6, x7, x8, x9, x10] from rfl] at h3
  have h4 := h3.set_ 4 y4
  rw [show (#[y0, y1, y2, y3, x4, x5, x6, x7, x8, x9, x10] : Array Value).setIfInBounds 4 y4 = #[y0, y1, y2, y3, y4, x5, x6, x7, x8, x9, x10] from rfl] at h4
  have h5 := h4.set_ 5 y5
  rw [show (#[y0, y1, y2, y3, y4, x5, x6, x7, x8, x9, x10] : Array Value).setIfInBounds 5 y5 = #[y0, y1, y2, y3, y4, y5, x6, x7, x8, x9, x10] from rfl] at h5
  have h6 := h5.set_ 6 y6
  rw [show (#[y0, y1, y2, y3, y4, y5, x6, x7, x8, x9, x10] : Array Value).setIfInBounds 6 y6 = #[y0, y1, y2, y3, y4, y5, y6, x7, x8, x9, x10] from rfl] at h6
  have h7 := h6.set_ 7 y7
  rw [show (#[y0, y1, y2, y3, y4, y5, y6, x7, x8, x9, x10] : Array Value).setIfInBounds 7 y7 = #[y0, y1, y2, y3, y4, y5, y6, y7, x8, x9, x10] from rfl] at h7
  have h8 := h7.set_ 8 y8
  rw [show (#[y0, y1, y2, y3, y4, y5, y6, y7, x8, x9, x10] : Array Value).setIfInBounds 8 y8 = #[y0, y1, y2, y3, y4, y5, y6, y7, y8, x9, x10] from rfl] at h8
  have h9 := h8.set_ 9 y9
  rw [show (#[y0, y1, y2, y3, y4, y5, y6, y7, y8, x9, x10] : Array Value).setIfInBounds 9 y9 = #[y0, y1, y2, y3, y4, y5, y6, y7, y8, y9, x10] from rfl] at h9
  have h10 := h9.set_ 10 y10
  rw [show (#[y0, y1, y2, y3, y4, y5, y6, y7, y8, y9, x10] : Array Value).setIfInBounds 10 y10 = #[y0, y1, y2, y3, y4, y5, y6, y7, y8, y9, y10] from rfl] at h10
  exact h10
theorem below11 {B : Nat} {w W : World} (h : Below B w W) {g : Nat} (hg : B ≤ g) (y0 y1 y2 y3 y4 y5 y6 y7 y8 y9 y10 : Value) : Below B w (((((((((((W.setCell ⟨g, 0, none⟩ y0).setCell ⟨g, 1, none⟩ y1).setCell ⟨g, 2, none⟩ y2).setCell ⟨g, 3, none⟩ y3).setCell ⟨g, 4, none⟩ y4).setCell ⟨g, 5, none⟩ y5).setCell ⟨g, 6, none⟩ y6).setCell ⟨g, 7, none⟩ y7).setCell ⟨g, 8, none⟩ y8).setCell ⟨g, 9, none⟩ y9).setCell ⟨g, 10, none⟩ y10) :=
  (((((((((((h.setCell (p := ⟨g, 0, none⟩) hg y0).setCell (p := ⟨g, 1, none⟩) hg y1).setCell (p := ⟨g, 2, none⟩) hg y2).setCell (p := ⟨g, 3, none⟩) hg y3).setCell (p := ⟨g, 4, none⟩) hg y4).setCell (p := ⟨g, 5, none⟩) hg y5).setCell (p := ⟨g, 6, none⟩) hg y6).setCell (p := ⟨g, 7, none⟩) hg y7).setCell (p := ⟨g, 8, none⟩) hg y8).setCell (p := ⟨g, 9, none⟩) hg y9).setCell (p := ⟨g, 10, none⟩) hg y10)
/-- An empty mark in block g. -/
def ZM (W : World) (g : Nat) : Prop := Blk W g 27 #[.int .i64 0, .int .i64 0, .string ⟨#[]⟩, .int .i64 0, .string ⟨#[]⟩, .string ⟨#[]⟩, .string ⟨#[]⟩, .string ⟨#[]⟩, .string ⟨#[]⟩, .slice none 0 0, .slice none 0 0]
theorem ZM.facts {W : World} {g : Nat} (h : ZM W g) : W.cell? ⟨g, 0, none⟩ = some (.int .i64 0) ∧ W.cell? ⟨g, 1, none⟩ = some (.int .i64 0) ∧ W.cell? ⟨g, 2, none⟩ = some (.string ⟨#[]⟩) ∧ W.cell? ⟨g, 3, none⟩ = some (.int .i64 0) ∧ W.cell? ⟨g, 4, none⟩ = some (.string ⟨#[]⟩) ∧ W.cell? ⟨g, 5, none⟩ = some (.string ⟨#[]⟩) ∧ W.cell? ⟨g, 6, none⟩ = some (.string ⟨#[]⟩) ∧ W.cell? ⟨g, 7, none⟩ = some (.string ⟨#[]⟩) ∧ W.cell? ⟨g, 8, none⟩ = some (.string ⟨#[]⟩) ∧ W.cell? ⟨g, 9, none⟩ = some (.slice none 0 0) ∧ W.cell? ⟨g, 10, none⟩ = some (.slice none 0 0) ∧ W.frozen? ⟨g, 0, none⟩ = false ∧ W.frozen? ⟨g, 1, none⟩ = false ∧ W.frozen? ⟨g, 2, none⟩ = false ∧ W.frozen? ⟨g, 3, none⟩ = false ∧ W.frozen? ⟨g, 4, none⟩ = false ∧ W.frozen? ⟨g, 5, none⟩ = false ∧ W.frozen? ⟨g, 6, none⟩ = false ∧ W.frozen? ⟨g, 7, none⟩ = false ∧ W.frozen? ⟨g, 8, none⟩ = false ∧ W.frozen? ⟨g, 9, none⟩ = false ∧ W.frozen? ⟨g, 10, none⟩ = false :=
  ⟨h.cell 0, h.cell 1, h.cell 2, h.cell 3, h.cell 4, h.cell 5, h.cell 6, h.cell 7, h.cell 8, h.cell 9, h.cell 10, h.frozen 0, h.frozen 1, h.frozen 2, h.frozen 3, h.frozen 4, h.frozen 5, h.frozen 6, h.frozen 7, h.frozen 8, h.frozen 9, h.frozen 10⟩
theorem mk_facts {W : World} {g : Nat} {T : TypeId} {x0 x1 x2 x3 x4 x5 x6 x7 x8 x9 x10 : Value} (h : Blk W g T #[x0, x1, x2, x3, x4, x5, x6, x7, x8, x9, x10]) : W.cell? ⟨g, 0, none⟩ = some x0 ∧ W.cell? ⟨g, 1, none⟩ = some x1 ∧ W.cell? ⟨g, 2, none⟩ = some x2 ∧ W.cell? ⟨g, 3, none⟩ = some x3 ∧ W.cell? ⟨g, 4, none⟩ = some x4 ∧ W.cell? ⟨g, 5, none⟩ = some x5 ∧ W.cell? ⟨g, 6, none⟩ = some x6 ∧ W.cell? ⟨g, 7, none⟩ = some x7 ∧ W.cell? ⟨g, 8, none⟩ = some x8 ∧ W.cell? ⟨g, 9, none⟩ = some x9 ∧ W.cell? ⟨g, 10, none⟩ = some x10 ∧ W.frozen? ⟨g, 0, none⟩ = false ∧ W.frozen? ⟨g, 1, none⟩ = false ∧ W.frozen? ⟨g, 2, none⟩ = false ∧ W.frozen? ⟨g, 3, none⟩ = false ∧ W.frozen? ⟨g, 4, none⟩ = false ∧ W.frozen? ⟨g, 5, none⟩ = false ∧ W.frozen? ⟨g, 6, none⟩ = false ∧ W.frozen? ⟨g, 7, none⟩ = false ∧ W.frozen? ⟨g, 8, none⟩ = false ∧ W.frozen? ⟨g, 9, none⟩ = false ∧ W.frozen? ⟨g, 10, none⟩ = false :=
  ⟨h.cell 0, h.cell 1, h.cell 2, h.cell 3, h.cell 4, h.cell 5, h.cell 6, h.cell 7, h.cell 8, h.cell 9, h.cell 10, h.frozen 0, h.frozen 1, h.frozen 2, h.frozen 3, h.frozen 4, h.frozen 5, h.frozen 6, h.frozen 7, h.frozen 8, h.frozen 9, h.frozen 10⟩

theorem head_ret {W : World} {g : Nat} {x0 x1 x2 x3 x4 x5 x6 x7 x8 x9 x10 : Value} {u : Value} {P : Ending → World → Prop} {act : Act} (hr : Blk W g 27 #[x0, x1, x2, x3, x4, x5, x6, x7, x8, x9, x10]) (h4 : act.tmps.getD 4 undef = .pointer (some ⟨g, 0, none⟩)) (h5 : act.tmps.getD 5 undef = u) (hd : act.defers = []) (hP : P (.returned (.tuple #[.agg #[x0, x1, x2, x3, x4, x5, x6, x7, x8, x9, x10], u])) W) : bodyPost Tryz.prog Tryz.f33 P Exit.ret act W := by
  have c0 : W.cell? ⟨g, 0, none⟩ = some x0 := hr.cell 0
  have c1 : W.cell? ⟨g, 1, none⟩ = some x1 := hr.cell 1
  have c2 : W.cell? ⟨g, 2, none⟩ = some x2 := hr.cell 2
  have c3 : W.cell? ⟨g, 3, none⟩ = some x3 := hr.cell 3
  have c4 : W.cell? ⟨g, 4, none⟩ = some x4 := hr.cell 4
  have c5 : W.cell? ⟨g, 5, none⟩ = some x5 := hr.cell 5
  have c6 : W.cell? ⟨g, 6, none⟩ = some x6 := hr.cell 6
  have c7 : W.cell? ⟨g, 7, none⟩ = some x7 := hr.cell 7
  have c8 : W.cell? ⟨g, 8, none⟩ = some x8 := hr.cell 8
  have c9 : W.cell? ⟨g, 9, none⟩ = some x9 := hr.cell 9
  have c10 : W.cell? ⟨g, 10, none⟩ = some x10 := hr.cell 10
  refine bodyPost_ret (v := .tuple #[.agg #[x0, x1, x2, x3, x4, x5, x6, x7, x8, x9, x10], u]) ?_ hd hP
  rw [Array.getD_eq_getD_getElem?] at h4 h5
  simp [results, Tryz.results33, go_sem, h4, h5, c0, c1, c2, c3, c4, c5, c6, c7, c8, c9, c10]

theorem rule_ret {W : World} {g : Nat} {x0 x1 x2 x3 x4 x5 x6 x7 x8 x9 x10 : Value} {u : Value} {q : Addr} {P : Ending → World → Prop} {act : Act} (hr : Blk W g 27 #[x0, x1, x2, x3, x4, x5, x6, x7, x8, x9, x10]) (h4 : act.tmps.getD 4 undef = .pointer (some ⟨g, 0, none⟩)) (h5 : act.tmps.getD 5 undef = .pointer (some q)) (h6 : W.cell? q = some u) (hd : act.defers = []) (hP : P (.returned (.tuple #[.agg #[x0, x1, x2, x3, x4, x5, x6, x7, x8, x9, x10], u])) W) : bodyPost Tryz.prog Tryz.f34 P Exit.ret act W := by
  have c0 : W.cell? ⟨g, 0, none⟩ = some x0 := hr.cell 0
  have c1 : W.cell? ⟨g, 1, none⟩ = some x1 := hr.cell 1
  have c2 : W.cell? ⟨g, 2, none⟩ = some x2 := hr.cell 2
  have c3 : W.cell? ⟨g, 3, none⟩ = some x3 := hr.cell 3
  have c4 : W.cell? ⟨g, 4, none⟩ = some x4 := hr.cell 4
  have c5 : W.cell? ⟨g, 5, none⟩ = some x5 := hr.cell 5
  have c6 : W.cell? ⟨g, 6, none⟩ = some x6 := hr.cell 6
  have c7 : W.cell? ⟨g, 7, none⟩ = some x7 := hr.cell 7
  have c8 : W.cell? ⟨g, 8, none⟩ = some x8 := hr.cell 8
  have c9 : W.cell? ⟨g, 9, none⟩ = some x9 := hr.cell 9
  have c10 : W.cell? ⟨g, 10, none⟩ = some x10 := hr.cell 10
  refine bodyPost_ret (v := .tuple #[.agg #[x0, x1, x2, x3, x4, x5, x6, x7, x8, x9, x10], u]) ?_ hd hP
  rw [Array.getD_eq_getD_getElem?] at h4 h5
  simp [results, Tryz.results34, go_sem, h4, h5, h6, c0, c1, c2, c3, c4, c5, c6, c7, c8, c9, c10]

theorem quote_ret {W : World} {g : Nat} {x0 x1 x2 x3 x4 x5 x6 x7 x8 x9 x10 : Value} {u : Value} {P : Ending → World → Prop} {act : Act} (hr : Blk W g 27 #[x0, x1, x2, x3, x4, x5, x6, x7, x8, x9, x10]) (h4 : act.tmps.getD 4 undef = .pointer (some ⟨g, 0, none⟩)) (h5 : act.tmps.getD 5 undef = u) (hd : act.defers = []) (hP : P (.returned (.tuple #[.agg #[x0, x1, x2, x3, x4, x5, x6, x7, x8, x9, x10], u])) W) : bodyPost Tryz.prog Tryz.f35 P Exit.ret act W := by
  have c0 : W.cell? ⟨g, 0, none⟩ = some x0 := hr.cell 0
  have c1 : W.cell? ⟨g, 1, none⟩ = some x1 := hr.cell 1
  have c2 : W.cell? ⟨g, 2, none⟩ = some x2 := hr.cell 2
  have c3 : W.cell? ⟨g, 3, none⟩ = some x3 := hr.cell 3
  have c4 : W.cell? ⟨g, 4, none⟩ = some x4 := hr.cell 4
  have c5 : W.cell? ⟨g, 5, none⟩ = some x5 := hr.cell 5
  have c6 : W.cell? ⟨g, 6, none⟩ = some x6 := hr.cell 6
  have c7 : W.cell? ⟨g, 7, none⟩ = some x7 := hr.cell 7
  have c8 : W.cell? ⟨g, 8, none⟩ = some x8 := hr.cell 8
  have c9 : W.cell? ⟨g, 9, none⟩ = some x9 := hr.cell 9
  have c10 : W.cell? ⟨g, 10, none⟩ = some x10 := hr.cell 10
  refine bodyPost_ret (v := .tuple #[.agg #[x0, x1, x2, x3, x4, x5, x6, x7, x8, x9, x10], u]) ?_ hd hP
  rw [Array.getD_eq_getD_getElem?] at h4 h5
  simp [results, Tryz.results35, go_sem, h4, h5, c0, c1, c2, c3, c4, c5, c6, c7, c8, c9, c10]

theorem bullet_ret {W : World} {g : Nat} {x0 x1 x2 x3 x4 x5 x6 x7 x8 x9 x10 : Value} {u : Value} {P : Ending → World → Prop} {act : Act} (hr : Blk W g 27 #[x0, x1, x2, x3, x4, x5, x6, x7, x8, x9, x10]) (h4 : act.tmps.getD 4 undef = .pointer (some ⟨g, 0, none⟩)) (h5 : act.tmps.getD 5 undef = u) (hd : act.defers = []) (hP : P (.returned (.tuple #[.agg #[x0, x1, x2, x3, x4, x5, x6, x7, x8, x9, x10], u])) W) : bodyPost Tryz.prog Tryz.f36 P Exit.ret act W := by
  have c0 : W.cell? ⟨g, 0, none⟩ = some x0 := hr.cell 0
  have c1 : W.cell? ⟨g, 1, none⟩ = some x1 := hr.cell 1
  have c2 : W.cell? ⟨g, 2, none⟩ = some x2 := hr.cell 2
  have c3 : W.cell? ⟨g, 3, none⟩ = some x3 := hr.cell 3
  have c4 : W.cell? ⟨g, 4, none⟩ = some x4 := hr.cell 4
  have c5 : W.cell? ⟨g, 5, none⟩ = some x5 := hr.cell 5
  have c6 : W.cell? ⟨g, 6, none⟩ = some x6 := hr.cell 6
  have c7 : W.cell? ⟨g, 7, none⟩ = some x7 := hr.cell 7
  have c8 : W.cell? ⟨g, 8, none⟩ = some x8 := hr.cell 8
  have c9 : W.cell? ⟨g, 9, none⟩ = some x9 := hr.cell 9
  have c10 : W.cell? ⟨g, 10, none⟩ = some x10 := hr.cell 10
  refine bodyPost_ret (v := .tuple #[.agg #[x0, x1, x2, x3, x4, x5, x6, x7, x8, x9, x10], u]) ?_ hd hP
  rw [Array.getD_eq_getD_getElem?] at h4 h5
  simp [results, Tryz.results36, go_sem, h4, h5, c0, c1, c2, c3, c4, c5, c6, c7, c8, c9, c10]

theorem number_ret {W : World} {g : Nat} {x0 x1 x2 x3 x4 x5 x6 x7 x8 x9 x10 : Value} {u : Value} {P : Ending → World → Prop} {act : Act} (hr : Blk W g 27 #[x0, x1, x2, x3, x4, x5, x6, x7, x8, x9, x10]) (h4 : act.tmps.getD 4 undef = .pointer (some ⟨g, 0, none⟩)) (h5 : act.tmps.getD 5 undef = u) (hd : act.defers = []) (hP : P (.returned (.tuple #[.agg #[x0, x1, x2, x3, x4, x5, x6, x7, x8, x9, x10], u])) W) : bodyPost Tryz.prog Tryz.f37 P Exit.ret act W := by
  have c0 : W.cell? ⟨g, 0, none⟩ = some x0 := hr.cell 0
  have c1 : W.cell? ⟨g, 1, none⟩ = some x1 := hr.cell 1
  have c2 : W.cell? ⟨g, 2, none⟩ = some x2 := hr.cell 2
  have c3 : W.cell? ⟨g, 3, none⟩ = some x3 := hr.cell 3
  have c4 : W.cell? ⟨g, 4, none⟩ = some x4 := hr.cell 4
  have c5 : W.cell? ⟨g, 5, none⟩ = some x5 := hr.cell 5
  have c6 : W.cell? ⟨g, 6, none⟩ = some x6 := hr.cell 6
  have c7 : W.cell? ⟨g, 7, none⟩ = some x7 := hr.cell 7
  have c8 : W.cell? ⟨g, 8, none⟩ = some x8 := hr.cell 8
  have c9 : W.cell? ⟨g, 9, none⟩ = some x9 := hr.cell 9
  have c10 : W.cell? ⟨g, 10, none⟩ = some x10 := hr.cell 10
  refine bodyPost_ret (v := .tuple #[.agg #[x0, x1, x2, x3, x4, x5, x6, x7, x8, x9, x10], u]) ?_ hd hP
  rw [Array.getD_eq_getD_getElem?] at h4 h5
  simp [results, Tryz.results37, go_sem, h4, h5, c0, c1, c2, c3, c4, c5, c6, c7, c8, c9, c10]

theorem fence_ret {W : World} {g : Nat} {x0 x1 x2 x3 x4 x5 x6 x7 x8 x9 x10 : Value} {u : Value} {P : Ending → World → Prop} {act : Act} (hr : Blk W g 27 #[x0, x1, x2, x3, x4, x5, x6, x7, x8, x9, x10]) (h4 : act.tmps.getD 4 undef = .pointer (some ⟨g, 0, none⟩)) (h5 : act.tmps.getD 5 undef = u) (hd : act.defers = []) (hP : P (.returned (.tuple #[.agg #[x0, x1, x2, x3, x4, x5, x6, x7, x8, x9, x10], u])) W) : bodyPost Tryz.prog Tryz.f38 P Exit.ret act W := by
  have c0 : W.cell? ⟨g, 0, none⟩ = some x0 := hr.cell 0
  have c1 : W.cell? ⟨g, 1, none⟩ = some x1 := hr.cell 1
  have c2 : W.cell? ⟨g, 2, none⟩ = some x2 := hr.cell 2
  have c3 : W.cell? ⟨g, 3, none⟩ = some x3 := hr.cell 3
  have c4 : W.cell? ⟨g, 4, none⟩ = some x4 := hr.cell 4
  have c5 : W.cell? ⟨g, 5, none⟩ = some x5 := hr.cell 5
  have c6 : W.cell? ⟨g, 6, none⟩ = some x6 := hr.cell 6
  have c7 : W.cell? ⟨g, 7, none⟩ = some x7 := hr.cell 7
  have c8 : W.cell? ⟨g, 8, none⟩ = some x8 := hr.cell 8
  have c9 : W.cell? ⟨g, 9, none⟩ = some x9 := hr.cell 9
  have c10 : W.cell? ⟨g, 10, none⟩ = some x10 := hr.cell 10
  refine bodyPost_ret (v := .tuple #[.agg #[x0, x1, x2, x3, x4, x5, x6, x7, x8, x9, x10], u]) ?_ hd hP
  rw [Array.getD_eq_getD_getElem?] at h4 h5
  simp [results, Tryz.results38, go_sem, h4, h5, c0, c1, c2, c3, c4, c5, c6, c7, c8, c9, c10]

theorem formula_ret {W : World} {g : Nat} {x0 x1 x2 x3 x4 x5 x6 x7 x8 x9 x10 : Value} {u : Value} {P : Ending → World → Prop} {act : Act} (hr : Blk W g 27 #[x0, x1, x2, x3, x4, x5, x6, x7, x8, x9, x10]) (h4 : act.tmps.getD 4 undef = .pointer (some ⟨g, 0, none⟩)) (h5 : act.tmps.getD 5 undef = u) (hd : act.defers = []) (hP : P (.returned (.tuple #[.agg #[x0, x1, x2, x3, x4, x5, x6, x7, x8, x9, x10], u])) W) : bodyPost Tryz.prog Tryz.f39 P Exit.ret act W := by
  have c0 : W.cell? ⟨g, 0, none⟩ = some x0 := hr.cell 0
  have c1 : W.cell? ⟨g, 1, none⟩ = some x1 := hr.cell 1
  have c2 : W.cell? ⟨g, 2, none⟩ = some x2 := hr.cell 2
  have c3 : W.cell? ⟨g, 3, none⟩ = some x3 := hr.cell 3
  have c4 : W.cell? ⟨g, 4, none⟩ = some x4 := hr.cell 4
  have c5 : W.cell? ⟨g, 5, none⟩ = some x5 := hr.cell 5
  have c6 : W.cell? ⟨g, 6, none⟩ = some x6 := hr.cell 6
  have c7 : W.cell? ⟨g, 7, none⟩ = some x7 := hr.cell 7
  have c8 : W.cell? ⟨g, 8, none⟩ = some x8 := hr.cell 8
  have c9 : W.cell? ⟨g, 9, none⟩ = some x9 := hr.cell 9
  have c10 : W.cell? ⟨g, 10, none⟩ = some x10 := hr.cell 10
  refine bodyPost_ret (v := .tuple #[.agg #[x0, x1, x2, x3, x4, x5, x6, x7, x8, x9, x10], u]) ?_ hd hP
  rw [Array.getD_eq_getD_getElem?] at h4 h5
  simp [results, Tryz.results39, go_sem, h4, h5, c0, c1, c2, c3, c4, c5, c6, c7, c8, c9, c10]

theorem directive_ret {W : World} {g : Nat} {x0 x1 x2 x3 x4 x5 x6 x7 x8 x9 x10 : Value} {u : Value} {P : Ending → World → Prop} {act : Act} (hr : Blk W g 27 #[x0, x1, x2, x3, x4, x5, x6, x7, x8, x9, x10]) (h4 : act.tmps.getD 4 undef = .pointer (some ⟨g, 0, none⟩)) (h5 : act.tmps.getD 5 undef = u) (hd : act.defers = []) (hP : P (.returned (.tuple #[.agg #[x0, x1, x2, x3, x4, x5, x6, x7, x8, x9, x10], u])) W) : bodyPost Tryz.prog Tryz.f40 P Exit.ret act W := by
  have c0 : W.cell? ⟨g, 0, none⟩ = some x0 := hr.cell 0
  have c1 : W.cell? ⟨g, 1, none⟩ = some x1 := hr.cell 1
  have c2 : W.cell? ⟨g, 2, none⟩ = some x2 := hr.cell 2
  have c3 : W.cell? ⟨g, 3, none⟩ = some x3 := hr.cell 3
  have c4 : W.cell? ⟨g, 4, none⟩ = some x4 := hr.cell 4
  have c5 : W.cell? ⟨g, 5, none⟩ = some x5 := hr.cell 5
  have c6 : W.cell? ⟨g, 6, none⟩ = some x6 := hr.cell 6
  have c7 : W.cell? ⟨g, 7, none⟩ = some x7 := hr.cell 7
  have c8 : W.cell? ⟨g, 8, none⟩ = some x8 := hr.cell 8
  have c9 : W.cell? ⟨g, 9, none⟩ = some x9 := hr.cell 9
  have c10 : W.cell? ⟨g, 10, none⟩ = some x10 := hr.cell 10
  refine bodyPost_ret (v := .tuple #[.agg #[x0, x1, x2, x3, x4, x5, x6, x7, x8, x9, x10], u]) ?_ hd hP
  rw [Array.getD_eq_getD_getElem?] at h4 h5
  simp [results, Tryz.results40, go_sem, h4, h5, c0, c1, c2, c3, c4, c5, c6, c7, c8, c9, c10]

theorem note_ret {W : World} {g : Nat} {x0 x1 x2 x3 x4 x5 x6 x7 x8 x9 x10 : Value} {u : Value} {P : Ending → World → Prop} {act : Act} (hr : Blk W g 27 #[x0, x1, x2, x3, x4, x5, x6, x7, x8, x9, x10]) (h4 : act.tmps.getD 4 undef = .pointer (some ⟨g, 0, none⟩)) (h5 : act.tmps.getD 5 undef = u) (hd : act.defers = []) (hP : P (.returned (.tuple #[.agg #[x0, x1, x2, x3, x4, x5, x6, x7, x8, x9, x10], u])) W) : bodyPost Tryz.prog Tryz.f41 P Exit.ret act W := by
  have c0 : W.cell? ⟨g, 0, none⟩ = some x0 := hr.cell 0
  have c1 : W.cell? ⟨g, 1, none⟩ = some x1 := hr.cell 1
  have c2 : W.cell? ⟨g, 2, none⟩ = some x2 := hr.cell 2
  have c3 : W.cell? ⟨g, 3, none⟩ = some x3 := hr.cell 3
  have c4 : W.cell? ⟨g, 4, none⟩ = some x4 := hr.cell 4
  have c5 : W.cell? ⟨g, 5, none⟩ = some x5 := hr.cell 5
  have c6 : W.cell? ⟨g, 6, none⟩ = some x6 := hr.cell 6
  have c7 : W.cell? ⟨g, 7, none⟩ = some x7 := hr.cell 7
  have c8 : W.cell? ⟨g, 8, none⟩ = some x8 := hr.cell 8
  have c9 : W.cell? ⟨g, 9, none⟩ = some x9 := hr.cell 9
  have c10 : W.cell? ⟨g, 10, none⟩ = some x10 := hr.cell 10
  refine bodyPost_ret (v := .tuple #[.agg #[x0, x1, x2, x3, x4, x5, x6, x7, x8, x9, x10], u]) ?_ hd hP
  rw [Array.getD_eq_getD_getElem?] at h4 h5
  simp [results, Tryz.results41, go_sem, h4, h5, c0, c1, c2, c3, c4, c5, c6, c7, c8, c9, c10]

theorem def_ret {W : World} {g : Nat} {x0 x1 x2 x3 x4 x5 x6 x7 x8 x9 x10 : Value} {u : Value} {P : Ending → World → Prop} {act : Act} (hr : Blk W g 27 #[x0, x1, x2, x3, x4, x5, x6, x7, x8, x9, x10]) (h4 : act.tmps.getD 4 undef = .pointer (some ⟨g, 0, none⟩)) (h5 : act.tmps.getD 5 undef = u) (hd : act.defers = []) (hP : P (.returned (.tuple #[.agg #[x0, x1, x2, x3, x4, x5, x6, x7, x8, x9, x10], u])) W) : bodyPost Tryz.prog Tryz.f42 P Exit.ret act W := by
  have c0 : W.cell? ⟨g, 0, none⟩ = some x0 := hr.cell 0
  have c1 : W.cell? ⟨g, 1, none⟩ = some x1 := hr.cell 1
  have c2 : W.cell? ⟨g, 2, none⟩ = some x2 := hr.cell 2
  have c3 : W.cell? ⟨g, 3, none⟩ = some x3 := hr.cell 3
  have c4 : W.cell? ⟨g, 4, none⟩ = some x4 := hr.cell 4
  have c5 : W.cell? ⟨g, 5, none⟩ = some x5 := hr.cell 5
  have c6 : W.cell? ⟨g, 6, none⟩ = some x6 := hr.cell 6
  have c7 : W.cell? ⟨g, 7, none⟩ = some x7 := hr.cell 7
  have c8 : W.cell? ⟨g, 8, none⟩ = some x8 := hr.cell 8
  have c9 : W.cell? ⟨g, 9, none⟩ = some x9 := hr.cell 9
  have c10 : W.cell? ⟨g, 10, none⟩ = some x10 := hr.cell 10
  refine bodyPost_ret (v := .tuple #[.agg #[x0, x1, x2, x3, x4, x5, x6, x7, x8, x9, x10], u]) ?_ hd hP
  rw [Array.getD_eq_getD_getElem?] at h4 h5
  simp [results, Tryz.results42, go_sem, h4, h5, c0, c1, c2, c3, c4, c5, c6, c7, c8, c9, c10]

theorem of_ret {W : World} {g : Nat} {x0 x1 x2 x3 x4 x5 x6 x7 x8 x9 x10 : Value} {P : Ending → World → Prop} {act : Act} (hr : Blk W g 27 #[x0, x1, x2, x3, x4, x5, x6, x7, x8, x9, x10]) (h4 : act.tmps.getD 2 undef = .pointer (some ⟨g, 0, none⟩)) (hd : act.defers = []) (hP : P (.returned (.agg #[x0, x1, x2, x3, x4, x5, x6, x7, x8, x9, x10])) W) : bodyPost Tryz.prog Tryz.f13 P Exit.ret act W := by
  have c0 : W.cell? ⟨g, 0, none⟩ = some x0 := hr.cell 0
  have c1 : W.cell? ⟨g, 1, none⟩ = some x1 := hr.cell 1
  have c2 : W.cell? ⟨g, 2, none⟩ = some x2 := hr.cell 2
  have c3 : W.cell? ⟨g, 3, none⟩ = some x3 := hr.cell 3
  have c4 : W.cell? ⟨g, 4, none⟩ = some x4 := hr.cell 4
  have c5 : W.cell? ⟨g, 5, none⟩ = some x5 := hr.cell 5
  have c6 : W.cell? ⟨g, 6, none⟩ = some x6 := hr.cell 6
  have c7 : W.cell? ⟨g, 7, none⟩ = some x7 := hr.cell 7
  have c8 : W.cell? ⟨g, 8, none⟩ = some x8 := hr.cell 8
  have c9 : W.cell? ⟨g, 9, none⟩ = some x9 := hr.cell 9
  have c10 : W.cell? ⟨g, 10, none⟩ = some x10 := hr.cell 10
  refine bodyPost_ret (v := .agg #[x0, x1, x2, x3, x4, x5, x6, x7, x8, x9, x10]) ?_ hd hP
  rw [Array.getD_eq_getD_getElem?] at h4
  simp [results, Tryz.results13, go_sem, h4, c0, c1, c2, c3, c4, c5, c6, c7, c8, c9, c10]

theorem rhead_ret {W : World} {g : Nat} {x0 x1 x2 x3 x4 x5 x6 x7 x8 x9 x10 : Value} {P : Ending → World → Prop} {act : Act} (hr : Blk W g 27 #[x0, x1, x2, x3, x4, x5, x6, x7, x8, x9, x10]) (h4 : act.tmps.getD 2 undef = .pointer (some ⟨g, 0, none⟩)) (hd : act.defers = []) (hP : P (.returned (.agg #[x0, x1, x2, x3, x4, x5, x6, x7, x8, x9, x10])) W) : bodyPost Tryz.prog Tryz.f44 P Exit.ret act W := by
  have c0 : W.cell? ⟨g, 0, none⟩ = some x0 := hr.cell 0
  have c1 : W.cell? ⟨g, 1, none⟩ = some x1 := hr.cell 1
  have c2 : W.cell? ⟨g, 2, none⟩ = some x2 := hr.cell 2
  have c3 : W.cell? ⟨g, 3, none⟩ = some x3 := hr.cell 3
  have c4 : W.cell? ⟨g, 4, none⟩ = some x4 := hr.cell 4
  have c5 : W.cell? ⟨g, 5, none⟩ = some x5 := hr.cell 5
  have c6 : W.cell? ⟨g, 6, none⟩ = some x6 := hr.cell 6
  have c7 : W.cell? ⟨g, 7, none⟩ = some x7 := hr.cell 7
  have c8 : W.cell? ⟨g, 8, none⟩ = some x8 := hr.cell 8
  have c9 : W.cell? ⟨g, 9, none⟩ = some x9 := hr.cell 9
  have c10 : W.cell? ⟨g, 10, none⟩ = some x10 := hr.cell 10
  refine bodyPost_ret (v := .agg #[x0, x1, x2, x3, x4, x5, x6, x7, x8, x9, x10]) ?_ hd hP
  rw [Array.getD_eq_getD_getElem?] at h4
  simp [results, Tryz.results44, go_sem, h4, c0, c1, c2, c3, c4, c5, c6, c7, c8, c9, c10]

theorem rrule_ret {W : World} {g : Nat} {x0 x1 x2 x3 x4 x5 x6 x7 x8 x9 x10 : Value} {P : Ending → World → Prop} {act : Act} (hr : Blk W g 27 #[x0, x1, x2, x3, x4, x5, x6, x7, x8, x9, x10]) (h4 : act.tmps.getD 2 undef = .pointer (some ⟨g, 0, none⟩)) (hd : act.defers = []) (hP : P (.returned (.agg #[x0, x1, x2, x3, x4, x5, x6, x7, x8, x9, x10])) W) : bodyPost Tryz.prog Tryz.f45 P Exit.ret act W := by
  have c0 : W.cell? ⟨g, 0, none⟩ = some x0 := hr.cell 0
  have c1 : W.cell? ⟨g, 1, none⟩ = some x1 := hr.cell 1
  have c2 : W.cell? ⟨g, 2, none⟩ = some x2 := hr.cell 2
  have c3 : W.cell? ⟨g, 3, none⟩ = some x3 := hr.cell 3
  have c4 : W.cell? ⟨g, 4, none⟩ = some x4 := hr.cell 4
  have c5 : W.cell? ⟨g, 5, none⟩ = some x5 := hr.cell 5
  have c6 : W.cell? ⟨g, 6, none⟩ = some x6 := hr.cell 6
  have c7 : W.cell? ⟨g, 7, none⟩ = some x7 := hr.cell 7
  have c8 : W.cell? ⟨g, 8, none⟩ = some x8 := hr.cell 8
  have c9 : W.cell? ⟨g, 9, none⟩ = some x9 := hr.cell 9
  have c10 : W.cell? ⟨g, 10, none⟩ = some x10 := hr.cell 10
  refine bodyPost_ret (v := .agg #[x0, x1, x2, x3, x4, x5, x6, x7, x8, x9, x10]) ?_ hd hP
  rw [Array.getD_eq_getD_getElem?] at h4
  simp [results, Tryz.results45, go_sem, h4, c0, c1, c2, c3, c4, c5, c6, c7, c8, c9, c10]

theorem ritem_ret {W : World} {g : Nat} {x0 x1 x2 x3 x4 x5 x6 x7 x8 x9 x10 : Value} {P : Ending → World → Prop} {act : Act} (hr : Blk W g 27 #[x0, x1, x2, x3, x4, x5, x6, x7, x8, x9, x10]) (h4 : act.tmps.getD 4 undef = .pointer (some ⟨g, 0, none⟩)) (hd : act.defers = []) (hP : P (.returned (.agg #[x0, x1, x2, x3, x4, x5, x6, x7, x8, x9, x10])) W) : bodyPost Tryz.prog Tryz.f47 P Exit.ret act W := by
  have c0 : W.cell? ⟨g, 0, none⟩ = some x0 := hr.cell 0
  have c1 : W.cell? ⟨g, 1, none⟩ = some x1 := hr.cell 1
  have c2 : W.cell? ⟨g, 2, none⟩ = some x2 := hr.cell 2
  have c3 : W.cell? ⟨g, 3, none⟩ = some x3 := hr.cell 3
  have c4 : W.cell? ⟨g, 4, none⟩ = some x4 := hr.cell 4
  have c5 : W.cell? ⟨g, 5, none⟩ = some x5 := hr.cell 5
  have c6 : W.cell? ⟨g, 6, none⟩ = some x6 := hr.cell 6
  have c7 : W.cell? ⟨g, 7, none⟩ = some x7 := hr.cell 7
  have c8 : W.cell? ⟨g, 8, none⟩ = some x8 := hr.cell 8
  have c9 : W.cell? ⟨g, 9, none⟩ = some x9 := hr.cell 9
  have c10 : W.cell? ⟨g, 10, none⟩ = some x10 := hr.cell 10
  refine bodyPost_ret (v := .agg #[x0, x1, x2, x3, x4, x5, x6, x7, x8, x9, x10]) ?_ hd hP
  rw [Array.getD_eq_getD_getElem?] at h4
  simp [results, Tryz.results47, go_sem, h4, c0, c1, c2, c3, c4, c5, c6, c7, c8, c9, c10]

theorem rfence_ret {W : World} {g : Nat} {x0 x1 x2 x3 x4 x5 x6 x7 x8 x9 x10 : Value} {P : Ending → World → Prop} {act : Act} (hr : Blk W g 27 #[x0, x1, x2, x3, x4, x5, x6, x7, x8, x9, x10]) (h4 : act.tmps.getD 4 undef = .pointer (some ⟨g, 0, none⟩)) (hd : act.defers = []) (hP : P (.returned (.agg #[x0, x1, x2, x3, x4, x5, x6, x7, x8, x9, x10])) W) : bodyPost Tryz.prog Tryz.f48 P Exit.ret act W := by
  have c0 : W.cell? ⟨g, 0, none⟩ = some x0 := hr.cell 0
  have c1 : W.cell? ⟨g, 1, none⟩ = some x1 := hr.cell 1
  have c2 : W.cell? ⟨g, 2, none⟩ = some x2 := hr.cell 2
  have c3 : W.cell? ⟨g, 3, none⟩ = some x3 := hr.cell 3
  have c4 : W.cell? ⟨g, 4, none⟩ = some x4 := hr.cell 4
  have c5 : W.cell? ⟨g, 5, none⟩ = some x5 := hr.cell 5
  have c6 : W.cell? ⟨g, 6, none⟩ = some x6 := hr.cell 6
  have c7 : W.cell? ⟨g, 7, none⟩ = some x7 := hr.cell 7
  have c8 : W.cell? ⟨g, 8, none⟩ = some x8 := hr.cell 8
  have c9 : W.cell? ⟨g, 9, none⟩ = some x9 := hr.cell 9
  have c10 : W.cell? ⟨g, 10, none⟩ = some x10 := hr.cell 10
  refine bodyPost_ret (v := .agg #[x0, x1, x2, x3, x4, x5, x6, x7, x8, x9, x10]) ?_ hd hP
  rw [Array.getD_eq_getD_getElem?] at h4
  simp [results, Tryz.results48, go_sem, h4, c0, c1, c2, c3, c4, c5, c6, c7, c8, c9, c10]

theorem rdiv_ret {W : World} {g : Nat} {x0 x1 x2 x3 x4 x5 x6 x7 x8 x9 x10 : Value} {P : Ending → World → Prop} {act : Act} (hr : Blk W g 27 #[x0, x1, x2, x3, x4, x5, x6, x7, x8, x9, x10]) (h4 : act.tmps.getD 2 undef = .pointer (some ⟨g, 0, none⟩)) (hd : act.defers = []) (hP : P (.returned (.agg #[x0, x1, x2, x3, x4, x5, x6, x7, x8, x9, x10])) W) : bodyPost Tryz.prog Tryz.f50 P Exit.ret act W := by
  have c0 : W.cell? ⟨g, 0, none⟩ = some x0 := hr.cell 0
  have c1 : W.cell? ⟨g, 1, none⟩ = some x1 := hr.cell 1
  have c2 : W.cell? ⟨g, 2, none⟩ = some x2 := hr.cell 2
  have c3 : W.cell? ⟨g, 3, none⟩ = some x3 := hr.cell 3
  have c4 : W.cell? ⟨g, 4, none⟩ = some x4 := hr.cell 4
  have c5 : W.cell? ⟨g, 5, none⟩ = some x5 := hr.cell 5
  have c6 : W.cell? ⟨g, 6, none⟩ = some x6 := hr.cell 6
  have c7 : W.cell? ⟨g, 7, none⟩ = some x7 := hr.cell 7
  have c8 : W.cell? ⟨g, 8, none⟩ = some x8 := hr.cell 8
  have c9 : W.cell? ⟨g, 9, none⟩ = some x9 := hr.cell 9
  have c10 : W.cell? ⟨g, 10, none⟩ = some x10 := hr.cell 10
  refine bodyPost_ret (v := .agg #[x0, x1, x2, x3, x4, x5, x6, x7, x8, x9, x10]) ?_ hd hP
  rw [Array.getD_eq_getD_getElem?] at h4
  simp [results, Tryz.results50, go_sem, h4, c0, c1, c2, c3, c4, c5, c6, c7, c8, c9, c10]

theorem rnote_ret {W : World} {g : Nat} {x0 x1 x2 x3 x4 x5 x6 x7 x8 x9 x10 : Value} {P : Ending → World → Prop} {act : Act} (hr : Blk W g 27 #[x0, x1, x2, x3, x4, x5, x6, x7, x8, x9, x10]) (h4 : act.tmps.getD 2 undef = .pointer (some ⟨g, 0, none⟩)) (hd : act.defers = []) (hP : P (.returned (.agg #[x0, x1, x2, x3, x4, x5, x6, x7, x8, x9, x10])) W) : bodyPost Tryz.prog Tryz.f51 P Exit.ret act W := by
  have c0 : W.cell? ⟨g, 0, none⟩ = some x0 := hr.cell 0
  have c1 : W.cell? ⟨g, 1, none⟩ = some x1 := hr.cell 1
  have c2 : W.cell? ⟨g, 2, none⟩ = some x2 := hr.cell 2
  have c3 : W.cell? ⟨g, 3, none⟩ = some x3 := hr.cell 3
  have c4 : W.cell? ⟨g, 4, none⟩ = some x4 := hr.cell 4
  have c5 : W.cell? ⟨g, 5, none⟩ = some x5 := hr.cell 5
  have c6 : W.cell? ⟨g, 6, none⟩ = some x6 := hr.cell 6
  have c7 : W.cell? ⟨g, 7, none⟩ = some x7 := hr.cell 7
  have c8 : W.cell? ⟨g, 8, none⟩ = some x8 := hr.cell 8
  have c9 : W.cell? ⟨g, 9, none⟩ = some x9 := hr.cell 9
  have c10 : W.cell? ⟨g, 10, none⟩ = some x10 := hr.cell 10
  refine bodyPost_ret (v := .agg #[x0, x1, x2, x3, x4, x5, x6, x7, x8, x9, x10]) ?_ hd hP
  rw [Array.getD_eq_getD_getElem?] at h4
  simp [results, Tryz.results51, go_sem, h4, c0, c1, c2, c3, c4, c5, c6, c7, c8, c9, c10]

theorem rquote_ret {W : World} {g : Nat} {x0 x1 x2 x3 x4 x5 x6 x7 x8 x9 x10 : Value} {P : Ending → World → Prop} {act : Act} (hr : Blk W g 27 #[x0, x1, x2, x3, x4, x5, x6, x7, x8, x9, x10]) (h4 : act.tmps.getD 4 undef = .pointer (some ⟨g, 0, none⟩)) (hd : act.defers = []) (hP : P (.returned (.agg #[x0, x1, x2, x3, x4, x5, x6, x7, x8, x9, x10])) W) : bodyPost Tryz.prog Tryz.f46 P Exit.ret act W := by
  have c0 : W.cell? ⟨g, 0, none⟩ = some x0 := hr.cell 0
  have c1 : W.cell? ⟨g, 1, none⟩ = some x1 := hr.cell 1
  have c2 : W.cell? ⟨g, 2, none⟩ = some x2 := hr.cell 2
  have c3 : W.cell? ⟨g, 3, none⟩ = some x3 := hr.cell 3
  have c4 : W.cell? ⟨g, 4, none⟩ = some x4 := hr.cell 4
  have c5 : W.cell? ⟨g, 5, none⟩ = some x5 := hr.cell 5
  have c6 : W.cell? ⟨g, 6, none⟩ = some x6 := hr.cell 6
  have c7 : W.cell? ⟨g, 7, none⟩ = some x7 := hr.cell 7
  have c8 : W.cell? ⟨g, 8, none⟩ = some x8 := hr.cell 8
  have c9 : W.cell? ⟨g, 9, none⟩ = some x9 := hr.cell 9
  have c10 : W.cell? ⟨g, 10, none⟩ = some x10 := hr.cell 10
  refine bodyPost_ret (v := .agg #[x0, x1, x2, x3, x4, x5, x6, x7, x8, x9, x10]) ?_ hd hP
  rw [Array.getD_eq_getD_getElem?] at h4
  simp [results, Tryz.results46, go_sem, h4, c0, c1, c2, c3, c4, c5, c6, c7, c8, c9, c10]

theorem rmath_ret {W : World} {g : Nat} {x0 x1 x2 x3 x4 x5 x6 x7 x8 x9 x10 : Value} {P : Ending → World → Prop} {act : Act} (hr : Blk W g 27 #[x0, x1, x2, x3, x4, x5, x6, x7, x8, x9, x10]) (h4 : act.tmps.getD 2 undef = .pointer (some ⟨g, 0, none⟩)) (hd : act.defers = []) (hP : P (.returned (.agg #[x0, x1, x2, x3, x4, x5, x6, x7, x8, x9, x10])) W) : bodyPost Tryz.prog Tryz.f49 P Exit.ret act W := by
  have c0 : W.cell? ⟨g, 0, none⟩ = some x0 := hr.cell 0
  have c1 : W.cell? ⟨g, 1, none⟩ = some x1 := hr.cell 1
  have c2 : W.cell? ⟨g, 2, none⟩ = some x2 := hr.cell 2
  have c3 : W.cell? ⟨g, 3, none⟩ = some x3 := hr.cell 3
  have c4 : W.cell? ⟨g, 4, none⟩ = some x4 := hr.cell 4
  have c5 : W.cell? ⟨g, 5, none⟩ = some x5 := hr.cell 5
  have c6 : W.cell? ⟨g, 6, none⟩ = some x6 := hr.cell 6
  have c7 : W.cell? ⟨g, 7, none⟩ = some x7 := hr.cell 7
  have c8 : W.cell? ⟨g, 8, none⟩ = some x8 := hr.cell 8
  have c9 : W.cell? ⟨g, 9, none⟩ = some x9 := hr.cell 9
  have c10 : W.cell? ⟨g, 10, none⟩ = some x10 := hr.cell 10
  refine bodyPost_ret (v := .agg #[x0, x1, x2, x3, x4, x5, x6, x7, x8, x9, x10]) ?_ hd hP
  rw [Array.getD_eq_getD_getElem?] at h4
  simp [results, Tryz.results49, go_sem, h4, c0, c1, c2, c3, c4, c5, c6, c7, c8, c9, c10]

theorem rdef_ret {W : World} {g : Nat} {x0 x1 x2 x3 x4 x5 x6 x7 x8 x9 x10 : Value} {P : Ending → World → Prop} {act : Act} (hr : Blk W g 27 #[x0, x1, x2, x3, x4, x5, x6, x7, x8, x9, x10]) (h4 : act.tmps.getD 2 undef = .pointer (some ⟨g, 0, none⟩)) (hd : act.defers = []) (hP : P (.returned (.agg #[x0, x1, x2, x3, x4, x5, x6, x7, x8, x9, x10])) W) : bodyPost Tryz.prog Tryz.f19 P Exit.ret act W := by
  have c0 : W.cell? ⟨g, 0, none⟩ = some x0 := hr.cell 0
  have c1 : W.cell? ⟨g, 1, none⟩ = some x1 := hr.cell 1
  have c2 : W.cell? ⟨g, 2, none⟩ = some x2 := hr.cell 2
  have c3 : W.cell? ⟨g, 3, none⟩ = some x3 := hr.cell 3
  have c4 : W.cell? ⟨g, 4, none⟩ = some x4 := hr.cell 4
  have c5 : W.cell? ⟨g, 5, none⟩ = some x5 := hr.cell 5
  have c6 : W.cell? ⟨g, 6, none⟩ = some x6 := hr.cell 6
  have c7 : W.cell? ⟨g, 7, none⟩ = some x7 := hr.cell 7
  have c8 : W.cell? ⟨g, 8, none⟩ = some x8 := hr.cell 8
  have c9 : W.cell? ⟨g, 9, none⟩ = some x9 := hr.cell 9
  have c10 : W.cell? ⟨g, 10, none⟩ = some x10 := hr.cell 10
  refine bodyPost_ret (v := .agg #[x0, x1, x2, x3, x4, x5, x6, x7, x8, x9, x10]) ?_ hd hP
  rw [Array.getD_eq_getD_getElem?] at h4
  simp [results, Tryz.results19, go_sem, h4, c0, c1, c2, c3, c4, c5, c6, c7, c8, c9, c10]

theorem rof_ret {W : World} {g : Nat} {x0 x1 x2 x3 x4 x5 x6 x7 x8 x9 x10 : Value} {P : Ending → World → Prop} {act : Act} (hr : Blk W g 27 #[x0, x1, x2, x3, x4, x5, x6, x7, x8, x9, x10]) (h4 : act.tmps.getD 2 undef = .pointer (some ⟨g, 0, none⟩)) (hd : act.defers = []) (hP : P (.returned (.agg #[x0, x1, x2, x3, x4, x5, x6, x7, x8, x9, x10])) W) : bodyPost Tryz.prog Tryz.f15 P Exit.ret act W := by
  have c0 : W.cell? ⟨g, 0, none⟩ = some x0 := hr.cell 0
  have c1 : W.cell? ⟨g, 1, none⟩ = some x1 := hr.cell 1
  have c2 : W.cell? ⟨g, 2, none⟩ = some x2 := hr.cell 2
  have c3 : W.cell? ⟨g, 3, none⟩ = some x3 := hr.cell 3
  have c4 : W.cell? ⟨g, 4, none⟩ = some x4 := hr.cell 4
  have c5 : W.cell? ⟨g, 5, none⟩ = some x5 := hr.cell 5
  have c6 : W.cell? ⟨g, 6, none⟩ = some x6 := hr.cell 6
  have c7 : W.cell? ⟨g, 7, none⟩ = some x7 := hr.cell 7
  have c8 : W.cell? ⟨g, 8, none⟩ = some x8 := hr.cell 8
  have c9 : W.cell? ⟨g, 9, none⟩ = some x9 := hr.cell 9
  have c10 : W.cell? ⟨g, 10, none⟩ = some x10 := hr.cell 10
  refine bodyPost_ret (v := .agg #[x0, x1, x2, x3, x4, x5, x6, x7, x8, x9, x10]) ?_ hd hP
  rw [Array.getD_eq_getD_getElem?] at h4
  simp [results, Tryz.results15, go_sem, h4, c0, c1, c2, c3, c4, c5, c6, c7, c8, c9, c10]
end Go.Proofs.YthfienjmigidbaaGreatDoor
namespace Go.Proofs.YthfienjmigidbaaGreatDoor
open Go.RowKit Go.Pub

/-- Nothing but spaces. -/
def blankB (s : ByteArray) : Bool := decide (indA s 0 = s.size)
/-- Without at most n spaces ahead. -/
def stripB (s : ByteArray) (n : Nat) : ByteArray := s.extract (min n (indA s 0)) s.size
theorem stripB_size (s : ByteArray) (n : Nat) : (stripB s n).size ≤ s.size := by unfold stripB; rw [ByteArray.size_extract]; omega
/-- A space, or nothing. -/
def spB (s : ByteArray) : Bool := decide (s.size = 0) || decide (bt s 0 = 32)
def tl1 (s : ByteArray) : ByteArray := s.extract 1 s.size
theorem tl1_size (s : ByteArray) : (tl1 s).size = s.size - 1 := by unfold tl1; rw [ByteArray.size_extract]; omega
def quoteM (c : ByteArray) (ind : Nat) : Option MkL := if bt c 0 = 62 then some { kind := 4, off := ind + c.size - (stripB (tl1 c) 1).size, rest := stripB (tl1 c) 1 } else none
def bulletM (c : ByteArray) (ind : Nat) : Option MkL := if bt c 0 = 45 ∨ bt c 0 = 43 ∨ bt c 0 = 42 then (if spB (tl1 c) = true then some { kind := 5, ch := c.extract 0 1, off := ind + 2, rest := tl1 (tl1 c) } else none) else none
def mathM (c : ByteArray) : Option MkL := if Lib.hasPrefix (bytesL c) [36, 36] = true ∧ blankB (c.extract 2 c.size) = true then some { kind := 8 } else none
def fenceB (c : ByteArray) (n : Nat) : Bool := decide (3 ≤ n) && !(decide (bt c 0 = 96) && (sfx c n).contains 96)
def fenceM (c : ByteArray) (ind : Nat) : Option MkL :=
  if bt c 0 = 96 ∨ bt c 0 = 126 then (if fenceB c (firstN c (· != bt c 0)) = true then some { kind := 7, n := firstN c (· != bt c 0), ch := c.extract 0 1, info := mk (trimS (sfx c (firstN c (· != bt c 0)))), off := ind } else none) else none

theorem t_blank (s : ByteArray) (w : World) (hs : s.size ≤ 1000000) : Calls Tryz.prog 27 #[.string s] w fun e w' => e = .returned (.bool (blankB s)) ∧ w = w' := by
  have HI := Lib.hid fun W => t_indent s W hs
  have HB : Hid (blankB s = decide (indA s 0 = s.size)) := Lib.hid rfl
  generalize blankB s = b at *
  generalize indA s 0 = i at *
  have hb : ∃ q : Bool, (i == s.size) = q ∧ ((i : Int) == (s.size : Int)) = q ∧ Hid (b = q) := by
    by_cases h : i = s.size
    · exact ⟨true, by rw [beq_iff_eq]; exact h, by rw [beq_iff_eq]; omega, Lib.hid (by rw [HB.out]; exact decide_eq_true h)⟩
    · exact ⟨false, by rw [beq_eq_false_iff_ne]; exact h, by rw [beq_eq_false_iff_ne]; omega, Lib.hid (by rw [HB.out]; exact decide_eq_false h)⟩
  obtain ⟨q, n1, n2, hq⟩ := hb
  go_enter Tryz.func27, Tryz.ntmps27
  go_wp2_with fail
  ((with_reducible refine (HI.out _).mono ?_))
  rintro e w' ⟨rfl, rfl⟩
  go_wp2_with fail
  go_ret
  exact ⟨ret_bool (by rw [hq.out]), rfl⟩

theorem t_strip (s : ByteArray) (n : Nat) (w : World) (hs : s.size ≤ 1000000) (hn : n ≤ 1000000) : Calls Tryz.prog 82 #[.string s, .int .i64 n] w fun e w' => e = .returned (.string (stripB s n)) ∧ w = w' := by
  have HI := Lib.hid fun W => t_indent s W hs
  have hl := indA_le s
  have HB : Hid (stripB s n = s.extract (min n (indA s 0)) s.size) := Lib.hid rfl
  generalize stripB s n = b at *
  generalize indA s 0 = i at *
  have HMn : ∀ w : World, (Builtin.min_ #[3, 3] 3 #[.int .i64 n, .int .i64 i]).run Tryz.prog w = .ok (.int .i64 (min n i : Nat)) w := fun w => by
    rw [run_min_int2]
    congr 2
    split <;> omega
  have hm : min n i ≤ s.size := by omega
  generalize min n i = m at *
  go_enter Tryz.func82, Tryz.ntmps82
  go_wp2_with fail
  ((with_reducible refine (HI.out _).mono ?_))
  rintro e w' ⟨rfl, rfl⟩
  go_wp2_with fail
  go_ret
  exact ⟨ret_str (by rw [HB.out]), rfl⟩

theorem m_after (s : ByteArray) (w : World) (hs : s.size ≤ 1000000) : Calls Tryz.prog 80 #[.string s] w fun e w' => e = .returned (.tuple #[.string (tl1 s), .bool (spB s)]) ∧ Below w.heap.size w w' := by
  by_cases h : s.size = 0
  · have e0 : s = ⟨#[]⟩ := by
      have := (size_nil s).1 h
      rw [← mk_bytesL s, this]; rfl
    subst e0
    go_enter Tryz.func80, Tryz.ntmps80
    go_wp2_with fail
    go_ret2
    exact ⟨rfl, Below.refl _ _⟩
  · have hl : 1 ≤ s.size := by omega
    have hb : spB s = decide (bt s 0 = 32) := by unfold spB; rw [decide_eq_false h]; rfl
    obtain ⟨e1, e2⟩ := cons_list s (fun e => h ((size_nil s).2 e))
    have e3 : (s.toList == (⟨#[]⟩ : ByteArray).toList) = false := by
      rw [Lib.bytes_beq_false_iff]; intro e; subst e; exact h rfl
    have hg := get_bt s 0 hl
    have hx : ∃ q : Bool, ((bt s 0 : Int) == 32) = q ∧ Hid (spB s = q) := by
      by_cases h3 : bt s 0 = 32
      · exact ⟨true, by rw [h3]; rfl, Lib.hid (by rw [hb]; exact decide_eq_true h3)⟩
      · exact ⟨false, by rw [beq_eq_false_iff_ne]; omega, Lib.hid (by rw [hb]; exact decide_eq_false h3)⟩
    clear hb
    obtain ⟨q, q1, q2⟩ := hx
    have HT : Hid (tl1 s = s.extract 1 s.size) := Lib.hid rfl
    generalize tl1 s = T at *
    go_enter Tryz.func80, Tryz.ntmps80
    go_wp2_with fail
    go_quiet (fail)
    go_wp2_with fail
    go_ret2
    exact ⟨by rw [HT.out, q2.out]; rfl, below_drewN (Below.refl _ _) _⟩

set_option maxRecDepth 100000 in
set_option maxHeartbeats 1000000 in
theorem m_quote (c : ByteArray) (ind : Nat) (w : World) (hs : c.size ≤ 1000000) (h0 : 0 < c.size) (hi : ind ≤ 3) : Calls Tryz.prog 35 #[.string c, .int .i64 ind] w (RdPost (quoteM c ind) w) := by
  have hg := get_bt c 0 h0
  have h1 : 1 ≤ c.size := h0
  have HZ : Hid (ZM (w.alloc (.cells #[.int .i64 0, .int .i64 0, .string ⟨#[]⟩, .int .i64 0, .string ⟨#[]⟩, .string ⟨#[]⟩, .string ⟨#[]⟩, .string ⟨#[]⟩, .string ⟨#[]⟩, .slice none 0 0, .slice none 0 0] 27)) w.heap.size) := Lib.hid (Blk.new w _ _)
  have HB0 : Hid (Below w.heap.size w (w.alloc (.cells #[.int .i64 0, .int .i64 0, .string ⟨#[]⟩, .int .i64 0, .string ⟨#[]⟩, .string ⟨#[]⟩, .string ⟨#[]⟩, .string ⟨#[]⟩, .string ⟨#[]⟩, .slice none 0 0, .slice none 0 0] 27))) := Lib.hid ((Below.refl _ w).alloc (Nat.le_refl _) _)
  have HT : Hid (tl1 c = c.extract 1 c.size) := Lib.hid rfl
  have hts := tl1_size c
  have HS : Hid (∀ W, Calls Tryz.prog 82 #[.string (tl1 c), .int .i64 1] W fun e w' => e = .returned (.string (stripB (tl1 c) 1)) ∧ W = w') := Lib.hid fun W => t_strip (tl1 c) 1 W (by omega) (by omega)
  have hss := stripB_size (tl1 c) 1
  have HR : Hid (quoteM c ind = if bt c 0 = 62 then some { kind := 4, off := ind + c.size - (stripB (tl1 c) 1).size, rest := stripB (tl1 c) 1 } else none) := Lib.hid rfl
  generalize quoteM c ind = R at *
  rw [HT.out] at *
  generalize stripB (c.extract 1 c.size) 1 = S at *
  by_cases hq : bt c 0 = 62
  · have z1 : (((bt c 0 : Nat) : Int) != 62) = false := by rw [hq]; rfl
    have HF : Hid (R = some { kind := 4, off := ind + c.size - S.size, rest := S }) := Lib.hid (by rw [HR.out, if_pos hq])
    clear HR hq
    obtain ⟨o, ho⟩ : ∃ o, o = ind + c.size - S.size := ⟨_, rfl⟩
    have hoi : (ind : Int) + (c.size : Int) - (S.size : Int) = (o : Int) := by omega
    rw [← ho] at HF
    clear ho
    go_enter Tryz.func35, Tryz.ntmps35
    go_wp2_with fail
    ((with_reducible refine (HS.out _).mono ?_))
    rintro e w' ⟨rfl, rfl⟩
    go_wp2_with fail
    exact quote_ret (Blk.new w _ _) rfl rfl rfl (rd_some HF.out (mkVal_plain (m := { kind := 4, off := o, rest := S }) rfl ((Below.refl _ w).alloc (Nat.le_refl _) _).size) ((Below.refl _ w).alloc (Nat.le_refl _) _))
  · have z1 : (((bt c 0 : Nat) : Int) != 62) = true := by rw [bne_iff_ne]; omega
    have HF : Hid (R = none) := Lib.hid (by rw [HR.out, if_neg hq])
    clear HR hq
    go_enter Tryz.func35, Tryz.ntmps35
    go_wp2_with fail
    exact quote_ret (Blk.new w _ _) rfl rfl rfl (rd_none HF.out ⟨_, _, _, _, _, _, _, _, _, _, _, _, _, _, _, rfl⟩ ((Below.refl _ w).alloc (Nat.le_refl _) _))
end Go.Proofs.YthfienjmigidbaaGreatDoor
