/-
  The reference's class.
-/
import Derived.Test.YtkcfcdnchlmekaaAttrH
set_option linter.unusedVariables false
set_option linter.unusedSimpArgs false
namespace Go.Proofs.Ytkcfcdnchlmekaa
open Go.RowKit Go.Pub

/-- Attributes by value, their rows the caller's own. -/
structure OwnA (w : World) (base : Nat) (a : AttrL) (vC vP : Value) : Prop where
  cls : w.ownsRow base 9 1 vC a.cl.length (strs a.cl)
  prs : w.ownsRow base 42 2 vP a.pr.length (prs a.pr)
  le : base ≤ w.heap.size
  c32 : a.cl.length ≤ 32
  p32 : a.pr.length ≤ 32
theorem OwnA.below {w w' : World} {base : Nat} {a : AttrL} {vC vP : Value} (h : OwnA w base a vC vP) (hb : Below w.heap.size w w') : OwnA w' base a vC vP :=
  ⟨own_below h.cls hb, own_below h.prs hb, Nat.le_trans h.le hb.size, h.c32, h.p32⟩
theorem OwnA.val {w : World} {base : Nat} {a : AttrL} {vC vP : Value} (h : OwnA w base a vC vP) : AttrVal w base (.agg #[.string a.id, vC, vP]) a := ⟨⟨vC, vP, rfl, h.cls, h.prs⟩, h.c32, h.p32⟩
theorem OwnA.setCell {w : World} {base : Nat} {a : AttrL} {vC vP : Value} (h : OwnA w base a vC vP) {p : Addr} (h1 : ∀ k, vC.ownBlock = some k → p.block ≠ k) (h2 : ∀ k, vP.ownBlock = some k → p.block ≠ k) (u : Value) : OwnA (w.setCell p u) base a vC vP := by
  have hg : w.grownBy (w.setCell p u) (some p.block) := ⟨rfl, rfl, rfl, by simp [World.setCell], fun k _ hk => Below.heap_setCell _ _ _ _ (fun e => hk (by rw [e]))⟩
  refine ⟨h.cls.kept hg ?_, h.prs.kept hg ?_, by simpa [World.setCell] using h.le, h.c32, h.p32⟩
  · cases hv : vC.ownBlock with
    | none => exact Or.inl rfl
    | some b => right; intro e; injection e with e; exact h1 b hv e.symm
  · cases hv : vP.ownBlock with
    | none => exact Or.inl rfl
    | some b => right; intro e; injection e with e; exact h2 b hv e.symm

def ClassPost (e0 : Nat) (a' : AttrL) (base : Nat) (row : Option Nat) (w : World) (e : Ending) (w' : World) : Prop :=
  ∃ v, e = .returned (.tuple #[v, .int .i64 e0]) ∧ AttrVal w' base v a' ∧ w.grownBy w' row

theorem class_ret {W : World} {g : Nat} {x y z a5 : Value} {P : Ending → World → Prop} {act : Act} (hr : Blk W g 27 #[x, y, z]) (h4 : act.tmps.getD 4 undef = .pointer (some ⟨g, 0, none⟩))
    (h5 : act.tmps.getD 5 undef = a5) (hd : act.defers = []) (hP : P (.returned (.tuple #[.agg #[x, y, z], a5])) W) : bodyPost Try.prog Try.f58 P Exit.ret act W := by
  have c0 : W.cell? ⟨g, 0, none⟩ = some x := hr.cell 0
  have c1 : W.cell? ⟨g, 1, none⟩ = some y := hr.cell 1
  have c2 : W.cell? ⟨g, 2, none⟩ = some z := hr.cell 2
  refine bodyPost_ret (v := .tuple #[.agg #[x, y, z], a5]) ?_ hd hP
  rw [Array.getD_eq_getD_getElem?] at h4 h5
  simp [results, Try.results58, go_sem, h4, h5, c0, c1, c2]

theorem two_alloc {w : World} (a : AttrL) (vC vP : Value) (base : Nat) (h : OwnA w base a vC vP) (o : Obj) :
    Blk ((w.alloc o).alloc (.cells #[.string a.id, vC, vP] 27)) (w.heap.size + 1) 27 #[.string a.id, vC, vP] ∧
    OwnA ((w.alloc o).alloc (.cells #[.string a.id, vC, vP] 27)) base a vC vP ∧ Below w.heap.size w ((w.alloc o).alloc (.cells #[.string a.id, vC, vP] 27)) := by
  have hb : Below w.heap.size w ((w.alloc o).alloc (.cells #[.string a.id, vC, vP] 27)) := ((Below.refl _ _).alloc (Nat.le_refl _) _).alloc (by simp) _
  refine ⟨?_, h.below hb, hb⟩
  have := Blk.new (w.alloc o) 27 #[.string a.id, vC, vP]
  simpa using this

theorem own_g {base gg : Nat} {cs : Array Value} {e : TypeId} {n size : Nat} {v : Value} {xs : List Value} {W : World} (ho : W.ownsRow base e size v n xs) (hbk : Blk W gg 27 cs) (hne : e ≠ 27) : ∀ k, v.ownBlock = some k → gg ≠ k := by
  intro k hk he
  subst he
  rcases ho.2 with ⟨rfl, _⟩ | ⟨g', cap, cur, rfl, _, hh, _⟩
  · cases hk
  · have : g' = gg := by simpa [Value.ownBlock] using hk
    subst this
    unfold Blk at hbk
    rw [hh] at hbk
    injection hbk with hbk
    injection hbk with _ ht
    exact hne ht
theorem rclass_done {w0 w1 w2 : World} {g g2 base : Nat} {a : AttrL} {vC vP v' x y z : Value} {name : ByteArray} (h : OwnA w1 base a vC vP) (hb : Blk w1 g 27 #[.string a.id, vC, vP]) (hb2 : Blk w1 g2 27 #[x, y, z]) (hg2 : g < g2) (h0 : Below w0.heap.size w0 w1) (hgb : w0.heap.size ≤ g)
    (hown : w2.ownsRow base 9 1 v' (a.cl.length + 1) (strs a.cl ++ [.string name])) (hg : (w1.alloc (.cells #[.string name] 9)).grownBy w2 vC.ownBlock) (hl : a.cl.length < 32) :
    (Blk w2 g 27 #[.string a.id, vC, vP] ∧ Blk w2 g2 27 #[x, y, z]) ∧
    (Blk (w2.setCell ⟨g, 1, none⟩ v') g 27 #[.string a.id, v', vP] ∧ Blk (w2.setCell ⟨g, 1, none⟩ v') g2 27 #[x, y, z]) ∧
    Blk ((((w2.setCell ⟨g, 1, none⟩ v').setCell ⟨g2, 0, none⟩ (.string a.id)).setCell ⟨g2, 1, none⟩ v').setCell ⟨g2, 2, none⟩ vP) g2 27 #[.string a.id, v', vP] ∧
    OwnA ((((w2.setCell ⟨g, 1, none⟩ v').setCell ⟨g2, 0, none⟩ (.string a.id)).setCell ⟨g2, 1, none⟩ v').setCell ⟨g2, 2, none⟩ vP) base { a with cl := a.cl ++ [name] } v' vP ∧
    w0.grownBy ((((w2.setCell ⟨g, 1, none⟩ v').setCell ⟨g2, 0, none⟩ (.string a.id)).setCell ⟨g2, 1, none⟩ v').setCell ⟨g2, 2, none⟩ vP) vC.ownBlock := by
  have e1 : some g ≠ vC.ownBlock := fun e => own_g h.cls hb (by decide) g e.symm rfl
  have e2 : some g2 ≠ vC.ownBlock := fun e => own_g h.cls hb2 (by decide) g2 e.symm rfl
  have B1 := (hb.alloc (.cells #[.string name] 9)).grown hg e1
  have B2 := (hb2.alloc (.cells #[.string name] 9)).grown hg e2
  have B3 : Blk (w2.setCell ⟨g, 1, none⟩ v') g 27 #[.string a.id, v', vP] := by have := B1.set_ 1 v'; simpa using this
  have B4 := B2.far (p := ⟨g, 1, none⟩) (by simp; omega) v'
  have hO : OwnA w2 base { a with cl := a.cl ++ [name] } v' vP := by
    refine ⟨?_, (h.prs.alloc _).kept hg (own_ne h.prs h.cls (by decide)), by have := hg.size; have := h.le; simp at *; omega, by simp; omega, h.p32⟩
    show w2.ownsRow base 9 1 v' (a.cl ++ [name]).length (strs (a.cl ++ [name]))
    unfold strs at hown ⊢
    rw [List.length_append, List.map_append]
    exact hown
  have o1 : ∀ k, v'.ownBlock = some k → g ≠ k := own_g hown B1 (by decide)
  have o2 : ∀ k, v'.ownBlock = some k → g2 ≠ k := own_g hown B2 (by decide)
  have o3 : ∀ k, vP.ownBlock = some k → g ≠ k := own_g h.prs hb (by decide)
  have o4 : ∀ k, vP.ownBlock = some k → g2 ≠ k := own_g h.prs hb2 (by decide)
  refine ⟨⟨B1, B2⟩, ⟨B3, B4⟩, ?_, (((hO.setCell o1 o3 _).setCell o2 o4 _).setCell o2 o4 _).setCell o2 o4 _, ?_⟩
  · have := ((B4.set_ 0 (.string a.id)).set_ 1 v').set_ 2 vP
    simpa using this
  · have hs0 := h0.size
    have hs1 := hg.size
    refine ⟨hg.os.trans h0.os, hg.tape.trans h0.tape, hg.output.trans h0.output, by simp [World.setCell] at *; omega, fun k hk hne => ?_⟩
    rw [Below.heap_setCell _ _ _ _ (by simp; omega), Below.heap_setCell _ _ _ _ (by simp; omega), Below.heap_setCell _ _ _ _ (by simp; omega), Below.heap_setCell _ _ _ _ (by simp; omega)]
    rw [hg.block k (by simp; omega) hne, Below.heap_alloc _ _ _ (by omega), h0.block k hk]

set_option maxRecDepth 100000 in
set_option maxHeartbeats 1000000 in
theorem rclass_any (w : World) (base : Nat) (a : AttrL) (vC vP : Value) (name : ByteArray) (h : OwnA w base a vC vP) :
    Calls Try.prog 58 #[.agg #[.string a.id, vC, vP], .string name] w (ClassPost (classE a name) (classA a name) base vC.ownBlock w) := by
  obtain ⟨AC, cC, rfl⟩ := own_slice h.cls
  obtain ⟨AP, cP, rfl⟩ := own_slice h.prs
  obtain ⟨i0, hi0, hz0, hz1, hz2⟩ := info_parts str_info
  have hle := h.le
  have HO := Lib.hid h
  have HH : Hid (∀ W, Below w.heap.size w W → Calls Try.prog 33 #[.slice AC a.cl.length cC, .string name] W fun e w' => e = .returned (.bool (Lib.containsS a.cl name)) ∧ W = w') := Lib.hid fun W hb => hasText_any AC cC w.heap.size a.cl name W ((Reads.of_own h.cls).below hb) (by have := h.c32; omega)
  have HE : Hid (classE a name = if Lib.containsS a.cl name = true then 7 else if 32 ≤ a.cl.length then 3 else 0) := Lib.hid rfl
  have HA : Hid (classA a name = if classE a name = 0 then { a with cl := a.cl ++ [name] } else a) := Lib.hid rfl
  have HT := Lib.hid (two_alloc a _ _ base h (.cells #[.string a.id, .slice AC a.cl.length cC, .slice AP a.pr.length cP] 27))
  clear h
  generalize classA a name = A1 at *
  generalize classE a name = E1 at *
  generalize Lib.containsS a.cl name = R at *
  cases R
  · by_cases hl : 32 ≤ a.cl.length
    · have hE : Hid (E1 = 3) := Lib.hid (by rw [HE.out, if_neg (by decide), if_pos hl])
      go_enter Try.func58, Try.ntmps58
      go_wp2_with fail
      ((with_reducible refine (HH.out _ (((Below.refl _ _).alloc (Nat.le_refl _) _).alloc (by simp) _)).mono ?_))
      rintro e w1 ⟨rfl, rfl⟩
      go_wp2
      refine class_ret HT.out.1 rfl rfl rfl ?_
      rw [HA.out, hE.out, if_neg (by decide)]
      exact ⟨_, rfl, HT.out.2.1.val, grown_of_below HT.out.2.2 _⟩
    · have hE : Hid (E1 = 0) := Lib.hid (by rw [HE.out, if_neg (by decide), if_neg hl])
      have hl' : a.cl.length < 32 := by omega
      have hbo := (((Below.refl _ w).alloc (Nat.le_refl _) (.cells #[.string a.id, .slice AC a.cl.length cC, .slice AP a.pr.length cP] 27)).alloc (by simp) (.cells #[.string ⟨#[]⟩, .slice none 0 0, .slice none 0 0] 27))
      have hO1 := HO.out.below hbo
      have hblk1 := (Blk.new w 27 #[.string a.id, .slice AC a.cl.length cC, .slice AP a.pr.length cP]).alloc (.cells #[.string ⟨#[]⟩, .slice none 0 0, .slice none 0 0] 27)
      have hblk2 : Blk ((w.alloc (.cells #[.string a.id, .slice AC a.cl.length cC, .slice AP a.pr.length cP] 27)).alloc (.cells #[.string ⟨#[]⟩, .slice none 0 0, .slice none 0 0] 27)) (w.heap.size + 1) 27 #[.string ⟨#[]⟩, .slice none 0 0, .slice none 0 0] := by
        have := Blk.new (w.alloc (.cells #[.string a.id, .slice AC a.cl.length cC, .slice AP a.pr.length cP] 27)) 27 #[.string ⟨#[]⟩, .slice none 0 0, .slice none 0 0]
        simpa using this
      have KO := Lib.hid hO1
      have K1 := Lib.hid hblk1
      have K2 := Lib.hid hblk2
      have KB := Lib.hid hbo
      clear hO1 hblk1 hblk2 hbo
      go_enter Try.func58, Try.ntmps58
      go_wp2_with fail
      ((with_reducible refine (HH.out _ (((Below.refl _ _).alloc (Nat.le_refl _) _).alloc (by simp) _)).mono ?_))
      rintro e w1 ⟨rfl, rfl⟩
      go_wp2_with (at_builtin; refine wpList_append_own _ rfl _ _ 24 rfl base 9 i0 _ 1 16 Try.underlying24 hi0 hz0 hz1 hz2 rfl (by decide) _ _ _ rfl (KO.out.cls.alloc _) ⟨w.heap.size + 1 + 1, 0, none⟩ 1 1 [.string name] rfl rfl ?c1 ?c2 ?c3 ?c4 ?c5 ?_)
      case c1 =>
        intro j u hj
        match j, hj with
        | 0, hj =>
          simp at hj; subst hj
          have := (Blk.new ((w.alloc (.cells #[.string a.id, .slice AC a.cl.length cC, .slice AP a.pr.length cP] 27)).alloc (.cells #[.string ⟨#[]⟩, .slice none 0 0, .slice none 0 0] 27)) 9 #[.string name]).cell 0
          simpa [Addr.add] using this
      case c2 => intro u hu; simp at hu; subst hu; rfl
      case c3 => unfold maxLen; omega
      case c4 => omega
      case c5 => simp; omega
      intro v' w2 hown2 hgrow _
      obtain ⟨A2, c2, rfl⟩ := own_slice hown2
      have hdone := rclass_done KO.out K1.out K2.out (by omega) KB.out (Nat.le_refl _) hown2 hgrow hl'
      obtain ⟨⟨B1, B2⟩, ⟨B3, B4⟩, hd⟩ := hdone
      have HD := Lib.hid hd
      clear hd hown2 hgrow
      have k2 := B1.cell 1
      have k3 := B3.cell 0
      have k4 := B3.cell 1
      have k5 := B3.cell 2
      have k6 := B4.cell 0
      have k7 := B4.cell 1
      have k8 := B4.cell 2
      simp at k2 k3 k4 k5 k6 k7 k8
      have f2 := B1.frozen 1
      have f6 := B4.frozen 0
      have f7 := B4.frozen 1
      have f8 := B4.frozen 2
      have m2 := B2.frozen 0
      have m3 := B2.frozen 1
      have m4 := B2.frozen 2
      have j0 := B1.cell 0
      have j2 := B1.cell 2
      have j3 := B2.cell 0
      have j4 := B2.cell 1
      have j5 := B2.cell 2
      simp at j0 j2 j3 j4 j5
      clear B1 B2 B3 B4 k3 k4 k5 k6 k7 k8 f6 f7 f8
      go_wp2
      refine class_ret HD.out.1 rfl rfl rfl ?_
      rw [HA.out, hE.out, if_pos rfl]
      exact ⟨_, rfl, HD.out.2.1.val, HD.out.2.2⟩
  · have hE : Hid (E1 = 7) := Lib.hid (by rw [HE.out, if_pos rfl])
    go_enter Try.func58, Try.ntmps58
    go_wp2_with fail
    ((with_reducible refine (HH.out _ (((Below.refl _ _).alloc (Nat.le_refl _) _).alloc (by simp) _)).mono ?_))
    rintro e w1 ⟨rfl, rfl⟩
    go_wp2
    refine class_ret HT.out.1 rfl rfl rfl ?_
    rw [HA.out, hE.out, if_neg (by decide)]
    exact ⟨_, rfl, HT.out.2.1.val, grown_of_below HT.out.2.2 _⟩
end Go.Proofs.Ytkcfcdnchlmekaa
