/-
  Texts of the proof, put together: AttrJ, AttrK, AttrSA, MkT.
-/
import Derived.Test.YthfienjmigidbaaDoorB12
import Derived.Test.YthfienjmigidbaaDoorB25
set_option linter.unusedVariables false
set_option linter.unusedSimpArgs false
namespace Go.Proofs.YthfienjmigidbaaDoor
open Go.RowKit Go.Pub

def RItemPost (r : Nat × Nat × AttrL) (base : Nat) (w : World) (e : Ending) (w' : World) : Prop :=
  ∃ (v : Value) (t : Nat), e = .returned (.tuple #[v, .int .i64 t, .int .i64 r.2.1]) ∧ (r.2.1 = 0 → t = r.1) ∧ AttrVal w' base v r.2.2 ∧ Below base w w'

theorem OwnA.setId {w : World} {base : Nat} {a : AttrL} {vC vP : Value} (h : OwnA w base a vC vP) (x : ByteArray) : OwnA w base { a with id := x } vC vP := ⟨h.cls, h.prs, h.le, h.c32, h.p32⟩
theorem ritem_fin {W : World} {base g2 : Nat} {a : AttrL} {vC vP x y z : Value} (h : OwnA W base a vC vP) (hb2 : Blk W g2 26 #[x, y, z]) (hg : base ≤ g2) :
    Blk (((W.setCell ⟨g2, 0, none⟩ (.string a.id)).setCell ⟨g2, 1, none⟩ vC).setCell ⟨g2, 2, none⟩ vP) g2 26 #[.string a.id, vC, vP] ∧
    OwnA (((W.setCell ⟨g2, 0, none⟩ (.string a.id)).setCell ⟨g2, 1, none⟩ vC).setCell ⟨g2, 2, none⟩ vP) base a vC vP ∧
    Below base W (((W.setCell ⟨g2, 0, none⟩ (.string a.id)).setCell ⟨g2, 1, none⟩ vC).setCell ⟨g2, 2, none⟩ vP) := by
  have o2 : ∀ k, vC.ownBlock = some k → g2 ≠ k := own_g h.cls hb2 (by decide)
  have o4 : ∀ k, vP.ownBlock = some k → g2 ≠ k := own_g h.prs hb2 (by decide)
  refine ⟨?_, ((h.setCell o2 o4 _).setCell o2 o4 _).setCell o2 o4 _, (((Below.refl _ _).setCell (by simpa using hg) _).setCell (by simpa using hg) _).setCell (by simpa using hg) _⟩
  have := ((hb2.set_ 0 (.string a.id)).set_ 1 vC).set_ 2 vP
  simpa using this

theorem rpair_done {w1 w2 : World} {g g2 base : Nat} {a : AttrL} {vC vP v' x y z : Value} {key val : ByteArray} (h : OwnA w1 base a vC vP) (hb : Blk w1 g 26 #[.string a.id, vC, vP]) (hb2 : Blk w1 g2 26 #[x, y, z]) (hg2 : g < g2) (hgb : base ≤ g)
    (hown : w2.ownsRow base 59 2 v' (a.pr.length + 1) (prs a.pr ++ [.string key, .string val])) (hg : (w1.alloc (.cells #[.string key, .string val] 59)).grownBy w2 vP.ownBlock) (hl : a.pr.length < 32) :
    (Blk w2 g 26 #[.string a.id, vC, vP] ∧ Blk w2 g2 26 #[x, y, z]) ∧
    Blk ((((w2.setCell ⟨g, 2, none⟩ v').setCell ⟨g2, 0, none⟩ (.string a.id)).setCell ⟨g2, 1, none⟩ vC).setCell ⟨g2, 2, none⟩ v') g2 26 #[.string a.id, vC, v'] ∧
    OwnA ((((w2.setCell ⟨g, 2, none⟩ v').setCell ⟨g2, 0, none⟩ (.string a.id)).setCell ⟨g2, 1, none⟩ vC).setCell ⟨g2, 2, none⟩ v') base { a with pr := a.pr ++ [(key, val)] } vC v' ∧
    Below base w1 ((((w2.setCell ⟨g, 2, none⟩ v').setCell ⟨g2, 0, none⟩ (.string a.id)).setCell ⟨g2, 1, none⟩ vC).setCell ⟨g2, 2, none⟩ v') := by
  have e1 : some g ≠ vP.ownBlock := fun e => own_g h.prs hb (by decide) g e.symm rfl
  have e2 : some g2 ≠ vP.ownBlock := fun e => own_g h.prs hb2 (by decide) g2 e.symm rfl
  have B1 := (hb.alloc (.cells #[.string key, .string val] 59)).grown hg e1
  have B2 := (hb2.alloc (.cells #[.string key, .string val] 59)).grown hg e2
  have B4 := B2.far (p := ⟨g, 2, none⟩) (by simp; omega) v'
  have hO : OwnA w2 base { a with pr := a.pr ++ [(key, val)] } vC v' := by
    refine ⟨(h.cls.alloc _).kept hg (own_ne h.cls h.prs (by decide)), ?_, by have := hg.size; have := h.le; simp at *; omega, h.c32, by simp; omega⟩
    show w2.ownsRow base 59 2 v' (a.pr ++ [(key, val)]).length (prs (a.pr ++ [(key, val)]))
    unfold prs at hown ⊢
    rw [List.length_append, List.flatMap_append]
    exact hown
  have o1 : ∀ k, v'.ownBlock = some k → g ≠ k := own_g hown B1 (by decide)
  have o3 : ∀ k, vC.ownBlock = some k → g ≠ k := own_g h.cls hb (by decide)
  have hO1 := hO.setCell (p := ⟨g, 2, none⟩) o3 o1 v'
  obtain ⟨f1, f2, f3⟩ := ritem_fin hO1 B4 (by omega)
  exact ⟨⟨B1, B2⟩, f1, f2, ((((Below.refl _ _).alloc h.le _).grown hg (by have := h.le; simp; omega) (fun k hk => (h.prs.lt k hk).1)).setCell (by simpa using hgb) _).trans f3⟩

end Go.Proofs.YthfienjmigidbaaDoor
namespace Go.Proofs.YthfienjmigidbaaDoor
open Go.RowKit Go.Pub

/-- What stands in memory at the head of the reference's loop. -/
structure RInv (w : World) (a : AttrL) (wr : World) : Prop where
  res : Blk wr w.heap.size 26 #[.string ⟨#[]⟩, .slice none 0 0, .slice none 0 0]
  att : AttrAt wr (w.heap.size + 1) (w.heap.size + 1 + 1) a
  bel : Below w.heap.size w wr

theorem rinv_start (w : World) : RInv w emptyA ((w.alloc (.cells #[.string ⟨#[]⟩, .slice none 0 0, .slice none 0 0] 26)).alloc (.cells #[.string ⟨#[]⟩, .slice none 0 0, .slice none 0 0] 26)) := by
  refine ⟨(Blk.new _ _ _).alloc _, ⟨.slice none 0 0, .slice none 0 0, ?_, World.ownsRow_nil _ _ _ _, World.ownsRow_nil _ _ _ _, by omega, by simp, by decide, by decide⟩, ((Below.refl _ _).alloc (Nat.le_refl _) _).alloc (by simp) _⟩
  have := Blk.new (w.alloc (.cells #[.string ⟨#[]⟩, .slice none 0 0, .slice none 0 0] 26)) 26 #[.string ⟨#[]⟩, .slice none 0 0, .slice none 0 0]
  show Blk _ _ _ #[.string ⟨#[]⟩, .slice none 0 0, .slice none 0 0]
  simpa using this

theorem rinv_fail {w wr : World} (hr : Blk wr w.heap.size 26 #[.string ⟨#[]⟩, .slice none 0 0, .slice none 0 0]) (hb : Below w.heap.size w wr) :
    Blk (((wr.setCell ⟨w.heap.size, 0, none⟩ (.string ⟨#[]⟩)).setCell ⟨w.heap.size, 1, none⟩ (.slice none 0 0)).setCell ⟨w.heap.size, 2, none⟩ (.slice none 0 0)) w.heap.size 26 #[.string ⟨#[]⟩, .slice none 0 0, .slice none 0 0] ∧
    AttrVal (((wr.setCell ⟨w.heap.size, 0, none⟩ (.string ⟨#[]⟩)).setCell ⟨w.heap.size, 1, none⟩ (.slice none 0 0)).setCell ⟨w.heap.size, 2, none⟩ (.slice none 0 0)) w.heap.size (.agg #[.string ⟨#[]⟩, .slice none 0 0, .slice none 0 0]) emptyA ∧
    Below w.heap.size w (((wr.setCell ⟨w.heap.size, 0, none⟩ (.string ⟨#[]⟩)).setCell ⟨w.heap.size, 1, none⟩ (.slice none 0 0)).setCell ⟨w.heap.size, 2, none⟩ (.slice none 0 0)) := by
  refine ⟨?_, ⟨⟨_, _, rfl, World.ownsRow_nil _ _ _ _, World.ownsRow_nil _ _ _ _⟩, by decide, by decide⟩, ((hb.setCell (by simp) _).setCell (by simp) _).setCell (by simp) _⟩
  have := ((hr.set_ 0 (.string ⟨#[]⟩)).set_ 1 (.slice none 0 0)).set_ 2 (.slice none 0 0)
  simpa using this

theorem rinv_done {w wr : World} {a : AttrL} {vC vP : Value} (h : RInv w a wr) (hA : AttrCells wr (w.heap.size + 1) (w.heap.size + 1 + 1) a vC vP) :
    Blk (((wr.setCell ⟨w.heap.size, 0, none⟩ (.string a.id)).setCell ⟨w.heap.size, 1, none⟩ vC).setCell ⟨w.heap.size, 2, none⟩ vP) w.heap.size 26 #[.string a.id, vC, vP] ∧
    AttrVal (((wr.setCell ⟨w.heap.size, 0, none⟩ (.string a.id)).setCell ⟨w.heap.size, 1, none⟩ vC).setCell ⟨w.heap.size, 2, none⟩ vP) w.heap.size (.agg #[.string a.id, vC, vP]) a ∧
    Below w.heap.size w (((wr.setCell ⟨w.heap.size, 0, none⟩ (.string a.id)).setCell ⟨w.heap.size, 1, none⟩ vC).setCell ⟨w.heap.size, 2, none⟩ vP) := by
  refine ⟨?_, ⟨⟨_, _, rfl, ?_, ?_⟩, hA.c32, hA.p32⟩, ((h.bel.setCell (by simp) _).setCell (by simp) _).setCell (by simp) _⟩
  · have := ((h.res.set_ 0 (.string a.id)).set_ 1 vC).set_ 2 vP
    simpa using this
  · exact own_base (ownsRow_setCell_below (ownsRow_setCell_below (ownsRow_setCell_below hA.cls (by simp; omega) _) (by simp; omega) _) (by simp; omega) _) (by omega)
  · exact own_base (ownsRow_setCell_below (ownsRow_setCell_below (ownsRow_setCell_below hA.prs (by simp; omega) _) (by simp; omega) _) (by simp; omega) _) (by omega)

/-- Behind an item: the attributes are stored in their block. -/
theorem rinv_next {w wr w1 : World} {a a1 : AttrL} {vC vP : Value} (h : RInv w a wr) (hb : Below (w.heap.size + 1 + 1) wr w1) (h1 : w1.ownsRow (w.heap.size + 1 + 1) 9 1 vC a1.cl.length (strs a1.cl)) (h2 : w1.ownsRow (w.heap.size + 1 + 1) 59 2 vP a1.pr.length (prs a1.pr)) (h3 : a1.cl.length ≤ 32) (h4 : a1.pr.length ≤ 32) (o : Obj) :
    (w.heap.size + 1 < w1.heap.size ∧ Blk w1 w.heap.size 26 #[.string ⟨#[]⟩, .slice none 0 0, .slice none 0 0] ∧ ∃ x y z, Blk w1 (w.heap.size + 1) 26 #[x, y, z]) ∧ Below w.heap.size w w1 ∧
    RInv w a1 ((((w1.setCell ⟨w.heap.size + 1, 0, none⟩ (.string a1.id)).setCell ⟨w.heap.size + 1, 1, none⟩ vC).setCell ⟨w.heap.size + 1, 2, none⟩ vP).alloc o) := by
  obtain ⟨uC, uP, hA⟩ := h.att
  have B1 := h.res.below hb (by omega)
  have B2 := hA.blk.below hb (by omega)
  have hbb := h.bel.trans (hb.mono (B' := w.heap.size) (by omega))
  have hsz : w.heap.size + 1 + 1 ≤ w1.heap.size := Nat.le_trans hA.le hb.size
  refine ⟨⟨by omega, B1, _, _, _, B2⟩, hbb, ?_⟩
  refine ⟨(((B1.far (by simp) _).far (by simp) _).far (by simp) _).alloc _, ⟨vC, vP, ?_, ?_, ?_, by omega, by simp [World.setCell]; omega, h3, h4⟩, ?_⟩
  · have := (((B2.set_ 0 (.string a1.id)).set_ 1 vC).set_ 2 vP).alloc o
    simpa using this
  · exact (ownsRow_setCell_below (ownsRow_setCell_below (ownsRow_setCell_below h1 (by simp) _) (by simp) _) (by simp) _).alloc _
  · exact (ownsRow_setCell_below (ownsRow_setCell_below (ownsRow_setCell_below h2 (by simp) _) (by simp) _) (by simp) _).alloc _
  · exact (((hbb.setCell (by simp) _).setCell (by simp) _).setCell (by simp) _).alloc (by simp [World.setCell]; omega) _

theorem rfail_ok (w : World) : Blk (w.alloc (.cells #[.string ⟨#[]⟩, .slice none 0 0, .slice none 0 0] 26)) w.heap.size 26 #[.string ⟨#[]⟩, .slice none 0 0, .slice none 0 0] ∧ AttrVal (w.alloc (.cells #[.string ⟨#[]⟩, .slice none 0 0, .slice none 0 0] 26)) w.heap.size (.agg #[.string ⟨#[]⟩, .slice none 0 0, .slice none 0 0]) emptyA ∧ Below w.heap.size w (w.alloc (.cells #[.string ⟨#[]⟩, .slice none 0 0, .slice none 0 0] 26)) :=
  ⟨Blk.new _ _ _, ⟨⟨_, _, rfl, World.ownsRow_nil _ _ _ _, World.ownsRow_nil _ _ _ _⟩, by decide, by decide⟩, (Below.refl _ _).alloc (Nat.le_refl _) _⟩

end Go.Proofs.YthfienjmigidbaaDoor
namespace Go.Proofs.YthfienjmigidbaaDoor
open Go.RowKit Go.Pub

def SmallA (n : Nat) (a : AttrL) : Prop := a.id.size ≤ n ∧ (∀ x ∈ a.cl, x.size ≤ n) ∧ (∀ p ∈ a.pr, p.1.size ≤ n ∧ p.2.size ≤ n)
theorem extract_le (s : ByteArray) (i j : Nat) : (s.extract i j).size ≤ s.size := by rw [ByteArray.size_extract]; omega
theorem valL_small (s : ByteArray) (i : Nat) : (valL s i).1.size ≤ s.size := by
  unfold valL
  split
  · cases hq : qv s s.size (i + 1) [] with
    | none => exact Nat.zero_le _
    | some p =>
      obtain ⟨l, j⟩ := p
      have := (qv_len s _ _ _ l j hq).1
      show (mk l).size ≤ _
      rw [← bytesL_length, bytesL_mk']
      simp at this
      omega
  · exact extract_le _ _ _
theorem classA_small (n : Nat) (a : AttrL) (x : ByteArray) (h : SmallA n a) (hx : x.size ≤ n) : SmallA n (classA a x) := by
  unfold classA
  split
  · refine ⟨h.1, fun y hy => ?_, h.2.2⟩
    rcases List.mem_append.1 hy with hy | hy
    · exact h.2.1 y hy
    · simp at hy; subst hy; exact hx
  · exact h
theorem pairA_small (n : Nat) (a : AttrL) (x y : ByteArray) (h : SmallA n a) (hx : x.size ≤ n) (hy : y.size ≤ n) : SmallA n (pairA a x y) := by
  unfold pairA
  split
  · refine ⟨h.1, h.2.1, fun p hp => ?_⟩
    rcases List.mem_append.1 hp with hp | hp
    · exact h.2.2 p hp
    · simp at hp; subst hp; exact ⟨hx, hy⟩
  · exact h
theorem itemL_small (s : ByteArray) (a : AttrL) (i : Nat) (h : SmallA s.size a) : SmallA s.size (itemL a s i).2.2 := by
  unfold itemL
  split
  · split
    · split
      · exact ⟨extract_le _ _ _, h.2.1, h.2.2⟩
      · exact h
    · exact h
  · split
    · split
      · exact classA_small _ _ _ h (extract_le _ _ _)
      · exact h
    · split
      · unfold pairItem
        split
        · split
          · exact pairA_small _ _ _ _ h (extract_le _ _ _) (valL_small _ _)
          · exact h
        · exact h
      · exact h
theorem emptyA_small (n : Nat) : SmallA n emptyA := ⟨Nat.zero_le _, fun x hx => absurd hx (by simp [emptyA]), fun x hx => absurd hx (by simp [emptyA])⟩
theorem parseF_small (s : ByteArray) : ∀ f i b a, SmallA s.size a → SmallA s.size (parseF s f i b a).1
  | 0, _, _, _, _ => emptyA_small _
  | f + 1, i, b, a, h => by
    unfold parseF
    split
    · split
      · exact h
      · split
        · exact emptyA_small _
        · split
          · exact parseF_small s f _ _ _ (itemL_small s a i h)
          · exact emptyA_small _
    · exact emptyA_small _
theorem parseL_small (s : ByteArray) (i : Int) : SmallA s.size (parseL s i).1 := by
  unfold parseL
  split
  · exact parseF_small s _ _ _ _ (emptyA_small _)
  · exact emptyA_small _
theorem AttrVal.read {w : World} {base : Nat} {v : Value} {a : AttrL} {n : Nat} (h : AttrVal w base v a) (hs : SmallA n a) (hn : n ≤ 1000000) :
    ∃ A c D d, v = .agg #[.string a.id, .slice A a.cl.length c, .slice D a.pr.length d] ∧ ReadA w w.heap.size a A c D d ∧ a.cl.length ≤ c ∧ a.pr.length ≤ d := by
  obtain ⟨⟨vC, vP, rfl, hc, hp⟩, h1, h2⟩ := h
  obtain ⟨A, c, rfl⟩ := own_slice hc
  obtain ⟨D, d, rfl⟩ := own_slice hp
  refine ⟨A, c, D, d, rfl, ⟨Reads.of_own hc, Reads.of_own hp, Nat.le_refl _, by omega, by omega, Nat.le_trans hs.1 hn, fun x hx => Nat.le_trans (hs.2.1 x hx) hn, fun x hx => ⟨Nat.le_trans (hs.2.2 x hx).1 hn, Nat.le_trans (hs.2.2 x hx).2 hn⟩⟩, ?_, ?_⟩
  · rcases hc.2 with ⟨e1, e2⟩ | ⟨g', cap', cur', e1, _, _, e2, _⟩
    · omega
    · injection e1 with _ _ e3; omega
  · rcases hp.2 with ⟨e1, e2⟩ | ⟨g', cap', cur', e1, _, _, e2, _⟩
    · omega
    · injection e1 with _ _ e3; omega

/-- What Parse gives, ready to be read. -/
def ReadyPost (r : AttrL × Nat × Nat) (w : World) (e : Ending) (w' : World) : Prop :=
  ∃ A c D d, e = .returned (.tuple #[.agg #[.string r.1.id, .slice A r.1.cl.length c, .slice D r.1.pr.length d], .int .i64 r.2.1, .int .i64 r.2.2]) ∧ ReadA w' w'.heap.size r.1 A c D d ∧ r.1.cl.length ≤ c ∧ r.1.pr.length ≤ d ∧ Below w.heap.size w w'
theorem parse_ready (w : World) (s : ByteArray) (i : Int) (hs : s.size ≤ 1000000) : Calls Tryd.prog 41 #[.string s, .int .i64 i] w (ReadyPost (parseL s i) w) := by
  refine (parse_any w s i hs).mono ?_
  rintro e w' ⟨v, rfl, hv, hb⟩
  obtain ⟨A, c, D, d, rfl, h1, h2, h3⟩ := hv.read (parseL_small s i) hs
  exact ⟨A, c, D, d, rfl, h1, h2, h3, hb⟩
theorem rsame_true (w : World) (a : AttrL) (A : Option Addr) (c : Nat) (D : Option Addr) (d B : Nat) (A' : Option Addr) (c' : Nat) (D' : Option Addr) (d' B' : Nat) (h : ReadA w B a A c D d) (h' : ReadA w B' a A' c' D' d') :
    Calls Tryd.prog 23 #[.agg #[.string a.id, .slice A a.cl.length c, .slice D a.pr.length d], .agg #[.string a.id, .slice A' a.cl.length c', .slice D' a.pr.length d']] w fun e w' => e = .returned (.bool true) ∧ Below w.heap.size w w' := by
  refine (rsame_any w a a A c D d B A' c' D' d' B' h h').mono ?_
  rintro e w' ⟨r, rfl, hr, hb⟩
  exact ⟨by rw [hr.2 rfl], hb⟩
end Go.Proofs.YthfienjmigidbaaDoor
namespace Go.Proofs.YthfienjmigidbaaDoor
open Go.RowKit Go.Pub

def optA : Option AttrL → AttrL × Bool
  | some a => (a, true)
  | none => (emptyA, false)
def closeD (c : ByteArray) (K N : Int) (ch : ByteArray) : AttrL × Bool :=
  if K = 7 then (emptyA, decide (ch.size = 1 ∧ 1 ≤ N) && (decide (N ≤ (firstN c (· != bt ch 0) : Int)) && blankB (c.extract (firstN c (· != bt ch 0)) c.size)))
  else if K = 8 then (if Lib.hasPrefix (bytesL c) [36, 36] = true then optA (onlyR (c.extract 2 c.size)) else (emptyA, false))
  else if K = 9 then (emptyA, decide (1 ≤ N) && (decide ((firstN c (· != 58) : Int) = N) && blankB (c.extract (firstN c (· != 58)) c.size)))
  else (emptyA, false)
def closesM (s : ByteArray) (K N : Int) (ch : ByteArray) : AttrL × Bool := if 3 < indA s 0 then (emptyA, false) else closeD (s.extract (indA s 0) s.size) K N ch
/-- Attributes and whether a line closes are handed back. -/
def ClPost (r : AttrL × Bool) (w : World) (e : Ending) (w' : World) : Prop := (∃ vC vP, e = .returned (.tuple #[.agg #[.string r.1.id, vC, vP], .bool r.2]) ∧ OwnA w' w.heap.size r.1 vC vP) ∧ Below w.heap.size w w'
theorem small_mono {n m : Nat} {a : AttrL} (h : SmallA n a) (hn : n ≤ m) : SmallA m a := ⟨Nat.le_trans h.1 hn, fun x hx => Nat.le_trans (h.2.1 x hx) hn, fun p hp => ⟨Nat.le_trans (h.2.2 p hp).1 hn, Nat.le_trans (h.2.2 p hp).2 hn⟩⟩
theorem onlyR_small (s : ByteArray) (a : AttrL) (h : onlyR s = some a) : SmallA s.size a := by
  have hz : (mk (trimS (bytesL s))).size ≤ s.size := by rw [mk_size]; have := trimS_len (bytesL s); rwa [bytesL_length] at this
  unfold onlyR at h
  split at h
  · injection h with h; subst h; exact emptyA_small _
  · split at h
    · injection h with h; subst h; exact small_mono (parseL_small _ _) hz
    · cases h
theorem closesM_small (s : ByteArray) (K N : Int) (ch : ByteArray) : SmallA s.size (closesM s K N ch).1 := by
  unfold closesM
  split
  · exact emptyA_small _
  unfold closeD
  split
  · exact emptyA_small _
  split
  · split
    · cases h : onlyR ((s.extract (indA s 0) s.size).extract 2 (s.extract (indA s 0) s.size).size) with
      | none => exact emptyA_small _
      | some a => exact small_mono (onlyR_small _ _ h) (Nat.le_trans (extract_le _ _ _) (extract_le _ _ _))
    · exact emptyA_small _
  split
  · exact emptyA_small _
  · exact emptyA_small _
end Go.Proofs.YthfienjmigidbaaDoor
