/-
  Texts of the proof, put together (what this law reaches): Blk, AttrD, AttrF, AttrG, AttrH, MkA, AttrI, MkC, Tk, RefD.
-/
import Derived.Test.YtcjkgmfidkgamaaGreatDoorD01
import Derived.Deep.Draws
import Derived.Laws.Rows
import Derived.Test.YtcjkgmfidkgamaaGreatDoorD03
import Derived.RegionTactic
import Derived.Outline
import Derived.Test.YtcjkgmfidkgamaaGreatDoorD02
import Derived.Deep.RegionHeld
set_option linter.unusedVariables false
set_option linter.unusedSimpArgs false
namespace Go.Pub
open Go.RowKit
def Blk (w : World) (g : Nat) (t : TypeId) (cs : Array Value) : Prop := w.heap[g]? = some (.cells cs t (0, 0))
section
variable {w w' : World} {g : Nat} {t : TypeId} {cs : Array Value}
theorem Blk.lt (h : Blk w g t cs) : g < w.heap.size := by
  rcases Nat.lt_or_ge g w.heap.size with hlt | hge
  · exact hlt
  · unfold Blk at h; rw [Array.getElem?_eq_none hge] at h; cases h
theorem Blk.cell (h : Blk w g t cs) (i : Nat) : w.cell? ⟨g, i, none⟩ = cs[i]? := cell_of_row w g i cs t (0, 0) h
theorem Blk.frozen (h : Blk w g t cs) (i : Nat) : w.frozen? ⟨g, i, none⟩ = false := by
  unfold Blk at h
  simp [World.frozen?, h]
theorem Blk.new (w : World) (t : TypeId) (cs : Array Value) : Blk (w.alloc (.cells cs t)) w.heap.size t cs := heap_alloc_new w _
theorem Blk.drewN (h : Blk w g t cs) (n : Nat) : Blk (w.drewN n) g t cs := h
theorem Blk.alloc (h : Blk w g t cs) (o : Obj) : Blk (w.alloc o) g t cs := (Below.heap_alloc w o g h.lt).trans h
theorem Blk.set_ (h : Blk w g t cs) (i : Nat) (u : Value) : Blk (w.setCell ⟨g, i, none⟩ u) g t (cs.setIfInBounds i u) := by
  unfold Blk at h ⊢
  simp [World.setCell, Array.getElem?_modify, h]
theorem Blk.far (h : Blk w g t cs) {p : Addr} (hp : g ≠ p.block) (u : Value) : Blk (w.setCell p u) g t cs := (Below.heap_setCell w p u g hp).trans h
theorem Blk.below {B : Nat} (h : Blk w g t cs) (hb : Below B w w') (hg : g < B) : Blk w' g t cs := (hb.block g hg).trans h
theorem Blk.grown {row : Option Nat} (h : Blk w g t cs) (hb : w.grownBy w' row) (hg : some g ≠ row) : Blk w' g t cs := (hb.block g h.lt hg).trans h
end
/-- Below block B all but block g is as it was. -/
structure BelowBut (g B : Nat) (w w' : World) : Prop where
  os : w'.os = w.os
  tape : w'.tape = w.tape
  output : w'.output = w.output
  size : w.heap.size ≤ w'.heap.size
  block : ∀ k, k < B → k ≠ g → w'.heap[k]? = w.heap[k]?
section
variable {g B : Nat} {a b c w w' : World}
theorem BelowBut.of (h : Below B a b) : BelowBut g B a b := ⟨h.os, h.tape, h.output, h.size, fun k hk _ => h.block k hk⟩
theorem BelowBut.refl : BelowBut g B a a := .of (Below.refl _ _)
theorem BelowBut.trans (h : BelowBut g B a b) (k : BelowBut g B b c) : BelowBut g B a c :=
  ⟨k.os.trans h.os, k.tape.trans h.tape, k.output.trans h.output, Nat.le_trans h.size k.size, fun i hi hg => (k.block i hi hg).trans (h.block i hi hg)⟩
theorem BelowBut.store (h : BelowBut g B a b) (i : Nat) (u : Value) : BelowBut g B a (b.setCell ⟨g, i, none⟩ u) :=
  h.trans ⟨rfl, rfl, rfl, by simp [World.setCell], fun k _ hg => Below.heap_setCell _ _ _ _ hg⟩
theorem BelowBut.below {B' : Nat} (h : BelowBut g B a b) (hB : B' ≤ B) (hg : B' ≤ g) : Below B' a b := ⟨h.os, h.tape, h.output, h.size, fun k hk => h.block k (by omega) (by omega)⟩
theorem BelowBut.blk {g' : Nat} {t : TypeId} {cs : Array Value} (h : BelowBut g B a b) (hk : Blk a g' t cs) (h1 : g' < B) (h2 : g' ≠ g) : Blk b g' t cs := (h.block g' h1 h2).trans hk
end
end Go.Pub
namespace Go.Proofs.YtcjkgmfidkgamaaGreatDoor
open Go.RowKit Go.Pub
structure AttrCells (w : World) (g base : Nat) (a : AttrL) (vC vP : Value) : Prop where
  blk : Blk w g 30 #[.string a.id, vC, vP]
  cls : w.ownsRow base 9 1 vC a.cl.length (strs a.cl)
  prs : w.ownsRow base 112 2 vP a.pr.length (prs a.pr)
  lt : g < base
  le : base ≤ w.heap.size
  c32 : a.cl.length ≤ 32
  p32 : a.pr.length ≤ 32
def AttrAt (w : World) (g base : Nat) (a : AttrL) : Prop := ∃ vC vP, AttrCells w g base a vC vP
theorem AttrCells.below {w w' : World} {g base : Nat} {a : AttrL} {vC vP : Value} (h : AttrCells w g base a vC vP) (hb : Below w.heap.size w w') : AttrCells w' g base a vC vP :=
  ⟨h.blk.below hb (by have := h.lt; have := h.le; omega), own_below h.cls hb, own_below h.prs hb, h.lt, Nat.le_trans h.le hb.size, h.c32, h.p32⟩
theorem str_info : (Tryz.prog.info? 9).map (fun i => (i.zero, i.size, i.bytes)) = some (some (.string ⟨#[]⟩), 1, 16) := by kernel_rfl
end Go.Proofs.YtcjkgmfidkgamaaGreatDoor
namespace Go.Proofs.YtcjkgmfidkgamaaGreatDoor
open Go.RowKit Go.Pub
theorem AttrAt.below {w w' : World} {g base : Nat} {a : AttrL} (h : AttrAt w g base a) (hb : Below w.heap.size w w') : AttrAt w' g base a := by
  obtain ⟨vC, vP, h⟩ := h
  exact ⟨vC, vP, h.below hb⟩
theorem AttrAt.le {w : World} {g base : Nat} {a : AttrL} (h : AttrAt w g base a) : base ≤ w.heap.size := by
  obtain ⟨vC, vP, h⟩ := h
  exact h.le
end Go.Proofs.YtcjkgmfidkgamaaGreatDoor
namespace Go.Pub
open Go.RowKit
def spEnd (s : ByteArray) : Nat → Nat → Nat
  | 0, i => i
  | f + 1, i => if i < s.size ∧ bt s i = 32 then spEnd s f (i + 1) else i
def spAt (s : ByteArray) (i : Nat) : Nat := spEnd s (s.size - i) i
theorem spEnd_step (s : ByteArray) (f i : Nat) (h : i < s.size) (hp : bt s i = 32) (hf : s.size - i ≤ f) : spEnd s f i = spEnd s (f - 1) (i + 1) := by
  obtain ⟨g, rfl⟩ : ∃ g, f = g + 1 := ⟨f - 1, by omega⟩
  simp [spEnd, h, hp]
theorem spEnd_stop (s : ByteArray) (f i : Nat) (h : ¬ (i < s.size ∧ bt s i = 32)) : spEnd s f i = i := by
  cases f with
  | zero => rfl
  | succ f => simp only [spEnd]; rw [if_neg h]
theorem spEnd_bd (s : ByteArray) : ∀ f i, i ≤ spEnd s f i ∧ (i ≤ s.size → spEnd s f i ≤ s.size)
  | 0, i => ⟨Nat.le_refl _, fun h => h⟩
  | f + 1, i => by
    unfold spEnd
    split
    · rename_i h
      have := spEnd_bd s f (i + 1)
      exact ⟨by omega, fun _ => this.2 (by omega)⟩
    · exact ⟨Nat.le_refl _, fun h => h⟩
end Go.Pub
namespace Go.Proofs.YtcjkgmfidkgamaaGreatDoor
open Go.RowKit Go.Pub
end Go.Proofs.YtcjkgmfidkgamaaGreatDoor
namespace Go.Proofs.YtcjkgmfidkgamaaGreatDoor
open Go.RowKit Go.Pub
def emptyA : AttrL := ⟨⟨#[]⟩, [], []⟩
structure AttrVal (w : World) (base : Nat) (v : Value) (a : AttrL) : Prop where
  val : ∃ vC vP, v = .agg #[.string a.id, vC, vP] ∧ w.ownsRow base 9 1 vC a.cl.length (strs a.cl) ∧ w.ownsRow base 112 2 vP a.pr.length (prs a.pr)
  c32 : a.cl.length ≤ 32
  p32 : a.pr.length ≤ 32
end Go.Proofs.YtcjkgmfidkgamaaGreatDoor
namespace Go.Pub
/-- The n bytes from i on of s are those from i' on of s'. -/
def Agr (s : ByteArray) (i : Nat) (s' : ByteArray) (i' n : Nat) : Prop := ∃ p r r', sfx s i = p ++ r ∧ sfx s' i' = p ++ r' ∧ p.length = n
section
variable {s s' : ByteArray} {i i' n : Nat}
theorem sfx_add (s : ByteArray) (i j : Nat) : sfx s (i + j) = (sfx s i).drop j := by unfold sfx; rw [List.drop_drop]
theorem Agr.tail (h : Agr s i s' i' n) {j : Nat} (hj : j ≤ n) : Agr s (i + j) s' (i' + j) (n - j) := by
  obtain ⟨p, r, r', h1, h2, h3⟩ := h
  refine ⟨p.drop j, r, r', ?_, ?_, by rw [List.length_drop]; omega⟩
  · rw [sfx_add, h1, List.drop_append_of_le_length (by omega)]
  · rw [sfx_add, h2, List.drop_append_of_le_length (by omega)]
theorem Agr.at (h : Agr s i s' i' n) {j : Nat} (hj : j < n) : i + j < s.size ∧ i' + j < s'.size ∧ s.get! (i + j) = s'.get! (i' + j) := by
  obtain ⟨p, r, r', h1, h2, h3⟩ := h.tail (Nat.le_of_lt hj)
  cases p with
  | nil => simp at h3; omega
  | cons c p =>
    have l1 : i + j < s.size := by have := congrArg List.length h1; rw [sfx_len, List.length_append, List.length_cons] at this; omega
    have l2 : i' + j < s'.size := by have := congrArg List.length h2; rw [sfx_len, List.length_append, List.length_cons] at this; omega
    rw [sfx_cons s _ l1] at h1
    rw [sfx_cons s' _ l2] at h2
    injection h1 with h1 _
    injection h2 with h2 _
    exact ⟨l1, l2, h1.trans h2.symm⟩
end
theorem wordAt_bd (s : ByteArray) (k : Nat) : k ≤ wordAt s k ∧ (k ≤ s.size → wordAt s k ≤ s.size) := wEnd_bd s _ k
theorem spEnd_spec (s : ByteArray) : ∀ (f k : Nat), s.size ≤ k + f → (∀ j, k ≤ j → j < spEnd s f k → bt s j = 32) ∧ ¬ (spEnd s f k < s.size ∧ bt s (spEnd s f k) = 32)
  | 0, k, h => ⟨fun j h1 h2 => by simp only [spEnd] at h2; omega, fun h2 => by simp only [spEnd] at h2; omega⟩
  | f + 1, k, h => by
    by_cases hk : k < s.size ∧ bt s k = 32
    · have e : spEnd s (f + 1) k = spEnd s f (k + 1) := by simp only [spEnd]; rw [if_pos hk]
      rw [e]
      obtain ⟨h1, h2⟩ := spEnd_spec s f (k + 1) (by omega)
      refine ⟨fun j hj hl => ?_, h2⟩
      by_cases hjk : j = k
      · subst hjk; exact hk.2
      · exact h1 j (by omega) hl
    · have e : spEnd s (f + 1) k = k := spEnd_stop s _ k hk
      rw [e]
      exact ⟨fun j hj hl => by omega, hk⟩
theorem spAt_spec (s : ByteArray) (k : Nat) : (∀ j, k ≤ j → j < spAt s k → bt s j = 32) ∧ ¬ (spAt s k < s.size ∧ bt s (spAt s k) = 32) := by
  unfold spAt
  rcases Nat.lt_or_ge s.size k with h | h
  · have : s.size - k = 0 := by omega
    rw [this]
    exact ⟨fun j h1 h2 => by simp only [spEnd] at h2; omega, fun h2 => by simp only [spEnd] at h2; omega⟩
  · exact spEnd_spec s (s.size - k) k (by omega)
section
variable {s s' : ByteArray} {i i' n : Nat}
end
end Go.Pub
namespace Go.Proofs.YtcjkgmfidkgamaaGreatDoor
open Go.RowKit Go.Pub
section
variable {s s' : ByteArray} {i i' n : Nat}
end
end Go.Proofs.YtcjkgmfidkgamaaGreatDoor
namespace Go.Proofs.YtcjkgmfidkgamaaGreatDoor
open Go.RowKit Go.Pub
/-- Attributes by value, their rows the caller's own. -/
structure OwnA (w : World) (base : Nat) (a : AttrL) (vC vP : Value) : Prop where
  cls : w.ownsRow base 9 1 vC a.cl.length (strs a.cl)
  prs : w.ownsRow base 112 2 vP a.pr.length (prs a.pr)
  le : base ≤ w.heap.size
  c32 : a.cl.length ≤ 32
  p32 : a.pr.length ≤ 32
theorem OwnA.below {w w' : World} {base : Nat} {a : AttrL} {vC vP : Value} (h : OwnA w base a vC vP) (hb : Below w.heap.size w w') : OwnA w' base a vC vP :=
  ⟨own_below h.cls hb, own_below h.prs hb, Nat.le_trans h.le hb.size, h.c32, h.p32⟩
theorem OwnA.val {w : World} {base : Nat} {a : AttrL} {vC vP : Value} (h : OwnA w base a vC vP) : AttrVal w base (.agg #[.string a.id, vC, vP]) a := ⟨⟨vC, vP, rfl, h.cls, h.prs⟩, h.c32, h.p32⟩
theorem OwnA.setCell {w : World} {base : Nat} {a : AttrL} {vC vP : Value} (h : OwnA w base a vC vP) {p : Addr} (h1 : ∀ k, vC.ownBlock = some k → p.block ≠ k) (h2 : ∀ k, vP.ownBlock = some k → p.block ≠ k) (u : Value) : OwnA (w.setCell p u) base a vC vP := by
  have hg : w.grownBy (w.setCell p u) (some p.block) := ⟨rfl, rfl, rfl, by simp [World.setCell], fun k _ hk => Below.heap_setCell _ _ _ _ (fun e => hk (by rw [e]))⟩
  refine ⟨h.cls.kept hg ?_, h.prs.kept hg ?_, by simpa [World.setCell] using h.le, h.c32, h.p32⟩
  · cases hv : vC.ownBlock with
    | none => exact Or.inl rfl
    | some b => right; intro e; injection e with e; exact h1 b hv e.symm
  · cases hv : vP.ownBlock with
    | none => exact Or.inl rfl
    | some b => right; intro e; injection e with e; exact h2 b hv e.symm
end Go.Proofs.YtcjkgmfidkgamaaGreatDoor
namespace Go.Proofs.YtcjkgmfidkgamaaGreatDoor
open Go.RowKit Go.Pub
/-- A mark. -/
structure MkL where
  kind : Nat := 0
  n : Nat := 0
  ch : ByteArray := ⟨#[]⟩
  off : Nat := 0
  info : ByteArray := ⟨#[]⟩
  rest : ByteArray := ⟨#[]⟩
  dest : ByteArray := ⟨#[]⟩
  title : ByteArray := ⟨#[]⟩
  att : AttrL := emptyA
def MkL.cells (m : MkL) (vC vP : Value) : Array Value := #[.int .i64 m.kind, .int .i64 m.n, .string m.ch, .int .i64 m.off, .string m.info, .string m.rest, .string m.dest, .string m.title, .string m.att.id, vC, vP]
end Go.Proofs.YtcjkgmfidkgamaaGreatDoor
namespace Go.Proofs.YtcjkgmfidkgamaaGreatDoor
open Go.RowKit Go.Pub
section
variable {P : Program} {ops : Array Oper} {Q : Exit → Act → World → Prop} {S : World → Prop} {fuel : Nat} {listed : Array Bool} {a : Act} {w : World}
/-- An operation that only reads is taken first. -/
theorem tk (i : Nat) (v : Value) {oi : Oper} (hi : ops[i]? = some oi) (hS : S w) (hy : ∀ w, S w → (execOp a.eval oi).run P w = .ok (.value v) w)
    (h : wpAnyH P .any ops Q S fuel (listed.setIfInBounds i true) (a.put oi.dst v) w)
    (hs : Region.noSelect ops = true := by kernel_rfl) (hf : Region.free .any ops listed i = true := by kernel_rfl) (hr : (Region.ready .any ops listed).contains i = true := by kernel_rfl)
    (hw : Region.wanted oi (yielded ops a.tmps) = true := by kernel_rfl) (hQ : ∀ c a w, Q (.panic c) (a.put oi.dst v) w → Q (.panic c) a w := by exact fun _ _ _ h => h) : wpAnyH P .any ops Q S (fuel + 1) listed a w :=
  wpAnyH_take hi hs hf hr hQ (Or.inl ⟨hw, hy⟩) hS h
/-- The one that is ready. -/
theorem rd1 (i : Nat) {o : Oper} (ho : ops[i]? = some o) (h : ∀ K' : Act → World → Prop, Shut (∀ a w, S w → (S w → wpAnyH P .any ops Q S fuel (listed.setIfInBounds i true) a w) → K' a w) → if Region.wanted o (yielded ops a.tmps) = true then Oper.wp P o a w K' Q else K' (a.put o.dst undef) w)
    (hr : Region.ready .any ops listed = [i] := by kernel_rfl) : wpAnyH P .any ops Q S (fuel + 1) listed a w :=
  wpAnyH_ready hr (by simp) (AllReadyH.cons ho h AllReadyH.nil)
end
end Go.Proofs.YtcjkgmfidkgamaaGreatDoor
namespace Go.Proofs.YtcjkgmfidkgamaaGreatDoor
open Go.RowKit Go.Pub
set_option maxRecDepth 100000 in
set_option maxHeartbeats 400000 in
theorem rSpace_any (c : Int) (w : World) : Calls Tryz.prog 127 #[.int .i64 c] w fun e w' => e = .returned (.bool (spaceB c)) ∧ w = w' := by
  have H : Hid (spaceB c = (c == 32 || c == 10)) := Lib.hid rfl
  generalize spaceB c = b at *
  go_enter Tryz.func127, Tryz.ntmps127
  go_wp2
  all_goals
    go_ret
    exact ⟨ret_bool (by rw [H.out] <;> simp_all), rfl⟩

/-- A list of ranges in memory, from the head of block g on. -/
def RangesAt (w : World) (g : Nat) (l : List (Int × Int)) : Prop := g < w.heap.size ∧ ∀ k p, l[k]? = some p → w.cell? ⟨g, k * 2, none⟩ = some (.int .i64 p.1) ∧ w.cell? ⟨g, k * 2 + 1, none⟩ = some (.int .i64 p.2)
set_option maxRecDepth 100000 in
set_option maxHeartbeats 2000000 in
theorem in_any (c : Int) (g cap : Nat) (l : List (Int × Int)) (w : World) (hl : l.length ≤ 1000) (h : RangesAt w g l) :
    Calls Tryz.prog 151 #[.int .i64 c, .slice (some ⟨g, 0, none⟩) l.length cap] w fun e w' => e = .returned (.bool (inB c l)) ∧ Below w.heap.size w w' := by
  have HI : Hid (∀ k, inB c l = (inB c (l.take k) || inB c (l.drop k))) := Lib.hid fun k => by unfold inB; rw [← List.any_append, List.take_append_drop]
  generalize inB c l = R at *
  go_enter Tryz.func151, Tryz.ntmps151
  go_wp2
  go_loopw [9] (fun i wr => ∃ k : Nat, i = .int .i64 k ∧ k ≤ l.length ∧ Below w.heap.size w wr ∧ inB c (l.take k) = false) (fun i _ => l.length - (intOf i).toNat)
  case atStart => exact ⟨0, rfl, by omega, Below.refl _ w, rfl⟩
  case round =>
    obtain ⟨k, rfl, hk, hb, hno⟩ := hrel
    have Hno := Lib.hid hno
    clear hno
    by_cases hlt : k < l.length
    · have hp := h.2 k l[k] (List.getElem?_eq_getElem hlt)
      have hdrop : Hid (inB c (l.drop k) = ((decide (l[k].1 ≤ c) && decide (c ≤ l[k].2)) || inB c (l.drop (k + 1)))) := Lib.hid (by rw [List.drop_eq_getElem_cons hlt]; rfl)
      have htake : Hid (inB c (l.take (k + 1)) = (inB c (l.take k) || (decide (l[k].1 ≤ c) && decide (c ≤ l[k].2)))) := Lib.hid (by rw [List.take_succ_eq_append_getElem hlt]; unfold inB; rw [List.any_append]; simp)
      generalize l[k] = p at *
      have hc0 : wr.cell? ⟨g, k * 2, none⟩ = some (.int .i64 p.1) := (hb.cell (p := ⟨g, k * 2, none⟩) h.1).trans hp.1
      have hc1 : wr.cell? ⟨g, k * 2 + 1, none⟩ = some (.int .i64 p.2) := (hb.cell (p := ⟨g, k * 2 + 1, none⟩) h.1).trans hp.2
      have hz := hb.size
      clear hp
      by_cases c1 : p.1 ≤ c
      · by_cases c2 : c ≤ p.2
        · go_wp2
          go_ret
          exact ⟨ret_bool (by rw [HI.out k, Hno.out, hdrop.out]; simp [c1, c2]), hb.alloc hz _⟩
        · have d2 : decide (c ≤ p.2) = false := by simpa using c2
          go_wp2
          go_roundw
          case rel => exact ⟨k + 1, by go_num, by omega, hb.alloc hz _, by rw [htake.out, Hno.out]; simp; omega⟩
          case measure => simp [intOf]; omega
      · have d1 : decide (p.1 ≤ c) = false := by simpa using c1
        go_wp2
        go_roundw
        case rel => exact ⟨k + 1, by go_num, by omega, hb.alloc hz _, by rw [htake.out, Hno.out]; simp; omega⟩
        case measure => simp [intOf]; omega
    · obtain rfl : k = l.length := by omega
      have hR : Hid (R = false) := Lib.hid (by rw [HI.out l.length, Hno.out, List.drop_length]; rfl)
      go_wp2
      go_ret
      exact ⟨ret_bool hR.out.symm, hb⟩

set_option maxRecDepth 100000 in
set_option maxHeartbeats 2000000 in
theorem rPunct_any (c : Int) (w : World) : Calls Tryz.prog 128 #[.int .i64 c] w fun e w' => e = .returned (.bool (inB c punctL)) ∧ Below w.heap.size w w' := by
  go_enter Tryz.func128, Tryz.ntmps128
  go_wp2_with fail
  refine (in_any c w.heap.size 13 punctL _ (by decide) ?_).mono ?_
  · refine ⟨by simp, fun k p hk => ?_⟩
    have hk' : k < 13 := (List.getElem?_eq_some_iff.1 hk).1
    match k, hk' with
    | 0, _ | 1, _ | 2, _ | 3, _ | 4, _ | 5, _ | 6, _ | 7, _ | 8, _ | 9, _ | 10, _ | 11, _ | 12, _ => simp [punctL] at hk; subst hk; simp
  · rintro e w1 ⟨rfl, hb⟩
    go_wp2
    go_ret
    exact ⟨rfl, ((Below.refl _ w).alloc (Nat.le_refl _) _).trans (hb.mono (by simp))⟩

end Go.Proofs.YtcjkgmfidkgamaaGreatDoor
