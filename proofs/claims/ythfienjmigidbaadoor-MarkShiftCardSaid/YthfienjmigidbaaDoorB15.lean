/-
  Texts of the proof, put together: RefD, LinkH.
-/
import Derived.Test.YthfienjmigidbaaDoorB02
import Derived.Test.YthfienjmigidbaaDoorB04
import Derived.Test.YthfienjmigidbaaDoorB05
import Derived.Test.YthfienjmigidbaaDoorB09
import Derived.Test.YthfienjmigidbaaDoorB10
set_option linter.unusedVariables false
set_option linter.unusedSimpArgs false
namespace Go.Proofs.YthfienjmigidbaaDoor
open Go.RowKit Go.Pub


/-- A list of ranges in memory, from the head of block g on. -/
def RangesAt (w : World) (g : Nat) (l : List (Int × Int)) : Prop := g < w.heap.size ∧ ∀ k p, l[k]? = some p → w.cell? ⟨g, k * 2, none⟩ = some (.int .i64 p.1) ∧ w.cell? ⟨g, k * 2 + 1, none⟩ = some (.int .i64 p.2)



end Go.Proofs.YthfienjmigidbaaDoor
namespace Go.Proofs.YthfienjmigidbaaDoor
open Go.RowKit Go.Pub

def RURel (s : ByteArray) (R : List UInt8) (w : World) (v i : Value) (wr : World) : Prop :=
  ∃ (k : Nat) (acc : List UInt8), i = .int .i64 k ∧ k ≤ s.size ∧ wr.ownsRow w.heap.size 5 1 v acc.length (Lib.byteCells acc) ∧ Below w.heap.size w wr ∧ Hid (acc ++ unescL (sfx s k) = R) ∧ acc.length ≤ k

/-- A part as the reference has it. -/
def partVal : Option (List UInt8 × Nat) → Value
  | none => .agg #[.string ⟨#[]⟩, .int .i64 0, .bool false]
  | some p => .agg #[.string (mk p.1), .int .i64 p.2, .bool true]
def RPartPost (r : Option (List UInt8 × Nat)) (w : World) (e : Ending) (w' : World) : Prop := e = .returned (partVal r) ∧ Below w.heap.size w w'

theorem blk3 {W : World} {g : Nat} {T : TypeId} {cs : Array Value} (h : Blk W g T cs) (hl : cs.size = 3) (x y z : Value) : Blk (((W.setCell ⟨g, 0, none⟩ x).setCell ⟨g, 1, none⟩ y).setCell ⟨g, 2, none⟩ z) g T #[x, y, z] := by
  have := ((h.set_ 0 x).set_ 1 y).set_ 2 z
  have e : ((cs.setIfInBounds 0 x).setIfInBounds 1 y).setIfInBounds 2 z = #[x, y, z] := by
    apply Array.ext
    · simp [hl]
    · intro i h1 h2
      simp at h2
      match i, h2 with
      | 0, _ => simp [hl]
      | 1, _ => simp [hl]
      | 2, _ => simp [hl]
  rw [e] at this
  exact this
theorem below3 {B : Nat} {w W : World} (h : Below B w W) {g : Nat} (hg : B ≤ g) (x y z : Value) : Below B w (((W.setCell ⟨g, 0, none⟩ x).setCell ⟨g, 1, none⟩ y).setCell ⟨g, 2, none⟩ z) :=
  ((h.setCell (p := ⟨g, 0, none⟩) hg x).setCell (p := ⟨g, 1, none⟩) hg y).setCell (p := ⟨g, 2, none⟩) hg z
theorem rpart_none {r : Option (List UInt8 × Nat)} {w w' : World} (h : r = none) (hb : Below w.heap.size w w') : RPartPost r w (.returned (.agg #[.string ⟨#[]⟩, .int .i64 0, .bool false])) w' := by
  subst h; exact ⟨rfl, hb⟩
theorem rpart_some {r : Option (List UInt8 × Nat)} {t : List UInt8} {m : Nat} {n : Int} {w w' : World} (h : r = some (t, m)) (hn : n = m) (hb : Below w.heap.size w w') : RPartPost r w (.returned (.agg #[.string (mk t), .int .i64 n, .bool true])) w' := by
  subst h hn; exact ⟨rfl, hb⟩

end Go.Proofs.YthfienjmigidbaaDoor
