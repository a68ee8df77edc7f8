/-
  The reference's Clean (layer 1).
-/
import Derived.Test.YtepeaenbjgbnfaaDoorRefE
set_option linter.unusedVariables false
set_option linter.unusedSimpArgs false
namespace Go.Pub
open Go.RowKit
theorem intCells_append (a b : List Int) : intCells (a ++ b) = intCells a ++ intCells b := by simp [intCells]
theorem intCells_length (a : List Int) : (intCells a).length = a.length := by simp [intCells]
theorem encL_ascii (n : Nat) (h : n < 128) : encL (n : Int) = [UInt8.ofNat n] := by
  rw [encL_nat n (valid_of n (by omega)), encN_one n h]; rfl
/-- What an append next to a struct of two cells of the call's own leaves of it. -/
theorem two_cells {w w1 w2 : World} {B n : Nat} {v x y : Value} {e t : TypeId} {xs : List Value} {o2 : Obj} (hown1 : w1.ownsRow B e 1 v n xs) (hgrow : ((w1.alloc (.cells #[x, y] t)).alloc o2).grownBy w2 v.ownBlock)
    (hbw : Below w.heap.size w w1) (hB : B = w.heap.size) :
    w2.cell? ⟨w1.heap.size, 0, none⟩ = some x ∧ w2.cell? ⟨w1.heap.size, 1, none⟩ = some y ∧ Below w.heap.size w w2 := by
  have hne : some w1.heap.size ≠ v.ownBlock := fun e => by have := (hown1.lt _ e.symm).2; omega
  have hz := hbw.size
  refine ⟨hgrow.cell ?_ hne, hgrow.cell ?_ hne, ((hbw.alloc hz _).alloc (by simp; omega) _).grown hgrow (by simp; omega) (fun k hk => by have := (hown1.lt k hk).1; omega)⟩
  · simp
  · simp
end Go.Pub
namespace Go.Proofs.YtepeaenbjgbnfaaDoor
open Go.RowKit Go.Pub

theorem intInfo : (Tryd.prog.info? 3).map (fun i => (i.zero, i.size, i.bytes)) = some (some (.int .i64 0), 1, 8) := by kernel_rfl

def RcRel (s : ByteArray) (R : List UInt8) (w : World) (v i : Value) (wr : World) : Prop :=
  ∃ (pos f : Nat) (acc : List Int), i = .int .i64 pos ∧ wr.ownsRow w.heap.size 3 1 v acc.length (intCells acc) ∧ Below w.heap.size w wr ∧ acc.flatMap encL ++ cleanP (ptsFrom s f pos) = R ∧ s.size ≤ pos + f ∧ pos ≤ s.size ∧ acc.length ≤ 4 * pos

theorem cleanP_lf (l : List (Nat × Nat)) (p : Nat × Nat) (h : p.1 = 10) : cleanP (p :: l) = [10] ++ cleanP l := by
  show cleanPiece p.1 (headLF l) ++ cleanP l = _
  rw [h]
  have : cleanPiece 10 (headLF l) = [10] := by
    unfold cleanPiece
    rw [if_neg (by decide), if_neg (by decide), if_neg (by decide)]
    exact encL_ascii 10 (by decide)
  rw [this]

end Go.Proofs.YtepeaenbjgbnfaaDoor