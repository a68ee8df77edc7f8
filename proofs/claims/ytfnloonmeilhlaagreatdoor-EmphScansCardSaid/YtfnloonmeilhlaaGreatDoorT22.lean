/-
  Texts of the proof, put together (what this law reaches): MkB, AttrD, AttrG, MkA.
-/
import Derived.Test.YtfnloonmeilhlaaGreatDoorT21
import Derived.Test.YtfnloonmeilhlaaGreatDoorT02
import Derived.Test.YtfnloonmeilhlaaGreatDoorProg
import Derived.WalkKit
import Derived.Lib.Hide
import Derived.Outline
import Derived.Test.YtfnloonmeilhlaaGreatDoorT04
import Derived.Test.YtfnloonmeilhlaaGreatDoorT08
import Derived.RegionTactic
set_option linter.unusedVariables false
set_option linter.unusedSimpArgs false
namespace Go.Pub
end Go.Pub
namespace Go.Proofs.YtfnloonmeilhlaaGreatDoor
open Go.RowKit Go.Pub Go.Shelf
attribute [local go_sem] Oper.semAt_some
end Go.Proofs.YtfnloonmeilhlaaGreatDoor
namespace Go.Proofs.YtfnloonmeilhlaaGreatDoor
open Go.RowKit Go.Pub
theorem str_info : (Tryz.prog.info? 9).map (fun i => (i.zero, i.size, i.bytes)) = some (some (.string ⟨#[]⟩), 1, 16) := by kernel_rfl
end Go.Proofs.YtfnloonmeilhlaaGreatDoor
namespace Go.Pub
open Go.RowKit
def spEnd (s : ByteArray) : Nat → Nat → Nat
  | 0, i => i
  | f + 1, i => if i < s.size ∧ bt s i = 32 then spEnd s f (i + 1) else i
def spAt (s : ByteArray) (i : Nat) : Nat := spEnd s (s.size - i) i
theorem spEnd_step (s : ByteArray) (f i : Nat) (h : i < s.size) (hp : bt s i = 32) (hf : s.size - i ≤ f) : spEnd s f i = spEnd s (f - 1) (i + 1) := by
  obtain ⟨g, rfl⟩ : ∃ g, f = g + 1 := ⟨f - 1, by omega⟩
  simp [spEnd, h, hp]
theorem spEnd_stop (s : ByteArray) (f i : Nat) (h : ¬ (i < s.size ∧ bt s i = 32)) : spEnd s f i = i := by
  cases f with
  | zero => rfl
  | succ f => simp only [spEnd]; rw [if_neg h]
theorem spEnd_bd (s : ByteArray) : ∀ f i, i ≤ spEnd s f i ∧ (i ≤ s.size → spEnd s f i ≤ s.size)
  | 0, i => ⟨Nat.le_refl _, fun h => h⟩
  | f + 1, i => by
    unfold spEnd
    split
    · rename_i h
      have := spEnd_bd s f (i + 1)
      exact ⟨by omega, fun _ => this.2 (by omega)⟩
    · exact ⟨Nat.le_refl _, fun h => h⟩
end Go.Pub
namespace Go.Proofs.YtfnloonmeilhlaaGreatDoor
open Go.RowKit Go.Pub
end Go.Proofs.YtfnloonmeilhlaaGreatDoor
namespace Go.Pub
section
variable {s s' : ByteArray} {i i' n : Nat}
end
theorem wordAt_bd (s : ByteArray) (k : Nat) : k ≤ wordAt s k ∧ (k ≤ s.size → wordAt s k ≤ s.size) := wEnd_bd s _ k
theorem spEnd_spec (s : ByteArray) : ∀ (f k : Nat), s.size ≤ k + f → (∀ j, k ≤ j → j < spEnd s f k → bt s j = 32) ∧ ¬ (spEnd s f k < s.size ∧ bt s (spEnd s f k) = 32)
  | 0, k, h => ⟨fun j h1 h2 => by simp only [spEnd] at h2; omega, fun h2 => by simp only [spEnd] at h2; omega⟩
  | f + 1, k, h => by
    by_cases hk : k < s.size ∧ bt s k = 32
    · have e : spEnd s (f + 1) k = spEnd s f (k + 1) := by simp only [spEnd]; rw [if_pos hk]
      rw [e]
      obtain ⟨h1, h2⟩ := spEnd_spec s f (k + 1) (by omega)
      refine ⟨fun j hj hl => ?_, h2⟩
      by_cases hjk : j = k
      · subst hjk; exact hk.2
      · exact h1 j (by omega) hl
    · have e : spEnd s (f + 1) k = k := spEnd_stop s _ k hk
      rw [e]
      exact ⟨fun j hj hl => by omega, hk⟩
theorem spAt_spec (s : ByteArray) (k : Nat) : (∀ j, k ≤ j → j < spAt s k → bt s j = 32) ∧ ¬ (spAt s k < s.size ∧ bt s (spAt s k) = 32) := by
  unfold spAt
  rcases Nat.lt_or_ge s.size k with h | h
  · have : s.size - k = 0 := by omega
    rw [this]
    exact ⟨fun j h1 h2 => by simp only [spEnd] at h2; omega, fun h2 => by simp only [spEnd] at h2; omega⟩
  · exact spEnd_spec s (s.size - k) k (by omega)
section
variable {s s' : ByteArray} {i i' n : Nat}
end
end Go.Pub
namespace Go.Proofs.YtfnloonmeilhlaaGreatDoor
open Go.RowKit Go.Pub
section
variable {s s' : ByteArray} {i i' n : Nat}
end
end Go.Proofs.YtfnloonmeilhlaaGreatDoor
