/-
  Texts of the proof, put together (what this law reaches): MidC.
-/
import Derived.Test.YtfnloonmeilhlaaGreatDoorT08
import Derived.Deep.MidRow
import Derived.Deep.AppendLies
set_option linter.unusedVariables false
set_option linter.unusedSimpArgs false
namespace Go.Pub
open Go.RowKit
/-- A list with others set from o on. -/
def setL : List Value → Nat → List Value → List Value
  | xs, _, [] => xs
  | xs, o, v :: r => setL (xs.set o v) (o + 1) r
theorem setL_app : ∀ (vs a b : List Value), b.length = vs.length → setL (a ++ b) a.length vs = a ++ vs
  | [], a, b, h => by
    have : b = [] := List.length_eq_zero_iff.1 h
    subst this; rfl
  | v :: r, a, b, h => by
    cases b with
    | nil => cases h
    | cons x b =>
      unfold setL
      rw [List.set_append_right _ _ (Nat.le_refl _), Nat.sub_self, List.set_cons_zero]
      have e : a ++ v :: b = (a ++ [v]) ++ b := by simp
      rw [e, show a.length + 1 = (a ++ [v]).length by simp, setL_app r (a ++ [v]) b (by simpa using h)]
      simp
theorem heap_setCells (g k : Nat) (h : k ≠ g) : ∀ (vs : List Value) (o : Nat) (W : World), (W.setCells g o vs).heap[k]? = W.heap[k]?
  | [], _, _ => rfl
  | v :: r, o, W => by
    rw [World.setCells, heap_setCells g k h r (o + 1) _]
    exact Below.heap_setCell W ⟨g, o, none⟩ v k h
theorem size_setCells (g : Nat) : ∀ (vs : List Value) (o : Nat) (W : World), (W.setCells g o vs).heap.size = W.heap.size
  | [], _, _ => rfl
  | v :: r, o, W => by
    rw [World.setCells, size_setCells g r (o + 1) _]
    simp [World.setCell]
theorem below_setCells {B : Nat} {w : World} (g : Nat) (hg : B ≤ g) : ∀ (vs : List Value) (o : Nat) (W : World), Below B w W → Below B w (W.setCells g o vs)
  | [], _, _, h => h
  | v :: r, o, W, h => by
    rw [World.setCells]
    exact below_setCells g hg r (o + 1) _ (h.setCell (p := ⟨g, o, none⟩) hg v)
theorem own_setCells {base : Nat} {e : TypeId} {size g cap n : Nat} : ∀ (vs : List Value) (o : Nat) (xs : List Value) (W : World), W.ownsRow base e size (.slice (some ⟨g, 0, none⟩) n cap) n xs → (W.setCells g o vs).ownsRow base e size (.slice (some ⟨g, 0, none⟩) n cap) n (setL xs o vs)
  | [], _, _, _, h => h
  | v :: r, o, xs, W, h => by
    rw [World.setCells]
    unfold setL
    exact own_setCells r (o + 1) _ _ (h.stored o v).1
end Go.Pub
