/-
  The code points of a string, from left to right: plain.
-/
import Derived.Test.YtoageahnddepcaaDoorText
import Derived.Lib.RuneCount
set_option linter.unusedVariables false
namespace Go.Pub

theorem dec_pos (s : ByteArray) (i : Nat) (h : i < s.size) : 1 ≤ (Utf8.decode s i).2 := Lib.decode_width_pos s i h
theorem dec_bd (s : ByteArray) (i : Nat) (h : i < s.size) : 1 ≤ (Utf8.decode s i).2 ∧ (Utf8.decode s i).2 ≤ 4 ∧ i + (Utf8.decode s i).2 ≤ s.size ∧ (Utf8.decode s i).1 ≤ 1114111 := by
  have hb := bt_lt s i
  have h1 := bt_lt s (i + 1)
  have h2 := bt_lt s (i + 2)
  have h3 := bt_lt s (i + 3)
  rw [Lib.decode_at]
  show 1 ≤ (Lib.decodeN _ (bt s i) (bt s (i + 1)) (bt s (i + 2)) (bt s (i + 3))).2 ∧ (Lib.decodeN _ (bt s i) (bt s (i + 1)) (bt s (i + 2)) (bt s (i + 3))).2 ≤ 4 ∧ i + (Lib.decodeN _ (bt s i) (bt s (i + 1)) (bt s (i + 2)) (bt s (i + 3))).2 ≤ s.size ∧ (Lib.decodeN _ (bt s i) (bt s (i + 1)) (bt s (i + 2)) (bt s (i + 3))).1 ≤ 1114111
  unfold Lib.decodeN
  (repeat' split) <;> (simp only []; omega)

def ptsFrom (s : ByteArray) : Nat → Nat → List (Nat × Nat)
  | 0, _ => []
  | f + 1, pos => if pos < s.size then Utf8.decode s pos :: ptsFrom s f (pos + (Utf8.decode s pos).2) else []
def pts (s : ByteArray) : List (Nat × Nat) := ptsFrom s s.size 0

theorem ptsFrom_end (s : ByteArray) (f pos : Nat) (h : ¬ pos < s.size) : ptsFrom s f pos = [] := by
  cases f <;> simp [ptsFrom, h]
theorem ptsFrom_step (s : ByteArray) (f pos : Nat) (h : pos < s.size) (hf : s.size ≤ pos + f) : ptsFrom s f pos = Utf8.decode s pos :: ptsFrom s (f - 1) (pos + (Utf8.decode s pos).2) := by
  obtain ⟨g, rfl⟩ : ∃ g, f = g + 1 := ⟨f - 1, by omega⟩
  simp [ptsFrom, h]
theorem ptsFrom_length (s : ByteArray) : ∀ f pos, (ptsFrom s f pos).length ≤ s.size - pos
  | 0, _ => by simp [ptsFrom]
  | f + 1, pos => by
    unfold ptsFrom
    split
    · rename_i h
      have := ptsFrom_length s f (pos + (Utf8.decode s pos).2)
      have := dec_bd s pos h
      simp only [List.length_cons]; omega
    · simp
theorem pts_length (s : ByteArray) : (pts s).length ≤ s.size := by have := ptsFrom_length s s.size 0; unfold pts; omega
theorem ptsFrom_fuel (s : ByteArray) : ∀ f g pos, s.size ≤ pos + f → s.size ≤ pos + g → ptsFrom s f pos = ptsFrom s g pos
  | 0, g, pos, h, _ => by rw [ptsFrom_end s 0 pos (by omega), ptsFrom_end s g pos (by omega)]
  | f + 1, g, pos, h, h' => by
    by_cases hp : pos < s.size
    · have := dec_bd s pos hp
      rw [ptsFrom_step s _ pos hp h, ptsFrom_step s g pos hp h', Nat.add_sub_cancel]
      rw [ptsFrom_fuel s f (g - 1) _ (by omega) (by omega)]
    · rw [ptsFrom_end s _ pos hp, ptsFrom_end s g pos hp]
/-- A code point's two cells in memory. -/
def ptCells (l : List (Nat × Nat)) : List Value := l.flatMap fun p => [.int .i64 p.1, .int .i64 p.2]
theorem ptCells_length (l : List (Nat × Nat)) : (ptCells l).length = l.length * 2 := by
  induction l with
  | nil => rfl
  | cons p l ih => simp only [ptCells, List.flatMap_cons, List.length_append, List.length_cons, List.length_nil] at *; omega
theorem ptCells_append (l m : List (Nat × Nat)) : ptCells (l ++ m) = ptCells l ++ ptCells m := by simp [ptCells, List.flatMap_append]
theorem ptCells_at (l : List (Nat × Nat)) (k : Nat) (p : Nat × Nat) (h : l[k]? = some p) : (ptCells l)[k * 2]? = some (.int .i64 p.1) ∧ (ptCells l)[k * 2 + 1]? = some (.int .i64 p.2) := by
  induction l generalizing k with
  | nil => simp at h
  | cons q l ih =>
    cases k with
    | zero => simp only [List.getElem?_cons_zero, Option.some.injEq] at h; subst h; exact ⟨rfl, rfl⟩
    | succ k =>
      have := ih k (by simpa using h)
      have e : ptCells (q :: l) = .int .i64 q.1 :: .int .i64 q.2 :: ptCells l := rfl
      rw [e, show (k + 1) * 2 = k * 2 + 1 + 1 from by omega, show k * 2 + 1 + 1 + 1 = (k * 2 + 1) + 1 + 1 from rfl]
      simpa using this
end Go.Pub
