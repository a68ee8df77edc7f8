/-
  The laws TableAligns, TableHeads, TableCells, walked.
-/
import Derived.Test.YtoageahnddepcaaDoorTabM
set_option linter.unusedVariables false
set_option linter.unusedSimpArgs false
namespace Go.Pub
open Go.RowKit
def alnTup : Option (List UInt8) → ByteArray × Bool
  | none => (⟨#[]⟩, false)
  | some r => (mk r, true)
theorem unbar_head : ∀ l : List UInt8, l.head? ≠ some 32 → (unbarL l).head? ≠ some 32
  | [], _ => by simp [unbarL]
  | c :: l, h => by
    rw [unbarL_cons]
    split
    · rename_i hc
      cases l with
      | nil => simp
      | cons d l =>
        have : d = 124 := by simpa using hc.2
        subst this
        simp
    · exact h
theorem unbar_nil : ∀ l : List UInt8, unbarL l = [] ↔ l = []
  | [] => by simp [unbarL]
  | c :: l => by
    rw [unbarL_cons]
    split
    · rename_i hc
      cases l with
      | nil => simp at hc
      | cons d l => simp
    · simp
theorem unbar_last : ∀ (n : Nat) (l : List UInt8), l.length ≤ n → (unbarL l).getLast? = l.getLast?
  | 0, l, h => by cases l with
    | nil => rfl
    | cons c l => simp at h
  | n + 1, [], _ => rfl
  | n + 1, c :: l, h => by
    rw [unbarL_cons]
    split
    · rename_i hc
      cases l with
      | nil => simp at hc
      | cons d l =>
        have ih := unbar_last n l (by simp at h; omega)
        simp only
        rw [List.getLast?_cons, List.getLast?_cons, List.getLast?_cons, ih]
        rfl
    · have ih := unbar_last n l (by simp at h; omega)
      rw [List.getLast?_cons, List.getLast?_cons, ih]
theorem cell_trim (p : List UInt8) : trimS (cellL p) = cellL p := by
  unfold cellL
  refine trimS_id _ (unbar_head _ (trimS_head p)) ?_
  rw [unbar_last _ _ (Nat.le_refl _)]
  exact trimS_last p
theorem cellsB_trim (l : List UInt8) (k : Nat) (h : k < (cellsB l).length) : mk (trimS (bytesL (cellsB l)[k])) = (cellsB l)[k] := by
  have e : (cellsB l)[k] = mk (cellL ((partsL l)[k]'(by rw [← cellsB_len]; exact h))) := by simp [cellsB]
  rw [e, bytesL_mk', cell_trim]
end Go.Pub
namespace Go.Proofs.YtoageahnddepcaaDoor
open Go.RowKit Go.Pub

theorem aln_tup {r : Option (List UInt8)} {w w' : World} {e : Ending} (h : AlnPost r w e w') : e = .returned (.tuple #[.string (alnTup r).1, .bool (alnTup r).2]) ∧ Below w.heap.size w w' := by
  cases r <;> exact h

set_option maxRecDepth 100000 in
set_option maxHeartbeats 2000000 in
theorem lawAligns_any (s : ByteArray) (m : Int) (w : World) (hs : s.size ≤ 9223372036854775807) (hm : w.cell? ⟨0, 0, none⟩ = some (.int .i64 m)) : Calls Tryd.prog 4 #[.string s] w fun e w' => e = .returned (.bool true) ∧ Below w.heap.size w w' := by
  have h0w : 0 < w.heap.size := World.block_lt_of_cell? _ _ hm
  have HM : Hid (∀ W, Below w.heap.size w W → W.cell? ⟨0, 0, none⟩ = some (.int .i64 m)) := Lib.hid fun W h => (h.cell (p := ⟨0, 0, none⟩) h0w).trans hm
  have HA : Hid (∀ W, Below w.heap.size w W → Calls Tryd.prog 11 #[] W fun e w' => e = .returned (.bool true) ∧ Below W.heap.size W w') := Lib.hid fun W h => awake_any m W (HM.out W h)
  clear hm
  by_cases h : 800 < s.size
  · have d1 : decide (800 < s.size) = true := decide_eq_true h
    go_enter Tryd.func4, Tryd.ntmps4
    go_wp2_with fail
    ((with_reducible refine (HA.out _ (Below.refl _ _)).mono ?_))
    rintro e w1 ⟨rfl, b1⟩
    go_wp2_with fail
    go_ret
    exact ⟨rfl, b1⟩
  have d1 : decide (800 < s.size) = false := decide_eq_false h
  have H1 := Lib.hid fun W => (t_align s W (by omega)).mono fun _ _ => aln_tup
  have H2 := Lib.hid fun W => (r_align s W (by omega)).mono fun _ _ => aln_tup
  have hz : (alnTup (alignR (bytesL s))).1.size ≤ 32 := by
    cases hr : alignR (bytesL s) with
    | none => show 0 ≤ 32; omega
    | some r => show (mk r).size ≤ 32; rw [mk_size]; exact alnR_len hr
  generalize alnTup (alignR (bytesL s)) = P at *
  obtain ⟨a, f⟩ := P
  simp only at hz
  have q1 : (a.toList == a.toList) = true := beq_self_eq_true _
  have q2 : (f == f) = true := beq_self_eq_true _
  have d2 : decide ((a.size : Int) ≤ 32) = true := decide_eq_true (by omega)
  have d3 : decide (a.size ≤ 32) = true := decide_eq_true (by omega)
  go_enter Tryd.func4, Tryd.ntmps4
  go_wp2_with fail
  ((with_reducible refine (H1.out _).mono ?_))
  rintro e w1 ⟨rfl, b1⟩
  go_wp2_with fail
  ((with_reducible refine (H2.out _).mono ?_))
  rintro e w2 ⟨rfl, b2⟩
  have c2 := b1.trans (b2.mono b1.size)
  have C2 := Lib.hid c2
  clear b1 b2 c2
  go_wp2_with fail
  ((with_reducible refine (HA.out _ C2.out).mono ?_))
  rintro e w3 ⟨rfl, b3⟩
  go_wp2_with fail
  go_ret
  exact ⟨rfl, C2.out.trans (b3.mono C2.out.size)⟩

set_option maxRecDepth 100000 in
set_option maxHeartbeats 2000000 in
theorem lawHeads_any (a b : ByteArray) (m : Int) (w : World) (ha : a.size ≤ 9223372036854775807) (hb : b.size ≤ 9223372036854775807) (hm : w.cell? ⟨0, 0, none⟩ = some (.int .i64 m)) : Calls Tryd.prog 5 #[.string a, .string b] w fun e w' => e = .returned (.bool true) ∧ Below w.heap.size w w' := by
  have h0w : 0 < w.heap.size := World.block_lt_of_cell? _ _ hm
  have HM : Hid (∀ W, Below w.heap.size w W → W.cell? ⟨0, 0, none⟩ = some (.int .i64 m)) := Lib.hid fun W h => (h.cell (p := ⟨0, 0, none⟩) h0w).trans hm
  have HA : Hid (∀ W, Below w.heap.size w W → Calls Tryd.prog 11 #[] W fun e w' => e = .returned (.bool true) ∧ Below W.heap.size W w') := Lib.hid fun W h => awake_any m W (HM.out W h)
  clear hm
  by_cases h : 800 < a.size
  · have d1 : decide (800 < a.size) = true := decide_eq_true h
    go_enter Tryd.func5, Tryd.ntmps5
    go_wp2_with fail
    ((with_reducible refine (HA.out _ (Below.refl _ _)).mono ?_))
    rintro e w1 ⟨rfl, b1⟩
    go_wp2_with fail
    go_ret
    exact ⟨rfl, b1⟩
  have d1 : decide (800 < a.size) = false := decide_eq_false h
  by_cases h' : 800 < b.size
  · have d2 : decide (800 < b.size) = true := decide_eq_true h'
    go_enter Tryd.func5, Tryd.ntmps5
    go_wp2_with fail
    ((with_reducible refine (HA.out _ (Below.refl _ _)).mono ?_))
    rintro e w1 ⟨rfl, b1⟩
    go_wp2_with fail
    go_ret
    exact ⟨rfl, b1⟩
  have d2 : decide (800 < b.size) = false := decide_eq_false h'
  have H1 : Hid (∀ W, Below w.heap.size w W → Calls Tryd.prog 18 #[.string a, .string b] W fun e w' => e = .returned (.bool (headB (bytesL a) (bytesL b))) ∧ Below W.heap.size W w') := Lib.hid fun W hW => t_head a b m W (by omega) (by omega) (HM.out W hW)
  have H2 := Lib.hid fun W => r_head a b W (by omega) (by omega)
  generalize headB (bytesL a) (bytesL b) = f at *
  have q2 : (f == f) = true := beq_self_eq_true _
  go_enter Tryd.func5, Tryd.ntmps5
  go_wp2_with fail
  ((with_reducible refine (H1.out _ (Below.refl _ _)).mono ?_))
  rintro e w1 ⟨rfl, b1⟩
  go_wp2_with fail
  ((with_reducible refine (H2.out _).mono ?_))
  rintro e w2 ⟨rfl, b2⟩
  have c2 := b1.trans (b2.mono b1.size)
  have C2 := Lib.hid c2
  clear b1 b2 c2
  go_wp2_with fail
  ((with_reducible refine (HA.out _ C2.out).mono ?_))
  rintro e w3 ⟨rfl, b3⟩
  go_wp2_with fail
  go_ret
  exact ⟨rfl, C2.out.trans (b3.mono C2.out.size)⟩
end Go.Proofs.YtoageahnddepcaaDoor
