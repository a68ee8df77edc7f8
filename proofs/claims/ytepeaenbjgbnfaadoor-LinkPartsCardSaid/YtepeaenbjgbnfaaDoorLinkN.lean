/-
  The reference's Dest, Title; the law LinkParts.
-/
import Derived.Test.YtepeaenbjgbnfaaDoorLinkM
import Derived.Test.YtepeaenbjgbnfaaDoorLinkJ
set_option linter.unusedVariables false
set_option linter.unusedSimpArgs false
namespace Go.Proofs.YtepeaenbjgbnfaaDoor
open Go.RowKit Go.Pub

set_option maxRecDepth 100000 in
set_option maxHeartbeats 4000000 in
theorem r8_dest (s : ByteArray) (i : Int) (w : World) (hs : s.size ≤ 1000000) :
    Calls Tryd.prog 10 #[.string s, .int .i64 i] w (PartPost (destR s i) w) := by
  have HC := Lib.hid fun W => r_dest s i W hs
  generalize destR s i = R at *
  cases R with
  | none =>
    go_enter Tryd.func10, Tryd.ntmps10
    go_wp2_with fail
    ((with_reducible refine (HC.out _).mono ?_))
    rintro e w1 ⟨he, b1⟩
    dsimp only [partVal] at he
    subst he
    have hb2 := Lib.hid b1
    go_wp2_with fail
    go_quiet (fail)
    go_wp2_with fail
    exact bodyPost_ret (v := .tuple #[.string ⟨#[]⟩, .int .i64 0, .bool false]) (by simp [results, Tryd.results10, go_sem]) rfl ⟨rfl, below_drewN (b1.alloc b1.size _) _⟩
  | some p =>
    go_enter Tryd.func10, Tryd.ntmps10
    go_wp2_with fail
    ((with_reducible refine (HC.out _).mono ?_))
    rintro e w1 ⟨he, b1⟩
    dsimp only [partVal] at he
    subst he
    have hb2 := Lib.hid b1
    go_wp2_with fail
    go_quiet (fail)
    go_wp2_with fail
    exact bodyPost_ret (v := .tuple #[.string (mk p.1), .int .i64 p.2, .bool true]) (by simp [results, Tryd.results10, go_sem]) rfl ⟨rfl, below_drewN (b1.alloc b1.size _) _⟩

set_option maxRecDepth 100000 in
set_option maxHeartbeats 4000000 in
theorem r8_title (s : ByteArray) (i : Int) (w : World) (hs : s.size ≤ 1000000) :
    Calls Tryd.prog 11 #[.string s, .int .i64 i] w (PartPost (titleR s i) w) := by
  have HC := Lib.hid fun W => r_title s i W hs
  generalize titleR s i = R at *
  cases R with
  | none =>
    go_enter Tryd.func11, Tryd.ntmps11
    go_wp2_with fail
    ((with_reducible refine (HC.out _).mono ?_))
    rintro e w1 ⟨he, b1⟩
    dsimp only [partVal] at he
    subst he
    have hb2 := Lib.hid b1
    go_wp2_with fail
    go_quiet (fail)
    go_wp2_with fail
    exact bodyPost_ret (v := .tuple #[.string ⟨#[]⟩, .int .i64 0, .bool false]) (by simp [results, Tryd.results11, go_sem]) rfl ⟨rfl, below_drewN (b1.alloc b1.size _) _⟩
  | some p =>
    go_enter Tryd.func11, Tryd.ntmps11
    go_wp2_with fail
    ((with_reducible refine (HC.out _).mono ?_))
    rintro e w1 ⟨he, b1⟩
    dsimp only [partVal] at he
    subst he
    have hb2 := Lib.hid b1
    go_wp2_with fail
    go_quiet (fail)
    go_wp2_with fail
    exact bodyPost_ret (v := .tuple #[.string (mk p.1), .int .i64 p.2, .bool true]) (by simp [results, Tryd.results11, go_sem]) rfl ⟨rfl, below_drewN (b1.alloc b1.size _) _⟩

def partTup : Option (List UInt8 × Nat) → ByteArray × Int × Bool
  | none => (⟨#[]⟩, 0, false)
  | some p => (mk p.1, p.2, true)
theorem part_tup {r : Option (List UInt8 × Nat)} {w w' : World} {e : Ending} (h : PartPost r w e w') : e = .returned (.tuple #[.string (partTup r).1, .int .i64 (partTup r).2.1, .bool (partTup r).2.2]) ∧ Below w.heap.size w w' := by
  cases r <;> exact h

set_option maxRecDepth 100000 in
set_option maxHeartbeats 4000000 in
theorem lawParts_any (s : ByteArray) (i : Int) (w : World) (hs : s.size ≤ 9223372036854775807) : Calls Tryd.prog 3 #[.string s, .int .i64 i] w fun e w' => e = .returned (.bool true) ∧ Below w.heap.size w w' := by
  have HA := Lib.hid awake_any
  by_cases h : 800 < s.size
  · have d1 : decide (800 < s.size) = true := decide_eq_true h
    go_enter Tryd.func3, Tryd.ntmps3
    go_wp2_with fail
    ((with_reducible refine (HA.out _).mono ?_))
    rintro e w1 ⟨rfl, b1⟩
    go_wp2_with fail
    go_ret
    exact ⟨rfl, b1⟩
  · have d1 : decide (800 < s.size) = false := decide_eq_false h
    have d2 : decide (s.size ≤ 800) = true := decide_eq_true (by omega)
    have H1 := Lib.hid fun W => (l_dest s i W (by omega)).mono fun _ _ => part_tup
    have H2 := Lib.hid fun W => (l_title s i W (by omega)).mono fun _ _ => part_tup
    have H3 := Lib.hid fun W => (r8_dest s i W (by omega)).mono fun _ _ => part_tup
    have H4 := Lib.hid fun W => (r8_title s i W (by omega)).mono fun _ _ => part_tup
    generalize partTup (destR s i) = P at *
    generalize partTup (titleR s i) = Q at *
    obtain ⟨a, n, f⟩ := P
    obtain ⟨b, m, g⟩ := Q
    have q1 : (a.toList == a.toList) = true := beq_self_eq_true _
    have q2 : (b.toList == b.toList) = true := beq_self_eq_true _
    have q3 : (n == n) = true := beq_self_eq_true _
    have q4 : (m == m) = true := beq_self_eq_true _
    have q5 : (f == f) = true := beq_self_eq_true _
    have q6 : (g == g) = true := beq_self_eq_true _
    go_enter Tryd.func3, Tryd.ntmps3
    go_wp2_with fail
    ((with_reducible refine (H1.out _).mono ?_))
    rintro e w1 ⟨rfl, b1⟩
    go_wp2_with fail
    ((with_reducible refine (H2.out _).mono ?_))
    rintro e w2 ⟨rfl, b2⟩
    go_wp2_with fail
    ((with_reducible refine (H3.out _).mono ?_))
    rintro e w3 ⟨rfl, b3⟩
    go_wp2_with fail
    ((with_reducible refine (H4.out _).mono ?_))
    rintro e w4 ⟨rfl, b4⟩
    go_wp2_with fail
    ((with_reducible refine (HA.out _).mono ?_))
    rintro e w5 ⟨rfl, b5⟩
    go_wp2_with fail
    go_ret
    have c2 := b1.trans (b2.mono b1.size)
    have c3 := c2.trans (b3.mono c2.size)
    have c4 := c3.trans (b4.mono c3.size)
    have c5 := c4.trans (b5.mono c4.size)
    exact ⟨rfl, c5⟩
end Go.Proofs.YtepeaenbjgbnfaaDoor
