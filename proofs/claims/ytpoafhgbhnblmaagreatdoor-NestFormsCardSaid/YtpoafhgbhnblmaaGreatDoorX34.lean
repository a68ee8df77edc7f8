/-
  Texts of the proof, put together (what this law reaches): NfGC.
-/
import Derived.Test.YtpoafhgbhnblmaaGreatDoorX31
set_option linter.unusedVariables false
set_option linter.unusedSimpArgs false
namespace Go.Proofs.YtpoafhgbhnblmaaGreatDoor
open Go.RowKit Go.Pub
set_option maxRecDepth 100000 in
set_option maxHeartbeats 4000000 in
theorem f_bf11 (g off : Nat) (n4 : Nat) (A1 : Option Addr) (c1 : Nat) (A2 : Option Addr) (c2 : Nat) (AL : Option Addr) (cL : Nat) (A4 : Option Addr) (c4 : Nat) (w : World) (h : CellB w g off 11 0 ⟨#[]⟩ ⟨#[]⟩ ⟨#[]⟩ ⟨#[]⟩ emptyA A1 c1 A2 c2 AL 0 cL A4 n4 c4) : Calls Tryz.prog 34 #[.pointer (some ⟨g, off, none⟩)] w fun e w' => e = .returned (.bool true) ∧ Below w.heap.size w w' := by
  have q0 : w.cell? ⟨g, off, none⟩ = some (.int .i64 11) := h.f0
  have q1 : w.cell? ⟨g, off + 1, none⟩ = some (.int .i64 0) := h.f1
  have q2 : w.cell? ⟨g, off + 2, none⟩ = some (.string ⟨#[]⟩) := h.f2
  have q3 : w.cell? ⟨g, off + 3, none⟩ = some (.string ⟨#[]⟩) := h.f3
  have q4 : w.cell? ⟨g, off + 4, none⟩ = some (.string ⟨#[]⟩) := h.f4
  have q5 : w.cell? ⟨g, off + 5, none⟩ = some (.string ⟨#[]⟩) := h.f5
  have q6 : w.cell? ⟨g, off + 6, none⟩ = some (.string ⟨#[]⟩) := h.f6
  have q7 : w.cell? ⟨g, off + 7, none⟩ = some (.slice A1 0 c1) := h.f7
  have q8 : w.cell? ⟨g, off + 8, none⟩ = some (.slice A2 0 c2) := h.f8
  have q9 : w.cell? ⟨g, off + 9, none⟩ = some (.slice AL 0 cL) := h.f9
  have HE := Lib.hid (HEmpA A1 c1 A2 c2)
  have H := Lib.hid h
  clear h
  go_enter Tryz.func34, Tryz.ntmps34
  go_wp2_with fail
  ((with_reducible refine (HE.out _).mono ?_))
  rintro e w1 ⟨rfl, b1⟩
  have h1 := H.out.below b1
  have r0 : w1.cell? ⟨g, off, none⟩ = some (.int .i64 11) := h1.f0
  have r1 : w1.cell? ⟨g, off + 1, none⟩ = some (.int .i64 0) := h1.f1
  have r2 : w1.cell? ⟨g, off + 2, none⟩ = some (.string ⟨#[]⟩) := h1.f2
  have r3 : w1.cell? ⟨g, off + 3, none⟩ = some (.string ⟨#[]⟩) := h1.f3
  have r4 : w1.cell? ⟨g, off + 4, none⟩ = some (.string ⟨#[]⟩) := h1.f4
  have r5 : w1.cell? ⟨g, off + 5, none⟩ = some (.string ⟨#[]⟩) := h1.f5
  have r6 : w1.cell? ⟨g, off + 6, none⟩ = some (.string ⟨#[]⟩) := h1.f6
  have r7 : w1.cell? ⟨g, off + 7, none⟩ = some (.slice A1 0 c1) := h1.f7
  have r8 : w1.cell? ⟨g, off + 8, none⟩ = some (.slice A2 0 c2) := h1.f8
  have r9 : w1.cell? ⟨g, off + 9, none⟩ = some (.slice AL 0 cL) := h1.f9
  clear h1 q0
  go_wp2_with fail
  go_ret
  exact ⟨rfl, b1⟩

set_option maxRecDepth 100000 in
set_option maxHeartbeats 4000000 in
theorem f_bf12 (g off : Nat) (nL : Nat) (A1 : Option Addr) (c1 : Nat) (A2 : Option Addr) (c2 : Nat) (AL : Option Addr) (cL : Nat) (A4 : Option Addr) (c4 : Nat) (w : World) (h : CellB w g off 12 0 ⟨#[]⟩ ⟨#[]⟩ ⟨#[]⟩ ⟨#[]⟩ emptyA A1 c1 A2 c2 AL nL cL A4 0 c4) : Calls Tryz.prog 34 #[.pointer (some ⟨g, off, none⟩)] w fun e w' => e = .returned (.bool true) ∧ Below w.heap.size w w' := by
  have q0 : w.cell? ⟨g, off, none⟩ = some (.int .i64 12) := h.f0
  have q1 : w.cell? ⟨g, off + 1, none⟩ = some (.int .i64 0) := h.f1
  have q2 : w.cell? ⟨g, off + 2, none⟩ = some (.string ⟨#[]⟩) := h.f2
  have q3 : w.cell? ⟨g, off + 3, none⟩ = some (.string ⟨#[]⟩) := h.f3
  have q4 : w.cell? ⟨g, off + 4, none⟩ = some (.string ⟨#[]⟩) := h.f4
  have q5 : w.cell? ⟨g, off + 5, none⟩ = some (.string ⟨#[]⟩) := h.f5
  have q6 : w.cell? ⟨g, off + 6, none⟩ = some (.string ⟨#[]⟩) := h.f6
  have q7 : w.cell? ⟨g, off + 7, none⟩ = some (.slice A1 0 c1) := h.f7
  have q8 : w.cell? ⟨g, off + 8, none⟩ = some (.slice A2 0 c2) := h.f8
  have q10 : w.cell? ⟨g, off + 10, none⟩ = some (.slice A4 0 c4) := h.f10
  have HE := Lib.hid (HEmpA A1 c1 A2 c2)
  have H := Lib.hid h
  clear h
  go_enter Tryz.func34, Tryz.ntmps34
  go_wp2_with fail
  ((with_reducible refine (HE.out _).mono ?_))
  rintro e w1 ⟨rfl, b1⟩
  have h1 := H.out.below b1
  have r0 : w1.cell? ⟨g, off, none⟩ = some (.int .i64 12) := h1.f0
  have r1 : w1.cell? ⟨g, off + 1, none⟩ = some (.int .i64 0) := h1.f1
  have r2 : w1.cell? ⟨g, off + 2, none⟩ = some (.string ⟨#[]⟩) := h1.f2
  have r3 : w1.cell? ⟨g, off + 3, none⟩ = some (.string ⟨#[]⟩) := h1.f3
  have r4 : w1.cell? ⟨g, off + 4, none⟩ = some (.string ⟨#[]⟩) := h1.f4
  have r5 : w1.cell? ⟨g, off + 5, none⟩ = some (.string ⟨#[]⟩) := h1.f5
  have r6 : w1.cell? ⟨g, off + 6, none⟩ = some (.string ⟨#[]⟩) := h1.f6
  have r7 : w1.cell? ⟨g, off + 7, none⟩ = some (.slice A1 0 c1) := h1.f7
  have r8 : w1.cell? ⟨g, off + 8, none⟩ = some (.slice A2 0 c2) := h1.f8
  have r10 : w1.cell? ⟨g, off + 10, none⟩ = some (.slice A4 0 c4) := h1.f10
  clear h1 q0
  go_wp2_with fail
  go_ret
  exact ⟨rfl, b1⟩

set_option maxRecDepth 100000 in
set_option maxHeartbeats 4000000 in
theorem f_bf13 (g off : Nat) (i : ByteArray) (a : AttrL) (n4 : Nat) (A1 : Option Addr) (c1 : Nat) (A2 : Option Addr) (c2 : Nat) (AL : Option Addr) (cL : Nat) (A4 : Option Addr) (c4 : Nat) (w : World) (h : CellB w g off 13 0 i ⟨#[]⟩ ⟨#[]⟩ ⟨#[]⟩ a A1 c1 A2 c2 AL 0 cL A4 n4 c4) : Calls Tryz.prog 34 #[.pointer (some ⟨g, off, none⟩)] w fun e w' => e = .returned (.bool true) ∧ Below w.heap.size w w' := by
  have q0 : w.cell? ⟨g, off, none⟩ = some (.int .i64 13) := h.f0
  have q1 : w.cell? ⟨g, off + 1, none⟩ = some (.int .i64 0) := h.f1
  have q3 : w.cell? ⟨g, off + 3, none⟩ = some (.string ⟨#[]⟩) := h.f3
  have q4 : w.cell? ⟨g, off + 4, none⟩ = some (.string ⟨#[]⟩) := h.f4
  have q5 : w.cell? ⟨g, off + 5, none⟩ = some (.string ⟨#[]⟩) := h.f5
  have q9 : w.cell? ⟨g, off + 9, none⟩ = some (.slice AL 0 cL) := h.f9
  clear h
  go_enter Tryz.func34, Tryz.ntmps34
  go_wp2_with fail
  go_ret
  exact ⟨rfl, Below.refl _ _⟩

set_option maxRecDepth 100000 in
set_option maxHeartbeats 4000000 in
theorem f_bf14 (g off : Nat) (i : ByteArray) (n4 : Nat) (A1 : Option Addr) (c1 : Nat) (A2 : Option Addr) (c2 : Nat) (AL : Option Addr) (cL : Nat) (A4 : Option Addr) (c4 : Nat) (w : World) (h : CellB w g off 14 0 i ⟨#[]⟩ ⟨#[]⟩ ⟨#[]⟩ emptyA A1 c1 A2 c2 AL 0 cL A4 n4 c4) : Calls Tryz.prog 34 #[.pointer (some ⟨g, off, none⟩)] w fun e w' => e = .returned (.bool true) ∧ Below w.heap.size w w' := by
  have q0 : w.cell? ⟨g, off, none⟩ = some (.int .i64 14) := h.f0
  have q1 : w.cell? ⟨g, off + 1, none⟩ = some (.int .i64 0) := h.f1
  have q3 : w.cell? ⟨g, off + 3, none⟩ = some (.string ⟨#[]⟩) := h.f3
  have q4 : w.cell? ⟨g, off + 4, none⟩ = some (.string ⟨#[]⟩) := h.f4
  have q5 : w.cell? ⟨g, off + 5, none⟩ = some (.string ⟨#[]⟩) := h.f5
  have q6 : w.cell? ⟨g, off + 6, none⟩ = some (.string ⟨#[]⟩) := h.f6
  have q7 : w.cell? ⟨g, off + 7, none⟩ = some (.slice A1 0 c1) := h.f7
  have q8 : w.cell? ⟨g, off + 8, none⟩ = some (.slice A2 0 c2) := h.f8
  have q9 : w.cell? ⟨g, off + 9, none⟩ = some (.slice AL 0 cL) := h.f9
  have HE := Lib.hid (HEmpA A1 c1 A2 c2)
  have H := Lib.hid h
  clear h
  go_enter Tryz.func34, Tryz.ntmps34
  go_wp2_with fail
  ((with_reducible refine (HE.out _).mono ?_))
  rintro e w1 ⟨rfl, b1⟩
  have h1 := H.out.below b1
  have r0 : w1.cell? ⟨g, off, none⟩ = some (.int .i64 14) := h1.f0
  have r1 : w1.cell? ⟨g, off + 1, none⟩ = some (.int .i64 0) := h1.f1
  have r3 : w1.cell? ⟨g, off + 3, none⟩ = some (.string ⟨#[]⟩) := h1.f3
  have r4 : w1.cell? ⟨g, off + 4, none⟩ = some (.string ⟨#[]⟩) := h1.f4
  have r5 : w1.cell? ⟨g, off + 5, none⟩ = some (.string ⟨#[]⟩) := h1.f5
  have r6 : w1.cell? ⟨g, off + 6, none⟩ = some (.string ⟨#[]⟩) := h1.f6
  have r7 : w1.cell? ⟨g, off + 7, none⟩ = some (.slice A1 0 c1) := h1.f7
  have r8 : w1.cell? ⟨g, off + 8, none⟩ = some (.slice A2 0 c2) := h1.f8
  have r9 : w1.cell? ⟨g, off + 9, none⟩ = some (.slice AL 0 cL) := h1.f9
  clear h1 q0
  go_wp2_with fail
  go_ret
  exact ⟨rfl, b1⟩

set_option maxRecDepth 100000 in
set_option maxHeartbeats 4000000 in
theorem f_bf15 (g off : Nat) (i : ByteArray) (d : ByteArray) (ti : ByteArray) (A1 : Option Addr) (c1 : Nat) (A2 : Option Addr) (c2 : Nat) (AL : Option Addr) (cL : Nat) (A4 : Option Addr) (c4 : Nat) (w : World) (h : CellB w g off 15 0 i ⟨#[]⟩ d ti emptyA A1 c1 A2 c2 AL 0 cL A4 0 c4) : Calls Tryz.prog 34 #[.pointer (some ⟨g, off, none⟩)] w fun e w' => e = .returned (.bool true) ∧ Below w.heap.size w w' := by
  have q0 : w.cell? ⟨g, off, none⟩ = some (.int .i64 15) := h.f0
  have q1 : w.cell? ⟨g, off + 1, none⟩ = some (.int .i64 0) := h.f1
  have q3 : w.cell? ⟨g, off + 3, none⟩ = some (.string ⟨#[]⟩) := h.f3
  have q6 : w.cell? ⟨g, off + 6, none⟩ = some (.string ⟨#[]⟩) := h.f6
  have q7 : w.cell? ⟨g, off + 7, none⟩ = some (.slice A1 0 c1) := h.f7
  have q8 : w.cell? ⟨g, off + 8, none⟩ = some (.slice A2 0 c2) := h.f8
  have q9 : w.cell? ⟨g, off + 9, none⟩ = some (.slice AL 0 cL) := h.f9
  have q10 : w.cell? ⟨g, off + 10, none⟩ = some (.slice A4 0 c4) := h.f10
  have HE := Lib.hid (HEmpA A1 c1 A2 c2)
  have H := Lib.hid h
  clear h
  go_enter Tryz.func34, Tryz.ntmps34
  go_wp2_with fail
  ((with_reducible refine (HE.out _).mono ?_))
  rintro e w1 ⟨rfl, b1⟩
  have h1 := H.out.below b1
  have r0 : w1.cell? ⟨g, off, none⟩ = some (.int .i64 15) := h1.f0
  have r1 : w1.cell? ⟨g, off + 1, none⟩ = some (.int .i64 0) := h1.f1
  have r3 : w1.cell? ⟨g, off + 3, none⟩ = some (.string ⟨#[]⟩) := h1.f3
  have r6 : w1.cell? ⟨g, off + 6, none⟩ = some (.string ⟨#[]⟩) := h1.f6
  have r7 : w1.cell? ⟨g, off + 7, none⟩ = some (.slice A1 0 c1) := h1.f7
  have r8 : w1.cell? ⟨g, off + 8, none⟩ = some (.slice A2 0 c2) := h1.f8
  have r9 : w1.cell? ⟨g, off + 9, none⟩ = some (.slice AL 0 cL) := h1.f9
  have r10 : w1.cell? ⟨g, off + 10, none⟩ = some (.slice A4 0 c4) := h1.f10
  clear h1 q0
  go_wp2_with fail
  go_ret
  exact ⟨rfl, b1⟩

end Go.Proofs.YtpoafhgbhnblmaaGreatDoor
