/-
  Texts of the proof, put together (what this law reaches): ScAC.
-/
import Derived.Test.YtfnloonmeilhlaaGreatDoorT33
import Derived.Test.YtfnloonmeilhlaaGreatDoorT34
import Derived.Laws.Rows
set_option linter.unusedVariables false
set_option linter.unusedSimpArgs false
namespace Go.Proofs.YtfnloonmeilhlaaGreatDoor
open Go.RowKit Go.Pub
/-- The cells of a piece. -/
def pcC (p : PcL) (A1 : Option Addr) (c1 : Nat) (A2 : Option Addr) (c2 : Nat) : Array Value :=
  #[.int .i64 p.kind, .int .i64 p.inl.kind, .string p.inl.text, .string p.inl.dest, .string p.inl.title, .string ⟨#[]⟩, .slice none 0 0, .slice none 0 0, .slice A1 p.inl.args.length c1, .slice A2 p.inl.cites.length c2, .slice none 0 0, .string p.ch, .int .i64 p.n, .bool p.opn, .bool p.clo, .bool p.img, .int .i64 p.bg, .int .i64 p.nd]
def zPc : Array Value := #[.int .i64 0, .int .i64 0, .string ⟨#[]⟩, .string ⟨#[]⟩, .string ⟨#[]⟩, .string ⟨#[]⟩, .slice none 0 0, .slice none 0 0, .slice none 0 0, .slice none 0 0, .slice none 0 0, .string ⟨#[]⟩, .int .i64 0, .bool false, .bool false, .bool false, .int .i64 0, .int .i64 0]
theorem pc_facts {W : World} {g : Nat} {T : TypeId} {x0 x1 x2 x3 x4 x5 x6 x7 x8 x9 x10 x11 x12 x13 x14 x15 x16 x17 : Value} (h : Blk W g T #[x0, x1, x2, x3, x4, x5, x6, x7, x8, x9, x10, x11, x12, x13, x14, x15, x16, x17]) : W.cell? ⟨g, 0, none⟩ = some x0 ∧ W.cell? ⟨g, 1, none⟩ = some x1 ∧ W.cell? ⟨g, 2, none⟩ = some x2 ∧ W.cell? ⟨g, 3, none⟩ = some x3 ∧ W.cell? ⟨g, 4, none⟩ = some x4 ∧ W.cell? ⟨g, 5, none⟩ = some x5 ∧ W.cell? ⟨g, 6, none⟩ = some x6 ∧ W.cell? ⟨g, 7, none⟩ = some x7 ∧ W.cell? ⟨g, 8, none⟩ = some x8 ∧ W.cell? ⟨g, 9, none⟩ = some x9 ∧ W.cell? ⟨g, 10, none⟩ = some x10 ∧ W.cell? ⟨g, 11, none⟩ = some x11 ∧ W.cell? ⟨g, 12, none⟩ = some x12 ∧ W.cell? ⟨g, 13, none⟩ = some x13 ∧ W.cell? ⟨g, 14, none⟩ = some x14 ∧ W.cell? ⟨g, 15, none⟩ = some x15 ∧ W.cell? ⟨g, 16, none⟩ = some x16 ∧ W.cell? ⟨g, 17, none⟩ = some x17 ∧ W.frozen? ⟨g, 0, none⟩ = false ∧ W.frozen? ⟨g, 1, none⟩ = false ∧ W.frozen? ⟨g, 2, none⟩ = false ∧ W.frozen? ⟨g, 3, none⟩ = false ∧ W.frozen? ⟨g, 4, none⟩ = false ∧ W.frozen? ⟨g, 5, none⟩ = false ∧ W.frozen? ⟨g, 6, none⟩ = false ∧ W.frozen? ⟨g, 7, none⟩ = false ∧ W.frozen? ⟨g, 8, none⟩ = false ∧ W.frozen? ⟨g, 9, none⟩ = false ∧ W.frozen? ⟨g, 10, none⟩ = false ∧ W.frozen? ⟨g, 11, none⟩ = false ∧ W.frozen? ⟨g, 12, none⟩ = false ∧ W.frozen? ⟨g, 13, none⟩ = false ∧ W.frozen? ⟨g, 14, none⟩ = false ∧ W.frozen? ⟨g, 15, none⟩ = false ∧ W.frozen? ⟨g, 16, none⟩ = false ∧ W.frozen? ⟨g, 17, none⟩ = false :=
  ⟨h.cell 0, h.cell 1, h.cell 2, h.cell 3, h.cell 4, h.cell 5, h.cell 6, h.cell 7, h.cell 8, h.cell 9, h.cell 10, h.cell 11, h.cell 12, h.cell 13, h.cell 14, h.cell 15, h.cell 16, h.cell 17, h.frozen 0, h.frozen 1, h.frozen 2, h.frozen 3, h.frozen 4, h.frozen 5, h.frozen 6, h.frozen 7, h.frozen 8, h.frozen 9, h.frozen 10, h.frozen 11, h.frozen 12, h.frozen 13, h.frozen 14, h.frozen 15, h.frozen 16, h.frozen 17⟩
theorem pc_size : (Tryz.prog.info? 34).map (·.size) = some 18 := by kernel_rfl
theorem pc_ret {F : Func} {a b : Nat} {W : World} {g : Nat} {x0 x1 x2 x3 x4 x5 x6 x7 x8 x9 x10 x11 x12 x13 x14 x15 x16 x17 : Value} {u : Value} {P : Ending → World → Prop} {act : Act} (hF : F.results = #[ResultVar.cell a 34, ResultVar.tmp b]) (hr : Blk W g 34 #[x0, x1, x2, x3, x4, x5, x6, x7, x8, x9, x10, x11, x12, x13, x14, x15, x16, x17]) (h4 : act.tmps.getD a undef = .pointer (some ⟨g, 0, none⟩)) (h5 : act.tmps.getD b undef = u) (hd : act.defers = []) (hP : P (.returned (.tuple #[.agg #[x0, x1, x2, x3, x4, x5, x6, x7, x8, x9, x10, x11, x12, x13, x14, x15, x16, x17], u])) W) : bodyPost Tryz.prog F P Exit.ret act W := by
  refine bodyPost_ret (v := .tuple #[.agg #[x0, x1, x2, x3, x4, x5, x6, x7, x8, x9, x10, x11, x12, x13, x14, x15, x16, x17], u]) ?_ hd hP
  have hl := run_loadVar_row (P := Tryz.prog) W g 34 34 #[x0, x1, x2, x3, x4, x5, x6, x7, x8, x9, x10, x11, x12, x13, x14, x15, x16, x17] (0, 0) _ hr Tryz.underlying34 rfl pc_size
  rw [Array.getD_eq_getD_getElem?] at h4 h5
  simp [results, hF, h4, h5, asAddr, hl]
theorem pc_ret1 {F : Func} {a : Nat} {W : World} {g : Nat} {x0 x1 x2 x3 x4 x5 x6 x7 x8 x9 x10 x11 x12 x13 x14 x15 x16 x17 : Value} {P : Ending → World → Prop} {act : Act} (hF : F.results = #[ResultVar.cell a 34]) (hr : Blk W g 34 #[x0, x1, x2, x3, x4, x5, x6, x7, x8, x9, x10, x11, x12, x13, x14, x15, x16, x17]) (h4 : act.tmps.getD a undef = .pointer (some ⟨g, 0, none⟩)) (hd : act.defers = []) (hP : P (.returned (.agg #[x0, x1, x2, x3, x4, x5, x6, x7, x8, x9, x10, x11, x12, x13, x14, x15, x16, x17])) W) : bodyPost Tryz.prog F P Exit.ret act W := by
  refine bodyPost_ret (v := .agg #[x0, x1, x2, x3, x4, x5, x6, x7, x8, x9, x10, x11, x12, x13, x14, x15, x16, x17]) ?_ hd hP
  have hl := run_loadVar_row (P := Tryz.prog) W g 34 34 #[x0, x1, x2, x3, x4, x5, x6, x7, x8, x9, x10, x11, x12, x13, x14, x15, x16, x17] (0, 0) _ hr Tryz.underlying34 rfl pc_size
  rw [Array.getD_eq_getD_getElem?] at h4
  simp [results, hF, h4, asAddr, hl]
set_option maxRecDepth 100000 in
set_option maxHeartbeats 1000000 in
theorem s_literal (s : ByteArray) (i e : Nat) (w : World) (hs : s.size ≤ 1000000) (hie : i ≤ e) (he : e ≤ s.size) : Calls Tryz.prog 31 #[.string s, .int .i64 i, .int .i64 e] w fun r w' => r = .returned (.agg (pcC { inl := spn 1 (s.extract i e), nd := e } none 0 none 0)) ∧ Below w.heap.size w w' := by
  go_enter Tryz.func31, Tryz.ntmps31
  go_wp2_with fail
  exact pc_ret1 Tryz.results31 (Blk.new w _ _) rfl rfl ⟨rfl, (Below.refl _ w).alloc (Nat.le_refl _) _⟩

end Go.Proofs.YtfnloonmeilhlaaGreatDoor
