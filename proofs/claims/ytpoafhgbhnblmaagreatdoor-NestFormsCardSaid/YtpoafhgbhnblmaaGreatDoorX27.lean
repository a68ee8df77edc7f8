/-
  Texts of the proof, put together (what this law reaches): NsR, NsE.
-/
import Derived.Test.YtpoafhgbhnblmaaGreatDoorX25
import Derived.Test.YtpoafhgbhnblmaaGreatDoorX28
import Derived.Great.BuildSlice
import Derived.StillTailTactics
import Derived.Deep.CutRange
import Derived.Deep.DeepCutAuto
import Derived.Deep.RegionHeld3
set_option linter.unusedVariables false
set_option linter.unusedSimpArgs false
namespace Go.Proofs.YtpoafhgbhnblmaaGreatDoor
open Go.RowKit Go.Pub
theorem quoteAt_ret {W : World} {g : Nat} {x0 x1 x2 x3 x4 x5 x6 x7 x8 x9 x10 : Value} {u7 : Value} {u8 : Value} {P : Ending → World → Prop} {act : Act} (hr : Blk W g 46 #[x0, x1, x2, x3, x4, x5, x6, x7, x8, x9, x10]) (h6 : act.tmps.getD 6 undef = .pointer (some ⟨g, 0, none⟩)) (h7 : act.tmps.getD 7 undef = u7) (h8 : act.tmps.getD 8 undef = u8) (hd : act.defers = []) (hP : P (.returned (.tuple #[.agg #[x0, x1, x2, x3, x4, x5, x6, x7, x8, x9, x10], u7, u8])) W) : bodyPost Tryz.prog Tryz.f70 P Exit.ret act W := by
  obtain ⟨c0, c1, c2, c3, c4, c5, c6, c7, c8, c9, c10, _⟩ := mk_facts hr
  refine bodyPost_ret (v := .tuple #[.agg #[x0, x1, x2, x3, x4, x5, x6, x7, x8, x9, x10], u7, u8]) ?_ hd hP
  rw [Array.getD_eq_getD_getElem?] at h6 h7 h8
  simp [results, Tryz.results70, go_sem, h6, h7, h8, c0, c1, c2, c3, c4, c5, c6, c7, c8, c9, c10]
theorem fenceAt_ret {W : World} {g : Nat} {x0 x1 x2 x3 x4 x5 x6 x7 x8 x9 x10 : Value} {u7 : Value} {u8 : Value} {P : Ending → World → Prop} {act : Act} (hr : Blk W g 46 #[x0, x1, x2, x3, x4, x5, x6, x7, x8, x9, x10]) (h6 : act.tmps.getD 6 undef = .pointer (some ⟨g, 0, none⟩)) (h7 : act.tmps.getD 7 undef = u7) (h8 : act.tmps.getD 8 undef = u8) (hd : act.defers = []) (hP : P (.returned (.tuple #[.agg #[x0, x1, x2, x3, x4, x5, x6, x7, x8, x9, x10], u7, u8])) W) : bodyPost Tryz.prog Tryz.f71 P Exit.ret act W := by
  obtain ⟨c0, c1, c2, c3, c4, c5, c6, c7, c8, c9, c10, _⟩ := mk_facts hr
  refine bodyPost_ret (v := .tuple #[.agg #[x0, x1, x2, x3, x4, x5, x6, x7, x8, x9, x10], u7, u8]) ?_ hd hP
  rw [Array.getD_eq_getD_getElem?] at h6 h7 h8
  simp [results, Tryz.results71, go_sem, h6, h7, h8, c0, c1, c2, c3, c4, c5, c6, c7, c8, c9, c10]
theorem divAt_ret {W : World} {g : Nat} {x0 x1 x2 x3 x4 x5 x6 x7 x8 x9 x10 : Value} {u9 : Value} {u10 : Value} {P : Ending → World → Prop} {act : Act} (hr : Blk W g 46 #[x0, x1, x2, x3, x4, x5, x6, x7, x8, x9, x10]) (h8 : act.tmps.getD 8 undef = .pointer (some ⟨g, 0, none⟩)) (h9 : act.tmps.getD 9 undef = u9) (h10 : act.tmps.getD 10 undef = u10) (hd : act.defers = []) (hP : P (.returned (.tuple #[.agg #[x0, x1, x2, x3, x4, x5, x6, x7, x8, x9, x10], u9, u10])) W) : bodyPost Tryz.prog Tryz.f74 P Exit.ret act W := by
  obtain ⟨c0, c1, c2, c3, c4, c5, c6, c7, c8, c9, c10, _⟩ := mk_facts hr
  refine bodyPost_ret (v := .tuple #[.agg #[x0, x1, x2, x3, x4, x5, x6, x7, x8, x9, x10], u9, u10]) ?_ hd hP
  rw [Array.getD_eq_getD_getElem?] at h8 h9 h10
  simp [results, Tryz.results74, go_sem, h8, h9, h10, c0, c1, c2, c3, c4, c5, c6, c7, c8, c9, c10]
theorem listAt_ret {W : World} {g : Nat} {x0 x1 x2 x3 x4 x5 x6 x7 x8 x9 x10 : Value} {u9 : Value} {u10 : Value} {P : Ending → World → Prop} {act : Act} (hr : Blk W g 46 #[x0, x1, x2, x3, x4, x5, x6, x7, x8, x9, x10]) (h8 : act.tmps.getD 8 undef = .pointer (some ⟨g, 0, none⟩)) (h9 : act.tmps.getD 9 undef = u9) (h10 : act.tmps.getD 10 undef = u10) (hd : act.defers = []) (hP : P (.returned (.tuple #[.agg #[x0, x1, x2, x3, x4, x5, x6, x7, x8, x9, x10], u9, u10])) W) : bodyPost Tryz.prog Tryz.f76 P Exit.ret act W := by
  obtain ⟨c0, c1, c2, c3, c4, c5, c6, c7, c8, c9, c10, _⟩ := mk_facts hr
  refine bodyPost_ret (v := .tuple #[.agg #[x0, x1, x2, x3, x4, x5, x6, x7, x8, x9, x10], u9, u10]) ?_ hd hP
  rw [Array.getD_eq_getD_getElem?] at h8 h9 h10
  simp [results, Tryz.results76, go_sem, h8, h9, h10, c0, c1, c2, c3, c4, c5, c6, c7, c8, c9, c10]
theorem tableAt_ret {W : World} {g : Nat} {x0 x1 x2 x3 x4 x5 x6 x7 x8 x9 x10 : Value} {u7 : Value} {u8 : Value} {P : Ending → World → Prop} {act : Act} (hr : Blk W g 46 #[x0, x1, x2, x3, x4, x5, x6, x7, x8, x9, x10]) (h6 : act.tmps.getD 6 undef = .pointer (some ⟨g, 0, none⟩)) (h7 : act.tmps.getD 7 undef = u7) (h8 : act.tmps.getD 8 undef = u8) (hd : act.defers = []) (hP : P (.returned (.tuple #[.agg #[x0, x1, x2, x3, x4, x5, x6, x7, x8, x9, x10], u7, u8])) W) : bodyPost Tryz.prog Tryz.f78 P Exit.ret act W := by
  obtain ⟨c0, c1, c2, c3, c4, c5, c6, c7, c8, c9, c10, _⟩ := mk_facts hr
  refine bodyPost_ret (v := .tuple #[.agg #[x0, x1, x2, x3, x4, x5, x6, x7, x8, x9, x10], u7, u8]) ?_ hd hP
  rw [Array.getD_eq_getD_getElem?] at h6 h7 h8
  simp [results, Tryz.results78, go_sem, h6, h7, h8, c0, c1, c2, c3, c4, c5, c6, c7, c8, c9, c10]
theorem blockAt_ret {W : World} {g : Nat} {x0 x1 x2 x3 x4 x5 x6 x7 x8 x9 x10 : Value} {u9 : Value} {u10 : Value} {P : Ending → World → Prop} {act : Act} (hr : Blk W g 46 #[x0, x1, x2, x3, x4, x5, x6, x7, x8, x9, x10]) (h8 : act.tmps.getD 8 undef = .pointer (some ⟨g, 0, none⟩)) (h9 : act.tmps.getD 9 undef = u9) (h10 : act.tmps.getD 10 undef = u10) (hd : act.defers = []) (hP : P (.returned (.tuple #[.agg #[x0, x1, x2, x3, x4, x5, x6, x7, x8, x9, x10], u9, u10])) W) : bodyPost Tryz.prog Tryz.f39 P Exit.ret act W := by
  obtain ⟨c0, c1, c2, c3, c4, c5, c6, c7, c8, c9, c10, _⟩ := mk_facts hr
  refine bodyPost_ret (v := .tuple #[.agg #[x0, x1, x2, x3, x4, x5, x6, x7, x8, x9, x10], u9, u10]) ?_ hd hP
  rw [Array.getD_eq_getD_getElem?] at h8 h9 h10
  simp [results, Tryz.results39, go_sem, h8, h9, h10, c0, c1, c2, c3, c4, c5, c6, c7, c8, c9, c10]
theorem paraAt_ret {W : World} {g : Nat} {x0 x1 x2 x3 x4 x5 x6 x7 x8 x9 x10 : Value} {u5 : Value} {P : Ending → World → Prop} {act : Act} (hr : Blk W g 46 #[x0, x1, x2, x3, x4, x5, x6, x7, x8, x9, x10]) (h4 : act.tmps.getD 4 undef = .pointer (some ⟨g, 0, none⟩)) (h5 : act.tmps.getD 5 undef = u5) (hd : act.defers = []) (hP : P (.returned (.tuple #[.agg #[x0, x1, x2, x3, x4, x5, x6, x7, x8, x9, x10], u5])) W) : bodyPost Tryz.prog Tryz.f79 P Exit.ret act W := by
  obtain ⟨c0, c1, c2, c3, c4, c5, c6, c7, c8, c9, c10, _⟩ := mk_facts hr
  refine bodyPost_ret (v := .tuple #[.agg #[x0, x1, x2, x3, x4, x5, x6, x7, x8, x9, x10], u5]) ?_ hd hP
  rw [Array.getD_eq_getD_getElem?] at h4 h5
  simp [results, Tryz.results79, go_sem, h4, h5, c0, c1, c2, c3, c4, c5, c6, c7, c8, c9, c10]
theorem rowOf_ret {W : World} {g : Nat} {x0 x1 x2 x3 x4 x5 x6 x7 x8 x9 x10 : Value} {P : Ending → World → Prop} {act : Act} (hr : Blk W g 46 #[x0, x1, x2, x3, x4, x5, x6, x7, x8, x9, x10]) (h4 : act.tmps.getD 4 undef = .pointer (some ⟨g, 0, none⟩)) (hd : act.defers = []) (hP : P (.returned (.agg #[x0, x1, x2, x3, x4, x5, x6, x7, x8, x9, x10])) W) : bodyPost Tryz.prog Tryz.f121 P Exit.ret act W := by
  obtain ⟨c0, c1, c2, c3, c4, c5, c6, c7, c8, c9, c10, _⟩ := mk_facts hr
  refine bodyPost_ret (v := .agg #[x0, x1, x2, x3, x4, x5, x6, x7, x8, x9, x10]) ?_ hd hP
  rw [Array.getD_eq_getD_getElem?] at h4
  simp [results, Tryz.results121, go_sem, h4, c0, c1, c2, c3, c4, c5, c6, c7, c8, c9, c10]
theorem closing_ret {W : World} {g : Nat} {x y z u : Value} {P : Ending → World → Prop} {act : Act} (hr : Blk W g 43 #[x, y, z]) (h6 : act.tmps.getD 6 undef = u) (h7 : act.tmps.getD 7 undef = .pointer (some ⟨g, 0, none⟩)) (hd : act.defers = []) (hP : P (.returned (.tuple #[u, .agg #[x, y, z]])) W) : bodyPost Tryz.prog Tryz.f72 P Exit.ret act W := by
  have c0 : W.cell? ⟨g, 0, none⟩ = some x := hr.cell 0
  have c1 : W.cell? ⟨g, 1, none⟩ = some y := hr.cell 1
  have c2 : W.cell? ⟨g, 2, none⟩ = some z := hr.cell 2
  refine bodyPost_ret (v := .tuple #[u, .agg #[x, y, z]]) ?_ hd hP
  rw [Array.getD_eq_getD_getElem?] at h6 h7
  simp [results, Tryz.results72, go_sem, h6, h7, c0, c1, c2]
end Go.Proofs.YtpoafhgbhnblmaaGreatDoor
namespace Go.Proofs.YtpoafhgbhnblmaaGreatDoor
open Go.RowKit Go.Pub
theorem n_source (s : ByteArray) (w : World) : Calls Tryz.prog 69 #[.string s] w fun e w' => ∃ v, e = .returned v ∧ SrcV w' (Rg w.heap.size w') v s ∧ Below w.heap.size w w' := by
  by_cases h : s.size = 0
  · obtain rfl : s = ⟨#[]⟩ := ByteArray.ext (Array.eq_empty_of_size_eq_zero h)
    go_enter Tryz.func69, Tryz.ntmps69
    go_wp2_with fail
    go_ret
    exact ⟨_, rfl, by unfold SrcV; rw [if_pos h]; rfl, Below.refl _ _⟩
  · have y1 : (s.toList == []) = false := by
      have h' : s ≠ ⟨#[]⟩ := fun e => h (by rw [e]; rfl)
      rw [← show (⟨#[]⟩ : ByteArray).toList = [] by decide +kernel]
      exact (Lib.bytes_beq_false_iff _ _).2 h'
    have y2 : s.toList.isEmpty = false := by
      cases e : s.toList with
      | nil => rw [e] at y1; cases y1
      | cons _ _ => rfl
    go_enter Tryz.func69, Tryz.ntmps69
    go_wp2_with fail
    go_ret
    refine ⟨_, rfl, ?_, (Below.refl _ w).alloc (Nat.le_refl _) _⟩
    unfold SrcV
    rw [if_neg h]
    exact ⟨_, _, rfl, ReadsS.block (cs := (textC s).toArray) (Blk.new w _ _) ⟨Nat.le_refl _, by simp⟩ rfl (by decide)⟩
theorem n_between (zs : List ByteArray) (A : Option Addr) (c i k : Nat) (MM : Int) (w : World) (hL : LinesAt w A zs MM) (hi : i + 1 ≤ k) (hk : k ≤ zs.length) (hc : zs.length ≤ c) (hcm : c ≤ maxLen) :
    Calls Tryz.prog 73 #[.slice A zs.length c, .int .i64 i, .int .i64 k] w fun e w' => e = .returned (.string (mk (joinN (cutL zs (i + 1) k)))) ∧ Below w.heap.size w w' := by
  unfold maxLen at hcm
  obtain ⟨b, off, rfl, hb, hcell⟩ := hL.get (by omega)
  have hlen := hL.len
  have HJ := Lib.hid fun (A' : Option Addr) (c' : Nat) (h : A' = some ⟨b, off + (i + 1), none⟩ ∨ k = i + 1) => l_join (cutL zs (i + 1) k) A' c' w.heap.size w (hL.cut' (i + 1) k hi hk A' h).rd (Nat.le_refl _) (hL.cut' (i + 1) k hi hk A' h).len (hL.cut' (i + 1) k hi hk A' h).sz
  have hcl := cutL_len zs (i + 1) k hi hk
  rw [hcl] at HJ
  generalize joinN (cutL zs (i + 1) k) = J at *
  clear hcell hL hcl
  go_enter Tryz.func73, Tryz.ntmps73
  go_wp2_with fail
  all_goals
    ((with_reducible refine (HJ.out _ _ (by first | exact .inl rfl | exact .inr (by omega))).mono ?_))
    rintro e w1 ⟨rfl, b1⟩
    go_wp2_with fail
    go_ret
    exact ⟨rfl, b1⟩
end Go.Proofs.YtpoafhgbhnblmaaGreatDoor
