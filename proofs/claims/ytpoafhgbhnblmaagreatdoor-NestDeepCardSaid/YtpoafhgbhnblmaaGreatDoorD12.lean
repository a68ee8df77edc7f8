/-
  Texts of the proof, put together (what this law reaches): MkO, SetMap, AttrL, AttrM, AttrQ, AttrJ, AttrSA, MkT.
-/
import Derived.Test.YtpoafhgbhnblmaaGreatDoorD11
import Derived.Laws.EntriesVeiled
import Derived.Test.YtpoafhgbhnblmaaGreatDoorD07
import Derived.Maps.Own
import Derived.Test.YtpoafhgbhnblmaaGreatDoorD08
import Derived.Deep.QuietTactic
import Derived.BigQuiet
import Derived.Laws.StructEq
import Derived.Test.YtpoafhgbhnblmaaGreatDoorD09
set_option linter.unusedVariables false
set_option linter.unusedSimpArgs false
namespace Go.Proofs.YtpoafhgbhnblmaaGreatDoor
open Go.RowKit Go.Pub
/-- What the ten readers say of a line's core. -/
def rdrs (c : ByteArray) (ind : Nat) : List (Option MkL) := [headM c, ruleM c, quoteM c ind, bulletM c ind, numberM c ind, fenceM c ind, mathM c, divM c, noteM c, defM c]
def firstS : List (Option MkL) → Option MkL
  | [] => none
  | some m :: _ => some m
  | none :: l => firstS l
def markC (c : ByteArray) (ind : Nat) : MkL := if 3 < ind then { rest := c } else (firstS (rdrs c ind)).getD { rest := c }
def markM (s : ByteArray) : MkL := if blankB s = true then { kind := 1 } else markC (s.extract (indA s 0) s.size) (indA s 0)
def MkPost (m : MkL) (w : World) (e : Ending) (w' : World) : Prop := (∃ v, e = .returned v ∧ MkVal w' w.heap.size v m) ∧ Below w.heap.size w w'
set_option maxRecDepth 100000 in
set_option maxHeartbeats 8000000 in
theorem m_of (s : ByteArray) (w : World) (hs : s.size ≤ 1000000) : Calls Tryz.prog 38 #[.string s] w (MkPost (markM s) w) := by
  have hil : indA s 0 ≤ s.size := indA_le s
  have hcz : (s.extract (indA s 0) s.size).size = s.size - indA s 0 := by rw [ByteArray.size_extract]; omega
  have HR : Hid (markM s = if blankB s = true then { kind := 1 } else markC (s.extract (indA s 0) s.size) (indA s 0)) := Lib.hid rfl
  have HBl := Lib.hid fun W => t_blank s W hs
  have HI := Lib.hid fun W => t_indent s W hs
  have hbz : blankB s = false → indA s 0 ≠ s.size := fun h => by unfold blankB at h; simpa using h
  generalize markM s = M at *
  generalize blankB s = b at *
  generalize indA s 0 = ind at *
  have hili : (ind : Int) ≤ (s.size : Int) := by omega
  cases b with
  | true =>
    have HF : Hid (M = { kind := 1 }) := Lib.hid (by rw [HR.out]; rfl)
    clear HR hbz
    go_enter Tryz.func38, Tryz.ntmps38
    go_wp2_with fail
    ((with_reducible refine (HBl.out _).mono ?_))
    rintro e w' ⟨rfl, rfl⟩
    go_wp2_with fail
    exact of_ret (Blk.new w _ _) rfl rfl ⟨⟨_, rfl, by rw [HF.out]; exact mkVal_plain (m := { kind := 1 }) rfl ((Below.refl _ w).alloc (Nat.le_refl _) _).size⟩, (Below.refl _ w).alloc (Nat.le_refl _) _⟩
  | false =>
    have hne := hbz rfl
    clear hbz
    have HR2 : Hid (M = if 3 < ind then { rest := s.extract ind s.size } else (firstS (rdrs (s.extract ind s.size) ind)).getD { rest := s.extract ind s.size }) := Lib.hid (by rw [HR.out]; rfl)
    clear HR
    generalize hcc : s.extract ind s.size = c at *
    have h0 : 0 < c.size := by omega
    have hcs : c.size ≤ 1000000 := by omega
    by_cases hi : 3 < ind
    · have HF : Hid (M = { rest := c }) := Lib.hid (by rw [HR2.out, if_pos hi])
      have d1 : decide (3 < (ind : Int)) = true := decide_eq_true (by omega)
      have d2 : decide (3 < ind) = true := decide_eq_true hi
      clear HR2
      go_enter Tryz.func38, Tryz.ntmps38
      go_wp2_with fail
      ((with_reducible refine (HBl.out _).mono ?_))
      rintro e w' ⟨rfl, rfl⟩
      go_wp2_with fail
      ((with_reducible refine (HI.out _).mono ?_))
      rintro e w' ⟨rfl, rfl⟩
      go_wp2_with fail
      exact of_ret (Blk.new w _ _) rfl rfl ⟨⟨_, rfl, by rw [HF.out]; exact mkVal_plain (m := { rest := c }) rfl ((Below.refl _ w).alloc (Nat.le_refl _) _).size⟩, (Below.refl _ w).alloc (Nat.le_refl _) _⟩
    have d1 : decide (3 < (ind : Int)) = false := decide_eq_false (by omega)
    have d2 : decide (3 < ind) = false := decide_eq_false hi
    have HR3 : Hid (M = (firstS (rdrs c ind)).getD { rest := c }) := Lib.hid (by rw [HR2.out, if_neg hi])
    have hi : ind ≤ 3 := by omega
    clear HR2
    have H0 := Lib.hid fun W => m_head c ind W hcs h0
    have H1 := Lib.hid fun W => m_rule c ind W hcs h0
    have H2 := Lib.hid fun W => m_quote c ind W hcs h0 hi
    have H3 := Lib.hid fun W => m_bullet c ind W hcs h0 hi
    have H4 := Lib.hid fun W => m_number c ind W hcs h0 hi
    have H5 := Lib.hid fun W => m_fence c ind W hcs h0 hi
    have H6 := Lib.hid fun W => m_formula c ind W hcs h0
    have H7 := Lib.hid fun W => m_directive c ind W hcs h0
    have H8 := Lib.hid fun W => m_note c ind W hcs h0
    have H9 := Lib.hid fun W => m_def c ind W hcs h0
    have HL : Hid (rdrs c ind = [headM c, ruleM c, quoteM c ind, bulletM c ind, numberM c ind, fenceM c ind, mathM c, divM c, noteM c, defM c]) := Lib.hid rfl
    generalize rdrs c ind = L at *
    generalize headM c = r0 at *
    generalize ruleM c = r1 at *
    generalize quoteM c ind = r2 at *
    generalize bulletM c ind = r3 at *
    generalize numberM c ind = r4 at *
    generalize fenceM c ind = r5 at *
    generalize mathM c = r6 at *
    generalize divM c = r7 at *
    generalize noteM c = r8 at *
    generalize defM c = r9 at *
    have HG : Hid (M = (firstS [r0, r1, r2, r3, r4, r5, r6, r7, r8, r9]).getD { rest := c }) := Lib.hid (by rw [HR3.out, HL.out])
    clear HR3 HL
    go_enter Tryz.func38, Tryz.ntmps38
    go_wp2_with fail
    ((with_reducible refine (HBl.out _).mono ?_))
    rintro e w' ⟨rfl, rfl⟩
    go_wp2_with fail
    ((with_reducible refine (HI.out _).mono ?_))
    rintro e w2 ⟨rfl, hw⟩
    have hw' : zw w = w2 := hw
    have HZ2 : ZM w2 w.heap.size := hw' ▸ zw_zm w
    have HB2 : Below w.heap.size w w2 := hw' ▸ zw_below w
    clear hw hw'
    go_wp2_with fail
    go_loopw [24] (fun v wr => ∃ k : Nat, v = .int .i64 k ∧ k ≤ 10 ∧ ZM wr w.heap.size ∧ Below w.heap.size w wr ∧ Hid (M = (firstS ([r0, r1, r2, r3, r4, r5, r6, r7, r8, r9].drop k)).getD { rest := c })) (fun v _ => 10 - (intOf v).toNat)
    case atStart => exact ⟨0, rfl, by omega, HZ2.below ((Below.refl _ w2).alloc (Nat.le_refl _) _), HB2.alloc HB2.size _, HG⟩
    case round =>
      obtain ⟨k, rfl, hk, HZr, HBr, Hk⟩ := hrel
      clear HG
      have HU : Hid (Tryz.prog.underlying 88 = some (.array 10 87)) := Lib.hid (by kernel_rfl)
      rcases (by omega : k = 0 ∨ k = 1 ∨ k = 2 ∨ k = 3 ∨ k = 4 ∨ k = 5 ∨ k = 6 ∨ k = 7 ∨ k = 8 ∨ k = 9 ∨ k = 10) with rfl | rfl | rfl | rfl | rfl | rfl | rfl | rfl | rfl | rfl | rfl
      · clear H1 H2 H3 H4 H5 H6 H7 H8 H9
        have hix : ∀ W, (Instr.index 88 (.agg #[.func (Fn.func 59) #[] #[], .func (Fn.func 60) #[] #[], .func (Fn.func 61) #[] #[], .func (Fn.func 62) #[] #[], .func (Fn.func 63) #[] #[], .func (Fn.func 64) #[] #[], .func (Fn.func 65) #[] #[], .func (Fn.func 66) #[] #[], .func (Fn.func 67) #[] #[], .func (Fn.func 68) #[] #[]]) (.int .i64 0)).run Tryz.prog W = .ok (.func (Fn.func 59) #[] #[]) W := fun W => by simp [Instr.index, run_underlying HU.out, asIntOf, go_sem]
        cases r0 with
        | none =>
          have HF : Hid (M = (firstS [r1, r2, r3, r4, r5, r6, r7, r8, r9]).getD { rest := c }) := Lib.hid Hk.out
          clear Hk
          go_wp2_with fail
          ((with_reducible refine (H0.out _).mono ?_))
          rintro e w1 ⟨⟨v, rfl, x0, x1, x2, x3, x4, x5, x6, x7, x8, A9, n9, c9, A10, n10, c10, rfl⟩, b1⟩
          have HZ := ZM.below HZr b1
          have HB := HBr.trans (b1.mono HBr.size)
          clear b1
          go_wp2_with fail
          go_round
          case rel => exact ⟨1, by go_num, by omega, HZ.below ((Below.refl _ w1).alloc (Nat.le_refl _) _), HB.alloc HB.size _, HF⟩
          case measure => simp [intOf]
        | some m =>
          have HF : Hid (M = m) := Lib.hid Hk.out
          clear Hk
          go_wp2_with fail
          ((with_reducible refine (H0.out _).mono ?_))
          rintro e w1 ⟨⟨v, rfl, vC, vP, rfl, hown⟩, b1⟩
          have hlt : w.heap.size < wr.heap.size := Blk.lt HZr
          have hH := Lib.hid (And.intro hlt hown)
          clear hlt
          obtain ⟨AC, cC, rfl⟩ := own_slice hown.cls
          obtain ⟨AP, cP, rfl⟩ := own_slice hown.prs
          clear hown
          have HZ := ZM.below HZr b1
          have HB := HBr.trans (b1.mono HBr.size)
          clear b1
          have HZ2 := HZ.below ((Below.refl _ w1).alloc (Nat.le_refl _) (.cells (m.cells (.slice AC m.att.cl.length cC) (.slice AP m.att.pr.length cP)) 74))
          obtain ⟨k0, k1, k2, k3, k4, k5, k6, k7, k8, k9, k10, y0, y1, y2, y3, y4, y5, y6, y7, y8, y9, y10⟩ := ZM.facts HZ2
          unfold MkL.cells at *
          go_wp2_with fail
          refine of_ret (blk11 HZ2 _ _ _ _ _ _ _ _ _ _ _) rfl rfl ⟨⟨_, rfl, ?_⟩, below11 (HB.alloc HB.size _) (Nat.le_refl _) _ _ _ _ _ _ _ _ _ _ _⟩
          rw [HF.out]
          exact mkVal_own (ownA_low (ownA_far (ownA_far hH.out.2 (World.grownBy_alloc _ _ (some w.heap.size)) hH.out.1) (grown11 _ _ _ _ _ _ _ _ _ _ _ _ _) hH.out.1) (Nat.le_of_lt hH.out.1))
      · clear H0 H2 H3 H4 H5 H6 H7 H8 H9
        have hix : ∀ W, (Instr.index 88 (.agg #[.func (Fn.func 59) #[] #[], .func (Fn.func 60) #[] #[], .func (Fn.func 61) #[] #[], .func (Fn.func 62) #[] #[], .func (Fn.func 63) #[] #[], .func (Fn.func 64) #[] #[], .func (Fn.func 65) #[] #[], .func (Fn.func 66) #[] #[], .func (Fn.func 67) #[] #[], .func (Fn.func 68) #[] #[]]) (.int .i64 1)).run Tryz.prog W = .ok (.func (Fn.func 60) #[] #[]) W := fun W => by simp [Instr.index, run_underlying HU.out, asIntOf, go_sem]
        cases r1 with
        | none =>
          have HF : Hid (M = (firstS [r2, r3, r4, r5, r6, r7, r8, r9]).getD { rest := c }) := Lib.hid Hk.out
          clear Hk
          go_wp2_with fail
          ((with_reducible refine (H1.out _).mono ?_))
          rintro e w1 ⟨⟨v, rfl, x0, x1, x2, x3, x4, x5, x6, x7, x8, A9, n9, c9, A10, n10, c10, rfl⟩, b1⟩
          have HZ := ZM.below HZr b1
          have HB := HBr.trans (b1.mono HBr.size)
          clear b1
          go_wp2_with fail
          go_round
          case rel => exact ⟨2, by go_num, by omega, HZ.below ((Below.refl _ w1).alloc (Nat.le_refl _) _), HB.alloc HB.size _, HF⟩
          case measure => simp [intOf]
        | some m =>
          have HF : Hid (M = m) := Lib.hid Hk.out
          clear Hk
          go_wp2_with fail
          ((with_reducible refine (H1.out _).mono ?_))
          rintro e w1 ⟨⟨v, rfl, vC, vP, rfl, hown⟩, b1⟩
          have hlt : w.heap.size < wr.heap.size := Blk.lt HZr
          have hH := Lib.hid (And.intro hlt hown)
          clear hlt
          obtain ⟨AC, cC, rfl⟩ := own_slice hown.cls
          obtain ⟨AP, cP, rfl⟩ := own_slice hown.prs
          clear hown
          have HZ := ZM.below HZr b1
          have HB := HBr.trans (b1.mono HBr.size)
          clear b1
          have HZ2 := HZ.below ((Below.refl _ w1).alloc (Nat.le_refl _) (.cells (m.cells (.slice AC m.att.cl.length cC) (.slice AP m.att.pr.length cP)) 74))
          obtain ⟨k0, k1, k2, k3, k4, k5, k6, k7, k8, k9, k10, y0, y1, y2, y3, y4, y5, y6, y7, y8, y9, y10⟩ := ZM.facts HZ2
          unfold MkL.cells at *
          go_wp2_with fail
          refine of_ret (blk11 HZ2 _ _ _ _ _ _ _ _ _ _ _) rfl rfl ⟨⟨_, rfl, ?_⟩, below11 (HB.alloc HB.size _) (Nat.le_refl _) _ _ _ _ _ _ _ _ _ _ _⟩
          rw [HF.out]
          exact mkVal_own (ownA_low (ownA_far (ownA_far hH.out.2 (World.grownBy_alloc _ _ (some w.heap.size)) hH.out.1) (grown11 _ _ _ _ _ _ _ _ _ _ _ _ _) hH.out.1) (Nat.le_of_lt hH.out.1))
      · clear H0 H1 H3 H4 H5 H6 H7 H8 H9
        have hix : ∀ W, (Instr.index 88 (.agg #[.func (Fn.func 59) #[] #[], .func (Fn.func 60) #[] #[], .func (Fn.func 61) #[] #[], .func (Fn.func 62) #[] #[], .func (Fn.func 63) #[] #[], .func (Fn.func 64) #[] #[], .func (Fn.func 65) #[] #[], .func (Fn.func 66) #[] #[], .func (Fn.func 67) #[] #[], .func (Fn.func 68) #[] #[]]) (.int .i64 2)).run Tryz.prog W = .ok (.func (Fn.func 61) #[] #[]) W := fun W => by simp [Instr.index, run_underlying HU.out, asIntOf, go_sem]
        cases r2 with
        | none =>
          have HF : Hid (M = (firstS [r3, r4, r5, r6, r7, r8, r9]).getD { rest := c }) := Lib.hid Hk.out
          clear Hk
          go_wp2_with fail
          ((with_reducible refine (H2.out _).mono ?_))
          rintro e w1 ⟨⟨v, rfl, x0, x1, x2, x3, x4, x5, x6, x7, x8, A9, n9, c9, A10, n10, c10, rfl⟩, b1⟩
          have HZ := ZM.below HZr b1
          have HB := HBr.trans (b1.mono HBr.size)
          clear b1
          go_wp2_with fail
          go_round
          case rel => exact ⟨3, by go_num, by omega, HZ.below ((Below.refl _ w1).alloc (Nat.le_refl _) _), HB.alloc HB.size _, HF⟩
          case measure => simp [intOf]
        | some m =>
          have HF : Hid (M = m) := Lib.hid Hk.out
          clear Hk
          go_wp2_with fail
          ((with_reducible refine (H2.out _).mono ?_))
          rintro e w1 ⟨⟨v, rfl, vC, vP, rfl, hown⟩, b1⟩
          have hlt : w.heap.size < wr.heap.size := Blk.lt HZr
          have hH := Lib.hid (And.intro hlt hown)
          clear hlt
          obtain ⟨AC, cC, rfl⟩ := own_slice hown.cls
          obtain ⟨AP, cP, rfl⟩ := own_slice hown.prs
          clear hown
          have HZ := ZM.below HZr b1
          have HB := HBr.trans (b1.mono HBr.size)
          clear b1
          have HZ2 := HZ.below ((Below.refl _ w1).alloc (Nat.le_refl _) (.cells (m.cells (.slice AC m.att.cl.length cC) (.slice AP m.att.pr.length cP)) 74))
          obtain ⟨k0, k1, k2, k3, k4, k5, k6, k7, k8, k9, k10, y0, y1, y2, y3, y4, y5, y6, y7, y8, y9, y10⟩ := ZM.facts HZ2
          unfold MkL.cells at *
          go_wp2_with fail
          refine of_ret (blk11 HZ2 _ _ _ _ _ _ _ _ _ _ _) rfl rfl ⟨⟨_, rfl, ?_⟩, below11 (HB.alloc HB.size _) (Nat.le_refl _) _ _ _ _ _ _ _ _ _ _ _⟩
          rw [HF.out]
          exact mkVal_own (ownA_low (ownA_far (ownA_far hH.out.2 (World.grownBy_alloc _ _ (some w.heap.size)) hH.out.1) (grown11 _ _ _ _ _ _ _ _ _ _ _ _ _) hH.out.1) (Nat.le_of_lt hH.out.1))
      · clear H0 H1 H2 H4 H5 H6 H7 H8 H9
        have hix : ∀ W, (Instr.index 88 (.agg #[.func (Fn.func 59) #[] #[], .func (Fn.func 60) #[] #[], .func (Fn.func 61) #[] #[], .func (Fn.func 62) #[] #[], .func (Fn.func 63) #[] #[], .func (Fn.func 64) #[] #[], .func (Fn.func 65) #[] #[], .func (Fn.func 66) #[] #[], .func (Fn.func 67) #[] #[], .func (Fn.func 68) #[] #[]]) (.int .i64 3)).run Tryz.prog W = .ok (.func (Fn.func 62) #[] #[]) W := fun W => by simp [Instr.index, run_underlying HU.out, asIntOf, go_sem]
        cases r3 with
        | none =>
          have HF : Hid (M = (firstS [r4, r5, r6, r7, r8, r9]).getD { rest := c }) := Lib.hid Hk.out
          clear Hk
          go_wp2_with fail
          ((with_reducible refine (H3.out _).mono ?_))
          rintro e w1 ⟨⟨v, rfl, x0, x1, x2, x3, x4, x5, x6, x7, x8, A9, n9, c9, A10, n10, c10, rfl⟩, b1⟩
          have HZ := ZM.below HZr b1
          have HB := HBr.trans (b1.mono HBr.size)
          clear b1
          go_wp2_with fail
          go_round
          case rel => exact ⟨4, by go_num, by omega, HZ.below ((Below.refl _ w1).alloc (Nat.le_refl _) _), HB.alloc HB.size _, HF⟩
          case measure => simp [intOf]
        | some m =>
          have HF : Hid (M = m) := Lib.hid Hk.out
          clear Hk
          go_wp2_with fail
          ((with_reducible refine (H3.out _).mono ?_))
          rintro e w1 ⟨⟨v, rfl, vC, vP, rfl, hown⟩, b1⟩
          have hlt : w.heap.size < wr.heap.size := Blk.lt HZr
          have hH := Lib.hid (And.intro hlt hown)
          clear hlt
          obtain ⟨AC, cC, rfl⟩ := own_slice hown.cls
          obtain ⟨AP, cP, rfl⟩ := own_slice hown.prs
          clear hown
          have HZ := ZM.below HZr b1
          have HB := HBr.trans (b1.mono HBr.size)
          clear b1
          have HZ2 := HZ.below ((Below.refl _ w1).alloc (Nat.le_refl _) (.cells (m.cells (.slice AC m.att.cl.length cC) (.slice AP m.att.pr.length cP)) 74))
          obtain ⟨k0, k1, k2, k3, k4, k5, k6, k7, k8, k9, k10, y0, y1, y2, y3, y4, y5, y6, y7, y8, y9, y10⟩ := ZM.facts HZ2
          unfold MkL.cells at *
          go_wp2_with fail
          refine of_ret (blk11 HZ2 _ _ _ _ _ _ _ _ _ _ _) rfl rfl ⟨⟨_, rfl, ?_⟩, below11 (HB.alloc HB.size _) (Nat.le_refl _) _ _ _ _ _ _ _ _ _ _ _⟩
          rw [HF.out]
          exact mkVal_own (ownA_low (ownA_far (ownA_far hH.out.2 (World.grownBy_alloc _ _ (some w.heap.size)) hH.out.1) (grown11 _ _ _ _ _ _ _ _ _ _ _ _ _) hH.out.1) (Nat.le_of_lt hH.out.1))
      · clear H0 H1 H2 H3 H5 H6 H7 H8 H9
        have hix : ∀ W, (Instr.index 88 (.agg #[.func (Fn.func 59) #[] #[], .func (Fn.func 60) #[] #[], .func (Fn.func 61) #[] #[], .func (Fn.func 62) #[] #[], .func (Fn.func 63) #[] #[], .func (Fn.func 64) #[] #[], .func (Fn.func 65) #[] #[], .func (Fn.func 66) #[] #[], .func (Fn.func 67) #[] #[], .func (Fn.func 68) #[] #[]]) (.int .i64 4)).run Tryz.prog W = .ok (.func (Fn.func 63) #[] #[]) W := fun W => by simp [Instr.index, run_underlying HU.out, asIntOf, go_sem]
        cases r4 with
        | none =>
          have HF : Hid (M = (firstS [r5, r6, r7, r8, r9]).getD { rest := c }) := Lib.hid Hk.out
          clear Hk
          go_wp2_with fail
          ((with_reducible refine (H4.out _).mono ?_))
          rintro e w1 ⟨⟨v, rfl, x0, x1, x2, x3, x4, x5, x6, x7, x8, A9, n9, c9, A10, n10, c10, rfl⟩, b1⟩
          have HZ := ZM.below HZr b1
          have HB := HBr.trans (b1.mono HBr.size)
          clear b1
          go_wp2_with fail
          go_round
          case rel => exact ⟨5, by go_num, by omega, HZ.below ((Below.refl _ w1).alloc (Nat.le_refl _) _), HB.alloc HB.size _, HF⟩
          case measure => simp [intOf]
        | some m =>
          have HF : Hid (M = m) := Lib.hid Hk.out
          clear Hk
          go_wp2_with fail
          ((with_reducible refine (H4.out _).mono ?_))
          rintro e w1 ⟨⟨v, rfl, vC, vP, rfl, hown⟩, b1⟩
          have hlt : w.heap.size < wr.heap.size := Blk.lt HZr
          have hH := Lib.hid (And.intro hlt hown)
          clear hlt
          obtain ⟨AC, cC, rfl⟩ := own_slice hown.cls
          obtain ⟨AP, cP, rfl⟩ := own_slice hown.prs
          clear hown
          have HZ := ZM.below HZr b1
          have HB := HBr.trans (b1.mono HBr.size)
          clear b1
          have HZ2 := HZ.below ((Below.refl _ w1).alloc (Nat.le_refl _) (.cells (m.cells (.slice AC m.att.cl.length cC) (.slice AP m.att.pr.length cP)) 74))
          obtain ⟨k0, k1, k2, k3, k4, k5, k6, k7, k8, k9, k10, y0, y1, y2, y3, y4, y5, y6, y7, y8, y9, y10⟩ := ZM.facts HZ2
          unfold MkL.cells at *
          go_wp2_with fail
          refine of_ret (blk11 HZ2 _ _ _ _ _ _ _ _ _ _ _) rfl rfl ⟨⟨_, rfl, ?_⟩, below11 (HB.alloc HB.size _) (Nat.le_refl _) _ _ _ _ _ _ _ _ _ _ _⟩
          rw [HF.out]
          exact mkVal_own (ownA_low (ownA_far (ownA_far hH.out.2 (World.grownBy_alloc _ _ (some w.heap.size)) hH.out.1) (grown11 _ _ _ _ _ _ _ _ _ _ _ _ _) hH.out.1) (Nat.le_of_lt hH.out.1))
      · clear H0 H1 H2 H3 H4 H6 H7 H8 H9
        have hix : ∀ W, (Instr.index 88 (.agg #[.func (Fn.func 59) #[] #[], .func (Fn.func 60) #[] #[], .func (Fn.func 61) #[] #[], .func (Fn.func 62) #[] #[], .func (Fn.func 63) #[] #[], .func (Fn.func 64) #[] #[], .func (Fn.func 65) #[] #[], .func (Fn.func 66) #[] #[], .func (Fn.func 67) #[] #[], .func (Fn.func 68) #[] #[]]) (.int .i64 5)).run Tryz.prog W = .ok (.func (Fn.func 64) #[] #[]) W := fun W => by simp [Instr.index, run_underlying HU.out, asIntOf, go_sem]
        cases r5 with
        | none =>
          have HF : Hid (M = (firstS [r6, r7, r8, r9]).getD { rest := c }) := Lib.hid Hk.out
          clear Hk
          go_wp2_with fail
          ((with_reducible refine (H5.out _).mono ?_))
          rintro e w1 ⟨⟨v, rfl, x0, x1, x2, x3, x4, x5, x6, x7, x8, A9, n9, c9, A10, n10, c10, rfl⟩, b1⟩
          have HZ := ZM.below HZr b1
          have HB := HBr.trans (b1.mono HBr.size)
          clear b1
          go_wp2_with fail
          go_round
          case rel => exact ⟨6, by go_num, by omega, HZ.below ((Below.refl _ w1).alloc (Nat.le_refl _) _), HB.alloc HB.size _, HF⟩
          case measure => simp [intOf]
        | some m =>
          have HF : Hid (M = m) := Lib.hid Hk.out
          clear Hk
          go_wp2_with fail
          ((with_reducible refine (H5.out _).mono ?_))
          rintro e w1 ⟨⟨v, rfl, vC, vP, rfl, hown⟩, b1⟩
          have hlt : w.heap.size < wr.heap.size := Blk.lt HZr
          have hH := Lib.hid (And.intro hlt hown)
          clear hlt
          obtain ⟨AC, cC, rfl⟩ := own_slice hown.cls
          obtain ⟨AP, cP, rfl⟩ := own_slice hown.prs
          clear hown
          have HZ := ZM.below HZr b1
          have HB := HBr.trans (b1.mono HBr.size)
          clear b1
          have HZ2 := HZ.below ((Below.refl _ w1).alloc (Nat.le_refl _) (.cells (m.cells (.slice AC m.att.cl.length cC) (.slice AP m.att.pr.length cP)) 74))
          obtain ⟨k0, k1, k2, k3, k4, k5, k6, k7, k8, k9, k10, y0, y1, y2, y3, y4, y5, y6, y7, y8, y9, y10⟩ := ZM.facts HZ2
          unfold MkL.cells at *
          go_wp2_with fail
          refine of_ret (blk11 HZ2 _ _ _ _ _ _ _ _ _ _ _) rfl rfl ⟨⟨_, rfl, ?_⟩, below11 (HB.alloc HB.size _) (Nat.le_refl _) _ _ _ _ _ _ _ _ _ _ _⟩
          rw [HF.out]
          exact mkVal_own (ownA_low (ownA_far (ownA_far hH.out.2 (World.grownBy_alloc _ _ (some w.heap.size)) hH.out.1) (grown11 _ _ _ _ _ _ _ _ _ _ _ _ _) hH.out.1) (Nat.le_of_lt hH.out.1))
      · clear H0 H1 H2 H3 H4 H5 H7 H8 H9
        have hix : ∀ W, (Instr.index 88 (.agg #[.func (Fn.func 59) #[] #[], .func (Fn.func 60) #[] #[], .func (Fn.func 61) #[] #[], .func (Fn.func 62) #[] #[], .func (Fn.func 63) #[] #[], .func (Fn.func 64) #[] #[], .func (Fn.func 65) #[] #[], .func (Fn.func 66) #[] #[], .func (Fn.func 67) #[] #[], .func (Fn.func 68) #[] #[]]) (.int .i64 6)).run Tryz.prog W = .ok (.func (Fn.func 65) #[] #[]) W := fun W => by simp [Instr.index, run_underlying HU.out, asIntOf, go_sem]
        cases r6 with
        | none =>
          have HF : Hid (M = (firstS [r7, r8, r9]).getD { rest := c }) := Lib.hid Hk.out
          clear Hk
          go_wp2_with fail
          ((with_reducible refine (H6.out _).mono ?_))
          rintro e w1 ⟨⟨v, rfl, x0, x1, x2, x3, x4, x5, x6, x7, x8, A9, n9, c9, A10, n10, c10, rfl⟩, b1⟩
          have HZ := ZM.below HZr b1
          have HB := HBr.trans (b1.mono HBr.size)
          clear b1
          go_wp2_with fail
          go_round
          case rel => exact ⟨7, by go_num, by omega, HZ.below ((Below.refl _ w1).alloc (Nat.le_refl _) _), HB.alloc HB.size _, HF⟩
          case measure => simp [intOf]
        | some m =>
          have HF : Hid (M = m) := Lib.hid Hk.out
          clear Hk
          go_wp2_with fail
          ((with_reducible refine (H6.out _).mono ?_))
          rintro e w1 ⟨⟨v, rfl, vC, vP, rfl, hown⟩, b1⟩
          have hlt : w.heap.size < wr.heap.size := Blk.lt HZr
          have hH := Lib.hid (And.intro hlt hown)
          clear hlt
          obtain ⟨AC, cC, rfl⟩ := own_slice hown.cls
          obtain ⟨AP, cP, rfl⟩ := own_slice hown.prs
          clear hown
          have HZ := ZM.below HZr b1
          have HB := HBr.trans (b1.mono HBr.size)
          clear b1
          have HZ2 := HZ.below ((Below.refl _ w1).alloc (Nat.le_refl _) (.cells (m.cells (.slice AC m.att.cl.length cC) (.slice AP m.att.pr.length cP)) 74))
          obtain ⟨k0, k1, k2, k3, k4, k5, k6, k7, k8, k9, k10, y0, y1, y2, y3, y4, y5, y6, y7, y8, y9, y10⟩ := ZM.facts HZ2
          unfold MkL.cells at *
          go_wp2_with fail
          refine of_ret (blk11 HZ2 _ _ _ _ _ _ _ _ _ _ _) rfl rfl ⟨⟨_, rfl, ?_⟩, below11 (HB.alloc HB.size _) (Nat.le_refl _) _ _ _ _ _ _ _ _ _ _ _⟩
          rw [HF.out]
          exact mkVal_own (ownA_low (ownA_far (ownA_far hH.out.2 (World.grownBy_alloc _ _ (some w.heap.size)) hH.out.1) (grown11 _ _ _ _ _ _ _ _ _ _ _ _ _) hH.out.1) (Nat.le_of_lt hH.out.1))
      · clear H0 H1 H2 H3 H4 H5 H6 H8 H9
        have hix : ∀ W, (Instr.index 88 (.agg #[.func (Fn.func 59) #[] #[], .func (Fn.func 60) #[] #[], .func (Fn.func 61) #[] #[], .func (Fn.func 62) #[] #[], .func (Fn.func 63) #[] #[], .func (Fn.func 64) #[] #[], .func (Fn.func 65) #[] #[], .func (Fn.func 66) #[] #[], .func (Fn.func 67) #[] #[], .func (Fn.func 68) #[] #[]]) (.int .i64 7)).run Tryz.prog W = .ok (.func (Fn.func 66) #[] #[]) W := fun W => by simp [Instr.index, run_underlying HU.out, asIntOf, go_sem]
        cases r7 with
        | none =>
          have HF : Hid (M = (firstS [r8, r9]).getD { rest := c }) := Lib.hid Hk.out
          clear Hk
          go_wp2_with fail
          ((with_reducible refine (H7.out _).mono ?_))
          rintro e w1 ⟨⟨v, rfl, x0, x1, x2, x3, x4, x5, x6, x7, x8, A9, n9, c9, A10, n10, c10, rfl⟩, b1⟩
          have HZ := ZM.below HZr b1
          have HB := HBr.trans (b1.mono HBr.size)
          clear b1
          go_wp2_with fail
          go_round
          case rel => exact ⟨8, by go_num, by omega, HZ.below ((Below.refl _ w1).alloc (Nat.le_refl _) _), HB.alloc HB.size _, HF⟩
          case measure => simp [intOf]
        | some m =>
          have HF : Hid (M = m) := Lib.hid Hk.out
          clear Hk
          go_wp2_with fail
          ((with_reducible refine (H7.out _).mono ?_))
          rintro e w1 ⟨⟨v, rfl, vC, vP, rfl, hown⟩, b1⟩
          have hlt : w.heap.size < wr.heap.size := Blk.lt HZr
          have hH := Lib.hid (And.intro hlt hown)
          clear hlt
          obtain ⟨AC, cC, rfl⟩ := own_slice hown.cls
          obtain ⟨AP, cP, rfl⟩ := own_slice hown.prs
          clear hown
          have HZ := ZM.below HZr b1
          have HB := HBr.trans (b1.mono HBr.size)
          clear b1
          have HZ2 := HZ.below ((Below.refl _ w1).alloc (Nat.le_refl _) (.cells (m.cells (.slice AC m.att.cl.length cC) (.slice AP m.att.pr.length cP)) 74))
          obtain ⟨k0, k1, k2, k3, k4, k5, k6, k7, k8, k9, k10, y0, y1, y2, y3, y4, y5, y6, y7, y8, y9, y10⟩ := ZM.facts HZ2
          unfold MkL.cells at *
          go_wp2_with fail
          refine of_ret (blk11 HZ2 _ _ _ _ _ _ _ _ _ _ _) rfl rfl ⟨⟨_, rfl, ?_⟩, below11 (HB.alloc HB.size _) (Nat.le_refl _) _ _ _ _ _ _ _ _ _ _ _⟩
          rw [HF.out]
          exact mkVal_own (ownA_low (ownA_far (ownA_far hH.out.2 (World.grownBy_alloc _ _ (some w.heap.size)) hH.out.1) (grown11 _ _ _ _ _ _ _ _ _ _ _ _ _) hH.out.1) (Nat.le_of_lt hH.out.1))
      · clear H0 H1 H2 H3 H4 H5 H6 H7 H9
        have hix : ∀ W, (Instr.index 88 (.agg #[.func (Fn.func 59) #[] #[], .func (Fn.func 60) #[] #[], .func (Fn.func 61) #[] #[], .func (Fn.func 62) #[] #[], .func (Fn.func 63) #[] #[], .func (Fn.func 64) #[] #[], .func (Fn.func 65) #[] #[], .func (Fn.func 66) #[] #[], .func (Fn.func 67) #[] #[], .func (Fn.func 68) #[] #[]]) (.int .i64 8)).run Tryz.prog W = .ok (.func (Fn.func 67) #[] #[]) W := fun W => by simp [Instr.index, run_underlying HU.out, asIntOf, go_sem]
        cases r8 with
        | none =>
          have HF : Hid (M = (firstS [r9]).getD { rest := c }) := Lib.hid Hk.out
          clear Hk
          go_wp2_with fail
          ((with_reducible refine (H8.out _).mono ?_))
          rintro e w1 ⟨⟨v, rfl, x0, x1, x2, x3, x4, x5, x6, x7, x8, A9, n9, c9, A10, n10, c10, rfl⟩, b1⟩
          have HZ := ZM.below HZr b1
          have HB := HBr.trans (b1.mono HBr.size)
          clear b1
          go_wp2_with fail
          go_round
          case rel => exact ⟨9, by go_num, by omega, HZ.below ((Below.refl _ w1).alloc (Nat.le_refl _) _), HB.alloc HB.size _, HF⟩
          case measure => simp [intOf]
        | some m =>
          have HF : Hid (M = m) := Lib.hid Hk.out
          clear Hk
          go_wp2_with fail
          ((with_reducible refine (H8.out _).mono ?_))
          rintro e w1 ⟨⟨v, rfl, vC, vP, rfl, hown⟩, b1⟩
          have hlt : w.heap.size < wr.heap.size := Blk.lt HZr
          have hH := Lib.hid (And.intro hlt hown)
          clear hlt
          obtain ⟨AC, cC, rfl⟩ := own_slice hown.cls
          obtain ⟨AP, cP, rfl⟩ := own_slice hown.prs
          clear hown
          have HZ := ZM.below HZr b1
          have HB := HBr.trans (b1.mono HBr.size)
          clear b1
          have HZ2 := HZ.below ((Below.refl _ w1).alloc (Nat.le_refl _) (.cells (m.cells (.slice AC m.att.cl.length cC) (.slice AP m.att.pr.length cP)) 74))
          obtain ⟨k0, k1, k2, k3, k4, k5, k6, k7, k8, k9, k10, y0, y1, y2, y3, y4, y5, y6, y7, y8, y9, y10⟩ := ZM.facts HZ2
          unfold MkL.cells at *
          go_wp2_with fail
          refine of_ret (blk11 HZ2 _ _ _ _ _ _ _ _ _ _ _) rfl rfl ⟨⟨_, rfl, ?_⟩, below11 (HB.alloc HB.size _) (Nat.le_refl _) _ _ _ _ _ _ _ _ _ _ _⟩
          rw [HF.out]
          exact mkVal_own (ownA_low (ownA_far (ownA_far hH.out.2 (World.grownBy_alloc _ _ (some w.heap.size)) hH.out.1) (grown11 _ _ _ _ _ _ _ _ _ _ _ _ _) hH.out.1) (Nat.le_of_lt hH.out.1))
      · clear H0 H1 H2 H3 H4 H5 H6 H7 H8
        have hix : ∀ W, (Instr.index 88 (.agg #[.func (Fn.func 59) #[] #[], .func (Fn.func 60) #[] #[], .func (Fn.func 61) #[] #[], .func (Fn.func 62) #[] #[], .func (Fn.func 63) #[] #[], .func (Fn.func 64) #[] #[], .func (Fn.func 65) #[] #[], .func (Fn.func 66) #[] #[], .func (Fn.func 67) #[] #[], .func (Fn.func 68) #[] #[]]) (.int .i64 9)).run Tryz.prog W = .ok (.func (Fn.func 68) #[] #[]) W := fun W => by simp [Instr.index, run_underlying HU.out, asIntOf, go_sem]
        cases r9 with
        | none =>
          have HF : Hid (M = (firstS []).getD { rest := c }) := Lib.hid Hk.out
          clear Hk
          go_wp2_with fail
          ((with_reducible refine (H9.out _).mono ?_))
          rintro e w1 ⟨⟨v, rfl, x0, x1, x2, x3, x4, x5, x6, x7, x8, A9, n9, c9, A10, n10, c10, rfl⟩, b1⟩
          have HZ := ZM.below HZr b1
          have HB := HBr.trans (b1.mono HBr.size)
          clear b1
          go_wp2_with fail
          go_round
          case rel => exact ⟨10, by go_num, by omega, HZ.below ((Below.refl _ w1).alloc (Nat.le_refl _) _), HB.alloc HB.size _, HF⟩
          case measure => simp [intOf]
        | some m =>
          have HF : Hid (M = m) := Lib.hid Hk.out
          clear Hk
          go_wp2_with fail
          ((with_reducible refine (H9.out _).mono ?_))
          rintro e w1 ⟨⟨v, rfl, vC, vP, rfl, hown⟩, b1⟩
          have hlt : w.heap.size < wr.heap.size := Blk.lt HZr
          have hH := Lib.hid (And.intro hlt hown)
          clear hlt
          obtain ⟨AC, cC, rfl⟩ := own_slice hown.cls
          obtain ⟨AP, cP, rfl⟩ := own_slice hown.prs
          clear hown
          have HZ := ZM.below HZr b1
          have HB := HBr.trans (b1.mono HBr.size)
          clear b1
          have HZ2 := HZ.below ((Below.refl _ w1).alloc (Nat.le_refl _) (.cells (m.cells (.slice AC m.att.cl.length cC) (.slice AP m.att.pr.length cP)) 74))
          obtain ⟨k0, k1, k2, k3, k4, k5, k6, k7, k8, k9, k10, y0, y1, y2, y3, y4, y5, y6, y7, y8, y9, y10⟩ := ZM.facts HZ2
          unfold MkL.cells at *
          go_wp2_with fail
          refine of_ret (blk11 HZ2 _ _ _ _ _ _ _ _ _ _ _) rfl rfl ⟨⟨_, rfl, ?_⟩, below11 (HB.alloc HB.size _) (Nat.le_refl _) _ _ _ _ _ _ _ _ _ _ _⟩
          rw [HF.out]
          exact mkVal_own (ownA_low (ownA_far (ownA_far hH.out.2 (World.grownBy_alloc _ _ (some w.heap.size)) hH.out.1) (grown11 _ _ _ _ _ _ _ _ _ _ _ _ _) hH.out.1) (Nat.le_of_lt hH.out.1))
      · have HF : Hid (M = { rest := c }) := Lib.hid Hk.out
        obtain ⟨k0, k1, k2, k3, k4, k5, k6, k7, k8, k9, k10, y0, y1, y2, y3, y4, y5, y6, y7, y8, y9, y10⟩ := ZM.facts HZr
        go_wp2_with fail
        exact of_ret (blk11 HZr _ _ _ _ _ _ _ _ _ _ _) rfl rfl ⟨⟨_, rfl, by rw [HF.out]; exact mkVal_plain (m := { rest := c }) rfl (below11 HBr (Nat.le_refl _) _ _ _ _ _ _ _ _ _ _ _).size⟩, below11 HBr (Nat.le_refl _) _ _ _ _ _ _ _ _ _ _ _⟩

end Go.Proofs.YtpoafhgbhnblmaaGreatDoor
namespace Go.Pub
open Go.RowKit Go.ChangeMaps Go.MapKept
open Go.Maps (Keyed)
def SetMap (w : World) (b : Nat) (keys : List ByteArray) : Prop :=
  ∃ es clock, w.heap[b]? = some (.map es clock) ∧ es.toList.map (fun e => (e.key, e.val)) = keys.map (fun k => (Value.string k, Value.bool true)) ∧ ∀ k ∈ keys, k.size ≤ maxLen
section
variable {P : Program} {w w' : World} {b : Nat} {keys : List ByteArray}
theorem SetMap.lt (h : SetMap w b keys) : b < w.heap.size := by
  obtain ⟨es, clock, hb, _⟩ := h
  exact (Array.getElem?_eq_some_iff.1 hb).1
theorem SetMap.new (w : World) : SetMap (w.alloc (.map #[] 0)) w.heap.size [] := ⟨#[], 0, (MapKept.heap_alloc w _).1, rfl, fun _ h => absurd h (by simp)⟩
theorem SetMap.kept (h : SetMap w b keys) (hb : w'.heap[b]? = w.heap[b]?) : SetMap w' b keys := by
  obtain ⟨es, clock, h1, h2⟩ := h
  exact ⟨es, clock, hb.trans h1, h2⟩
theorem SetMap.alloc (h : SetMap w b keys) (o : Obj) : SetMap (w.alloc o) b keys := h.kept (Below.heap_alloc _ _ _ h.lt)
theorem SetMap.below (h : SetMap w b keys) (hb : Below w.heap.size w w') : SetMap w' b keys := h.kept (hb.block _ h.lt)
theorem keyOf_str {k : TypeId} (hk : P.underlying k = some .string) {s : ByteArray} (hs : s.size ≤ maxLen) : ∃ l, keyOf P k (.string s) = some l := by
  unfold keyOf
  rw [hk]
  simp [mapKey, hk, hs]
theorem SetMap.entries {k : TypeId} (hk : P.underlying k = some .string) {es : Array MapEntry} (he : es.toList.map (fun e => (e.key, e.val)) = keys.map (fun k => (Value.string k, Value.bool true))) (hm : ∀ k ∈ keys, k.size ≤ maxLen) :
    ∀ e ∈ es.toList, ∃ s, s ∈ keys ∧ e.key = .string s ∧ e.val = .bool true ∧ ∃ l, keyOf P k e.key = some l := by
  intro e hmem
  have : (e.key, e.val) ∈ es.toList.map (fun e => (e.key, e.val)) := List.mem_map.2 ⟨e, hmem, rfl⟩
  rw [he] at this
  obtain ⟨s, hs, he'⟩ := List.mem_map.1 this
  injection he' with e1 e2
  obtain ⟨l, hl⟩ := keyOf_str hk (hm s hs)
  exact ⟨s, hs, e1.symm, e2.symm, l, by rw [← e1]; exact hl⟩
theorem SetMap.find {k : TypeId} (hk : P.underlying k = some .string) {es : Array MapEntry} (he : es.toList.map (fun e => (e.key, e.val)) = keys.map (fun k => (Value.string k, Value.bool true))) (hm : ∀ k ∈ keys, k.size ≤ maxLen)
    (x : ByteArray) (hx : x.size ≤ maxLen) (w : World) : (x ∉ keys ∧ (Instr.findKey k (.string x) es.toList).run P w = .ok none w) ∨ (x ∈ keys ∧ ∃ j, (Instr.findKey k (.string x) es.toList).run P w = .ok (some (j, .bool true)) w) := by
  obtain ⟨lx, hlx⟩ := keyOf_str hk hx
  have hE := SetMap.entries hk he hm
  rcases (Maps.string_keyed hk).find w hlx es.toList (fun e hmem => (hE e hmem).choose_spec.2.2.2) with ⟨h1, h2⟩ | ⟨j, e, h1, h2, h3⟩
  · left
    refine ⟨fun hmem => ?_, h1⟩
    have : (Value.string x, Value.bool true) ∈ keys.map (fun k => (Value.string k, Value.bool true)) := List.mem_map.2 ⟨x, hmem, rfl⟩
    rw [← he] at this
    obtain ⟨e, hmem', he'⟩ := List.mem_map.1 this
    injection he' with e1 e2
    exact h2 e hmem' e1
  · right
    have hmem := List.mem_of_getElem? h2
    obtain ⟨s, hs, k1, k2, _⟩ := hE e hmem
    rw [h3] at k1
    injection k1 with k1
    subst k1
    rw [k2] at h1
    exact ⟨hs, j, h1⟩
theorem SetMap.look {t k e : TypeId} (h : SetMap w b keys) (ht : P.underlying t = some (.map k e)) (hk : P.underlying k = some .string) (hz : (zeroValue e).run P w = .ok (.bool false) w) (x : ByteArray) (hx : x.size ≤ maxLen) :
    (Instr.lookup t (.map (some b)) (.string x) false).run P w = .ok (.bool (Lib.containsS keys x)) w := by
  obtain ⟨es, clock, hb, he, hm⟩ := h
  obtain ⟨lx, hlx⟩ := keyOf_str hk hx
  have hck := (Maps.string_keyed hk).check w es.isEmpty hlx
  rcases SetMap.find hk he hm x hx w with ⟨h1, h2⟩ | ⟨h1, j, h2⟩
  · have hc : Lib.containsS keys x = false := by rw [← Bool.not_eq_true, Lib.containsS_iff]; exact h1
    simp [Instr.lookup, run_underlying ht, MapKept.run_getObj_map hb, hck, h2, hz, hc, Result.andThen]
  · have hc : Lib.containsS keys x = true := (Lib.containsS_iff _ _).2 h1
    simp [Instr.lookup, run_underlying ht, MapKept.run_getObj_map hb, hck, h2, hc, Result.andThen]
theorem SetMap.put {t k e : TypeId} (h : SetMap w b keys) (ht : P.underlying t = some (.map k e)) (hk : P.underlying k = some .string) (x : ByteArray) (hx : x.size ≤ maxLen) (hno : Lib.containsS keys x = false) :
    ∃ w1, (Instr.mapUpdate t (.map (some b)) (.string x) (.bool true)).run P w = .ok () w1 ∧ SetMap w1 b (keys ++ [x]) ∧ w.grownBy w1 (some b) ∧ w1.heap.size = w.heap.size := by
  have hlt := h.lt
  obtain ⟨es, clock, hb, he, hm⟩ := h
  obtain ⟨lx, hlx⟩ := keyOf_str hk hx
  have hck := (Maps.string_keyed hk).check w false hlx
  rcases SetMap.find hk he hm x hx w with ⟨h1, h2⟩ | ⟨h1, j, h2⟩
  · refine ⟨setBlock w b (.map (es.push ⟨.string x, .bool true, clock⟩) (clock + 1)), ?_, ⟨es.push ⟨.string x, .bool true, clock⟩, clock + 1, ?_, ?_, ?_⟩, ⟨rfl, rfl, rfl, ?_, ?_⟩, ?_⟩
    · simp [Instr.mapUpdate, run_underlying ht, MapKept.run_getObj_map hb, hck, h2, MapKept.run_setObj_map _ hb, Result.andThen, setBlock]
    · simp [setBlock, Array.getElem?_setIfInBounds, hlt]
    · rw [Array.toList_push, List.map_append, List.map_append, he]; rfl
    · intro y hy
      rcases List.mem_append.1 hy with hy | hy
      · exact hm y hy
      · simp at hy; subst hy; exact hx
    · simp [setBlock]
    · intro i _ hi
      simp only [setBlock]
      rw [Array.getElem?_setIfInBounds, if_neg (fun e => hi (by rw [e]))]
    · simp [setBlock]
  · have := (Lib.containsS_iff _ _).2 h1
    rw [hno] at this; cases this
theorem SetMap.clear {t : TypeId} {k e : TypeId} (h : SetMap w b keys) (ht : P.underlying t = some (.map k e)) :
    ∃ w1, (∀ ty, (Builtin.clear_ #[t] ty #[.map (some b)]).run P w = .ok (.tuple #[]) w1) ∧ SetMap w1 b [] ∧ w.grownBy w1 (some b) ∧ w1.heap.size = w.heap.size := by
  have hlt := h.lt
  obtain ⟨es, clock, hb, he, hm⟩ := h
  refine ⟨setBlock w b (.map #[] clock), ?_, ⟨#[], clock, ?_, rfl, fun _ h => absurd h (by simp)⟩, ⟨rfl, rfl, rfl, ?_, ?_⟩, ?_⟩
  · intro ty
    simp [Builtin.clear_, run_underlying ht, MapKept.run_getObj_map hb, MapKept.run_setObj_map _ hb, Result.andThen, setBlock]
  · simp [setBlock, Array.getElem?_setIfInBounds, hlt]
  · simp [setBlock]
  · intro i _ hi
    simp only [setBlock]
    rw [Array.getElem?_setIfInBounds, if_neg (fun e => hi (by rw [e]))]
  · simp [setBlock]
end
end Go.Pub
namespace Go.Proofs.YtpoafhgbhnblmaaGreatDoor
open Go.RowKit Go.Pub
/-- Attributes that are read alone. -/
structure ReadA (w : World) (B : Nat) (a : AttrL) (A : Option Addr) (c : Nat) (D : Option Addr) (d : Nat) : Prop where
  cls : Reads w B 1 A a.cl.length (strs a.cl)
  prs : Reads w B 2 D a.pr.length (prs a.pr)
  le : B ≤ w.heap.size
  nc : a.cl.length ≤ 1000000
  np : a.pr.length ≤ 1000000
  sid : a.id.size ≤ 1000000
  scl : ∀ x ∈ a.cl, x.size ≤ 1000000
  spr : ∀ x ∈ a.pr, x.1.size ≤ 1000000 ∧ x.2.size ≤ 1000000
theorem ReadA.below {w w' : World} {B : Nat} {a : AttrL} {A : Option Addr} {c : Nat} {D : Option Addr} {d : Nat} (h : ReadA w B a A c D d) (hb : Below w.heap.size w w') : ReadA w' B a A c D d :=
  ⟨h.cls.below (hb.mono h.le), h.prs.below (hb.mono h.le), Nat.le_trans h.le hb.size, h.nc, h.np, h.sid, h.scl, h.spr⟩
/-- What stands in memory in Check's loops. -/
structure CInv (w : World) (a : AttrL) (A : Option Addr) (c : Nat) (D : Option Addr) (d : Nat) (keys : List ByteArray) (wr : World) : Prop where
  blk : Blk wr w.heap.size 43 #[.string a.id, .slice A a.cl.length c, .slice D a.pr.length d]
  map : SetMap wr (w.heap.size + 1) keys
  bel : Below w.heap.size w wr
theorem CInv.put {w : World} {a : AttrL} {A : Option Addr} {c : Nat} {D : Option Addr} {d : Nat} {keys keys' : List ByteArray} {wr w1 : World} (h : CInv w a A c D d keys wr) (hm : SetMap w1 (w.heap.size + 1) keys') (hg : wr.grownBy w1 (some (w.heap.size + 1))) : CInv w a A c D d keys' w1 :=
  ⟨h.blk.grown hg (by simp), hm, h.bel.grown hg h.bel.size (fun k hk => by injection hk with hk; omega)⟩
theorem CInv.below {w : World} {a : AttrL} {A : Option Addr} {c : Nat} {D : Option Addr} {d : Nat} {keys : List ByteArray} {wr w1 : World} (h : CInv w a A c D d keys wr) (hb : Below wr.heap.size wr w1) : CInv w a A c D d keys w1 :=
  ⟨h.blk.below hb h.blk.lt, h.map.below hb, h.bel.trans (hb.mono h.bel.size)⟩
end Go.Proofs.YtpoafhgbhnblmaaGreatDoor
namespace Go.Pub
open Go.RowKit
theorem quiet_left {P : Program} {f : FuncId} {args : Array Value} {w : World} {n : Nat} {v : Value}
    (h : Calls P f args (w.drewN n) fun e w' => e = .returned v ∧ w.drewN n = w') : Calls P f args (w.drewN n) fun e w'' => e = .returned v ∧ ∃ m, w'' = w.drewN m :=
  h.mono fun _ _ ⟨he, hm⟩ => ⟨he, n, hm.symm⟩
theorem Reads.take {w : World} {B size n k : Nat} {A : Option Addr} {xs : List Value} (h : Reads w B size A n xs) (hk : k ≤ n) : Reads w B size A k (xs.take (k * size)) := by
  refine ⟨by rw [List.length_take, h.1]; exact Nat.min_eq_left (Nat.mul_le_mul_right _ hk), fun h0 => ?_⟩
  obtain ⟨ad, e, hb, hc⟩ := h.2 (by omega)
  refine ⟨ad, e, hb, fun j u hu => hc j u ?_⟩
  rw [List.getElem?_take] at hu
  split at hu
  · exact hu
  · cases hu
end Go.Pub
namespace Go.Proofs.YtpoafhgbhnblmaaGreatDoor
open Go.RowKit Go.Pub
structure BInv (w : World) (a : AttrL) (A : Option Addr) (c : Nat) (D : Option Addr) (d : Nat) (wr : World) : Prop where
  blk : Blk wr w.heap.size 43 #[.string a.id, .slice A a.cl.length c, .slice D a.pr.length d]
  bel : Below w.heap.size w wr
theorem BInv.below {w : World} {a : AttrL} {A : Option Addr} {c : Nat} {D : Option Addr} {d : Nat} {wr w1 : World} (h : BInv w a A c D d wr) (hb : Below wr.heap.size wr w1) : BInv w a A c D d w1 :=
  ⟨h.blk.below hb h.blk.lt, h.bel.trans (hb.mono h.bel.size)⟩
theorem BInv.drewN {w : World} {a : AttrL} {A : Option Addr} {c : Nat} {D : Option Addr} {d : Nat} {wr : World} (h : BInv w a A c D d wr) (n : Nat) : BInv w a A c D d (wr.drewN n) := ⟨h.blk, below_drewN h.bel n⟩
end Go.Proofs.YtpoafhgbhnblmaaGreatDoor
namespace Go.Pub
end Go.Pub
namespace Go.Proofs.YtpoafhgbhnblmaaGreatDoor
open Go.RowKit Go.Pub
structure TwoBlk (w : World) (u v : Array Value) (wr : World) : Prop where
  b1 : Blk wr w.heap.size 43 u
  b2 : Blk wr (w.heap.size + 1) 43 v
  bel : Below w.heap.size w wr
theorem TwoBlk.drewN {w wr : World} {u v : Array Value} (h : TwoBlk w u v wr) (n : Nat) : TwoBlk w u v (wr.drewN n) := ⟨h.b1, h.b2, below_drewN h.bel n⟩
end Go.Proofs.YtpoafhgbhnblmaaGreatDoor
namespace Go.Proofs.YtpoafhgbhnblmaaGreatDoor
open Go.RowKit Go.Pub
theorem OwnA.setId {w : World} {base : Nat} {a : AttrL} {vC vP : Value} (h : OwnA w base a vC vP) (x : ByteArray) : OwnA w base { a with id := x } vC vP := ⟨h.cls, h.prs, h.le, h.c32, h.p32⟩
end Go.Proofs.YtpoafhgbhnblmaaGreatDoor
namespace Go.Proofs.YtpoafhgbhnblmaaGreatDoor
open Go.RowKit Go.Pub
def SmallA (n : Nat) (a : AttrL) : Prop := a.id.size ≤ n ∧ (∀ x ∈ a.cl, x.size ≤ n) ∧ (∀ p ∈ a.pr, p.1.size ≤ n ∧ p.2.size ≤ n)
theorem extract_le (s : ByteArray) (i j : Nat) : (s.extract i j).size ≤ s.size := by rw [ByteArray.size_extract]; omega
theorem valL_small (s : ByteArray) (i : Nat) : (valL s i).1.size ≤ s.size := by
  unfold valL
  split
  · cases hq : qv s s.size (i + 1) [] with
    | none => exact Nat.zero_le _
    | some p =>
      obtain ⟨l, j⟩ := p
      have := (qv_len s _ _ _ l j hq).1
      show (mk l).size ≤ _
      rw [← bytesL_length, bytesL_mk']
      simp at this
      omega
  · exact extract_le _ _ _
theorem classA_small (n : Nat) (a : AttrL) (x : ByteArray) (h : SmallA n a) (hx : x.size ≤ n) : SmallA n (classA a x) := by
  unfold classA
  split
  · refine ⟨h.1, fun y hy => ?_, h.2.2⟩
    rcases List.mem_append.1 hy with hy | hy
    · exact h.2.1 y hy
    · simp at hy; subst hy; exact hx
  · exact h
theorem pairA_small (n : Nat) (a : AttrL) (x y : ByteArray) (h : SmallA n a) (hx : x.size ≤ n) (hy : y.size ≤ n) : SmallA n (pairA a x y) := by
  unfold pairA
  split
  · refine ⟨h.1, h.2.1, fun p hp => ?_⟩
    rcases List.mem_append.1 hp with hp | hp
    · exact h.2.2 p hp
    · simp at hp; subst hp; exact ⟨hx, hy⟩
  · exact h
theorem itemL_small (s : ByteArray) (a : AttrL) (i : Nat) (h : SmallA s.size a) : SmallA s.size (itemL a s i).2.2 := by
  unfold itemL
  split
  · split
    · split
      · exact ⟨extract_le _ _ _, h.2.1, h.2.2⟩
      · exact h
    · exact h
  · split
    · split
      · exact classA_small _ _ _ h (extract_le _ _ _)
      · exact h
    · split
      · unfold pairItem
        split
        · split
          · exact pairA_small _ _ _ _ h (extract_le _ _ _) (valL_small _ _)
          · exact h
        · exact h
      · exact h
theorem emptyA_small (n : Nat) : SmallA n emptyA := ⟨Nat.zero_le _, fun x hx => absurd hx (by simp [emptyA]), fun x hx => absurd hx (by simp [emptyA])⟩
theorem parseF_small (s : ByteArray) : ∀ f i b a, SmallA s.size a → SmallA s.size (parseF s f i b a).1
  | 0, _, _, _, _ => emptyA_small _
  | f + 1, i, b, a, h => by
    unfold parseF
    split
    · split
      · exact h
      · split
        · exact emptyA_small _
        · split
          · exact parseF_small s f _ _ _ (itemL_small s a i h)
          · exact emptyA_small _
    · exact emptyA_small _
theorem parseL_small (s : ByteArray) (i : Int) : SmallA s.size (parseL s i).1 := by
  unfold parseL
  split
  · exact parseF_small s _ _ _ _ (emptyA_small _)
  · exact emptyA_small _
end Go.Proofs.YtpoafhgbhnblmaaGreatDoor
namespace Go.Proofs.YtpoafhgbhnblmaaGreatDoor
open Go.RowKit Go.Pub
def optA : Option AttrL → AttrL × Bool
  | some a => (a, true)
  | none => (emptyA, false)
def closeD (c : ByteArray) (K N : Int) (ch : ByteArray) : AttrL × Bool :=
  if K = 7 then (emptyA, decide (ch.size = 1 ∧ 1 ≤ N) && (decide (N ≤ (firstN c (· != bt ch 0) : Int)) && blankB (c.extract (firstN c (· != bt ch 0)) c.size)))
  else if K = 8 then (if Lib.hasPrefix (bytesL c) [36, 36] = true then optA (onlyR (c.extract 2 c.size)) else (emptyA, false))
  else if K = 9 then (emptyA, decide (1 ≤ N) && (decide ((firstN c (· != 58) : Int) = N) && blankB (c.extract (firstN c (· != 58)) c.size)))
  else (emptyA, false)
def closesM (s : ByteArray) (K N : Int) (ch : ByteArray) : AttrL × Bool := if 3 < indA s 0 then (emptyA, false) else closeD (s.extract (indA s 0) s.size) K N ch
/-- Attributes and whether a line closes are handed back. -/
def ClPost (r : AttrL × Bool) (w : World) (e : Ending) (w' : World) : Prop := (∃ vC vP, e = .returned (.tuple #[.agg #[.string r.1.id, vC, vP], .bool r.2]) ∧ OwnA w' w.heap.size r.1 vC vP) ∧ Below w.heap.size w w'
theorem small_mono {n m : Nat} {a : AttrL} (h : SmallA n a) (hn : n ≤ m) : SmallA m a := ⟨Nat.le_trans h.1 hn, fun x hx => Nat.le_trans (h.2.1 x hx) hn, fun p hp => ⟨Nat.le_trans (h.2.2 p hp).1 hn, Nat.le_trans (h.2.2 p hp).2 hn⟩⟩
theorem onlyR_small (s : ByteArray) (a : AttrL) (h : onlyR s = some a) : SmallA s.size a := by
  have hz : (mk (trimS (bytesL s))).size ≤ s.size := by rw [mk_size]; have := trimS_len (bytesL s); rwa [bytesL_length] at this
  unfold onlyR at h
  split at h
  · injection h with h; subst h; exact emptyA_small _
  · split at h
    · injection h with h; subst h; exact small_mono (parseL_small _ _) hz
    · cases h
end Go.Proofs.YtpoafhgbhnblmaaGreatDoor
