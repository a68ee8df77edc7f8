/-
  Texts of the proof, put together (what this law reaches): MkO, SetMap, AttrL, AttrM, AttrQ, AttrJ, AttrSA, MkT, MkP, TabC, TabD, TabH.
-/
import Derived.Test.YtpoafhgbhnblmaaGreatDoorC07
import Derived.Laws.EntriesVeiled
import Derived.Test.YtpoafhgbhnblmaaGreatDoorC05
import Derived.Maps.Own
import Derived.Deep.QuietTactic
import Derived.BigQuiet
import Derived.Laws.StructEq
import Derived.Test.YtpoafhgbhnblmaaGreatDoorC06
import Derived.Test.YtpoafhgbhnblmaaGreatDoorC03
import Derived.Maps.AppendAt
import Derived.Laws.OwnMore
import Derived.Lib.TrimByte
import Derived.Deep.CutRange
import Derived.Deep.DeepCutAuto
import Derived.Test.YtpoafhgbhnblmaaGreatDoorC04
import Derived.Test.YtpoafhgbhnblmaaGreatDoorC02
import Derived.Laws.CopyOwn
import Derived.Laws.MakeOwn
set_option linter.unusedVariables false
set_option linter.unusedSimpArgs false
namespace Go.Proofs.YtpoafhgbhnblmaaGreatDoor
open Go.RowKit Go.Pub
/-- What the ten readers say of a line's core. -/
def rdrs (c : ByteArray) (ind : Nat) : List (Option MkL) := [headM c, ruleM c, quoteM c ind, bulletM c ind, numberM c ind, fenceM c ind, mathM c, divM c, noteM c, defM c]
def firstS : List (Option MkL) → Option MkL
  | [] => none
  | some m :: _ => some m
  | none :: l => firstS l
def markC (c : ByteArray) (ind : Nat) : MkL := if 3 < ind then { rest := c } else (firstS (rdrs c ind)).getD { rest := c }
def markM (s : ByteArray) : MkL := if blankB s = true then { kind := 1 } else markC (s.extract (indA s 0) s.size) (indA s 0)
def MkPost (m : MkL) (w : World) (e : Ending) (w' : World) : Prop := (∃ v, e = .returned v ∧ MkVal w' w.heap.size v m) ∧ Below w.heap.size w w'
set_option maxRecDepth 100000 in
set_option maxHeartbeats 8000000 in
theorem m_of (s : ByteArray) (w : World) (hs : s.size ≤ 1000000) : Calls Tryz.prog 38 #[.string s] w (MkPost (markM s) w) := by
  have hil : indA s 0 ≤ s.size := indA_le s
  have hcz : (s.extract (indA s 0) s.size).size = s.size - indA s 0 := by rw [ByteArray.size_extract]; omega
  have HR : Hid (markM s = if blankB s = true then { kind := 1 } else markC (s.extract (indA s 0) s.size) (indA s 0)) := Lib.hid rfl
  have HBl := Lib.hid fun W => t_blank s W hs
  have HI := Lib.hid fun W => t_indent s W hs
  have hbz : blankB s = false → indA s 0 ≠ s.size := fun h => by unfold blankB at h; simpa using h
  generalize markM s = M at *
  generalize blankB s = b at *
  generalize indA s 0 = ind at *
  have hili : (ind : Int) ≤ (s.size : Int) := by omega
  cases b with
  | true =>
    have HF : Hid (M = { kind := 1 }) := Lib.hid (by rw [HR.out]; rfl)
    clear HR hbz
    go_enter Tryz.func38, Tryz.ntmps38
    go_wp2_with fail
    ((with_reducible refine (HBl.out _).mono ?_))
    rintro e w' ⟨rfl, rfl⟩
    go_wp2_with fail
    exact of_ret (Blk.new w _ _) rfl rfl ⟨⟨_, rfl, by rw [HF.out]; exact mkVal_plain (m := { kind := 1 }) rfl ((Below.refl _ w).alloc (Nat.le_refl _) _).size⟩, (Below.refl _ w).alloc (Nat.le_refl _) _⟩
  | false =>
    have hne := hbz rfl
    clear hbz
    have HR2 : Hid (M = if 3 < ind then { rest := s.extract ind s.size } else (firstS (rdrs (s.extract ind s.size) ind)).getD { rest := s.extract ind s.size }) := Lib.hid (by rw [HR.out]; rfl)
    clear HR
    generalize hcc : s.extract ind s.size = c at *
    have h0 : 0 < c.size := by omega
    have hcs : c.size ≤ 1000000 := by omega
    by_cases hi : 3 < ind
    · have HF : Hid (M = { rest := c }) := Lib.hid (by rw [HR2.out, if_pos hi])
      have d1 : decide (3 < (ind : Int)) = true := decide_eq_true (by omega)
      have d2 : decide (3 < ind) = true := decide_eq_true hi
      clear HR2
      go_enter Tryz.func38, Tryz.ntmps38
      go_wp2_with fail
      ((with_reducible refine (HBl.out _).mono ?_))
      rintro e w' ⟨rfl, rfl⟩
      go_wp2_with fail
      ((with_reducible refine (HI.out _).mono ?_))
      rintro e w' ⟨rfl, rfl⟩
      go_wp2_with fail
      exact of_ret (Blk.new w _ _) rfl rfl ⟨⟨_, rfl, by rw [HF.out]; exact mkVal_plain (m := { rest := c }) rfl ((Below.refl _ w).alloc (Nat.le_refl _) _).size⟩, (Below.refl _ w).alloc (Nat.le_refl _) _⟩
    have d1 : decide (3 < (ind : Int)) = false := decide_eq_false (by omega)
    have d2 : decide (3 < ind) = false := decide_eq_false hi
    have HR3 : Hid (M = (firstS (rdrs c ind)).getD { rest := c }) := Lib.hid (by rw [HR2.out, if_neg hi])
    have hi : ind ≤ 3 := by omega
    clear HR2
    have H0 := Lib.hid fun W => m_head c ind W hcs h0
    have H1 := Lib.hid fun W => m_rule c ind W hcs h0
    have H2 := Lib.hid fun W => m_quote c ind W hcs h0 hi
    have H3 := Lib.hid fun W => m_bullet c ind W hcs h0 hi
    have H4 := Lib.hid fun W => m_number c ind W hcs h0 hi
    have H5 := Lib.hid fun W => m_fence c ind W hcs h0 hi
    have H6 := Lib.hid fun W => m_formula c ind W hcs h0
    have H7 := Lib.hid fun W => m_directive c ind W hcs h0
    have H8 := Lib.hid fun W => m_note c ind W hcs h0
    have H9 := Lib.hid fun W => m_def c ind W hcs h0
    have HL : Hid (rdrs c ind = [headM c, ruleM c, quoteM c ind, bulletM c ind, numberM c ind, fenceM c ind, mathM c, divM c, noteM c, defM c]) := Lib.hid rfl
    generalize rdrs c ind = L at *
    generalize headM c = r0 at *
    generalize ruleM c = r1 at *
    generalize quoteM c ind = r2 at *
    generalize bulletM c ind = r3 at *
    generalize numberM c ind = r4 at *
    generalize fenceM c ind = r5 at *
    generalize mathM c = r6 at *
    generalize divM c = r7 at *
    generalize noteM c = r8 at *
    generalize defM c = r9 at *
    have HG : Hid (M = (firstS [r0, r1, r2, r3, r4, r5, r6, r7, r8, r9]).getD { rest := c }) := Lib.hid (by rw [HR3.out, HL.out])
    clear HR3 HL
    go_enter Tryz.func38, Tryz.ntmps38
    go_wp2_with fail
    ((with_reducible refine (HBl.out _).mono ?_))
    rintro e w' ⟨rfl, rfl⟩
    go_wp2_with fail
    ((with_reducible refine (HI.out _).mono ?_))
    rintro e w2 ⟨rfl, hw⟩
    have hw' : zw w = w2 := hw
    have HZ2 : ZM w2 w.heap.size := hw' ▸ zw_zm w
    have HB2 : Below w.heap.size w w2 := hw' ▸ zw_below w
    clear hw hw'
    go_wp2_with fail
    go_loopw [24] (fun v wr => ∃ k : Nat, v = .int .i64 k ∧ k ≤ 10 ∧ ZM wr w.heap.size ∧ Below w.heap.size w wr ∧ Hid (M = (firstS ([r0, r1, r2, r3, r4, r5, r6, r7, r8, r9].drop k)).getD { rest := c })) (fun v _ => 10 - (intOf v).toNat)
    case atStart => exact ⟨0, rfl, by omega, HZ2.below ((Below.refl _ w2).alloc (Nat.le_refl _) _), HB2.alloc HB2.size _, HG⟩
    case round =>
      obtain ⟨k, rfl, hk, HZr, HBr, Hk⟩ := hrel
      clear HG
      have HU : Hid (Tryz.prog.underlying 88 = some (.array 10 87)) := Lib.hid (by kernel_rfl)
      rcases (by omega : k = 0 ∨ k = 1 ∨ k = 2 ∨ k = 3 ∨ k = 4 ∨ k = 5 ∨ k = 6 ∨ k = 7 ∨ k = 8 ∨ k = 9 ∨ k = 10) with rfl | rfl | rfl | rfl | rfl | rfl | rfl | rfl | rfl | rfl | rfl
      · clear H1 H2 H3 H4 H5 H6 H7 H8 H9
        have hix : ∀ W, (Instr.index 88 (.agg #[.func (Fn.func 59) #[] #[], .func (Fn.func 60) #[] #[], .func (Fn.func 61) #[] #[], .func (Fn.func 62) #[] #[], .func (Fn.func 63) #[] #[], .func (Fn.func 64) #[] #[], .func (Fn.func 65) #[] #[], .func (Fn.func 66) #[] #[], .func (Fn.func 67) #[] #[], .func (Fn.func 68) #[] #[]]) (.int .i64 0)).run Tryz.prog W = .ok (.func (Fn.func 59) #[] #[]) W := fun W => by simp [Instr.index, run_underlying HU.out, asIntOf, go_sem]
        cases r0 with
        | none =>
          have HF : Hid (M = (firstS [r1, r2, r3, r4, r5, r6, r7, r8, r9]).getD { rest := c }) := Lib.hid Hk.out
          clear Hk
          go_wp2_with fail
          ((with_reducible refine (H0.out _).mono ?_))
          rintro e w1 ⟨⟨v, rfl, x0, x1, x2, x3, x4, x5, x6, x7, x8, A9, n9, c9, A10, n10, c10, rfl⟩, b1⟩
          have HZ := ZM.below HZr b1
          have HB := HBr.trans (b1.mono HBr.size)
          clear b1
          go_wp2_with fail
          go_round
          case rel => exact ⟨1, by go_num, by omega, HZ.below ((Below.refl _ w1).alloc (Nat.le_refl _) _), HB.alloc HB.size _, HF⟩
          case measure => simp [intOf]
        | some m =>
          have HF : Hid (M = m) := Lib.hid Hk.out
          clear Hk
          go_wp2_with fail
          ((with_reducible refine (H0.out _).mono ?_))
          rintro e w1 ⟨⟨v, rfl, vC, vP, rfl, hown⟩, b1⟩
          have hlt : w.heap.size < wr.heap.size := Blk.lt HZr
          have hH := Lib.hid (And.intro hlt hown)
          clear hlt
          obtain ⟨AC, cC, rfl⟩ := own_slice hown.cls
          obtain ⟨AP, cP, rfl⟩ := own_slice hown.prs
          clear hown
          have HZ := ZM.below HZr b1
          have HB := HBr.trans (b1.mono HBr.size)
          clear b1
          have HZ2 := HZ.below ((Below.refl _ w1).alloc (Nat.le_refl _) (.cells (m.cells (.slice AC m.att.cl.length cC) (.slice AP m.att.pr.length cP)) 74))
          obtain ⟨k0, k1, k2, k3, k4, k5, k6, k7, k8, k9, k10, y0, y1, y2, y3, y4, y5, y6, y7, y8, y9, y10⟩ := ZM.facts HZ2
          unfold MkL.cells at *
          go_wp2_with fail
          refine of_ret (blk11 HZ2 _ _ _ _ _ _ _ _ _ _ _) rfl rfl ⟨⟨_, rfl, ?_⟩, below11 (HB.alloc HB.size _) (Nat.le_refl _) _ _ _ _ _ _ _ _ _ _ _⟩
          rw [HF.out]
          exact mkVal_own (ownA_low (ownA_far (ownA_far hH.out.2 (World.grownBy_alloc _ _ (some w.heap.size)) hH.out.1) (grown11 _ _ _ _ _ _ _ _ _ _ _ _ _) hH.out.1) (Nat.le_of_lt hH.out.1))
      · clear H0 H2 H3 H4 H5 H6 H7 H8 H9
        have hix : ∀ W, (Instr.index 88 (.agg #[.func (Fn.func 59) #[] #[], .func (Fn.func 60) #[] #[], .func (Fn.func 61) #[] #[], .func (Fn.func 62) #[] #[], .func (Fn.func 63) #[] #[], .func (Fn.func 64) #[] #[], .func (Fn.func 65) #[] #[], .func (Fn.func 66) #[] #[], .func (Fn.func 67) #[] #[], .func (Fn.func 68) #[] #[]]) (.int .i64 1)).run Tryz.prog W = .ok (.func (Fn.func 60) #[] #[]) W := fun W => by simp [Instr.index, run_underlying HU.out, asIntOf, go_sem]
        cases r1 with
        | none =>
          have HF : Hid (M = (firstS [r2, r3, r4, r5, r6, r7, r8, r9]).getD { rest := c }) := Lib.hid Hk.out
          clear Hk
          go_wp2_with fail
          ((with_reducible refine (H1.out _).mono ?_))
          rintro e w1 ⟨⟨v, rfl, x0, x1, x2, x3, x4, x5, x6, x7, x8, A9, n9, c9, A10, n10, c10, rfl⟩, b1⟩
          have HZ := ZM.below HZr b1
          have HB := HBr.trans (b1.mono HBr.size)
          clear b1
          go_wp2_with fail
          go_round
          case rel => exact ⟨2, by go_num, by omega, HZ.below ((Below.refl _ w1).alloc (Nat.le_refl _) _), HB.alloc HB.size _, HF⟩
          case measure => simp [intOf]
        | some m =>
          have HF : Hid (M = m) := Lib.hid Hk.out
          clear Hk
          go_wp2_with fail
          ((with_reducible refine (H1.out _).mono ?_))
          rintro e w1 ⟨⟨v, rfl, vC, vP, rfl, hown⟩, b1⟩
          have hlt : w.heap.size < wr.heap.size := Blk.lt HZr
          have hH := Lib.hid (And.intro hlt hown)
          clear hlt
          obtain ⟨AC, cC, rfl⟩ := own_slice hown.cls
          obtain ⟨AP, cP, rfl⟩ := own_slice hown.prs
          clear hown
          have HZ := ZM.below HZr b1
          have HB := HBr.trans (b1.mono HBr.size)
          clear b1
          have HZ2 := HZ.below ((Below.refl _ w1).alloc (Nat.le_refl _) (.cells (m.cells (.slice AC m.att.cl.length cC) (.slice AP m.att.pr.length cP)) 74))
          obtain ⟨k0, k1, k2, k3, k4, k5, k6, k7, k8, k9, k10, y0, y1, y2, y3, y4, y5, y6, y7, y8, y9, y10⟩ := ZM.facts HZ2
          unfold MkL.cells at *
          go_wp2_with fail
          refine of_ret (blk11 HZ2 _ _ _ _ _ _ _ _ _ _ _) rfl rfl ⟨⟨_, rfl, ?_⟩, below11 (HB.alloc HB.size _) (Nat.le_refl _) _ _ _ _ _ _ _ _ _ _ _⟩
          rw [HF.out]
          exact mkVal_own (ownA_low (ownA_far (ownA_far hH.out.2 (World.grownBy_alloc _ _ (some w.heap.size)) hH.out.1) (grown11 _ _ _ _ _ _ _ _ _ _ _ _ _) hH.out.1) (Nat.le_of_lt hH.out.1))
      · clear H0 H1 H3 H4 H5 H6 H7 H8 H9
        have hix : ∀ W, (Instr.index 88 (.agg #[.func (Fn.func 59) #[] #[], .func (Fn.func 60) #[] #[], .func (Fn.func 61) #[] #[], .func (Fn.func 62) #[] #[], .func (Fn.func 63) #[] #[], .func (Fn.func 64) #[] #[], .func (Fn.func 65) #[] #[], .func (Fn.func 66) #[] #[], .func (Fn.func 67) #[] #[], .func (Fn.func 68) #[] #[]]) (.int .i64 2)).run Tryz.prog W = .ok (.func (Fn.func 61) #[] #[]) W := fun W => by simp [Instr.index, run_underlying HU.out, asIntOf, go_sem]
        cases r2 with
        | none =>
          have HF : Hid (M = (firstS [r3, r4, r5, r6, r7, r8, r9]).getD { rest := c }) := Lib.hid Hk.out
          clear Hk
          go_wp2_with fail
          ((with_reducible refine (H2.out _).mono ?_))
          rintro e w1 ⟨⟨v, rfl, x0, x1, x2, x3, x4, x5, x6, x7, x8, A9, n9, c9, A10, n10, c10, rfl⟩, b1⟩
          have HZ := ZM.below HZr b1
          have HB := HBr.trans (b1.mono HBr.size)
          clear b1
          go_wp2_with fail
          go_round
          case rel => exact ⟨3, by go_num, by omega, HZ.below ((Below.refl _ w1).alloc (Nat.le_refl _) _), HB.alloc HB.size _, HF⟩
          case measure => simp [intOf]
        | some m =>
          have HF : Hid (M = m) := Lib.hid Hk.out
          clear Hk
          go_wp2_with fail
          ((with_reducible refine (H2.out _).mono ?_))
          rintro e w1 ⟨⟨v, rfl, vC, vP, rfl, hown⟩, b1⟩
          have hlt : w.heap.size < wr.heap.size := Blk.lt HZr
          have hH := Lib.hid (And.intro hlt hown)
          clear hlt
          obtain ⟨AC, cC, rfl⟩ := own_slice hown.cls
          obtain ⟨AP, cP, rfl⟩ := own_slice hown.prs
          clear hown
          have HZ := ZM.below HZr b1
          have HB := HBr.trans (b1.mono HBr.size)
          clear b1
          have HZ2 := HZ.below ((Below.refl _ w1).alloc (Nat.le_refl _) (.cells (m.cells (.slice AC m.att.cl.length cC) (.slice AP m.att.pr.length cP)) 74))
          obtain ⟨k0, k1, k2, k3, k4, k5, k6, k7, k8, k9, k10, y0, y1, y2, y3, y4, y5, y6, y7, y8, y9, y10⟩ := ZM.facts HZ2
          unfold MkL.cells at *
          go_wp2_with fail
          refine of_ret (blk11 HZ2 _ _ _ _ _ _ _ _ _ _ _) rfl rfl ⟨⟨_, rfl, ?_⟩, below11 (HB.alloc HB.size _) (Nat.le_refl _) _ _ _ _ _ _ _ _ _ _ _⟩
          rw [HF.out]
          exact mkVal_own (ownA_low (ownA_far (ownA_far hH.out.2 (World.grownBy_alloc _ _ (some w.heap.size)) hH.out.1) (grown11 _ _ _ _ _ _ _ _ _ _ _ _ _) hH.out.1) (Nat.le_of_lt hH.out.1))
      · clear H0 H1 H2 H4 H5 H6 H7 H8 H9
        have hix : ∀ W, (Instr.index 88 (.agg #[.func (Fn.func 59) #[] #[], .func (Fn.func 60) #[] #[], .func (Fn.func 61) #[] #[], .func (Fn.func 62) #[] #[], .func (Fn.func 63) #[] #[], .func (Fn.func 64) #[] #[], .func (Fn.func 65) #[] #[], .func (Fn.func 66) #[] #[], .func (Fn.func 67) #[] #[], .func (Fn.func 68) #[] #[]]) (.int .i64 3)).run Tryz.prog W = .ok (.func (Fn.func 62) #[] #[]) W := fun W => by simp [Instr.index, run_underlying HU.out, asIntOf, go_sem]
        cases r3 with
        | none =>
          have HF : Hid (M = (firstS [r4, r5, r6, r7, r8, r9]).getD { rest := c }) := Lib.hid Hk.out
          clear Hk
          go_wp2_with fail
          ((with_reducible refine (H3.out _).mono ?_))
          rintro e w1 ⟨⟨v, rfl, x0, x1, x2, x3, x4, x5, x6, x7, x8, A9, n9, c9, A10, n10, c10, rfl⟩, b1⟩
          have HZ := ZM.below HZr b1
          have HB := HBr.trans (b1.mono HBr.size)
          clear b1
          go_wp2_with fail
          go_round
          case rel => exact ⟨4, by go_num, by omega, HZ.below ((Below.refl _ w1).alloc (Nat.le_refl _) _), HB.alloc HB.size _, HF⟩
          case measure => simp [intOf]
        | some m =>
          have HF : Hid (M = m) := Lib.hid Hk.out
          clear Hk
          go_wp2_with fail
          ((with_reducible refine (H3.out _).mono ?_))
          rintro e w1 ⟨⟨v, rfl, vC, vP, rfl, hown⟩, b1⟩
          have hlt : w.heap.size < wr.heap.size := Blk.lt HZr
          have hH := Lib.hid (And.intro hlt hown)
          clear hlt
          obtain ⟨AC, cC, rfl⟩ := own_slice hown.cls
          obtain ⟨AP, cP, rfl⟩ := own_slice hown.prs
          clear hown
          have HZ := ZM.below HZr b1
          have HB := HBr.trans (b1.mono HBr.size)
          clear b1
          have HZ2 := HZ.below ((Below.refl _ w1).alloc (Nat.le_refl _) (.cells (m.cells (.slice AC m.att.cl.length cC) (.slice AP m.att.pr.length cP)) 74))
          obtain ⟨k0, k1, k2, k3, k4, k5, k6, k7, k8, k9, k10, y0, y1, y2, y3, y4, y5, y6, y7, y8, y9, y10⟩ := ZM.facts HZ2
          unfold MkL.cells at *
          go_wp2_with fail
          refine of_ret (blk11 HZ2 _ _ _ _ _ _ _ _ _ _ _) rfl rfl ⟨⟨_, rfl, ?_⟩, below11 (HB.alloc HB.size _) (Nat.le_refl _) _ _ _ _ _ _ _ _ _ _ _⟩
          rw [HF.out]
          exact mkVal_own (ownA_low (ownA_far (ownA_far hH.out.2 (World.grownBy_alloc _ _ (some w.heap.size)) hH.out.1) (grown11 _ _ _ _ _ _ _ _ _ _ _ _ _) hH.out.1) (Nat.le_of_lt hH.out.1))
      · clear H0 H1 H2 H3 H5 H6 H7 H8 H9
        have hix : ∀ W, (Instr.index 88 (.agg #[.func (Fn.func 59) #[] #[], .func (Fn.func 60) #[] #[], .func (Fn.func 61) #[] #[], .func (Fn.func 62) #[] #[], .func (Fn.func 63) #[] #[], .func (Fn.func 64) #[] #[], .func (Fn.func 65) #[] #[], .func (Fn.func 66) #[] #[], .func (Fn.func 67) #[] #[], .func (Fn.func 68) #[] #[]]) (.int .i64 4)).run Tryz.prog W = .ok (.func (Fn.func 63) #[] #[]) W := fun W => by simp [Instr.index, run_underlying HU.out, asIntOf, go_sem]
        cases r4 with
        | none =>
          have HF : Hid (M = (firstS [r5, r6, r7, r8, r9]).getD { rest := c }) := Lib.hid Hk.out
          clear Hk
          go_wp2_with fail
          ((with_reducible refine (H4.out _).mono ?_))
          rintro e w1 ⟨⟨v, rfl, x0, x1, x2, x3, x4, x5, x6, x7, x8, A9, n9, c9, A10, n10, c10, rfl⟩, b1⟩
          have HZ := ZM.below HZr b1
          have HB := HBr.trans (b1.mono HBr.size)
          clear b1
          go_wp2_with fail
          go_round
          case rel => exact ⟨5, by go_num, by omega, HZ.below ((Below.refl _ w1).alloc (Nat.le_refl _) _), HB.alloc HB.size _, HF⟩
          case measure => simp [intOf]
        | some m =>
          have HF : Hid (M = m) := Lib.hid Hk.out
          clear Hk
          go_wp2_with fail
          ((with_reducible refine (H4.out _).mono ?_))
          rintro e w1 ⟨⟨v, rfl, vC, vP, rfl, hown⟩, b1⟩
          have hlt : w.heap.size < wr.heap.size := Blk.lt HZr
          have hH := Lib.hid (And.intro hlt hown)
          clear hlt
          obtain ⟨AC, cC, rfl⟩ := own_slice hown.cls
          obtain ⟨AP, cP, rfl⟩ := own_slice hown.prs
          clear hown
          have HZ := ZM.below HZr b1
          have HB := HBr.trans (b1.mono HBr.size)
          clear b1
          have HZ2 := HZ.below ((Below.refl _ w1).alloc (Nat.le_refl _) (.cells (m.cells (.slice AC m.att.cl.length cC) (.slice AP m.att.pr.length cP)) 74))
          obtain ⟨k0, k1, k2, k3, k4, k5, k6, k7, k8, k9, k10, y0, y1, y2, y3, y4, y5, y6, y7, y8, y9, y10⟩ := ZM.facts HZ2
          unfold MkL.cells at *
          go_wp2_with fail
          refine of_ret (blk11 HZ2 _ _ _ _ _ _ _ _ _ _ _) rfl rfl ⟨⟨_, rfl, ?_⟩, below11 (HB.alloc HB.size _) (Nat.le_refl _) _ _ _ _ _ _ _ _ _ _ _⟩
          rw [HF.out]
          exact mkVal_own (ownA_low (ownA_far (ownA_far hH.out.2 (World.grownBy_alloc _ _ (some w.heap.size)) hH.out.1) (grown11 _ _ _ _ _ _ _ _ _ _ _ _ _) hH.out.1) (Nat.le_of_lt hH.out.1))
      · clear H0 H1 H2 H3 H4 H6 H7 H8 H9
        have hix : ∀ W, (Instr.index 88 (.agg #[.func (Fn.func 59) #[] #[], .func (Fn.func 60) #[] #[], .func (Fn.func 61) #[] #[], .func (Fn.func 62) #[] #[], .func (Fn.func 63) #[] #[], .func (Fn.func 64) #[] #[], .func (Fn.func 65) #[] #[], .func (Fn.func 66) #[] #[], .func (Fn.func 67) #[] #[], .func (Fn.func 68) #[] #[]]) (.int .i64 5)).run Tryz.prog W = .ok (.func (Fn.func 64) #[] #[]) W := fun W => by simp [Instr.index, run_underlying HU.out, asIntOf, go_sem]
        cases r5 with
        | none =>
          have HF : Hid (M = (firstS [r6, r7, r8, r9]).getD { rest := c }) := Lib.hid Hk.out
          clear Hk
          go_wp2_with fail
          ((with_reducible refine (H5.out _).mono ?_))
          rintro e w1 ⟨⟨v, rfl, x0, x1, x2, x3, x4, x5, x6, x7, x8, A9, n9, c9, A10, n10, c10, rfl⟩, b1⟩
          have HZ := ZM.below HZr b1
          have HB := HBr.trans (b1.mono HBr.size)
          clear b1
          go_wp2_with fail
          go_round
          case rel => exact ⟨6, by go_num, by omega, HZ.below ((Below.refl _ w1).alloc (Nat.le_refl _) _), HB.alloc HB.size _, HF⟩
          case measure => simp [intOf]
        | some m =>
          have HF : Hid (M = m) := Lib.hid Hk.out
          clear Hk
          go_wp2_with fail
          ((with_reducible refine (H5.out _).mono ?_))
          rintro e w1 ⟨⟨v, rfl, vC, vP, rfl, hown⟩, b1⟩
          have hlt : w.heap.size < wr.heap.size := Blk.lt HZr
          have hH := Lib.hid (And.intro hlt hown)
          clear hlt
          obtain ⟨AC, cC, rfl⟩ := own_slice hown.cls
          obtain ⟨AP, cP, rfl⟩ := own_slice hown.prs
          clear hown
          have HZ := ZM.below HZr b1
          have HB := HBr.trans (b1.mono HBr.size)
          clear b1
          have HZ2 := HZ.below ((Below.refl _ w1).alloc (Nat.le_refl _) (.cells (m.cells (.slice AC m.att.cl.length cC) (.slice AP m.att.pr.length cP)) 74))
          obtain ⟨k0, k1, k2, k3, k4, k5, k6, k7, k8, k9, k10, y0, y1, y2, y3, y4, y5, y6, y7, y8, y9, y10⟩ := ZM.facts HZ2
          unfold MkL.cells at *
          go_wp2_with fail
          refine of_ret (blk11 HZ2 _ _ _ _ _ _ _ _ _ _ _) rfl rfl ⟨⟨_, rfl, ?_⟩, below11 (HB.alloc HB.size _) (Nat.le_refl _) _ _ _ _ _ _ _ _ _ _ _⟩
          rw [HF.out]
          exact mkVal_own (ownA_low (ownA_far (ownA_far hH.out.2 (World.grownBy_alloc _ _ (some w.heap.size)) hH.out.1) (grown11 _ _ _ _ _ _ _ _ _ _ _ _ _) hH.out.1) (Nat.le_of_lt hH.out.1))
      · clear H0 H1 H2 H3 H4 H5 H7 H8 H9
        have hix : ∀ W, (Instr.index 88 (.agg #[.func (Fn.func 59) #[] #[], .func (Fn.func 60) #[] #[], .func (Fn.func 61) #[] #[], .func (Fn.func 62) #[] #[], .func (Fn.func 63) #[] #[], .func (Fn.func 64) #[] #[], .func (Fn.func 65) #[] #[], .func (Fn.func 66) #[] #[], .func (Fn.func 67) #[] #[], .func (Fn.func 68) #[] #[]]) (.int .i64 6)).run Tryz.prog W = .ok (.func (Fn.func 65) #[] #[]) W := fun W => by simp [Instr.index, run_underlying HU.out, asIntOf, go_sem]
        cases r6 with
        | none =>
          have HF : Hid (M = (firstS [r7, r8, r9]).getD { rest := c }) := Lib.hid Hk.out
          clear Hk
          go_wp2_with fail
          ((with_reducible refine (H6.out _).mono ?_))
          rintro e w1 ⟨⟨v, rfl, x0, x1, x2, x3, x4, x5, x6, x7, x8, A9, n9, c9, A10, n10, c10, rfl⟩, b1⟩
          have HZ := ZM.below HZr b1
          have HB := HBr.trans (b1.mono HBr.size)
          clear b1
          go_wp2_with fail
          go_round
          case rel => exact ⟨7, by go_num, by omega, HZ.below ((Below.refl _ w1).alloc (Nat.le_refl _) _), HB.alloc HB.size _, HF⟩
          case measure => simp [intOf]
        | some m =>
          have HF : Hid (M = m) := Lib.hid Hk.out
          clear Hk
          go_wp2_with fail
          ((with_reducible refine (H6.out _).mono ?_))
          rintro e w1 ⟨⟨v, rfl, vC, vP, rfl, hown⟩, b1⟩
          have hlt : w.heap.size < wr.heap.size := Blk.lt HZr
          have hH := Lib.hid (And.intro hlt hown)
          clear hlt
          obtain ⟨AC, cC, rfl⟩ := own_slice hown.cls
          obtain ⟨AP, cP, rfl⟩ := own_slice hown.prs
          clear hown
          have HZ := ZM.below HZr b1
          have HB := HBr.trans (b1.mono HBr.size)
          clear b1
          have HZ2 := HZ.below ((Below.refl _ w1).alloc (Nat.le_refl _) (.cells (m.cells (.slice AC m.att.cl.length cC) (.slice AP m.att.pr.length cP)) 74))
          obtain ⟨k0, k1, k2, k3, k4, k5, k6, k7, k8, k9, k10, y0, y1, y2, y3, y4, y5, y6, y7, y8, y9, y10⟩ := ZM.facts HZ2
          unfold MkL.cells at *
          go_wp2_with fail
          refine of_ret (blk11 HZ2 _ _ _ _ _ _ _ _ _ _ _) rfl rfl ⟨⟨_, rfl, ?_⟩, below11 (HB.alloc HB.size _) (Nat.le_refl _) _ _ _ _ _ _ _ _ _ _ _⟩
          rw [HF.out]
          exact mkVal_own (ownA_low (ownA_far (ownA_far hH.out.2 (World.grownBy_alloc _ _ (some w.heap.size)) hH.out.1) (grown11 _ _ _ _ _ _ _ _ _ _ _ _ _) hH.out.1) (Nat.le_of_lt hH.out.1))
      · clear H0 H1 H2 H3 H4 H5 H6 H8 H9
        have hix : ∀ W, (Instr.index 88 (.agg #[.func (Fn.func 59) #[] #[], .func (Fn.func 60) #[] #[], .func (Fn.func 61) #[] #[], .func (Fn.func 62) #[] #[], .func (Fn.func 63) #[] #[], .func (Fn.func 64) #[] #[], .func (Fn.func 65) #[] #[], .func (Fn.func 66) #[] #[], .func (Fn.func 67) #[] #[], .func (Fn.func 68) #[] #[]]) (.int .i64 7)).run Tryz.prog W = .ok (.func (Fn.func 66) #[] #[]) W := fun W => by simp [Instr.index, run_underlying HU.out, asIntOf, go_sem]
        cases r7 with
        | none =>
          have HF : Hid (M = (firstS [r8, r9]).getD { rest := c }) := Lib.hid Hk.out
          clear Hk
          go_wp2_with fail
          ((with_reducible refine (H7.out _).mono ?_))
          rintro e w1 ⟨⟨v, rfl, x0, x1, x2, x3, x4, x5, x6, x7, x8, A9, n9, c9, A10, n10, c10, rfl⟩, b1⟩
          have HZ := ZM.below HZr b1
          have HB := HBr.trans (b1.mono HBr.size)
          clear b1
          go_wp2_with fail
          go_round
          case rel => exact ⟨8, by go_num, by omega, HZ.below ((Below.refl _ w1).alloc (Nat.le_refl _) _), HB.alloc HB.size _, HF⟩
          case measure => simp [intOf]
        | some m =>
          have HF : Hid (M = m) := Lib.hid Hk.out
          clear Hk
          go_wp2_with fail
          ((with_reducible refine (H7.out _).mono ?_))
          rintro e w1 ⟨⟨v, rfl, vC, vP, rfl, hown⟩, b1⟩
          have hlt : w.heap.size < wr.heap.size := Blk.lt HZr
          have hH := Lib.hid (And.intro hlt hown)
          clear hlt
          obtain ⟨AC, cC, rfl⟩ := own_slice hown.cls
          obtain ⟨AP, cP, rfl⟩ := own_slice hown.prs
          clear hown
          have HZ := ZM.below HZr b1
          have HB := HBr.trans (b1.mono HBr.size)
          clear b1
          have HZ2 := HZ.below ((Below.refl _ w1).alloc (Nat.le_refl _) (.cells (m.cells (.slice AC m.att.cl.length cC) (.slice AP m.att.pr.length cP)) 74))
          obtain ⟨k0, k1, k2, k3, k4, k5, k6, k7, k8, k9, k10, y0, y1, y2, y3, y4, y5, y6, y7, y8, y9, y10⟩ := ZM.facts HZ2
          unfold MkL.cells at *
          go_wp2_with fail
          refine of_ret (blk11 HZ2 _ _ _ _ _ _ _ _ _ _ _) rfl rfl ⟨⟨_, rfl, ?_⟩, below11 (HB.alloc HB.size _) (Nat.le_refl _) _ _ _ _ _ _ _ _ _ _ _⟩
          rw [HF.out]
          exact mkVal_own (ownA_low (ownA_far (ownA_far hH.out.2 (World.grownBy_alloc _ _ (some w.heap.size)) hH.out.1) (grown11 _ _ _ _ _ _ _ _ _ _ _ _ _) hH.out.1) (Nat.le_of_lt hH.out.1))
      · clear H0 H1 H2 H3 H4 H5 H6 H7 H9
        have hix : ∀ W, (Instr.index 88 (.agg #[.func (Fn.func 59) #[] #[], .func (Fn.func 60) #[] #[], .func (Fn.func 61) #[] #[], .func (Fn.func 62) #[] #[], .func (Fn.func 63) #[] #[], .func (Fn.func 64) #[] #[], .func (Fn.func 65) #[] #[], .func (Fn.func 66) #[] #[], .func (Fn.func 67) #[] #[], .func (Fn.func 68) #[] #[]]) (.int .i64 8)).run Tryz.prog W = .ok (.func (Fn.func 67) #[] #[]) W := fun W => by simp [Instr.index, run_underlying HU.out, asIntOf, go_sem]
        cases r8 with
        | none =>
          have HF : Hid (M = (firstS [r9]).getD { rest := c }) := Lib.hid Hk.out
          clear Hk
          go_wp2_with fail
          ((with_reducible refine (H8.out _).mono ?_))
          rintro e w1 ⟨⟨v, rfl, x0, x1, x2, x3, x4, x5, x6, x7, x8, A9, n9, c9, A10, n10, c10, rfl⟩, b1⟩
          have HZ := ZM.below HZr b1
          have HB := HBr.trans (b1.mono HBr.size)
          clear b1
          go_wp2_with fail
          go_round
          case rel => exact ⟨9, by go_num, by omega, HZ.below ((Below.refl _ w1).alloc (Nat.le_refl _) _), HB.alloc HB.size _, HF⟩
          case measure => simp [intOf]
        | some m =>
          have HF : Hid (M = m) := Lib.hid Hk.out
          clear Hk
          go_wp2_with fail
          ((with_reducible refine (H8.out _).mono ?_))
          rintro e w1 ⟨⟨v, rfl, vC, vP, rfl, hown⟩, b1⟩
          have hlt : w.heap.size < wr.heap.size := Blk.lt HZr
          have hH := Lib.hid (And.intro hlt hown)
          clear hlt
          obtain ⟨AC, cC, rfl⟩ := own_slice hown.cls
          obtain ⟨AP, cP, rfl⟩ := own_slice hown.prs
          clear hown
          have HZ := ZM.below HZr b1
          have HB := HBr.trans (b1.mono HBr.size)
          clear b1
          have HZ2 := HZ.below ((Below.refl _ w1).alloc (Nat.le_refl _) (.cells (m.cells (.slice AC m.att.cl.length cC) (.slice AP m.att.pr.length cP)) 74))
          obtain ⟨k0, k1, k2, k3, k4, k5, k6, k7, k8, k9, k10, y0, y1, y2, y3, y4, y5, y6, y7, y8, y9, y10⟩ := ZM.facts HZ2
          unfold MkL.cells at *
          go_wp2_with fail
          refine of_ret (blk11 HZ2 _ _ _ _ _ _ _ _ _ _ _) rfl rfl ⟨⟨_, rfl, ?_⟩, below11 (HB.alloc HB.size _) (Nat.le_refl _) _ _ _ _ _ _ _ _ _ _ _⟩
          rw [HF.out]
          exact mkVal_own (ownA_low (ownA_far (ownA_far hH.out.2 (World.grownBy_alloc _ _ (some w.heap.size)) hH.out.1) (grown11 _ _ _ _ _ _ _ _ _ _ _ _ _) hH.out.1) (Nat.le_of_lt hH.out.1))
      · clear H0 H1 H2 H3 H4 H5 H6 H7 H8
        have hix : ∀ W, (Instr.index 88 (.agg #[.func (Fn.func 59) #[] #[], .func (Fn.func 60) #[] #[], .func (Fn.func 61) #[] #[], .func (Fn.func 62) #[] #[], .func (Fn.func 63) #[] #[], .func (Fn.func 64) #[] #[], .func (Fn.func 65) #[] #[], .func (Fn.func 66) #[] #[], .func (Fn.func 67) #[] #[], .func (Fn.func 68) #[] #[]]) (.int .i64 9)).run Tryz.prog W = .ok (.func (Fn.func 68) #[] #[]) W := fun W => by simp [Instr.index, run_underlying HU.out, asIntOf, go_sem]
        cases r9 with
        | none =>
          have HF : Hid (M = (firstS []).getD { rest := c }) := Lib.hid Hk.out
          clear Hk
          go_wp2_with fail
          ((with_reducible refine (H9.out _).mono ?_))
          rintro e w1 ⟨⟨v, rfl, x0, x1, x2, x3, x4, x5, x6, x7, x8, A9, n9, c9, A10, n10, c10, rfl⟩, b1⟩
          have HZ := ZM.below HZr b1
          have HB := HBr.trans (b1.mono HBr.size)
          clear b1
          go_wp2_with fail
          go_round
          case rel => exact ⟨10, by go_num, by omega, HZ.below ((Below.refl _ w1).alloc (Nat.le_refl _) _), HB.alloc HB.size _, HF⟩
          case measure => simp [intOf]
        | some m =>
          have HF : Hid (M = m) := Lib.hid Hk.out
          clear Hk
          go_wp2_with fail
          ((with_reducible refine (H9.out _).mono ?_))
          rintro e w1 ⟨⟨v, rfl, vC, vP, rfl, hown⟩, b1⟩
          have hlt : w.heap.size < wr.heap.size := Blk.lt HZr
          have hH := Lib.hid (And.intro hlt hown)
          clear hlt
          obtain ⟨AC, cC, rfl⟩ := own_slice hown.cls
          obtain ⟨AP, cP, rfl⟩ := own_slice hown.prs
          clear hown
          have HZ := ZM.below HZr b1
          have HB := HBr.trans (b1.mono HBr.size)
          clear b1
          have HZ2 := HZ.below ((Below.refl _ w1).alloc (Nat.le_refl _) (.cells (m.cells (.slice AC m.att.cl.length cC) (.slice AP m.att.pr.length cP)) 74))
          obtain ⟨k0, k1, k2, k3, k4, k5, k6, k7, k8, k9, k10, y0, y1, y2, y3, y4, y5, y6, y7, y8, y9, y10⟩ := ZM.facts HZ2
          unfold MkL.cells at *
          go_wp2_with fail
          refine of_ret (blk11 HZ2 _ _ _ _ _ _ _ _ _ _ _) rfl rfl ⟨⟨_, rfl, ?_⟩, below11 (HB.alloc HB.size _) (Nat.le_refl _) _ _ _ _ _ _ _ _ _ _ _⟩
          rw [HF.out]
          exact mkVal_own (ownA_low (ownA_far (ownA_far hH.out.2 (World.grownBy_alloc _ _ (some w.heap.size)) hH.out.1) (grown11 _ _ _ _ _ _ _ _ _ _ _ _ _) hH.out.1) (Nat.le_of_lt hH.out.1))
      · have HF : Hid (M = { rest := c }) := Lib.hid Hk.out
        obtain ⟨k0, k1, k2, k3, k4, k5, k6, k7, k8, k9, k10, y0, y1, y2, y3, y4, y5, y6, y7, y8, y9, y10⟩ := ZM.facts HZr
        go_wp2_with fail
        exact of_ret (blk11 HZr _ _ _ _ _ _ _ _ _ _ _) rfl rfl ⟨⟨_, rfl, by rw [HF.out]; exact mkVal_plain (m := { rest := c }) rfl (below11 HBr (Nat.le_refl _) _ _ _ _ _ _ _ _ _ _ _).size⟩, below11 HBr (Nat.le_refl _) _ _ _ _ _ _ _ _ _ _ _⟩

end Go.Proofs.YtpoafhgbhnblmaaGreatDoor
namespace Go.Pub
open Go.RowKit Go.ChangeMaps Go.MapKept
open Go.Maps (Keyed)
def SetMap (w : World) (b : Nat) (keys : List ByteArray) : Prop :=
  ∃ es clock, w.heap[b]? = some (.map es clock) ∧ es.toList.map (fun e => (e.key, e.val)) = keys.map (fun k => (Value.string k, Value.bool true)) ∧ ∀ k ∈ keys, k.size ≤ maxLen
section
variable {P : Program} {w w' : World} {b : Nat} {keys : List ByteArray}
theorem SetMap.lt (h : SetMap w b keys) : b < w.heap.size := by
  obtain ⟨es, clock, hb, _⟩ := h
  exact (Array.getElem?_eq_some_iff.1 hb).1
theorem SetMap.new (w : World) : SetMap (w.alloc (.map #[] 0)) w.heap.size [] := ⟨#[], 0, (MapKept.heap_alloc w _).1, rfl, fun _ h => absurd h (by simp)⟩
theorem SetMap.kept (h : SetMap w b keys) (hb : w'.heap[b]? = w.heap[b]?) : SetMap w' b keys := by
  obtain ⟨es, clock, h1, h2⟩ := h
  exact ⟨es, clock, hb.trans h1, h2⟩
theorem SetMap.alloc (h : SetMap w b keys) (o : Obj) : SetMap (w.alloc o) b keys := h.kept (Below.heap_alloc _ _ _ h.lt)
theorem SetMap.below (h : SetMap w b keys) (hb : Below w.heap.size w w') : SetMap w' b keys := h.kept (hb.block _ h.lt)
theorem keyOf_str {k : TypeId} (hk : P.underlying k = some .string) {s : ByteArray} (hs : s.size ≤ maxLen) : ∃ l, keyOf P k (.string s) = some l := by
  unfold keyOf
  rw [hk]
  simp [mapKey, hk, hs]
theorem SetMap.entries {k : TypeId} (hk : P.underlying k = some .string) {es : Array MapEntry} (he : es.toList.map (fun e => (e.key, e.val)) = keys.map (fun k => (Value.string k, Value.bool true))) (hm : ∀ k ∈ keys, k.size ≤ maxLen) :
    ∀ e ∈ es.toList, ∃ s, s ∈ keys ∧ e.key = .string s ∧ e.val = .bool true ∧ ∃ l, keyOf P k e.key = some l := by
  intro e hmem
  have : (e.key, e.val) ∈ es.toList.map (fun e => (e.key, e.val)) := List.mem_map.2 ⟨e, hmem, rfl⟩
  rw [he] at this
  obtain ⟨s, hs, he'⟩ := List.mem_map.1 this
  injection he' with e1 e2
  obtain ⟨l, hl⟩ := keyOf_str hk (hm s hs)
  exact ⟨s, hs, e1.symm, e2.symm, l, by rw [← e1]; exact hl⟩
theorem SetMap.find {k : TypeId} (hk : P.underlying k = some .string) {es : Array MapEntry} (he : es.toList.map (fun e => (e.key, e.val)) = keys.map (fun k => (Value.string k, Value.bool true))) (hm : ∀ k ∈ keys, k.size ≤ maxLen)
    (x : ByteArray) (hx : x.size ≤ maxLen) (w : World) : (x ∉ keys ∧ (Instr.findKey k (.string x) es.toList).run P w = .ok none w) ∨ (x ∈ keys ∧ ∃ j, (Instr.findKey k (.string x) es.toList).run P w = .ok (some (j, .bool true)) w) := by
  obtain ⟨lx, hlx⟩ := keyOf_str hk hx
  have hE := SetMap.entries hk he hm
  rcases (Maps.string_keyed hk).find w hlx es.toList (fun e hmem => (hE e hmem).choose_spec.2.2.2) with ⟨h1, h2⟩ | ⟨j, e, h1, h2, h3⟩
  · left
    refine ⟨fun hmem => ?_, h1⟩
    have : (Value.string x, Value.bool true) ∈ keys.map (fun k => (Value.string k, Value.bool true)) := List.mem_map.2 ⟨x, hmem, rfl⟩
    rw [← he] at this
    obtain ⟨e, hmem', he'⟩ := List.mem_map.1 this
    injection he' with e1 e2
    exact h2 e hmem' e1
  · right
    have hmem := List.mem_of_getElem? h2
    obtain ⟨s, hs, k1, k2, _⟩ := hE e hmem
    rw [h3] at k1
    injection k1 with k1
    subst k1
    rw [k2] at h1
    exact ⟨hs, j, h1⟩
theorem SetMap.look {t k e : TypeId} (h : SetMap w b keys) (ht : P.underlying t = some (.map k e)) (hk : P.underlying k = some .string) (hz : (zeroValue e).run P w = .ok (.bool false) w) (x : ByteArray) (hx : x.size ≤ maxLen) :
    (Instr.lookup t (.map (some b)) (.string x) false).run P w = .ok (.bool (Lib.containsS keys x)) w := by
  obtain ⟨es, clock, hb, he, hm⟩ := h
  obtain ⟨lx, hlx⟩ := keyOf_str hk hx
  have hck := (Maps.string_keyed hk).check w es.isEmpty hlx
  rcases SetMap.find hk he hm x hx w with ⟨h1, h2⟩ | ⟨h1, j, h2⟩
  · have hc : Lib.containsS keys x = false := by rw [← Bool.not_eq_true, Lib.containsS_iff]; exact h1
    simp [Instr.lookup, run_underlying ht, MapKept.run_getObj_map hb, hck, h2, hz, hc, Result.andThen]
  · have hc : Lib.containsS keys x = true := (Lib.containsS_iff _ _).2 h1
    simp [Instr.lookup, run_underlying ht, MapKept.run_getObj_map hb, hck, h2, hc, Result.andThen]
theorem SetMap.put {t k e : TypeId} (h : SetMap w b keys) (ht : P.underlying t = some (.map k e)) (hk : P.underlying k = some .string) (x : ByteArray) (hx : x.size ≤ maxLen) (hno : Lib.containsS keys x = false) :
    ∃ w1, (Instr.mapUpdate t (.map (some b)) (.string x) (.bool true)).run P w = .ok () w1 ∧ SetMap w1 b (keys ++ [x]) ∧ w.grownBy w1 (some b) ∧ w1.heap.size = w.heap.size := by
  have hlt := h.lt
  obtain ⟨es, clock, hb, he, hm⟩ := h
  obtain ⟨lx, hlx⟩ := keyOf_str hk hx
  have hck := (Maps.string_keyed hk).check w false hlx
  rcases SetMap.find hk he hm x hx w with ⟨h1, h2⟩ | ⟨h1, j, h2⟩
  · refine ⟨setBlock w b (.map (es.push ⟨.string x, .bool true, clock⟩) (clock + 1)), ?_, ⟨es.push ⟨.string x, .bool true, clock⟩, clock + 1, ?_, ?_, ?_⟩, ⟨rfl, rfl, rfl, ?_, ?_⟩, ?_⟩
    · simp [Instr.mapUpdate, run_underlying ht, MapKept.run_getObj_map hb, hck, h2, MapKept.run_setObj_map _ hb, Result.andThen, setBlock]
    · simp [setBlock, Array.getElem?_setIfInBounds, hlt]
    · rw [Array.toList_push, List.map_append, List.map_append, he]; rfl
    · intro y hy
      rcases List.mem_append.1 hy with hy | hy
      · exact hm y hy
      · simp at hy; subst hy; exact hx
    · simp [setBlock]
    · intro i _ hi
      simp only [setBlock]
      rw [Array.getElem?_setIfInBounds, if_neg (fun e => hi (by rw [e]))]
    · simp [setBlock]
  · have := (Lib.containsS_iff _ _).2 h1
    rw [hno] at this; cases this
theorem SetMap.clear {t : TypeId} {k e : TypeId} (h : SetMap w b keys) (ht : P.underlying t = some (.map k e)) :
    ∃ w1, (∀ ty, (Builtin.clear_ #[t] ty #[.map (some b)]).run P w = .ok (.tuple #[]) w1) ∧ SetMap w1 b [] ∧ w.grownBy w1 (some b) ∧ w1.heap.size = w.heap.size := by
  have hlt := h.lt
  obtain ⟨es, clock, hb, he, hm⟩ := h
  refine ⟨setBlock w b (.map #[] clock), ?_, ⟨#[], clock, ?_, rfl, fun _ h => absurd h (by simp)⟩, ⟨rfl, rfl, rfl, ?_, ?_⟩, ?_⟩
  · intro ty
    simp [Builtin.clear_, run_underlying ht, MapKept.run_getObj_map hb, MapKept.run_setObj_map _ hb, Result.andThen, setBlock]
  · simp [setBlock, Array.getElem?_setIfInBounds, hlt]
  · simp [setBlock]
  · intro i _ hi
    simp only [setBlock]
    rw [Array.getElem?_setIfInBounds, if_neg (fun e => hi (by rw [e]))]
  · simp [setBlock]
end
end Go.Pub
namespace Go.Proofs.YtpoafhgbhnblmaaGreatDoor
open Go.RowKit Go.Pub
/-- Attributes that are read alone. -/
structure ReadA (w : World) (B : Nat) (a : AttrL) (A : Option Addr) (c : Nat) (D : Option Addr) (d : Nat) : Prop where
  cls : Reads w B 1 A a.cl.length (strs a.cl)
  prs : Reads w B 2 D a.pr.length (prs a.pr)
  le : B ≤ w.heap.size
  nc : a.cl.length ≤ 1000000
  np : a.pr.length ≤ 1000000
  sid : a.id.size ≤ 1000000
  scl : ∀ x ∈ a.cl, x.size ≤ 1000000
  spr : ∀ x ∈ a.pr, x.1.size ≤ 1000000 ∧ x.2.size ≤ 1000000
theorem ReadA.below {w w' : World} {B : Nat} {a : AttrL} {A : Option Addr} {c : Nat} {D : Option Addr} {d : Nat} (h : ReadA w B a A c D d) (hb : Below w.heap.size w w') : ReadA w' B a A c D d :=
  ⟨h.cls.below (hb.mono h.le), h.prs.below (hb.mono h.le), Nat.le_trans h.le hb.size, h.nc, h.np, h.sid, h.scl, h.spr⟩
/-- What stands in memory in Check's loops. -/
structure CInv (w : World) (a : AttrL) (A : Option Addr) (c : Nat) (D : Option Addr) (d : Nat) (keys : List ByteArray) (wr : World) : Prop where
  blk : Blk wr w.heap.size 43 #[.string a.id, .slice A a.cl.length c, .slice D a.pr.length d]
  map : SetMap wr (w.heap.size + 1) keys
  bel : Below w.heap.size w wr
theorem CInv.put {w : World} {a : AttrL} {A : Option Addr} {c : Nat} {D : Option Addr} {d : Nat} {keys keys' : List ByteArray} {wr w1 : World} (h : CInv w a A c D d keys wr) (hm : SetMap w1 (w.heap.size + 1) keys') (hg : wr.grownBy w1 (some (w.heap.size + 1))) : CInv w a A c D d keys' w1 :=
  ⟨h.blk.grown hg (by simp), hm, h.bel.grown hg h.bel.size (fun k hk => by injection hk with hk; omega)⟩
theorem CInv.below {w : World} {a : AttrL} {A : Option Addr} {c : Nat} {D : Option Addr} {d : Nat} {keys : List ByteArray} {wr w1 : World} (h : CInv w a A c D d keys wr) (hb : Below wr.heap.size wr w1) : CInv w a A c D d keys w1 :=
  ⟨h.blk.below hb h.blk.lt, h.map.below hb, h.bel.trans (hb.mono h.bel.size)⟩
end Go.Proofs.YtpoafhgbhnblmaaGreatDoor
namespace Go.Pub
open Go.RowKit
theorem quiet_left {P : Program} {f : FuncId} {args : Array Value} {w : World} {n : Nat} {v : Value}
    (h : Calls P f args (w.drewN n) fun e w' => e = .returned v ∧ w.drewN n = w') : Calls P f args (w.drewN n) fun e w'' => e = .returned v ∧ ∃ m, w'' = w.drewN m :=
  h.mono fun _ _ ⟨he, hm⟩ => ⟨he, n, hm.symm⟩
theorem Reads.take {w : World} {B size n k : Nat} {A : Option Addr} {xs : List Value} (h : Reads w B size A n xs) (hk : k ≤ n) : Reads w B size A k (xs.take (k * size)) := by
  refine ⟨by rw [List.length_take, h.1]; exact Nat.min_eq_left (Nat.mul_le_mul_right _ hk), fun h0 => ?_⟩
  obtain ⟨ad, e, hb, hc⟩ := h.2 (by omega)
  refine ⟨ad, e, hb, fun j u hu => hc j u ?_⟩
  rw [List.getElem?_take] at hu
  split at hu
  · exact hu
  · cases hu
end Go.Pub
namespace Go.Proofs.YtpoafhgbhnblmaaGreatDoor
open Go.RowKit Go.Pub
structure BInv (w : World) (a : AttrL) (A : Option Addr) (c : Nat) (D : Option Addr) (d : Nat) (wr : World) : Prop where
  blk : Blk wr w.heap.size 43 #[.string a.id, .slice A a.cl.length c, .slice D a.pr.length d]
  bel : Below w.heap.size w wr
theorem BInv.below {w : World} {a : AttrL} {A : Option Addr} {c : Nat} {D : Option Addr} {d : Nat} {wr w1 : World} (h : BInv w a A c D d wr) (hb : Below wr.heap.size wr w1) : BInv w a A c D d w1 :=
  ⟨h.blk.below hb h.blk.lt, h.bel.trans (hb.mono h.bel.size)⟩
theorem BInv.drewN {w : World} {a : AttrL} {A : Option Addr} {c : Nat} {D : Option Addr} {d : Nat} {wr : World} (h : BInv w a A c D d wr) (n : Nat) : BInv w a A c D d (wr.drewN n) := ⟨h.blk, below_drewN h.bel n⟩
end Go.Proofs.YtpoafhgbhnblmaaGreatDoor
namespace Go.Pub
end Go.Pub
namespace Go.Proofs.YtpoafhgbhnblmaaGreatDoor
open Go.RowKit Go.Pub
structure TwoBlk (w : World) (u v : Array Value) (wr : World) : Prop where
  b1 : Blk wr w.heap.size 43 u
  b2 : Blk wr (w.heap.size + 1) 43 v
  bel : Below w.heap.size w wr
theorem TwoBlk.drewN {w wr : World} {u v : Array Value} (h : TwoBlk w u v wr) (n : Nat) : TwoBlk w u v (wr.drewN n) := ⟨h.b1, h.b2, below_drewN h.bel n⟩
end Go.Proofs.YtpoafhgbhnblmaaGreatDoor
namespace Go.Proofs.YtpoafhgbhnblmaaGreatDoor
open Go.RowKit Go.Pub
theorem OwnA.setId {w : World} {base : Nat} {a : AttrL} {vC vP : Value} (h : OwnA w base a vC vP) (x : ByteArray) : OwnA w base { a with id := x } vC vP := ⟨h.cls, h.prs, h.le, h.c32, h.p32⟩
end Go.Proofs.YtpoafhgbhnblmaaGreatDoor
namespace Go.Proofs.YtpoafhgbhnblmaaGreatDoor
open Go.RowKit Go.Pub
def SmallA (n : Nat) (a : AttrL) : Prop := a.id.size ≤ n ∧ (∀ x ∈ a.cl, x.size ≤ n) ∧ (∀ p ∈ a.pr, p.1.size ≤ n ∧ p.2.size ≤ n)
theorem extract_le (s : ByteArray) (i j : Nat) : (s.extract i j).size ≤ s.size := by rw [ByteArray.size_extract]; omega
theorem valL_small (s : ByteArray) (i : Nat) : (valL s i).1.size ≤ s.size := by
  unfold valL
  split
  · cases hq : qv s s.size (i + 1) [] with
    | none => exact Nat.zero_le _
    | some p =>
      obtain ⟨l, j⟩ := p
      have := (qv_len s _ _ _ l j hq).1
      show (mk l).size ≤ _
      rw [← bytesL_length, bytesL_mk']
      simp at this
      omega
  · exact extract_le _ _ _
theorem classA_small (n : Nat) (a : AttrL) (x : ByteArray) (h : SmallA n a) (hx : x.size ≤ n) : SmallA n (classA a x) := by
  unfold classA
  split
  · refine ⟨h.1, fun y hy => ?_, h.2.2⟩
    rcases List.mem_append.1 hy with hy | hy
    · exact h.2.1 y hy
    · simp at hy; subst hy; exact hx
  · exact h
theorem pairA_small (n : Nat) (a : AttrL) (x y : ByteArray) (h : SmallA n a) (hx : x.size ≤ n) (hy : y.size ≤ n) : SmallA n (pairA a x y) := by
  unfold pairA
  split
  · refine ⟨h.1, h.2.1, fun p hp => ?_⟩
    rcases List.mem_append.1 hp with hp | hp
    · exact h.2.2 p hp
    · simp at hp; subst hp; exact ⟨hx, hy⟩
  · exact h
theorem itemL_small (s : ByteArray) (a : AttrL) (i : Nat) (h : SmallA s.size a) : SmallA s.size (itemL a s i).2.2 := by
  unfold itemL
  split
  · split
    · split
      · exact ⟨extract_le _ _ _, h.2.1, h.2.2⟩
      · exact h
    · exact h
  · split
    · split
      · exact classA_small _ _ _ h (extract_le _ _ _)
      · exact h
    · split
      · unfold pairItem
        split
        · split
          · exact pairA_small _ _ _ _ h (extract_le _ _ _) (valL_small _ _)
          · exact h
        · exact h
      · exact h
theorem emptyA_small (n : Nat) : SmallA n emptyA := ⟨Nat.zero_le _, fun x hx => absurd hx (by simp [emptyA]), fun x hx => absurd hx (by simp [emptyA])⟩
theorem parseF_small (s : ByteArray) : ∀ f i b a, SmallA s.size a → SmallA s.size (parseF s f i b a).1
  | 0, _, _, _, _ => emptyA_small _
  | f + 1, i, b, a, h => by
    unfold parseF
    split
    · split
      · exact h
      · split
        · exact emptyA_small _
        · split
          · exact parseF_small s f _ _ _ (itemL_small s a i h)
          · exact emptyA_small _
    · exact emptyA_small _
theorem parseL_small (s : ByteArray) (i : Int) : SmallA s.size (parseL s i).1 := by
  unfold parseL
  split
  · exact parseF_small s _ _ _ _ (emptyA_small _)
  · exact emptyA_small _
end Go.Proofs.YtpoafhgbhnblmaaGreatDoor
namespace Go.Proofs.YtpoafhgbhnblmaaGreatDoor
open Go.RowKit Go.Pub
def optA : Option AttrL → AttrL × Bool
  | some a => (a, true)
  | none => (emptyA, false)
def closeD (c : ByteArray) (K N : Int) (ch : ByteArray) : AttrL × Bool :=
  if K = 7 then (emptyA, decide (ch.size = 1 ∧ 1 ≤ N) && (decide (N ≤ (firstN c (· != bt ch 0) : Int)) && blankB (c.extract (firstN c (· != bt ch 0)) c.size)))
  else if K = 8 then (if Lib.hasPrefix (bytesL c) [36, 36] = true then optA (onlyR (c.extract 2 c.size)) else (emptyA, false))
  else if K = 9 then (emptyA, decide (1 ≤ N) && (decide ((firstN c (· != 58) : Int) = N) && blankB (c.extract (firstN c (· != 58)) c.size)))
  else (emptyA, false)
def closesM (s : ByteArray) (K N : Int) (ch : ByteArray) : AttrL × Bool := if 3 < indA s 0 then (emptyA, false) else closeD (s.extract (indA s 0) s.size) K N ch
/-- Attributes and whether a line closes are handed back. -/
def ClPost (r : AttrL × Bool) (w : World) (e : Ending) (w' : World) : Prop := (∃ vC vP, e = .returned (.tuple #[.agg #[.string r.1.id, vC, vP], .bool r.2]) ∧ OwnA w' w.heap.size r.1 vC vP) ∧ Below w.heap.size w w'
theorem small_mono {n m : Nat} {a : AttrL} (h : SmallA n a) (hn : n ≤ m) : SmallA m a := ⟨Nat.le_trans h.1 hn, fun x hx => Nat.le_trans (h.2.1 x hx) hn, fun p hp => ⟨Nat.le_trans (h.2.2 p hp).1 hn, Nat.le_trans (h.2.2 p hp).2 hn⟩⟩
theorem onlyR_small (s : ByteArray) (a : AttrL) (h : onlyR s = some a) : SmallA s.size a := by
  have hz : (mk (trimS (bytesL s))).size ≤ s.size := by rw [mk_size]; have := trimS_len (bytesL s); rwa [bytesL_length] at this
  unfold onlyR at h
  split at h
  · injection h with h; subst h; exact emptyA_small _
  · split at h
    · injection h with h; subst h; exact small_mono (parseL_small _ _) hz
    · cases h
end Go.Proofs.YtpoafhgbhnblmaaGreatDoor
namespace Go.Proofs.YtpoafhgbhnblmaaGreatDoor
open Go.RowKit Go.Pub
/-- Whether the mark b continues the list of the mark a. -/
def sameR (a b : MkL) : Bool := decide (a.kind = b.kind ∧ a.ch = b.ch ∧ (b.kind = 6 ∧ (b.off : Int) - 2 - (b.info.size : Int) < (a.off : Int) ∨ b.kind = 5 ∧ (b.off : Int) - 2 < (a.off : Int)))
set_option maxRecDepth 100000 in
set_option maxHeartbeats 1000000 in
theorem m_same (a b : MkL) (A1 A2 A3 A4 : Option Addr) (n1 c1 n2 c2 n3 c3 n4 c4 : Nat) (w : World) (ha : a.off ≤ 2000000) (hb : b.off ≤ 2000000) (hi : b.kind = 6 → b.info.size ≤ 1000000) :
    Calls Tryz.prog 118 #[.agg (a.cells (.slice A1 n1 c1) (.slice A2 n2 c2)), .agg (b.cells (.slice A3 n3 c3) (.slice A4 n4 c4))] w fun e w' => e = .returned (.bool (sameR a b)) ∧ Below w.heap.size w w' := by
  have HR : Hid (sameR a b = decide (a.kind = b.kind ∧ a.ch = b.ch ∧ (b.kind = 6 ∧ (b.off : Int) - 2 - (b.info.size : Int) < (a.off : Int) ∨ b.kind = 5 ∧ (b.off : Int) - 2 < (a.off : Int)))) := Lib.hid rfl
  generalize sameR a b = R at *
  obtain ⟨ka, na, ca, oa, ia, ra, da, ta, aa⟩ := a
  obtain ⟨kb, nb, cb, ob, ib, rb, db, tb, ab⟩ := b
  simp only [MkL.cells] at *
  by_cases hk : ka = kb
  case neg =>
    have z1 : (((ka : Nat) : Int) != (kb : Int)) = true := by rw [bne_iff_ne]; omega
    have z2 : (((ka : Nat) : Int) == (kb : Int)) = false := by rw [beq_eq_false_iff_ne]; omega
    have HF : Hid (R = false) := Lib.hid (by rw [HR.out, decide_eq_false (fun h => hk h.1)])
    clear HR
    go_enter Tryz.func118, Tryz.ntmps118
    go_wp2_with fail
    go_ret
    exact ⟨ret_bool (by rw [HF.out]), (((Below.refl _ w).alloc (Nat.le_refl _) _).alloc (by simp) _)⟩
  subst hk
  by_cases hc : ca = cb
  case neg =>
    have z1 : (ca.toList == cb.toList) = false := (Lib.bytes_beq_false_iff _ _).2 hc
    have HF : Hid (R = false) := Lib.hid (by rw [HR.out, decide_eq_false (fun h => hc h.2.1)])
    clear HR
    go_enter Tryz.func118, Tryz.ntmps118
    go_wp2_with fail
    go_ret
    exact ⟨ret_bool (by rw [HF.out]), (((Below.refl _ w).alloc (Nat.le_refl _) _).alloc (by simp) _)⟩
  subst hc
  by_cases h6 : ka = 6
  · subst h6
    have HF : Hid (R = decide ((ob : Int) - 2 - (ib.size : Int) < (oa : Int))) := Lib.hid (by rw [HR.out]; simp)
    replace hi := hi rfl
    clear HR
    go_enter Tryz.func118, Tryz.ntmps118
    go_wp2_with fail
    go_ret
    exact ⟨ret_bool (by rw [HF.out]), (((Below.refl _ w).alloc (Nat.le_refl _) _).alloc (by simp) _)⟩
  by_cases h5 : ka = 5
  · subst h5
    have HF : Hid (R = decide ((ob : Int) - 2 < (oa : Int))) := Lib.hid (by rw [HR.out]; simp)
    clear HR
    go_enter Tryz.func118, Tryz.ntmps118
    go_wp2_with fail
    go_ret
    exact ⟨ret_bool (by rw [HF.out]), (((Below.refl _ w).alloc (Nat.le_refl _) _).alloc (by simp) _)⟩
  · have z5 : (((ka : Nat) : Int) == 5) = false := by rw [beq_eq_false_iff_ne]; omega
    have z6 : (((ka : Nat) : Int) == 6) = false := by rw [beq_eq_false_iff_ne]; omega
    have HF : Hid (R = false) := Lib.hid (by rw [HR.out]; simp [h5, h6])
    clear HR
    go_enter Tryz.func118, Tryz.ntmps118
    go_wp2_with fail
    go_ret
    exact ⟨ret_bool (by rw [HF.out]), (((Below.refl _ w).alloc (Nat.le_refl _) _).alloc (by simp) _)⟩

end Go.Proofs.YtpoafhgbhnblmaaGreatDoor
namespace Go.Pub
open Go.RowKit
/-- The cell of a part. -/
def cellL (p : List UInt8) : List UInt8 := unbarL (trimS p)
def cellV (x : Pt) : Value := .string (mk (cellL (bytesL x.1)))
theorem count_le_len (l : List UInt8) : Lib.count l oldU ≤ l.length := by
  have h := Lib.countB_mul_le (mk oldU) (by decide) (mk l).size (mk l) (Nat.le_refl _)
  unfold Lib.countB at h
  have e1 : (mk l).data.toList = l := bytesL_mk' l
  have e2 : (mk oldU).data.toList = oldU := bytesL_mk' oldU
  rw [e1, e2, mk_size, mk_size] at h
  rw [show oldU.length = 2 from rfl] at h
  omega
end Go.Pub
namespace Go.Proofs.YtpoafhgbhnblmaaGreatDoor
open Go.RowKit Go.Pub Go.Shelf
attribute [local go_sem] Oper.semAt_some
theorem strInfo : (Tryz.prog.info? 9).map (fun i => (i.zero, i.size, i.bytes)) = some (some (.string ⟨#[]⟩), 1, 16) := by kernel_rfl
theorem repl_any (s : ByteArray) (m : Int) (w : World) (hs : s.size ≤ 1000000) (hm : w.cell? ⟨0, 0, none⟩ = some (.int .i64 m)) :
    Calls Tryz.prog 173 #[.string s, .string ⟨#[92, 124]⟩, .string ⟨#[124]⟩] w fun e w' => e = .returned (.string (mk (unbarL (bytesL s)))) ∧ Below w.heap.size w w' := by
  have hc := count_le_len (bytesL s)
  rw [bytesL_length] at hc
  have h := Tryz.strings_ReplaceAll s ⟨#[92, 124]⟩ ⟨#[124]⟩ m w (by omega) hm (by decide) (by
    show s.size + Lib.count (bytesL s) oldU * 1 ≤ _
    omega)
  refine h.mono ?_
  rintro e w' ⟨rfl, hb⟩
  refine ⟨?_, hb⟩
  have e1 : Lib.replaceAll (bytesL s) [92, 124] [124] = unbarL (bytesL s) := by
    unfold Lib.replaceAll Lib.replace Lib.replaceNum
    rw [if_neg (by decide), if_pos (by omega)]
    exact repl_unbar _ _ (Nat.le_refl _)
  show Ending.returned (.string ⟨(Lib.replaceAll (bytesL s) [92, 124] [124]).toArray⟩) = _
  rw [e1]; rfl
set_option maxRecDepth 100000 in
set_option maxHeartbeats 4000000 in
theorem t_cells (s : ByteArray) (m : Int) (w : World) (hs : s.size ≤ 1000000) (hm : w.cell? ⟨0, 0, none⟩ = some (.int .i64 m)) :
    Calls Tryz.prog 120 #[.string s] w fun e W' => ∃ v, e = .returned v ∧ W'.ownsRow w.heap.size 9 1 v (partsL (bytesL s)).length ((partsL (bytesL s)).map fun p => .string (mk (cellL p))) ∧ Below w.heap.size w W' := by
  have h0w : 0 < w.heap.size := World.block_lt_of_cell? _ _ hm
  have HP := Lib.hid fun W => t_parts s W hs
  have hcs := coreB_size (bytesL s)
  rw [bytesL_length] at hcs
  have HX : Hid (partsL (bytesL s) = restP (coreB (bytesL s)) 0 0) := Lib.hid (by rw [restP_zero]; rfl)
  have hN : (restP (coreB (bytesL s)) 0 0).length ≤ 1000001 := by rw [← HX.out]; have := splitGo_len (bytesL (coreB (bytesL s))) false; rw [bytesL_length] at this; unfold partsL; omega
  have HM : Hid (∀ p ∈ restP (coreB (bytesL s)) 0 0, p.length ≤ 1000000) := Lib.hid (fun p hp => by
    rw [← HX.out] at hp
    have := splitGo_mem _ _ p hp
    rw [bytesL_length] at this
    omega)
  rw [HX.out]
  clear HX
  generalize coreB (bytesL s) = C at *
  obtain ⟨i0, hi, hz0, hz1, hz2⟩ := info_parts strInfo
  refine (callsIn_wide (n := 5)).1 ?_
  refine callsIn_of_wp_marks Tryz.func120 rfl trivial ?_ rfl
  simp only [Tryz.ntmps120, List.size_toArray, List.length_cons, List.length_nil, Nat.reduceAdd, Nat.reduceSub, Array.replicate_succ, Array.replicate_zero, List.push_toArray, List.append_toArray, List.nil_append, List.cons_append]
  gi_wp2_with fail
  refine ⟨trivial, ?_⟩
  ((with_reducible refine (callsIn_wide.2 (HP.out _)).mono ?_))
  rintro e w' ⟨rfl, rfl⟩
  gi_wp2_with fail
  have bO := Boxed.new w 22 (.slice none 0 0)
  have bN := Boxed.new (w.alloc (.cells #[.slice none 0 0] 22)) 9 (.string C)
  rw [World.size_alloc] at bN
  have hB0 : Below w.heap.size w ((w.alloc (.cells #[.slice none 0 0] 22)).alloc (.cells #[.string C] 9)) := ((Below.refl _ w).alloc (Nat.le_refl _) _).alloc (by simp) _
  refine wpIn_rangeFunc_ownG rfl (by omega) (gf := 214) (lb := #[.pointer (some ⟨w.heap.size + 1, 0, none⟩)]) rfl trivial (enters_of Tryz.func214 (by kernel_rfl) rfl)
    (parts_stops 4 (by omega) (w.heap.size + 1) C (by omega) _ bN) (Kp := KpB (w.heap.size + 1)) (fun h1 h2 => h2.trans h1) (fun W l o o' hl ho hc _ => World.putObj_heap_other (fun e => by simp at hl; omega)) (Below.refl _ _) (fun _ => rfl)
    (fun (pre : List Pt) W => (∃ v, Boxed W w.heap.size 22 v ∧ W.ownsRow (w.heap.size + 2) 9 1 v pre.length (pre.map cellV) ∧ True) ∧ (Boxed W (w.heap.size + 1) 9 (.string C) ∧ Below w.heap.size w W))
    (fun _ _ _ => False)
    (OwnFrom.and (Own.from (holdsRow_own (w.heap.size + 2) w.heap.size 22 9 1 (fun (pre : List Pt) => pre.length) (fun pre => pre.map cellV) (fun _ _ => True)) _) (OwnFrom.and (Own.from (boxed_own (w.heap.size + 1) 9 (fun _ => .string C)) _) (ownFrom_below (Nat.le_refl _) (by simp; omega))))
    (fun _ _ _ _ _ hs _ _ => hs)
    ⟨⟨_, bO.alloc _, World.ownsRow_nil _ _ _ _, trivial⟩, bN, hB0⟩
    (fun (x : Pt) => { tmps := #[.string s, undef, .slice none 0 0, .pointer (some ⟨w.heap.size, 0, none⟩), .string x.1, .string s, .func (.func 214) #[] #[.pointer (some ⟨w.heap.size + 1, 0, none⟩)], .string x.1, undef, undef, undef, undef, undef, undef, undef], defers := [] }) ?assign ?body ?done ?stop
  case assign =>
    intro l x W K hK
    gi_wp2_with fail
    exact hK
  case body =>
    rintro l pre x W ⟨⟨v, hv, hrow, _⟩, hsB, hB⟩ hlt
    have hc := hv.cell
    have hmx : Tryz.prog.follows .mixedOrders = true := by kernel_rfl
    have HT := Lib.hid fun W => t_trim x.1 W x.2
    have hxt : (mk (trimS (bytesL x.1))).size ≤ 1000000 := by rw [mk_size]; have := trimS_len (bytesL x.1); rw [bytesL_length] at this; have := x.2; omega
    have hpl : pre.length ≤ 1000001 := by omega
    have HR : Hid (∀ W1, W1.cell? ⟨0, 0, none⟩ = some (.int .i64 m) → Calls Tryz.prog 173 #[.string (mk (trimS (bytesL x.1))), .string ⟨#[92, 124]⟩, .string ⟨#[124]⟩] W1 fun e w' => e = .returned (.string (mk (cellL (bytesL x.1)))) ∧ Below W1.heap.size W1 w') := Lib.hid fun W1 h1 => by
      have h := repl_any (mk (trimS (bytesL x.1))) m W1 hxt h1
      rw [bytesL_mk'] at h
      exact h
    have hmW : W.drew.cell? ⟨0, 0, none⟩ = some (.int .i64 m) := (hB.cell (p := ⟨0, 0, none⟩) h0w).trans hm
    have HV : Hid (cellV x = .string (mk (cellL (bytesL x.1)))) := Lib.hid rfl
    generalize mk (trimS (bytesL x.1)) = T at *
    generalize mk (cellL (bytesL x.1)) = Y at *

    have hcW : W.drew.cell? ⟨w.heap.size, 0, none⟩ = some v := hc
    have HL : Hid ((pre ++ [x]).map cellV = pre.map cellV ++ [.string Y]) := Lib.hid (by rw [List.map_append]; show _ ++ [cellV x] = _; rw [HV.out])
    gi_wp2_with fail
    refine regionIn_any hmx (by kernel_rfl) (fun ⟨_, _, h⟩ => h) ?_
    refine wpAny_take (i := 1) (v := .string x.1) rfl (by kernel_rfl) (by kernel_rfl) (by kernel_rfl) (fun _ _ _ h => h) (Or.inl ⟨by rfl, fun w' => ?_⟩) ?_
    · go_simp
    simp only [Act.put, List.setIfInBounds_toArray, List.set_cons_zero, List.set_cons_succ]
    refine wpAny_ready (rs := [0, 2]) (by kernel_rfl) (by simp) (AllReady.cons rfl (fun K hK => ?_) (AllReady.cons rfl (fun K hK => ?_) AllReady.nil))
    · go_simp
      refine hK _ _ ?_
      clear hK K
      refine wpAny_ready (rs := [2]) (by kernel_rfl) (by simp) (AllReady.cons rfl (fun K hK => ?_) AllReady.nil)
      go_simp
      ((with_reducible refine (HT.out _).mono ?_))
      rintro e w' ⟨rfl, rfl⟩
      refine hK _ _ ?_
      clear hK K
      refine wpAny_ready (rs := [3]) (by kernel_rfl) (by simp) (AllReady.cons rfl (fun K hK => ?_) AllReady.nil)
      go_simp
      ((with_reducible refine (HR.out _ hmW).mono ?_))
      rintro e W1 ⟨rfl, b1⟩
      have hv1 : Boxed W1 w.heap.size 22 v := (b1.block _ hv.lt).trans hv
      have hs1 : Boxed W1 (w.heap.size + 1) 9 (.string C) := (b1.block _ hsB.lt).trans hsB
      have hrow1 : W1.ownsRow (w.heap.size + 2) 9 1 v pre.length (pre.map cellV) := own_below (w := W.drew) hrow b1
      have hzW := hs1.lt
      have hc1 := hv1.cell
      have hc2 := (hv1.alloc (.cells #[.string Y] 9)).cell
      refine hK _ _ ?_
      clear hK K
      refine wpAny_ready (rs := [4]) (by kernel_rfl) (by simp) (AllReady.cons rfl (fun K hK => ?_) AllReady.nil)
      go_simp
      refine hK _ _ ?_
      clear hK K
      refine wpAny_ready (rs := [5]) (by kernel_rfl) (by simp) (AllReady.cons rfl (fun K hK => ?_) AllReady.nil)
      rw [if_pos (by rfl)]
      refine wp_append_own _ _ _ 22 rfl (w.heap.size + 2) 9 i0 (.string ⟨#[]⟩) 1 16 Tryz.underlying22 hi hz0 hz1 hz2 rfl (by decide) v pre.length (pre.map cellV) rfl (hrow1.alloc _) ⟨W1.heap.size, 0, none⟩ 1 1 [.string Y] rfl rfl (cell_one_new _ _ _) (by simp [Value.oneCell']) (by unfold maxLen; omega) (by omega) (by simp; omega) ?_
      intro v' W2 hown2 hgrow _
      obtain ⟨g', cap', rfl⟩ := ownsRow_succ hown2
      obtain ⟨q1, q2, q6, q3, q4, q5⟩ := appended2 hv1 hs1 hrow1 hown2 hgrow
      have hc3 := q1.cell
      have hf3 := q1.frozen
      refine hK _ _ ?_
      clear hK K
      simp only [Act.put, List.setIfInBounds_toArray, List.set_cons_zero, List.set_cons_succ]
      refine wpAny_ready (rs := [6]) (by kernel_rfl) (by simp) (AllReady.cons rfl (fun K hK => ?_) AllReady.nil)
      go_simp
      refine hK _ _ ?_
      clear hK K
      refine wpAny_done (by kernel_rfl) ?_ _
      exact ⟨(((KeepsOthers.drew W).trans (keeps_of_below b1)).trans q4).from _, q6.trans hsB.symm, ⟨_, q2, by rw [HL.out, List.length_append]; exact q3, trivial⟩, q6, (hB.drew.trans (b1.mono hB.size)).trans q5⟩
    · go_simp
      ((with_reducible refine (HT.out _).mono ?_))
      rintro e w' ⟨rfl, rfl⟩
      refine hK _ _ ?_
      clear hK K
      refine wpAny_ready (rs := [0, 3]) (by kernel_rfl) (by simp) (AllReady.cons rfl (fun K hK => ?_) (AllReady.cons rfl (fun K hK => ?_) AllReady.nil))
      · go_simp
        refine hK _ _ ?_
        clear hK K
        refine wpAny_ready (rs := [3]) (by kernel_rfl) (by simp) (AllReady.cons rfl (fun K hK => ?_) AllReady.nil)
        go_simp
        ((with_reducible refine (HR.out _ hmW).mono ?_))
        rintro e W1 ⟨rfl, b1⟩
        have hv1 : Boxed W1 w.heap.size 22 v := (b1.block _ hv.lt).trans hv
        have hs1 : Boxed W1 (w.heap.size + 1) 9 (.string C) := (b1.block _ hsB.lt).trans hsB
        have hrow1 : W1.ownsRow (w.heap.size + 2) 9 1 v pre.length (pre.map cellV) := own_below (w := W.drew) hrow b1
        have hzW := hs1.lt
        have hc1 := hv1.cell
        have hc2 := (hv1.alloc (.cells #[.string Y] 9)).cell
        refine hK _ _ ?_
        clear hK K
        refine wpAny_ready (rs := [4]) (by kernel_rfl) (by simp) (AllReady.cons rfl (fun K hK => ?_) AllReady.nil)
        go_simp
        refine hK _ _ ?_
        clear hK K
        refine wpAny_ready (rs := [5]) (by kernel_rfl) (by simp) (AllReady.cons rfl (fun K hK => ?_) AllReady.nil)
        rw [if_pos (by rfl)]
        refine wp_append_own _ _ _ 22 rfl (w.heap.size + 2) 9 i0 (.string ⟨#[]⟩) 1 16 Tryz.underlying22 hi hz0 hz1 hz2 rfl (by decide) v pre.length (pre.map cellV) rfl (hrow1.alloc _) ⟨W1.heap.size, 0, none⟩ 1 1 [.string Y] rfl rfl (cell_one_new _ _ _) (by simp [Value.oneCell']) (by unfold maxLen; omega) (by omega) (by simp; omega) ?_
        intro v' W2 hown2 hgrow _
        obtain ⟨g', cap', rfl⟩ := ownsRow_succ hown2
        obtain ⟨q1, q2, q6, q3, q4, q5⟩ := appended2 hv1 hs1 hrow1 hown2 hgrow
        have hc3 := q1.cell
        have hf3 := q1.frozen
        refine hK _ _ ?_
        clear hK K
        simp only [Act.put, List.setIfInBounds_toArray, List.set_cons_zero, List.set_cons_succ]
        refine wpAny_ready (rs := [6]) (by kernel_rfl) (by simp) (AllReady.cons rfl (fun K hK => ?_) AllReady.nil)
        go_simp
        refine hK _ _ ?_
        clear hK K
        refine wpAny_done (by kernel_rfl) ?_ _
        exact ⟨(((KeepsOthers.drew W).trans (keeps_of_below b1)).trans q4).from _, q6.trans hsB.symm, ⟨_, q2, by rw [HL.out, List.length_append]; exact q3, trivial⟩, q6, (hB.drew.trans (b1.mono hB.size)).trans q5⟩
      · go_simp
        ((with_reducible refine (HR.out _ hmW).mono ?_))
        rintro e W1 ⟨rfl, b1⟩
        have hv1 : Boxed W1 w.heap.size 22 v := (b1.block _ hv.lt).trans hv
        have hs1 : Boxed W1 (w.heap.size + 1) 9 (.string C) := (b1.block _ hsB.lt).trans hsB
        have hrow1 : W1.ownsRow (w.heap.size + 2) 9 1 v pre.length (pre.map cellV) := own_below (w := W.drew) hrow b1
        have hzW := hs1.lt
        have hc1 := hv1.cell
        have hc2 := (hv1.alloc (.cells #[.string Y] 9)).cell
        refine hK _ _ ?_
        clear hK K
        refine wpAny_ready (rs := [0, 4]) (by kernel_rfl) (by simp) (AllReady.cons rfl (fun K hK => ?_) (AllReady.cons rfl (fun K hK => ?_) AllReady.nil))
        · go_simp
          refine hK _ _ ?_
          clear hK K
          refine wpAny_ready (rs := [4]) (by kernel_rfl) (by simp) (AllReady.cons rfl (fun K hK => ?_) AllReady.nil)
          go_simp
          refine hK _ _ ?_
          clear hK K
          refine wpAny_ready (rs := [5]) (by kernel_rfl) (by simp) (AllReady.cons rfl (fun K hK => ?_) AllReady.nil)
          rw [if_pos (by rfl)]
          refine wp_append_own _ _ _ 22 rfl (w.heap.size + 2) 9 i0 (.string ⟨#[]⟩) 1 16 Tryz.underlying22 hi hz0 hz1 hz2 rfl (by decide) v pre.length (pre.map cellV) rfl (hrow1.alloc _) ⟨W1.heap.size, 0, none⟩ 1 1 [.string Y] rfl rfl (cell_one_new _ _ _) (by simp [Value.oneCell']) (by unfold maxLen; omega) (by omega) (by simp; omega) ?_
          intro v' W2 hown2 hgrow _
          obtain ⟨g', cap', rfl⟩ := ownsRow_succ hown2
          obtain ⟨q1, q2, q6, q3, q4, q5⟩ := appended2 hv1 hs1 hrow1 hown2 hgrow
          have hc3 := q1.cell
          have hf3 := q1.frozen
          refine hK _ _ ?_
          clear hK K
          simp only [Act.put, List.setIfInBounds_toArray, List.set_cons_zero, List.set_cons_succ]
          refine wpAny_ready (rs := [6]) (by kernel_rfl) (by simp) (AllReady.cons rfl (fun K hK => ?_) AllReady.nil)
          go_simp
          refine hK _ _ ?_
          clear hK K
          refine wpAny_done (by kernel_rfl) ?_ _
          exact ⟨(((KeepsOthers.drew W).trans (keeps_of_below b1)).trans q4).from _, q6.trans hsB.symm, ⟨_, q2, by rw [HL.out, List.length_append]; exact q3, trivial⟩, q6, (hB.drew.trans (b1.mono hB.size)).trans q5⟩
        · go_simp
          refine hK _ _ ?_
          clear hK K
          refine wpAny_ready (rs := [0]) (by kernel_rfl) (by simp) (AllReady.cons rfl (fun K hK => ?_) AllReady.nil)
          go_simp
          refine hK _ _ ?_
          clear hK K
          refine wpAny_ready (rs := [5]) (by kernel_rfl) (by simp) (AllReady.cons rfl (fun K hK => ?_) AllReady.nil)
          rw [if_pos (by rfl)]
          refine wp_append_own _ _ _ 22 rfl (w.heap.size + 2) 9 i0 (.string ⟨#[]⟩) 1 16 Tryz.underlying22 hi hz0 hz1 hz2 rfl (by decide) v pre.length (pre.map cellV) rfl (hrow1.alloc _) ⟨W1.heap.size, 0, none⟩ 1 1 [.string Y] rfl rfl (cell_one_new _ _ _) (by simp [Value.oneCell']) (by unfold maxLen; omega) (by omega) (by simp; omega) ?_
          intro v' W2 hown2 hgrow _
          obtain ⟨g', cap', rfl⟩ := ownsRow_succ hown2
          obtain ⟨q1, q2, q6, q3, q4, q5⟩ := appended2 hv1 hs1 hrow1 hown2 hgrow
          have hc3 := q1.cell
          have hf3 := q1.frozen
          refine hK _ _ ?_
          clear hK K
          simp only [Act.put, List.setIfInBounds_toArray, List.set_cons_zero, List.set_cons_succ]
          refine wpAny_ready (rs := [6]) (by kernel_rfl) (by simp) (AllReady.cons rfl (fun K hK => ?_) AllReady.nil)
          go_simp
          refine hK _ _ ?_
          clear hK K
          refine wpAny_done (by kernel_rfl) ?_ _
          exact ⟨(((KeepsOthers.drew W).trans (keeps_of_below b1)).trans q4).from _, q6.trans hsB.symm, ⟨_, q2, by rw [HL.out, List.length_append]; exact q3, trivial⟩, q6, (hB.drew.trans (b1.mono hB.size)).trans q5⟩
  case done =>
    rintro D ys W hD rfl ⟨⟨v, hv, hrow, _⟩, hsB, hB⟩ hK
    have hc := hv.cell
    gi_wp2_with fail
    refine ⟨by simp, .inl ⟨_, _, rfl, run_takeDeferred hK, ?_⟩⟩
    refine ⟨_, results_tmp rfl _ _ _, v, rfl, ?_, hB.trans (belowK_b (w := w) (Nat.le_refl _) W D _ _ (by simp at hD; omega) hK rfl rfl)⟩
    have h := own_base (ownsRow_putObj hrow (.deferred none) hK rfl) (show w.heap.size ≤ w.heap.size + 2 by omega)
    have e1 : ((restP C 0 0).map toPt).map cellV = (restP C 0 0).map fun p => .string (mk (cellL p)) := by
      rw [List.map_map]
      refine List.map_congr_left fun p hp => ?_
      show cellV (toPt p) = _
      unfold cellV
      rw [toPt_val p (HM.out p hp), bytesL_mk']
    rw [e1, List.length_map] at h
    exact h
  case stop =>
    rintro D c pre W _ _ h _
    exact h.elim

end Go.Proofs.YtpoafhgbhnblmaaGreatDoor
namespace Go.Pub
open Go.RowKit
def letX (l r : Bool) : List UInt8 := if l && r then [99] else if l then [108] else if r then [114] else [45]
def inn1 (c : List UInt8) : List UInt8 := Lib.trimPrefix c [58]
def inn2 (c : List UInt8) : List UInt8 := Lib.trimSuffix (inn1 c) [58]
/-- The alignment letter of a cell, or nothing. -/
def letL (c : List UInt8) : List UInt8 := if inn2 c = [] ∨ (inn2 c).all (· == 45) = false then [] else letX (Lib.hasPrefix c [58]) (Lib.hasSuffix (inn1 c) [58])
theorem dropWhile_nil {p : UInt8 → Bool} : ∀ l : List UInt8, l.dropWhile p = [] ↔ l.all p = true
  | [] => by simp
  | c :: l => by
    by_cases h : p c = true
    · rw [List.dropWhile_cons_of_pos h, dropWhile_nil l, List.all_cons, h, Bool.true_and]
    · rw [List.dropWhile_cons_of_neg h, List.all_cons]; simp [h]
theorem trimB_nil (l : List UInt8) : Lib.trimB l 45 = [] ↔ l.all (· == 45) = true := by
  unfold Lib.trimB Lib.trimRightB Lib.trimLeftB
  rw [dropWhile_nil, List.all_reverse]
  have e : l.all (· == 45) = l.reverse.all (· == 45) := List.all_reverse.symm
  rw [e]
  generalize l.reverse = m
  by_cases h : m.all (· == 45) = true
  · rw [(dropWhile_nil m).2 h]; simp [h]
  · constructor
    · intro h2
      rw [← List.takeWhile_append_dropWhile (p := (· == 45)) (l := m), List.all_append, h2, Bool.and_true]
      exact List.all_takeWhile
    · exact fun e => absurd e h
theorem letL_len (c : List UInt8) : (letL c).length ≤ 1 := by
  unfold letL letX
  split
  · simp
  · split
    · simp
    · split
      · simp
      · split <;> simp
theorem tsuf_len (c p : List UInt8) : (Lib.trimSuffix c p).length ≤ c.length := by
  unfold Lib.trimSuffix; split <;> simp
theorem tpre_len (c p : List UInt8) : (Lib.trimPrefix c p).length ≤ c.length := by
  unfold Lib.trimPrefix; split <;> simp
theorem inn2_len (c : List UInt8) : (inn2 c).length ≤ c.length := Nat.le_trans (tsuf_len _ _) (tpre_len _ _)
end Go.Pub
namespace Go.Proofs.YtpoafhgbhnblmaaGreatDoor
open Go.RowKit Go.Pub
set_option maxRecDepth 100000 in
set_option maxHeartbeats 1000000 in
theorem t_align1 (c : ByteArray) (w : World) (hs : c.size ≤ 1000000) : Calls Tryz.prog 172 #[.string c] w fun e w' => e = .returned (.string (mk (letL (bytesL c)))) ∧ Below w.heap.size w w' := by
  have hz1 := tpre_len (bytesL c) [58]
  have hz2 := inn2_len (bytesL c)
  rw [bytesL_length] at hz1 hz2
  have H1 : Hid (∀ W, Calls Tryz.prog 215 #[.string c, .string ⟨#[58]⟩] W fun e w' => e = .returned (.tuple #[.string (mk (inn1 (bytesL c))), .bool (Lib.hasPrefix (bytesL c) [58])]) ∧ w' = W) := Lib.hid fun W => Tryz.strings_CutPrefix c ⟨#[58]⟩ W
  have H2 : Hid (∀ W, Calls Tryz.prog 216 #[.string (mk (inn1 (bytesL c))), .string ⟨#[58]⟩] W fun e w' => e = .returned (.tuple #[.string (mk (inn2 (bytesL c))), .bool (Lib.hasSuffix (inn1 (bytesL c)) [58])]) ∧ w' = W) := Lib.hid fun W => Tryz.strings_CutSuffix (mk (inn1 (bytesL c))) ⟨#[58]⟩ W (by rw [mk_size]; unfold inn1; omega)
  have H3 : Hid (∀ W, Calls Tryz.prog 94 #[.string (mk (inn2 (bytesL c))), .string ⟨#[45]⟩] W fun e w' => e = .returned (.string (mk (Lib.trimB (inn2 (bytesL c)) 45))) ∧ Below W.heap.size W w') := Lib.hid fun W => by
    refine (Tryz.strings_Trim_one (mk (inn2 (bytesL c))) 45 (by decide) W (by rw [mk_size]; omega)).mono ?_
    rintro e w' ⟨rfl, rfl | rfl⟩
    · exact ⟨rfl, Below.refl _ _⟩
    · exact ⟨rfl, (Below.refl _ _).drew⟩
  have HX : Hid (letL (bytesL c) = if inn2 (bytesL c) = [] ∨ (inn2 (bytesL c)).all (· == 45) = false then [] else letX (Lib.hasPrefix (bytesL c) [58]) (Lib.hasSuffix (inn1 (bytesL c)) [58])) := Lib.hid rfl
  have HT := Lib.hid (trimB_nil (inn2 (bytesL c)))
  generalize letL (bytesL c) = R at *
  generalize Lib.hasPrefix (bytesL c) [58] = p at *
  generalize Lib.hasSuffix (inn1 (bytesL c)) [58] = q at *
  generalize Lib.trimB (inn2 (bytesL c)) 45 = T at *
  generalize inn2 (bytesL c) = I at *
  generalize mk (inn1 (bytesL c)) = J at *
  by_cases h0 : I = []
  · have HF : Hid (R = []) := Lib.hid (by rw [HX.out, if_pos (Or.inl h0)])
    subst h0
    have H2' : Hid (∀ W, Calls Tryz.prog 216 #[.string J, .string ⟨#[58]⟩] W fun e w' => e = .returned (.tuple #[.string ⟨#[]⟩, .bool q]) ∧ w' = W) := Lib.hid H2.out
    go_enter Tryz.func172, Tryz.ntmps172
    go_wp2_with fail
    ((with_reducible refine (H1.out _).mono ?_))
    rintro e w0 ⟨rfl, rfl⟩
    go_wp2_with fail
    ((with_reducible refine (H2'.out _).mono ?_))
    rintro e w0 ⟨rfl, rfl⟩
    go_wp2_with fail
    go_ret
    exact ⟨ret_str (by rw [HF.out]; rfl), Below.refl _ _⟩
  · obtain ⟨x1, x2⟩ := cons_list (mk I) (by rw [bytesL_mk']; exact h0)
    by_cases h1 : I.all (· == 45) = true
    · have HF : Hid (R = letX p q) := Lib.hid (by rw [HX.out, if_neg (by rintro (e | e); exact h0 e; rw [h1] at e; cases e)])
      obtain rfl : T = [] := HT.out.2 h1
      have H3' : Hid (∀ W, Calls Tryz.prog 94 #[.string (mk I), .string ⟨#[45]⟩] W fun e w' => e = .returned (.string ⟨#[]⟩) ∧ Below W.heap.size W w') := Lib.hid H3.out
      clear H3 h0 h1 HT HX
      generalize mk I = I' at *
      cases p <;> cases q
      all_goals
        go_enter Tryz.func172, Tryz.ntmps172
        go_wp2_with fail
        ((with_reducible refine (H1.out _).mono ?_))
        rintro e w0 ⟨rfl, rfl⟩
        go_wp2_with fail
        ((with_reducible refine (H2.out _).mono ?_))
        rintro e w0 ⟨rfl, rfl⟩
        go_wp2_with fail
        ((with_reducible refine (H3'.out _).mono ?_))
        rintro e w1 ⟨rfl, b1⟩
        go_wp2_with fail
        go_ret
        exact ⟨ret_str (by rw [HF.out]; rfl), b1⟩
    · have HF : Hid (R = []) := Lib.hid (by rw [HX.out, if_pos (Or.inr (by simpa using h1))])
      obtain ⟨y1, y2⟩ := cons_list (mk T) (by rw [bytesL_mk']; exact fun e => h1 (HT.out.1 e))
      clear h0 h1 HT HX
      generalize mk I = I' at *
      generalize mk T = T' at *
      go_enter Tryz.func172, Tryz.ntmps172
      go_wp2_with fail
      ((with_reducible refine (H1.out _).mono ?_))
      rintro e w0 ⟨rfl, rfl⟩
      go_wp2_with fail
      ((with_reducible refine (H2.out _).mono ?_))
      rintro e w0 ⟨rfl, rfl⟩
      go_wp2_with fail
      ((with_reducible refine (H3.out _).mono ?_))
      rintro e w1 ⟨rfl, b1⟩
      go_wp2_with fail
      go_ret
      exact ⟨ret_str (by rw [HF.out]; rfl), b1⟩

end Go.Proofs.YtpoafhgbhnblmaaGreatDoor
namespace Go.Pub
open Go.RowKit
/-- Cells, cut or padded. -/
def fitL (zs : List ByteArray) (n : Nat) : List ByteArray := zs.take n ++ List.replicate (n - zs.length) ⟨#[]⟩
theorem fitL_len (zs : List ByteArray) (n : Nat) : (fitL zs n).length = n := by unfold fitL; simp; omega
/-- The number of columns. -/
def colN (c : Int) : Nat := min c.toNat 32
theorem made_rep (z : Value) (n : Nat) : madeCells #[z] n = (List.replicate n z).toArray := by
  unfold madeCells
  apply Array.ext
  · simp
  · intro i h1 h2
    simp [Nat.mod_one]
theorem splice_fit (zs : List ByteArray) (n : Nat) : splice (List.replicate n (Value.string ⟨#[]⟩)) 0 (strs (zs.take n)) = strs (fitL zs n) := by
  unfold splice fitL strs
  simp [List.map_append, List.map_replicate, List.drop_replicate]
  by_cases h : n ≤ zs.length
  · rw [show min n zs.length = n by omega, show n - n = 0 by omega, show n - zs.length = 0 by omega]
  · rw [show min n zs.length = zs.length by omega]
end Go.Pub
namespace Go.Proofs.YtpoafhgbhnblmaaGreatDoor
open Go.RowKit Go.Pub
end Go.Proofs.YtpoafhgbhnblmaaGreatDoor
