/-
  Texts of the proof, put together (what this law reaches): MkO.
-/
import Derived.Test.YtpoafhgbhnblmaaGreatDoorX22
import Derived.Laws.EntriesVeiled
set_option linter.unusedVariables false
set_option linter.unusedSimpArgs false
namespace Go.Proofs.YtpoafhgbhnblmaaGreatDoor
open Go.RowKit Go.Pub
/-- What the ten readers say of a line's core. -/
def rdrs (c : ByteArray) (ind : Nat) : List (Option MkL) := [headM c, ruleM c, quoteM c ind, bulletM c ind, numberM c ind, fenceM c ind, mathM c, divM c, noteM c, defM c]
def firstS : List (Option MkL) → Option MkL
  | [] => none
  | some m :: _ => some m
  | none :: l => firstS l
def markC (c : ByteArray) (ind : Nat) : MkL := if 3 < ind then { rest := c } else (firstS (rdrs c ind)).getD { rest := c }
def markM (s : ByteArray) : MkL := if blankB s = true then { kind := 1 } else markC (s.extract (indA s 0) s.size) (indA s 0)
def MkPost (m : MkL) (w : World) (e : Ending) (w' : World) : Prop := (∃ v, e = .returned v ∧ MkVal w' w.heap.size v m) ∧ Below w.heap.size w w'
set_option maxRecDepth 100000 in
set_option maxHeartbeats 8000000 in
theorem m_of (s : ByteArray) (w : World) (hs : s.size ≤ 1000000) : Calls Tryz.prog 38 #[.string s] w (MkPost (markM s) w) := by
  have hil : indA s 0 ≤ s.size := indA_le s
  have hcz : (s.extract (indA s 0) s.size).size = s.size - indA s 0 := by rw [ByteArray.size_extract]; omega
  have HR : Hid (markM s = if blankB s = true then { kind := 1 } else markC (s.extract (indA s 0) s.size) (indA s 0)) := Lib.hid rfl
  have HBl := Lib.hid fun W => t_blank s W hs
  have HI := Lib.hid fun W => t_indent s W hs
  have hbz : blankB s = false → indA s 0 ≠ s.size := fun h => by unfold blankB at h; simpa using h
  generalize markM s = M at *
  generalize blankB s = b at *
  generalize indA s 0 = ind at *
  have hili : (ind : Int) ≤ (s.size : Int) := by omega
  cases b with
  | true =>
    have HF : Hid (M = { kind := 1 }) := Lib.hid (by rw [HR.out]; rfl)
    clear HR hbz
    go_enter Tryz.func38, Tryz.ntmps38
    go_wp2_with fail
    ((with_reducible refine (HBl.out _).mono ?_))
    rintro e w' ⟨rfl, rfl⟩
    go_wp2_with fail
    exact of_ret (Blk.new w _ _) rfl rfl ⟨⟨_, rfl, by rw [HF.out]; exact mkVal_plain (m := { kind := 1 }) rfl ((Below.refl _ w).alloc (Nat.le_refl _) _).size⟩, (Below.refl _ w).alloc (Nat.le_refl _) _⟩
  | false =>
    have hne := hbz rfl
    clear hbz
    have HR2 : Hid (M = if 3 < ind then { rest := s.extract ind s.size } else (firstS (rdrs (s.extract ind s.size) ind)).getD { rest := s.extract ind s.size }) := Lib.hid (by rw [HR.out]; rfl)
    clear HR
    generalize hcc : s.extract ind s.size = c at *
    have h0 : 0 < c.size := by omega
    have hcs : c.size ≤ 1000000 := by omega
    by_cases hi : 3 < ind
    · have HF : Hid (M = { rest := c }) := Lib.hid (by rw [HR2.out, if_pos hi])
      have d1 : decide (3 < (ind : Int)) = true := decide_eq_true (by omega)
      have d2 : decide (3 < ind) = true := decide_eq_true hi
      clear HR2
      go_enter Tryz.func38, Tryz.ntmps38
      go_wp2_with fail
      ((with_reducible refine (HBl.out _).mono ?_))
      rintro e w' ⟨rfl, rfl⟩
      go_wp2_with fail
      ((with_reducible refine (HI.out _).mono ?_))
      rintro e w' ⟨rfl, rfl⟩
      go_wp2_with fail
      exact of_ret (Blk.new w _ _) rfl rfl ⟨⟨_, rfl, by rw [HF.out]; exact mkVal_plain (m := { rest := c }) rfl ((Below.refl _ w).alloc (Nat.le_refl _) _).size⟩, (Below.refl _ w).alloc (Nat.le_refl _) _⟩
    have d1 : decide (3 < (ind : Int)) = false := decide_eq_false (by omega)
    have d2 : decide (3 < ind) = false := decide_eq_false hi
    have HR3 : Hid (M = (firstS (rdrs c ind)).getD { rest := c }) := Lib.hid (by rw [HR2.out, if_neg hi])
    have hi : ind ≤ 3 := by omega
    clear HR2
    have H0 := Lib.hid fun W => m_head c ind W hcs h0
    have H1 := Lib.hid fun W => m_rule c ind W hcs h0
    have H2 := Lib.hid fun W => m_quote c ind W hcs h0 hi
    have H3 := Lib.hid fun W => m_bullet c ind W hcs h0 hi
    have H4 := Lib.hid fun W => m_number c ind W hcs h0 hi
    have H5 := Lib.hid fun W => m_fence c ind W hcs h0 hi
    have H6 := Lib.hid fun W => m_formula c ind W hcs h0
    have H7 := Lib.hid fun W => m_directive c ind W hcs h0
    have H8 := Lib.hid fun W => m_note c ind W hcs h0
    have H9 := Lib.hid fun W => m_def c ind W hcs h0
    have HL : Hid (rdrs c ind = [headM c, ruleM c, quoteM c ind, bulletM c ind, numberM c ind, fenceM c ind, mathM c, divM c, noteM c, defM c]) := Lib.hid rfl
    generalize rdrs c ind = L at *
    generalize headM c = r0 at *
    generalize ruleM c = r1 at *
    generalize quoteM c ind = r2 at *
    generalize bulletM c ind = r3 at *
    generalize numberM c ind = r4 at *
    generalize fenceM c ind = r5 at *
    generalize mathM c = r6 at *
    generalize divM c = r7 at *
    generalize noteM c = r8 at *
    generalize defM c = r9 at *
    have HG : Hid (M = (firstS [r0, r1, r2, r3, r4, r5, r6, r7, r8, r9]).getD { rest := c }) := Lib.hid (by rw [HR3.out, HL.out])
    clear HR3 HL
    go_enter Tryz.func38, Tryz.ntmps38
    go_wp2_with fail
    ((with_reducible refine (HBl.out _).mono ?_))
    rintro e w' ⟨rfl, rfl⟩
    go_wp2_with fail
    ((with_reducible refine (HI.out _).mono ?_))
    rintro e w2 ⟨rfl, hw⟩
    have hw' : zw w = w2 := hw
    have HZ2 : ZM w2 w.heap.size := hw' ▸ zw_zm w
    have HB2 : Below w.heap.size w w2 := hw' ▸ zw_below w
    clear hw hw'
    go_wp2_with fail
    go_loopw [24] (fun v wr => ∃ k : Nat, v = .int .i64 k ∧ k ≤ 10 ∧ ZM wr w.heap.size ∧ Below w.heap.size w wr ∧ Hid (M = (firstS ([r0, r1, r2, r3, r4, r5, r6, r7, r8, r9].drop k)).getD { rest := c })) (fun v _ => 10 - (intOf v).toNat)
    case atStart => exact ⟨0, rfl, by omega, HZ2.below ((Below.refl _ w2).alloc (Nat.le_refl _) _), HB2.alloc HB2.size _, HG⟩
    case round =>
      obtain ⟨k, rfl, hk, HZr, HBr, Hk⟩ := hrel
      clear HG
      have HU : Hid (Tryz.prog.underlying 88 = some (.array 10 87)) := Lib.hid (by kernel_rfl)
      rcases (by omega : k = 0 ∨ k = 1 ∨ k = 2 ∨ k = 3 ∨ k = 4 ∨ k = 5 ∨ k = 6 ∨ k = 7 ∨ k = 8 ∨ k = 9 ∨ k = 10) with rfl | rfl | rfl | rfl | rfl | rfl | rfl | rfl | rfl | rfl | rfl
      · clear H1 H2 H3 H4 H5 H6 H7 H8 H9
        have hix : ∀ W, (Instr.index 88 (.agg #[.func (Fn.func 59) #[] #[], .func (Fn.func 60) #[] #[], .func (Fn.func 61) #[] #[], .func (Fn.func 62) #[] #[], .func (Fn.func 63) #[] #[], .func (Fn.func 64) #[] #[], .func (Fn.func 65) #[] #[], .func (Fn.func 66) #[] #[], .func (Fn.func 67) #[] #[], .func (Fn.func 68) #[] #[]]) (.int .i64 0)).run Tryz.prog W = .ok (.func (Fn.func 59) #[] #[]) W := fun W => by simp [Instr.index, run_underlying HU.out, asIntOf, go_sem]
        cases r0 with
        | none =>
          have HF : Hid (M = (firstS [r1, r2, r3, r4, r5, r6, r7, r8, r9]).getD { rest := c }) := Lib.hid Hk.out
          clear Hk
          go_wp2_with fail
          ((with_reducible refine (H0.out _).mono ?_))
          rintro e w1 ⟨⟨v, rfl, x0, x1, x2, x3, x4, x5, x6, x7, x8, A9, n9, c9, A10, n10, c10, rfl⟩, b1⟩
          have HZ := ZM.below HZr b1
          have HB := HBr.trans (b1.mono HBr.size)
          clear b1
          go_wp2_with fail
          go_round
          case rel => exact ⟨1, by go_num, by omega, HZ.below ((Below.refl _ w1).alloc (Nat.le_refl _) _), HB.alloc HB.size _, HF⟩
          case measure => simp [intOf]
        | some m =>
          have HF : Hid (M = m) := Lib.hid Hk.out
          clear Hk
          go_wp2_with fail
          ((with_reducible refine (H0.out _).mono ?_))
          rintro e w1 ⟨⟨v, rfl, vC, vP, rfl, hown⟩, b1⟩
          have hlt : w.heap.size < wr.heap.size := Blk.lt HZr
          have hH := Lib.hid (And.intro hlt hown)
          clear hlt
          obtain ⟨AC, cC, rfl⟩ := own_slice hown.cls
          obtain ⟨AP, cP, rfl⟩ := own_slice hown.prs
          clear hown
          have HZ := ZM.below HZr b1
          have HB := HBr.trans (b1.mono HBr.size)
          clear b1
          have HZ2 := HZ.below ((Below.refl _ w1).alloc (Nat.le_refl _) (.cells (m.cells (.slice AC m.att.cl.length cC) (.slice AP m.att.pr.length cP)) 74))
          obtain ⟨k0, k1, k2, k3, k4, k5, k6, k7, k8, k9, k10, y0, y1, y2, y3, y4, y5, y6, y7, y8, y9, y10⟩ := ZM.facts HZ2
          unfold MkL.cells at *
          go_wp2_with fail
          refine of_ret (blk11 HZ2 _ _ _ _ _ _ _ _ _ _ _) rfl rfl ⟨⟨_, rfl, ?_⟩, below11 (HB.alloc HB.size _) (Nat.le_refl _) _ _ _ _ _ _ _ _ _ _ _⟩
          rw [HF.out]
          exact mkVal_own (ownA_low (ownA_far (ownA_far hH.out.2 (World.grownBy_alloc _ _ (some w.heap.size)) hH.out.1) (grown11 _ _ _ _ _ _ _ _ _ _ _ _ _) hH.out.1) (Nat.le_of_lt hH.out.1))
      · clear H0 H2 H3 H4 H5 H6 H7 H8 H9
        have hix : ∀ W, (Instr.index 88 (.agg #[.func (Fn.func 59) #[] #[], .func (Fn.func 60) #[] #[], .func (Fn.func 61) #[] #[], .func (Fn.func 62) #[] #[], .func (Fn.func 63) #[] #[], .func (Fn.func 64) #[] #[], .func (Fn.func 65) #[] #[], .func (Fn.func 66) #[] #[], .func (Fn.func 67) #[] #[], .func (Fn.func 68) #[] #[]]) (.int .i64 1)).run Tryz.prog W = .ok (.func (Fn.func 60) #[] #[]) W := fun W => by simp [Instr.index, run_underlying HU.out, asIntOf, go_sem]
        cases r1 with
        | none =>
          have HF : Hid (M = (firstS [r2, r3, r4, r5, r6, r7, r8, r9]).getD { rest := c }) := Lib.hid Hk.out
          clear Hk
          go_wp2_with fail
          ((with_reducible refine (H1.out _).mono ?_))
          rintro e w1 ⟨⟨v, rfl, x0, x1, x2, x3, x4, x5, x6, x7, x8, A9, n9, c9, A10, n10, c10, rfl⟩, b1⟩
          have HZ := ZM.below HZr b1
          have HB := HBr.trans (b1.mono HBr.size)
          clear b1
          go_wp2_with fail
          go_round
          case rel => exact ⟨2, by go_num, by omega, HZ.below ((Below.refl _ w1).alloc (Nat.le_refl _) _), HB.alloc HB.size _, HF⟩
          case measure => simp [intOf]
        | some m =>
          have HF : Hid (M = m) := Lib.hid Hk.out
          clear Hk
          go_wp2_with fail
          ((with_reducible refine (H1.out _).mono ?_))
          rintro e w1 ⟨⟨v, rfl, vC, vP, rfl, hown⟩, b1⟩
          have hlt : w.heap.size < wr.heap.size := Blk.lt HZr
          have hH := Lib.hid (And.intro hlt hown)
          clear hlt
          obtain ⟨AC, cC, rfl⟩ := own_slice hown.cls
          obtain ⟨AP, cP, rfl⟩ := own_slice hown.prs
          clear hown
          have HZ := ZM.below HZr b1
          have HB := HBr.trans (b1.mono HBr.size)
          clear b1
          have HZ2 := HZ.below ((Below.refl _ w1).alloc (Nat.le_refl _) (.cells (m.cells (.slice AC m.att.cl.length cC) (.slice AP m.att.pr.length cP)) 74))
          obtain ⟨k0, k1, k2, k3, k4, k5, k6, k7, k8, k9, k10, y0, y1, y2, y3, y4, y5, y6, y7, y8, y9, y10⟩ := ZM.facts HZ2
          unfold MkL.cells at *
          go_wp2_with fail
          refine of_ret (blk11 HZ2 _ _ _ _ _ _ _ _ _ _ _) rfl rfl ⟨⟨_, rfl, ?_⟩, below11 (HB.alloc HB.size _) (Nat.le_refl _) _ _ _ _ _ _ _ _ _ _ _⟩
          rw [HF.out]
          exact mkVal_own (ownA_low (ownA_far (ownA_far hH.out.2 (World.grownBy_alloc _ _ (some w.heap.size)) hH.out.1) (grown11 _ _ _ _ _ _ _ _ _ _ _ _ _) hH.out.1) (Nat.le_of_lt hH.out.1))
      · clear H0 H1 H3 H4 H5 H6 H7 H8 H9
        have hix : ∀ W, (Instr.index 88 (.agg #[.func (Fn.func 59) #[] #[], .func (Fn.func 60) #[] #[], .func (Fn.func 61) #[] #[], .func (Fn.func 62) #[] #[], .func (Fn.func 63) #[] #[], .func (Fn.func 64) #[] #[], .func (Fn.func 65) #[] #[], .func (Fn.func 66) #[] #[], .func (Fn.func 67) #[] #[], .func (Fn.func 68) #[] #[]]) (.int .i64 2)).run Tryz.prog W = .ok (.func (Fn.func 61) #[] #[]) W := fun W => by simp [Instr.index, run_underlying HU.out, asIntOf, go_sem]
        cases r2 with
        | none =>
          have HF : Hid (M = (firstS [r3, r4, r5, r6, r7, r8, r9]).getD { rest := c }) := Lib.hid Hk.out
          clear Hk
          go_wp2_with fail
          ((with_reducible refine (H2.out _).mono ?_))
          rintro e w1 ⟨⟨v, rfl, x0, x1, x2, x3, x4, x5, x6, x7, x8, A9, n9, c9, A10, n10, c10, rfl⟩, b1⟩
          have HZ := ZM.below HZr b1
          have HB := HBr.trans (b1.mono HBr.size)
          clear b1
          go_wp2_with fail
          go_round
          case rel => exact ⟨3, by go_num, by omega, HZ.below ((Below.refl _ w1).alloc (Nat.le_refl _) _), HB.alloc HB.size _, HF⟩
          case measure => simp [intOf]
        | some m =>
          have HF : Hid (M = m) := Lib.hid Hk.out
          clear Hk
          go_wp2_with fail
          ((with_reducible refine (H2.out _).mono ?_))
          rintro e w1 ⟨⟨v, rfl, vC, vP, rfl, hown⟩, b1⟩
          have hlt : w.heap.size < wr.heap.size := Blk.lt HZr
          have hH := Lib.hid (And.intro hlt hown)
          clear hlt
          obtain ⟨AC, cC, rfl⟩ := own_slice hown.cls
          obtain ⟨AP, cP, rfl⟩ := own_slice hown.prs
          clear hown
          have HZ := ZM.below HZr b1
          have HB := HBr.trans (b1.mono HBr.size)
          clear b1
          have HZ2 := HZ.below ((Below.refl _ w1).alloc (Nat.le_refl _) (.cells (m.cells (.slice AC m.att.cl.length cC) (.slice AP m.att.pr.length cP)) 74))
          obtain ⟨k0, k1, k2, k3, k4, k5, k6, k7, k8, k9, k10, y0, y1, y2, y3, y4, y5, y6, y7, y8, y9, y10⟩ := ZM.facts HZ2
          unfold MkL.cells at *
          go_wp2_with fail
          refine of_ret (blk11 HZ2 _ _ _ _ _ _ _ _ _ _ _) rfl rfl ⟨⟨_, rfl, ?_⟩, below11 (HB.alloc HB.size _) (Nat.le_refl _) _ _ _ _ _ _ _ _ _ _ _⟩
          rw [HF.out]
          exact mkVal_own (ownA_low (ownA_far (ownA_far hH.out.2 (World.grownBy_alloc _ _ (some w.heap.size)) hH.out.1) (grown11 _ _ _ _ _ _ _ _ _ _ _ _ _) hH.out.1) (Nat.le_of_lt hH.out.1))
      · clear H0 H1 H2 H4 H5 H6 H7 H8 H9
        have hix : ∀ W, (Instr.index 88 (.agg #[.func (Fn.func 59) #[] #[], .func (Fn.func 60) #[] #[], .func (Fn.func 61) #[] #[], .func (Fn.func 62) #[] #[], .func (Fn.func 63) #[] #[], .func (Fn.func 64) #[] #[], .func (Fn.func 65) #[] #[], .func (Fn.func 66) #[] #[], .func (Fn.func 67) #[] #[], .func (Fn.func 68) #[] #[]]) (.int .i64 3)).run Tryz.prog W = .ok (.func (Fn.func 62) #[] #[]) W := fun W => by simp [Instr.index, run_underlying HU.out, asIntOf, go_sem]
        cases r3 with
        | none =>
          have HF : Hid (M = (firstS [r4, r5, r6, r7, r8, r9]).getD { rest := c }) := Lib.hid Hk.out
          clear Hk
          go_wp2_with fail
          ((with_reducible refine (H3.out _).mono ?_))
          rintro e w1 ⟨⟨v, rfl, x0, x1, x2, x3, x4, x5, x6, x7, x8, A9, n9, c9, A10, n10, c10, rfl⟩, b1⟩
          have HZ := ZM.below HZr b1
          have HB := HBr.trans (b1.mono HBr.size)
          clear b1
          go_wp2_with fail
          go_round
          case rel => exact ⟨4, by go_num, by omega, HZ.below ((Below.refl _ w1).alloc (Nat.le_refl _) _), HB.alloc HB.size _, HF⟩
          case measure => simp [intOf]
        | some m =>
          have HF : Hid (M = m) := Lib.hid Hk.out
          clear Hk
          go_wp2_with fail
          ((with_reducible refine (H3.out _).mono ?_))
          rintro e w1 ⟨⟨v, rfl, vC, vP, rfl, hown⟩, b1⟩
          have hlt : w.heap.size < wr.heap.size := Blk.lt HZr
          have hH := Lib.hid (And.intro hlt hown)
          clear hlt
          obtain ⟨AC, cC, rfl⟩ := own_slice hown.cls
          obtain ⟨AP, cP, rfl⟩ := own_slice hown.prs
          clear hown
          have HZ := ZM.below HZr b1
          have HB := HBr.trans (b1.mono HBr.size)
          clear b1
          have HZ2 := HZ.below ((Below.refl _ w1).alloc (Nat.le_refl _) (.cells (m.cells (.slice AC m.att.cl.length cC) (.slice AP m.att.pr.length cP)) 74))
          obtain ⟨k0, k1, k2, k3, k4, k5, k6, k7, k8, k9, k10, y0, y1, y2, y3, y4, y5, y6, y7, y8, y9, y10⟩ := ZM.facts HZ2
          unfold MkL.cells at *
          go_wp2_with fail
          refine of_ret (blk11 HZ2 _ _ _ _ _ _ _ _ _ _ _) rfl rfl ⟨⟨_, rfl, ?_⟩, below11 (HB.alloc HB.size _) (Nat.le_refl _) _ _ _ _ _ _ _ _ _ _ _⟩
          rw [HF.out]
          exact mkVal_own (ownA_low (ownA_far (ownA_far hH.out.2 (World.grownBy_alloc _ _ (some w.heap.size)) hH.out.1) (grown11 _ _ _ _ _ _ _ _ _ _ _ _ _) hH.out.1) (Nat.le_of_lt hH.out.1))
      · clear H0 H1 H2 H3 H5 H6 H7 H8 H9
        have hix : ∀ W, (Instr.index 88 (.agg #[.func (Fn.func 59) #[] #[], .func (Fn.func 60) #[] #[], .func (Fn.func 61) #[] #[], .func (Fn.func 62) #[] #[], .func (Fn.func 63) #[] #[], .func (Fn.func 64) #[] #[], .func (Fn.func 65) #[] #[], .func (Fn.func 66) #[] #[], .func (Fn.func 67) #[] #[], .func (Fn.func 68) #[] #[]]) (.int .i64 4)).run Tryz.prog W = .ok (.func (Fn.func 63) #[] #[]) W := fun W => by simp [Instr.index, run_underlying HU.out, asIntOf, go_sem]
        cases r4 with
        | none =>
          have HF : Hid (M = (firstS [r5, r6, r7, r8, r9]).getD { rest := c }) := Lib.hid Hk.out
          clear Hk
          go_wp2_with fail
          ((with_reducible refine (H4.out _).mono ?_))
          rintro e w1 ⟨⟨v, rfl, x0, x1, x2, x3, x4, x5, x6, x7, x8, A9, n9, c9, A10, n10, c10, rfl⟩, b1⟩
          have HZ := ZM.below HZr b1
          have HB := HBr.trans (b1.mono HBr.size)
          clear b1
          go_wp2_with fail
          go_round
          case rel => exact ⟨5, by go_num, by omega, HZ.below ((Below.refl _ w1).alloc (Nat.le_refl _) _), HB.alloc HB.size _, HF⟩
          case measure => simp [intOf]
        | some m =>
          have HF : Hid (M = m) := Lib.hid Hk.out
          clear Hk
          go_wp2_with fail
          ((with_reducible refine (H4.out _).mono ?_))
          rintro e w1 ⟨⟨v, rfl, vC, vP, rfl, hown⟩, b1⟩
          have hlt : w.heap.size < wr.heap.size := Blk.lt HZr
          have hH := Lib.hid (And.intro hlt hown)
          clear hlt
          obtain ⟨AC, cC, rfl⟩ := own_slice hown.cls
          obtain ⟨AP, cP, rfl⟩ := own_slice hown.prs
          clear hown
          have HZ := ZM.below HZr b1
          have HB := HBr.trans (b1.mono HBr.size)
          clear b1
          have HZ2 := HZ.below ((Below.refl _ w1).alloc (Nat.le_refl _) (.cells (m.cells (.slice AC m.att.cl.length cC) (.slice AP m.att.pr.length cP)) 74))
          obtain ⟨k0, k1, k2, k3, k4, k5, k6, k7, k8, k9, k10, y0, y1, y2, y3, y4, y5, y6, y7, y8, y9, y10⟩ := ZM.facts HZ2
          unfold MkL.cells at *
          go_wp2_with fail
          refine of_ret (blk11 HZ2 _ _ _ _ _ _ _ _ _ _ _) rfl rfl ⟨⟨_, rfl, ?_⟩, below11 (HB.alloc HB.size _) (Nat.le_refl _) _ _ _ _ _ _ _ _ _ _ _⟩
          rw [HF.out]
          exact mkVal_own (ownA_low (ownA_far (ownA_far hH.out.2 (World.grownBy_alloc _ _ (some w.heap.size)) hH.out.1) (grown11 _ _ _ _ _ _ _ _ _ _ _ _ _) hH.out.1) (Nat.le_of_lt hH.out.1))
      · clear H0 H1 H2 H3 H4 H6 H7 H8 H9
        have hix : ∀ W, (Instr.index 88 (.agg #[.func (Fn.func 59) #[] #[], .func (Fn.func 60) #[] #[], .func (Fn.func 61) #[] #[], .func (Fn.func 62) #[] #[], .func (Fn.func 63) #[] #[], .func (Fn.func 64) #[] #[], .func (Fn.func 65) #[] #[], .func (Fn.func 66) #[] #[], .func (Fn.func 67) #[] #[], .func (Fn.func 68) #[] #[]]) (.int .i64 5)).run Tryz.prog W = .ok (.func (Fn.func 64) #[] #[]) W := fun W => by simp [Instr.index, run_underlying HU.out, asIntOf, go_sem]
        cases r5 with
        | none =>
          have HF : Hid (M = (firstS [r6, r7, r8, r9]).getD { rest := c }) := Lib.hid Hk.out
          clear Hk
          go_wp2_with fail
          ((with_reducible refine (H5.out _).mono ?_))
          rintro e w1 ⟨⟨v, rfl, x0, x1, x2, x3, x4, x5, x6, x7, x8, A9, n9, c9, A10, n10, c10, rfl⟩, b1⟩
          have HZ := ZM.below HZr b1
          have HB := HBr.trans (b1.mono HBr.size)
          clear b1
          go_wp2_with fail
          go_round
          case rel => exact ⟨6, by go_num, by omega, HZ.below ((Below.refl _ w1).alloc (Nat.le_refl _) _), HB.alloc HB.size _, HF⟩
          case measure => simp [intOf]
        | some m =>
          have HF : Hid (M = m) := Lib.hid Hk.out
          clear Hk
          go_wp2_with fail
          ((with_reducible refine (H5.out _).mono ?_))
          rintro e w1 ⟨⟨v, rfl, vC, vP, rfl, hown⟩, b1⟩
          have hlt : w.heap.size < wr.heap.size := Blk.lt HZr
          have hH := Lib.hid (And.intro hlt hown)
          clear hlt
          obtain ⟨AC, cC, rfl⟩ := own_slice hown.cls
          obtain ⟨AP, cP, rfl⟩ := own_slice hown.prs
          clear hown
          have HZ := ZM.below HZr b1
          have HB := HBr.trans (b1.mono HBr.size)
          clear b1
          have HZ2 := HZ.below ((Below.refl _ w1).alloc (Nat.le_refl _) (.cells (m.cells (.slice AC m.att.cl.length cC) (.slice AP m.att.pr.length cP)) 74))
          obtain ⟨k0, k1, k2, k3, k4, k5, k6, k7, k8, k9, k10, y0, y1, y2, y3, y4, y5, y6, y7, y8, y9, y10⟩ := ZM.facts HZ2
          unfold MkL.cells at *
          go_wp2_with fail
          refine of_ret (blk11 HZ2 _ _ _ _ _ _ _ _ _ _ _) rfl rfl ⟨⟨_, rfl, ?_⟩, below11 (HB.alloc HB.size _) (Nat.le_refl _) _ _ _ _ _ _ _ _ _ _ _⟩
          rw [HF.out]
          exact mkVal_own (ownA_low (ownA_far (ownA_far hH.out.2 (World.grownBy_alloc _ _ (some w.heap.size)) hH.out.1) (grown11 _ _ _ _ _ _ _ _ _ _ _ _ _) hH.out.1) (Nat.le_of_lt hH.out.1))
      · clear H0 H1 H2 H3 H4 H5 H7 H8 H9
        have hix : ∀ W, (Instr.index 88 (.agg #[.func (Fn.func 59) #[] #[], .func (Fn.func 60) #[] #[], .func (Fn.func 61) #[] #[], .func (Fn.func 62) #[] #[], .func (Fn.func 63) #[] #[], .func (Fn.func 64) #[] #[], .func (Fn.func 65) #[] #[], .func (Fn.func 66) #[] #[], .func (Fn.func 67) #[] #[], .func (Fn.func 68) #[] #[]]) (.int .i64 6)).run Tryz.prog W = .ok (.func (Fn.func 65) #[] #[]) W := fun W => by simp [Instr.index, run_underlying HU.out, asIntOf, go_sem]
        cases r6 with
        | none =>
          have HF : Hid (M = (firstS [r7, r8, r9]).getD { rest := c }) := Lib.hid Hk.out
          clear Hk
          go_wp2_with fail
          ((with_reducible refine (H6.out _).mono ?_))
          rintro e w1 ⟨⟨v, rfl, x0, x1, x2, x3, x4, x5, x6, x7, x8, A9, n9, c9, A10, n10, c10, rfl⟩, b1⟩
          have HZ := ZM.below HZr b1
          have HB := HBr.trans (b1.mono HBr.size)
          clear b1
          go_wp2_with fail
          go_round
          case rel => exact ⟨7, by go_num, by omega, HZ.below ((Below.refl _ w1).alloc (Nat.le_refl _) _), HB.alloc HB.size _, HF⟩
          case measure => simp [intOf]
        | some m =>
          have HF : Hid (M = m) := Lib.hid Hk.out
          clear Hk
          go_wp2_with fail
          ((with_reducible refine (H6.out _).mono ?_))
          rintro e w1 ⟨⟨v, rfl, vC, vP, rfl, hown⟩, b1⟩
          have hlt : w.heap.size < wr.heap.size := Blk.lt HZr
          have hH := Lib.hid (And.intro hlt hown)
          clear hlt
          obtain ⟨AC, cC, rfl⟩ := own_slice hown.cls
          obtain ⟨AP, cP, rfl⟩ := own_slice hown.prs
          clear hown
          have HZ := ZM.below HZr b1
          have HB := HBr.trans (b1.mono HBr.size)
          clear b1
          have HZ2 := HZ.below ((Below.refl _ w1).alloc (Nat.le_refl _) (.cells (m.cells (.slice AC m.att.cl.length cC) (.slice AP m.att.pr.length cP)) 74))
          obtain ⟨k0, k1, k2, k3, k4, k5, k6, k7, k8, k9, k10, y0, y1, y2, y3, y4, y5, y6, y7, y8, y9, y10⟩ := ZM.facts HZ2
          unfold MkL.cells at *
          go_wp2_with fail
          refine of_ret (blk11 HZ2 _ _ _ _ _ _ _ _ _ _ _) rfl rfl ⟨⟨_, rfl, ?_⟩, below11 (HB.alloc HB.size _) (Nat.le_refl _) _ _ _ _ _ _ _ _ _ _ _⟩
          rw [HF.out]
          exact mkVal_own (ownA_low (ownA_far (ownA_far hH.out.2 (World.grownBy_alloc _ _ (some w.heap.size)) hH.out.1) (grown11 _ _ _ _ _ _ _ _ _ _ _ _ _) hH.out.1) (Nat.le_of_lt hH.out.1))
      · clear H0 H1 H2 H3 H4 H5 H6 H8 H9
        have hix : ∀ W, (Instr.index 88 (.agg #[.func (Fn.func 59) #[] #[], .func (Fn.func 60) #[] #[], .func (Fn.func 61) #[] #[], .func (Fn.func 62) #[] #[], .func (Fn.func 63) #[] #[], .func (Fn.func 64) #[] #[], .func (Fn.func 65) #[] #[], .func (Fn.func 66) #[] #[], .func (Fn.func 67) #[] #[], .func (Fn.func 68) #[] #[]]) (.int .i64 7)).run Tryz.prog W = .ok (.func (Fn.func 66) #[] #[]) W := fun W => by simp [Instr.index, run_underlying HU.out, asIntOf, go_sem]
        cases r7 with
        | none =>
          have HF : Hid (M = (firstS [r8, r9]).getD { rest := c }) := Lib.hid Hk.out
          clear Hk
          go_wp2_with fail
          ((with_reducible refine (H7.out _).mono ?_))
          rintro e w1 ⟨⟨v, rfl, x0, x1, x2, x3, x4, x5, x6, x7, x8, A9, n9, c9, A10, n10, c10, rfl⟩, b1⟩
          have HZ := ZM.below HZr b1
          have HB := HBr.trans (b1.mono HBr.size)
          clear b1
          go_wp2_with fail
          go_round
          case rel => exact ⟨8, by go_num, by omega, HZ.below ((Below.refl _ w1).alloc (Nat.le_refl _) _), HB.alloc HB.size _, HF⟩
          case measure => simp [intOf]
        | some m =>
          have HF : Hid (M = m) := Lib.hid Hk.out
          clear Hk
          go_wp2_with fail
          ((with_reducible refine (H7.out _).mono ?_))
          rintro e w1 ⟨⟨v, rfl, vC, vP, rfl, hown⟩, b1⟩
          have hlt : w.heap.size < wr.heap.size := Blk.lt HZr
          have hH := Lib.hid (And.intro hlt hown)
          clear hlt
          obtain ⟨AC, cC, rfl⟩ := own_slice hown.cls
          obtain ⟨AP, cP, rfl⟩ := own_slice hown.prs
          clear hown
          have HZ := ZM.below HZr b1
          have HB := HBr.trans (b1.mono HBr.size)
          clear b1
          have HZ2 := HZ.below ((Below.refl _ w1).alloc (Nat.le_refl _) (.cells (m.cells (.slice AC m.att.cl.length cC) (.slice AP m.att.pr.length cP)) 74))
          obtain ⟨k0, k1, k2, k3, k4, k5, k6, k7, k8, k9, k10, y0, y1, y2, y3, y4, y5, y6, y7, y8, y9, y10⟩ := ZM.facts HZ2
          unfold MkL.cells at *
          go_wp2_with fail
          refine of_ret (blk11 HZ2 _ _ _ _ _ _ _ _ _ _ _) rfl rfl ⟨⟨_, rfl, ?_⟩, below11 (HB.alloc HB.size _) (Nat.le_refl _) _ _ _ _ _ _ _ _ _ _ _⟩
          rw [HF.out]
          exact mkVal_own (ownA_low (ownA_far (ownA_far hH.out.2 (World.grownBy_alloc _ _ (some w.heap.size)) hH.out.1) (grown11 _ _ _ _ _ _ _ _ _ _ _ _ _) hH.out.1) (Nat.le_of_lt hH.out.1))
      · clear H0 H1 H2 H3 H4 H5 H6 H7 H9
        have hix : ∀ W, (Instr.index 88 (.agg #[.func (Fn.func 59) #[] #[], .func (Fn.func 60) #[] #[], .func (Fn.func 61) #[] #[], .func (Fn.func 62) #[] #[], .func (Fn.func 63) #[] #[], .func (Fn.func 64) #[] #[], .func (Fn.func 65) #[] #[], .func (Fn.func 66) #[] #[], .func (Fn.func 67) #[] #[], .func (Fn.func 68) #[] #[]]) (.int .i64 8)).run Tryz.prog W = .ok (.func (Fn.func 67) #[] #[]) W := fun W => by simp [Instr.index, run_underlying HU.out, asIntOf, go_sem]
        cases r8 with
        | none =>
          have HF : Hid (M = (firstS [r9]).getD { rest := c }) := Lib.hid Hk.out
          clear Hk
          go_wp2_with fail
          ((with_reducible refine (H8.out _).mono ?_))
          rintro e w1 ⟨⟨v, rfl, x0, x1, x2, x3, x4, x5, x6, x7, x8, A9, n9, c9, A10, n10, c10, rfl⟩, b1⟩
          have HZ := ZM.below HZr b1
          have HB := HBr.trans (b1.mono HBr.size)
          clear b1
          go_wp2_with fail
          go_round
          case rel => exact ⟨9, by go_num, by omega, HZ.below ((Below.refl _ w1).alloc (Nat.le_refl _) _), HB.alloc HB.size _, HF⟩
          case measure => simp [intOf]
        | some m =>
          have HF : Hid (M = m) := Lib.hid Hk.out
          clear Hk
          go_wp2_with fail
          ((with_reducible refine (H8.out _).mono ?_))
          rintro e w1 ⟨⟨v, rfl, vC, vP, rfl, hown⟩, b1⟩
          have hlt : w.heap.size < wr.heap.size := Blk.lt HZr
          have hH := Lib.hid (And.intro hlt hown)
          clear hlt
          obtain ⟨AC, cC, rfl⟩ := own_slice hown.cls
          obtain ⟨AP, cP, rfl⟩ := own_slice hown.prs
          clear hown
          have HZ := ZM.below HZr b1
          have HB := HBr.trans (b1.mono HBr.size)
          clear b1
          have HZ2 := HZ.below ((Below.refl _ w1).alloc (Nat.le_refl _) (.cells (m.cells (.slice AC m.att.cl.length cC) (.slice AP m.att.pr.length cP)) 74))
          obtain ⟨k0, k1, k2, k3, k4, k5, k6, k7, k8, k9, k10, y0, y1, y2, y3, y4, y5, y6, y7, y8, y9, y10⟩ := ZM.facts HZ2
          unfold MkL.cells at *
          go_wp2_with fail
          refine of_ret (blk11 HZ2 _ _ _ _ _ _ _ _ _ _ _) rfl rfl ⟨⟨_, rfl, ?_⟩, below11 (HB.alloc HB.size _) (Nat.le_refl _) _ _ _ _ _ _ _ _ _ _ _⟩
          rw [HF.out]
          exact mkVal_own (ownA_low (ownA_far (ownA_far hH.out.2 (World.grownBy_alloc _ _ (some w.heap.size)) hH.out.1) (grown11 _ _ _ _ _ _ _ _ _ _ _ _ _) hH.out.1) (Nat.le_of_lt hH.out.1))
      · clear H0 H1 H2 H3 H4 H5 H6 H7 H8
        have hix : ∀ W, (Instr.index 88 (.agg #[.func (Fn.func 59) #[] #[], .func (Fn.func 60) #[] #[], .func (Fn.func 61) #[] #[], .func (Fn.func 62) #[] #[], .func (Fn.func 63) #[] #[], .func (Fn.func 64) #[] #[], .func (Fn.func 65) #[] #[], .func (Fn.func 66) #[] #[], .func (Fn.func 67) #[] #[], .func (Fn.func 68) #[] #[]]) (.int .i64 9)).run Tryz.prog W = .ok (.func (Fn.func 68) #[] #[]) W := fun W => by simp [Instr.index, run_underlying HU.out, asIntOf, go_sem]
        cases r9 with
        | none =>
          have HF : Hid (M = (firstS []).getD { rest := c }) := Lib.hid Hk.out
          clear Hk
          go_wp2_with fail
          ((with_reducible refine (H9.out _).mono ?_))
          rintro e w1 ⟨⟨v, rfl, x0, x1, x2, x3, x4, x5, x6, x7, x8, A9, n9, c9, A10, n10, c10, rfl⟩, b1⟩
          have HZ := ZM.below HZr b1
          have HB := HBr.trans (b1.mono HBr.size)
          clear b1
          go_wp2_with fail
          go_round
          case rel => exact ⟨10, by go_num, by omega, HZ.below ((Below.refl _ w1).alloc (Nat.le_refl _) _), HB.alloc HB.size _, HF⟩
          case measure => simp [intOf]
        | some m =>
          have HF : Hid (M = m) := Lib.hid Hk.out
          clear Hk
          go_wp2_with fail
          ((with_reducible refine (H9.out _).mono ?_))
          rintro e w1 ⟨⟨v, rfl, vC, vP, rfl, hown⟩, b1⟩
          have hlt : w.heap.size < wr.heap.size := Blk.lt HZr
          have hH := Lib.hid (And.intro hlt hown)
          clear hlt
          obtain ⟨AC, cC, rfl⟩ := own_slice hown.cls
          obtain ⟨AP, cP, rfl⟩ := own_slice hown.prs
          clear hown
          have HZ := ZM.below HZr b1
          have HB := HBr.trans (b1.mono HBr.size)
          clear b1
          have HZ2 := HZ.below ((Below.refl _ w1).alloc (Nat.le_refl _) (.cells (m.cells (.slice AC m.att.cl.length cC) (.slice AP m.att.pr.length cP)) 74))
          obtain ⟨k0, k1, k2, k3, k4, k5, k6, k7, k8, k9, k10, y0, y1, y2, y3, y4, y5, y6, y7, y8, y9, y10⟩ := ZM.facts HZ2
          unfold MkL.cells at *
          go_wp2_with fail
          refine of_ret (blk11 HZ2 _ _ _ _ _ _ _ _ _ _ _) rfl rfl ⟨⟨_, rfl, ?_⟩, below11 (HB.alloc HB.size _) (Nat.le_refl _) _ _ _ _ _ _ _ _ _ _ _⟩
          rw [HF.out]
          exact mkVal_own (ownA_low (ownA_far (ownA_far hH.out.2 (World.grownBy_alloc _ _ (some w.heap.size)) hH.out.1) (grown11 _ _ _ _ _ _ _ _ _ _ _ _ _) hH.out.1) (Nat.le_of_lt hH.out.1))
      · have HF : Hid (M = { rest := c }) := Lib.hid Hk.out
        obtain ⟨k0, k1, k2, k3, k4, k5, k6, k7, k8, k9, k10, y0, y1, y2, y3, y4, y5, y6, y7, y8, y9, y10⟩ := ZM.facts HZr
        go_wp2_with fail
        exact of_ret (blk11 HZr _ _ _ _ _ _ _ _ _ _ _) rfl rfl ⟨⟨_, rfl, by rw [HF.out]; exact mkVal_plain (m := { rest := c }) rfl (below11 HBr (Nat.le_refl _) _ _ _ _ _ _ _ _ _ _ _).size⟩, below11 HBr (Nat.le_refl _) _ _ _ _ _ _ _ _ _ _ _⟩

end Go.Proofs.YtpoafhgbhnblmaaGreatDoor
