/-
  Texts of the proof, put together (what this law reaches): MkP, TabC, TabD, TabH, TabJ, TabK, TabL.
-/
import Derived.Test.YtpoafhgbhnblmaaGreatDoorD09
import Derived.Test.YtpoafhgbhnblmaaGreatDoorD05
import Derived.Test.YtpoafhgbhnblmaaGreatDoorD07
import Derived.Maps.AppendAt
import Derived.Laws.OwnMore
import Derived.Lib.TrimByte
import Derived.Deep.CutRange
import Derived.Deep.DeepCutAuto
import Derived.Test.YtpoafhgbhnblmaaGreatDoorD03
import Derived.Laws.CopyOwn
import Derived.Laws.MakeOwn
import Derived.Deep.QuietTactic
import Derived.BigQuiet
set_option linter.unusedVariables false
set_option linter.unusedSimpArgs false
namespace Go.Proofs.YtpoafhgbhnblmaaGreatDoor
open Go.RowKit Go.Pub
/-- Whether the mark b continues the list of the mark a. -/
def sameR (a b : MkL) : Bool := decide (a.kind = b.kind ∧ a.ch = b.ch ∧ (b.kind = 6 ∧ (b.off : Int) - 2 - (b.info.size : Int) < (a.off : Int) ∨ b.kind = 5 ∧ (b.off : Int) - 2 < (a.off : Int)))
set_option maxRecDepth 100000 in
set_option maxHeartbeats 1000000 in
theorem m_same (a b : MkL) (A1 A2 A3 A4 : Option Addr) (n1 c1 n2 c2 n3 c3 n4 c4 : Nat) (w : World) (ha : a.off ≤ 2000000) (hb : b.off ≤ 2000000) (hi : b.kind = 6 → b.info.size ≤ 1000000) :
    Calls Tryz.prog 118 #[.agg (a.cells (.slice A1 n1 c1) (.slice A2 n2 c2)), .agg (b.cells (.slice A3 n3 c3) (.slice A4 n4 c4))] w fun e w' => e = .returned (.bool (sameR a b)) ∧ Below w.heap.size w w' := by
  have HR : Hid (sameR a b = decide (a.kind = b.kind ∧ a.ch = b.ch ∧ (b.kind = 6 ∧ (b.off : Int) - 2 - (b.info.size : Int) < (a.off : Int) ∨ b.kind = 5 ∧ (b.off : Int) - 2 < (a.off : Int)))) := Lib.hid rfl
  generalize sameR a b = R at *
  obtain ⟨ka, na, ca, oa, ia, ra, da, ta, aa⟩ := a
  obtain ⟨kb, nb, cb, ob, ib, rb, db, tb, ab⟩ := b
  simp only [MkL.cells] at *
  by_cases hk : ka = kb
  case neg =>
    have z1 : (((ka : Nat) : Int) != (kb : Int)) = true := by rw [bne_iff_ne]; omega
    have z2 : (((ka : Nat) : Int) == (kb : Int)) = false := by rw [beq_eq_false_iff_ne]; omega
    have HF : Hid (R = false) := Lib.hid (by rw [HR.out, decide_eq_false (fun h => hk h.1)])
    clear HR
    go_enter Tryz.func118, Tryz.ntmps118
    go_wp2_with fail
    go_ret
    exact ⟨ret_bool (by rw [HF.out]), (((Below.refl _ w).alloc (Nat.le_refl _) _).alloc (by simp) _)⟩
  subst hk
  by_cases hc : ca = cb
  case neg =>
    have z1 : (ca.toList == cb.toList) = false := (Lib.bytes_beq_false_iff _ _).2 hc
    have HF : Hid (R = false) := Lib.hid (by rw [HR.out, decide_eq_false (fun h => hc h.2.1)])
    clear HR
    go_enter Tryz.func118, Tryz.ntmps118
    go_wp2_with fail
    go_ret
    exact ⟨ret_bool (by rw [HF.out]), (((Below.refl _ w).alloc (Nat.le_refl _) _).alloc (by simp) _)⟩
  subst hc
  by_cases h6 : ka = 6
  · subst h6
    have HF : Hid (R = decide ((ob : Int) - 2 - (ib.size : Int) < (oa : Int))) := Lib.hid (by rw [HR.out]; simp)
    replace hi := hi rfl
    clear HR
    go_enter Tryz.func118, Tryz.ntmps118
    go_wp2_with fail
    go_ret
    exact ⟨ret_bool (by rw [HF.out]), (((Below.refl _ w).alloc (Nat.le_refl _) _).alloc (by simp) _)⟩
  by_cases h5 : ka = 5
  · subst h5
    have HF : Hid (R = decide ((ob : Int) - 2 < (oa : Int))) := Lib.hid (by rw [HR.out]; simp)
    clear HR
    go_enter Tryz.func118, Tryz.ntmps118
    go_wp2_with fail
    go_ret
    exact ⟨ret_bool (by rw [HF.out]), (((Below.refl _ w).alloc (Nat.le_refl _) _).alloc (by simp) _)⟩
  · have z5 : (((ka : Nat) : Int) == 5) = false := by rw [beq_eq_false_iff_ne]; omega
    have z6 : (((ka : Nat) : Int) == 6) = false := by rw [beq_eq_false_iff_ne]; omega
    have HF : Hid (R = false) := Lib.hid (by rw [HR.out]; simp [h5, h6])
    clear HR
    go_enter Tryz.func118, Tryz.ntmps118
    go_wp2_with fail
    go_ret
    exact ⟨ret_bool (by rw [HF.out]), (((Below.refl _ w).alloc (Nat.le_refl _) _).alloc (by simp) _)⟩

end Go.Proofs.YtpoafhgbhnblmaaGreatDoor
namespace Go.Pub
open Go.RowKit
/-- The cell of a part. -/
def cellL (p : List UInt8) : List UInt8 := unbarL (trimS p)
def cellV (x : Pt) : Value := .string (mk (cellL (bytesL x.1)))
theorem count_le_len (l : List UInt8) : Lib.count l oldU ≤ l.length := by
  have h := Lib.countB_mul_le (mk oldU) (by decide) (mk l).size (mk l) (Nat.le_refl _)
  unfold Lib.countB at h
  have e1 : (mk l).data.toList = l := bytesL_mk' l
  have e2 : (mk oldU).data.toList = oldU := bytesL_mk' oldU
  rw [e1, e2, mk_size, mk_size] at h
  rw [show oldU.length = 2 from rfl] at h
  omega
end Go.Pub
namespace Go.Proofs.YtpoafhgbhnblmaaGreatDoor
open Go.RowKit Go.Pub Go.Shelf
attribute [local go_sem] Oper.semAt_some
theorem strInfo : (Tryz.prog.info? 9).map (fun i => (i.zero, i.size, i.bytes)) = some (some (.string ⟨#[]⟩), 1, 16) := by kernel_rfl
theorem repl_any (s : ByteArray) (m : Int) (w : World) (hs : s.size ≤ 1000000) (hm : w.cell? ⟨0, 0, none⟩ = some (.int .i64 m)) :
    Calls Tryz.prog 173 #[.string s, .string ⟨#[92, 124]⟩, .string ⟨#[124]⟩] w fun e w' => e = .returned (.string (mk (unbarL (bytesL s)))) ∧ Below w.heap.size w w' := by
  have hc := count_le_len (bytesL s)
  rw [bytesL_length] at hc
  have h := Tryz.strings_ReplaceAll s ⟨#[92, 124]⟩ ⟨#[124]⟩ m w (by omega) hm (by decide) (by
    show s.size + Lib.count (bytesL s) oldU * 1 ≤ _
    omega)
  refine h.mono ?_
  rintro e w' ⟨rfl, hb⟩
  refine ⟨?_, hb⟩
  have e1 : Lib.replaceAll (bytesL s) [92, 124] [124] = unbarL (bytesL s) := by
    unfold Lib.replaceAll Lib.replace Lib.replaceNum
    rw [if_neg (by decide), if_pos (by omega)]
    exact repl_unbar _ _ (Nat.le_refl _)
  show Ending.returned (.string ⟨(Lib.replaceAll (bytesL s) [92, 124] [124]).toArray⟩) = _
  rw [e1]; rfl
set_option maxRecDepth 100000 in
set_option maxHeartbeats 4000000 in
theorem t_cells (s : ByteArray) (m : Int) (w : World) (hs : s.size ≤ 1000000) (hm : w.cell? ⟨0, 0, none⟩ = some (.int .i64 m)) :
    Calls Tryz.prog 120 #[.string s] w fun e W' => ∃ v, e = .returned v ∧ W'.ownsRow w.heap.size 9 1 v (partsL (bytesL s)).length ((partsL (bytesL s)).map fun p => .string (mk (cellL p))) ∧ Below w.heap.size w W' := by
  have h0w : 0 < w.heap.size := World.block_lt_of_cell? _ _ hm
  have HP := Lib.hid fun W => t_parts s W hs
  have hcs := coreB_size (bytesL s)
  rw [bytesL_length] at hcs
  have HX : Hid (partsL (bytesL s) = restP (coreB (bytesL s)) 0 0) := Lib.hid (by rw [restP_zero]; rfl)
  have hN : (restP (coreB (bytesL s)) 0 0).length ≤ 1000001 := by rw [← HX.out]; have := splitGo_len (bytesL (coreB (bytesL s))) false; rw [bytesL_length] at this; unfold partsL; omega
  have HM : Hid (∀ p ∈ restP (coreB (bytesL s)) 0 0, p.length ≤ 1000000) := Lib.hid (fun p hp => by
    rw [← HX.out] at hp
    have := splitGo_mem _ _ p hp
    rw [bytesL_length] at this
    omega)
  rw [HX.out]
  clear HX
  generalize coreB (bytesL s) = C at *
  obtain ⟨i0, hi, hz0, hz1, hz2⟩ := info_parts strInfo
  refine (callsIn_wide (n := 5)).1 ?_
  refine callsIn_of_wp_marks Tryz.func120 rfl trivial ?_ rfl
  simp only [Tryz.ntmps120, List.size_toArray, List.length_cons, List.length_nil, Nat.reduceAdd, Nat.reduceSub, Array.replicate_succ, Array.replicate_zero, List.push_toArray, List.append_toArray, List.nil_append, List.cons_append]
  gi_wp2_with fail
  refine ⟨trivial, ?_⟩
  ((with_reducible refine (callsIn_wide.2 (HP.out _)).mono ?_))
  rintro e w' ⟨rfl, rfl⟩
  gi_wp2_with fail
  have bO := Boxed.new w 22 (.slice none 0 0)
  have bN := Boxed.new (w.alloc (.cells #[.slice none 0 0] 22)) 9 (.string C)
  rw [World.size_alloc] at bN
  have hB0 : Below w.heap.size w ((w.alloc (.cells #[.slice none 0 0] 22)).alloc (.cells #[.string C] 9)) := ((Below.refl _ w).alloc (Nat.le_refl _) _).alloc (by simp) _
  refine wpIn_rangeFunc_ownG rfl (by omega) (gf := 214) (lb := #[.pointer (some ⟨w.heap.size + 1, 0, none⟩)]) rfl trivial (enters_of Tryz.func214 (by kernel_rfl) rfl)
    (parts_stops 4 (by omega) (w.heap.size + 1) C (by omega) _ bN) (Kp := KpB (w.heap.size + 1)) (fun h1 h2 => h2.trans h1) (fun W l o o' hl ho hc _ => World.putObj_heap_other (fun e => by simp at hl; omega)) (Below.refl _ _) (fun _ => rfl)
    (fun (pre : List Pt) W => (∃ v, Boxed W w.heap.size 22 v ∧ W.ownsRow (w.heap.size + 2) 9 1 v pre.length (pre.map cellV) ∧ True) ∧ (Boxed W (w.heap.size + 1) 9 (.string C) ∧ Below w.heap.size w W))
    (fun _ _ _ => False)
    (OwnFrom.and (Own.from (holdsRow_own (w.heap.size + 2) w.heap.size 22 9 1 (fun (pre : List Pt) => pre.length) (fun pre => pre.map cellV) (fun _ _ => True)) _) (OwnFrom.and (Own.from (boxed_own (w.heap.size + 1) 9 (fun _ => .string C)) _) (ownFrom_below (Nat.le_refl _) (by simp; omega))))
    (fun _ _ _ _ _ hs _ _ => hs)
    ⟨⟨_, bO.alloc _, World.ownsRow_nil _ _ _ _, trivial⟩, bN, hB0⟩
    (fun (x : Pt) => { tmps := #[.string s, undef, .slice none 0 0, .pointer (some ⟨w.heap.size, 0, none⟩), .string x.1, .string s, .func (.func 214) #[] #[.pointer (some ⟨w.heap.size + 1, 0, none⟩)], .string x.1, undef, undef, undef, undef, undef, undef, undef], defers := [] }) ?assign ?body ?done ?stop
  case assign =>
    intro l x W K hK
    gi_wp2_with fail
    exact hK
  case body =>
    rintro l pre x W ⟨⟨v, hv, hrow, _⟩, hsB, hB⟩ hlt
    have hc := hv.cell
    have hmx : Tryz.prog.follows .mixedOrders = true := by kernel_rfl
    have HT := Lib.hid fun W => t_trim x.1 W x.2
    have hxt : (mk (trimS (bytesL x.1))).size ≤ 1000000 := by rw [mk_size]; have := trimS_len (bytesL x.1); rw [bytesL_length] at this; have := x.2; omega
    have hpl : pre.length ≤ 1000001 := by omega
    have HR : Hid (∀ W1, W1.cell? ⟨0, 0, none⟩ = some (.int .i64 m) → Calls Tryz.prog 173 #[.string (mk (trimS (bytesL x.1))), .string ⟨#[92, 124]⟩, .string ⟨#[124]⟩] W1 fun e w' => e = .returned (.string (mk (cellL (bytesL x.1)))) ∧ Below W1.heap.size W1 w') := Lib.hid fun W1 h1 => by
      have h := repl_any (mk (trimS (bytesL x.1))) m W1 hxt h1
      rw [bytesL_mk'] at h
      exact h
    have hmW : W.drew.cell? ⟨0, 0, none⟩ = some (.int .i64 m) := (hB.cell (p := ⟨0, 0, none⟩) h0w).trans hm
    have HV : Hid (cellV x = .string (mk (cellL (bytesL x.1)))) := Lib.hid rfl
    generalize mk (trimS (bytesL x.1)) = T at *
    generalize mk (cellL (bytesL x.1)) = Y at *

    have hcW : W.drew.cell? ⟨w.heap.size, 0, none⟩ = some v := hc
    have HL : Hid ((pre ++ [x]).map cellV = pre.map cellV ++ [.string Y]) := Lib.hid (by rw [List.map_append]; show _ ++ [cellV x] = _; rw [HV.out])
    gi_wp2_with fail
    refine regionIn_any hmx (by kernel_rfl) (fun ⟨_, _, h⟩ => h) ?_
    refine wpAny_take (i := 1) (v := .string x.1) rfl (by kernel_rfl) (by kernel_rfl) (by kernel_rfl) (fun _ _ _ h => h) (Or.inl ⟨by rfl, fun w' => ?_⟩) ?_
    · go_simp
    simp only [Act.put, List.setIfInBounds_toArray, List.set_cons_zero, List.set_cons_succ]
    refine wpAny_ready (rs := [0, 2]) (by kernel_rfl) (by simp) (AllReady.cons rfl (fun K hK => ?_) (AllReady.cons rfl (fun K hK => ?_) AllReady.nil))
    · go_simp
      refine hK _ _ ?_
      clear hK K
      refine wpAny_ready (rs := [2]) (by kernel_rfl) (by simp) (AllReady.cons rfl (fun K hK => ?_) AllReady.nil)
      go_simp
      ((with_reducible refine (HT.out _).mono ?_))
      rintro e w' ⟨rfl, rfl⟩
      refine hK _ _ ?_
      clear hK K
      refine wpAny_ready (rs := [3]) (by kernel_rfl) (by simp) (AllReady.cons rfl (fun K hK => ?_) AllReady.nil)
      go_simp
      ((with_reducible refine (HR.out _ hmW).mono ?_))
      rintro e W1 ⟨rfl, b1⟩
      have hv1 : Boxed W1 w.heap.size 22 v := (b1.block _ hv.lt).trans hv
      have hs1 : Boxed W1 (w.heap.size + 1) 9 (.string C) := (b1.block _ hsB.lt).trans hsB
      have hrow1 : W1.ownsRow (w.heap.size + 2) 9 1 v pre.length (pre.map cellV) := own_below (w := W.drew) hrow b1
      have hzW := hs1.lt
      have hc1 := hv1.cell
      have hc2 := (hv1.alloc (.cells #[.string Y] 9)).cell
      refine hK _ _ ?_
      clear hK K
      refine wpAny_ready (rs := [4]) (by kernel_rfl) (by simp) (AllReady.cons rfl (fun K hK => ?_) AllReady.nil)
      go_simp
      refine hK _ _ ?_
      clear hK K
      refine wpAny_ready (rs := [5]) (by kernel_rfl) (by simp) (AllReady.cons rfl (fun K hK => ?_) AllReady.nil)
      rw [if_pos (by rfl)]
      refine wp_append_own _ _ _ 22 rfl (w.heap.size + 2) 9 i0 (.string ⟨#[]⟩) 1 16 Tryz.underlying22 hi hz0 hz1 hz2 rfl (by decide) v pre.length (pre.map cellV) rfl (hrow1.alloc _) ⟨W1.heap.size, 0, none⟩ 1 1 [.string Y] rfl rfl (cell_one_new _ _ _) (by simp [Value.oneCell']) (by unfold maxLen; omega) (by omega) (by simp; omega) ?_
      intro v' W2 hown2 hgrow _
      obtain ⟨g', cap', rfl⟩ := ownsRow_succ hown2
      obtain ⟨q1, q2, q6, q3, q4, q5⟩ := appended2 hv1 hs1 hrow1 hown2 hgrow
      have hc3 := q1.cell
      have hf3 := q1.frozen
      refine hK _ _ ?_
      clear hK K
      simp only [Act.put, List.setIfInBounds_toArray, List.set_cons_zero, List.set_cons_succ]
      refine wpAny_ready (rs := [6]) (by kernel_rfl) (by simp) (AllReady.cons rfl (fun K hK => ?_) AllReady.nil)
      go_simp
      refine hK _ _ ?_
      clear hK K
      refine wpAny_done (by kernel_rfl) ?_ _
      exact ⟨(((KeepsOthers.drew W).trans (keeps_of_below b1)).trans q4).from _, q6.trans hsB.symm, ⟨_, q2, by rw [HL.out, List.length_append]; exact q3, trivial⟩, q6, (hB.drew.trans (b1.mono hB.size)).trans q5⟩
    · go_simp
      ((with_reducible refine (HT.out _).mono ?_))
      rintro e w' ⟨rfl, rfl⟩
      refine hK _ _ ?_
      clear hK K
      refine wpAny_ready (rs := [0, 3]) (by kernel_rfl) (by simp) (AllReady.cons rfl (fun K hK => ?_) (AllReady.cons rfl (fun K hK => ?_) AllReady.nil))
      · go_simp
        refine hK _ _ ?_
        clear hK K
        refine wpAny_ready (rs := [3]) (by kernel_rfl) (by simp) (AllReady.cons rfl (fun K hK => ?_) AllReady.nil)
        go_simp
        ((with_reducible refine (HR.out _ hmW).mono ?_))
        rintro e W1 ⟨rfl, b1⟩
        have hv1 : Boxed W1 w.heap.size 22 v := (b1.block _ hv.lt).trans hv
        have hs1 : Boxed W1 (w.heap.size + 1) 9 (.string C) := (b1.block _ hsB.lt).trans hsB
        have hrow1 : W1.ownsRow (w.heap.size + 2) 9 1 v pre.length (pre.map cellV) := own_below (w := W.drew) hrow b1
        have hzW := hs1.lt
        have hc1 := hv1.cell
        have hc2 := (hv1.alloc (.cells #[.string Y] 9)).cell
        refine hK _ _ ?_
        clear hK K
        refine wpAny_ready (rs := [4]) (by kernel_rfl) (by simp) (AllReady.cons rfl (fun K hK => ?_) AllReady.nil)
        go_simp
        refine hK _ _ ?_
        clear hK K
        refine wpAny_ready (rs := [5]) (by kernel_rfl) (by simp) (AllReady.cons rfl (fun K hK => ?_) AllReady.nil)
        rw [if_pos (by rfl)]
        refine wp_append_own _ _ _ 22 rfl (w.heap.size + 2) 9 i0 (.string ⟨#[]⟩) 1 16 Tryz.underlying22 hi hz0 hz1 hz2 rfl (by decide) v pre.length (pre.map cellV) rfl (hrow1.alloc _) ⟨W1.heap.size, 0, none⟩ 1 1 [.string Y] rfl rfl (cell_one_new _ _ _) (by simp [Value.oneCell']) (by unfold maxLen; omega) (by omega) (by simp; omega) ?_
        intro v' W2 hown2 hgrow _
        obtain ⟨g', cap', rfl⟩ := ownsRow_succ hown2
        obtain ⟨q1, q2, q6, q3, q4, q5⟩ := appended2 hv1 hs1 hrow1 hown2 hgrow
        have hc3 := q1.cell
        have hf3 := q1.frozen
        refine hK _ _ ?_
        clear hK K
        simp only [Act.put, List.setIfInBounds_toArray, List.set_cons_zero, List.set_cons_succ]
        refine wpAny_ready (rs := [6]) (by kernel_rfl) (by simp) (AllReady.cons rfl (fun K hK => ?_) AllReady.nil)
        go_simp
        refine hK _ _ ?_
        clear hK K
        refine wpAny_done (by kernel_rfl) ?_ _
        exact ⟨(((KeepsOthers.drew W).trans (keeps_of_below b1)).trans q4).from _, q6.trans hsB.symm, ⟨_, q2, by rw [HL.out, List.length_append]; exact q3, trivial⟩, q6, (hB.drew.trans (b1.mono hB.size)).trans q5⟩
      · go_simp
        ((with_reducible refine (HR.out _ hmW).mono ?_))
        rintro e W1 ⟨rfl, b1⟩
        have hv1 : Boxed W1 w.heap.size 22 v := (b1.block _ hv.lt).trans hv
        have hs1 : Boxed W1 (w.heap.size + 1) 9 (.string C) := (b1.block _ hsB.lt).trans hsB
        have hrow1 : W1.ownsRow (w.heap.size + 2) 9 1 v pre.length (pre.map cellV) := own_below (w := W.drew) hrow b1
        have hzW := hs1.lt
        have hc1 := hv1.cell
        have hc2 := (hv1.alloc (.cells #[.string Y] 9)).cell
        refine hK _ _ ?_
        clear hK K
        refine wpAny_ready (rs := [0, 4]) (by kernel_rfl) (by simp) (AllReady.cons rfl (fun K hK => ?_) (AllReady.cons rfl (fun K hK => ?_) AllReady.nil))
        · go_simp
          refine hK _ _ ?_
          clear hK K
          refine wpAny_ready (rs := [4]) (by kernel_rfl) (by simp) (AllReady.cons rfl (fun K hK => ?_) AllReady.nil)
          go_simp
          refine hK _ _ ?_
          clear hK K
          refine wpAny_ready (rs := [5]) (by kernel_rfl) (by simp) (AllReady.cons rfl (fun K hK => ?_) AllReady.nil)
          rw [if_pos (by rfl)]
          refine wp_append_own _ _ _ 22 rfl (w.heap.size + 2) 9 i0 (.string ⟨#[]⟩) 1 16 Tryz.underlying22 hi hz0 hz1 hz2 rfl (by decide) v pre.length (pre.map cellV) rfl (hrow1.alloc _) ⟨W1.heap.size, 0, none⟩ 1 1 [.string Y] rfl rfl (cell_one_new _ _ _) (by simp [Value.oneCell']) (by unfold maxLen; omega) (by omega) (by simp; omega) ?_
          intro v' W2 hown2 hgrow _
          obtain ⟨g', cap', rfl⟩ := ownsRow_succ hown2
          obtain ⟨q1, q2, q6, q3, q4, q5⟩ := appended2 hv1 hs1 hrow1 hown2 hgrow
          have hc3 := q1.cell
          have hf3 := q1.frozen
          refine hK _ _ ?_
          clear hK K
          simp only [Act.put, List.setIfInBounds_toArray, List.set_cons_zero, List.set_cons_succ]
          refine wpAny_ready (rs := [6]) (by kernel_rfl) (by simp) (AllReady.cons rfl (fun K hK => ?_) AllReady.nil)
          go_simp
          refine hK _ _ ?_
          clear hK K
          refine wpAny_done (by kernel_rfl) ?_ _
          exact ⟨(((KeepsOthers.drew W).trans (keeps_of_below b1)).trans q4).from _, q6.trans hsB.symm, ⟨_, q2, by rw [HL.out, List.length_append]; exact q3, trivial⟩, q6, (hB.drew.trans (b1.mono hB.size)).trans q5⟩
        · go_simp
          refine hK _ _ ?_
          clear hK K
          refine wpAny_ready (rs := [0]) (by kernel_rfl) (by simp) (AllReady.cons rfl (fun K hK => ?_) AllReady.nil)
          go_simp
          refine hK _ _ ?_
          clear hK K
          refine wpAny_ready (rs := [5]) (by kernel_rfl) (by simp) (AllReady.cons rfl (fun K hK => ?_) AllReady.nil)
          rw [if_pos (by rfl)]
          refine wp_append_own _ _ _ 22 rfl (w.heap.size + 2) 9 i0 (.string ⟨#[]⟩) 1 16 Tryz.underlying22 hi hz0 hz1 hz2 rfl (by decide) v pre.length (pre.map cellV) rfl (hrow1.alloc _) ⟨W1.heap.size, 0, none⟩ 1 1 [.string Y] rfl rfl (cell_one_new _ _ _) (by simp [Value.oneCell']) (by unfold maxLen; omega) (by omega) (by simp; omega) ?_
          intro v' W2 hown2 hgrow _
          obtain ⟨g', cap', rfl⟩ := ownsRow_succ hown2
          obtain ⟨q1, q2, q6, q3, q4, q5⟩ := appended2 hv1 hs1 hrow1 hown2 hgrow
          have hc3 := q1.cell
          have hf3 := q1.frozen
          refine hK _ _ ?_
          clear hK K
          simp only [Act.put, List.setIfInBounds_toArray, List.set_cons_zero, List.set_cons_succ]
          refine wpAny_ready (rs := [6]) (by kernel_rfl) (by simp) (AllReady.cons rfl (fun K hK => ?_) AllReady.nil)
          go_simp
          refine hK _ _ ?_
          clear hK K
          refine wpAny_done (by kernel_rfl) ?_ _
          exact ⟨(((KeepsOthers.drew W).trans (keeps_of_below b1)).trans q4).from _, q6.trans hsB.symm, ⟨_, q2, by rw [HL.out, List.length_append]; exact q3, trivial⟩, q6, (hB.drew.trans (b1.mono hB.size)).trans q5⟩
  case done =>
    rintro D ys W hD rfl ⟨⟨v, hv, hrow, _⟩, hsB, hB⟩ hK
    have hc := hv.cell
    gi_wp2_with fail
    refine ⟨by simp, .inl ⟨_, _, rfl, run_takeDeferred hK, ?_⟩⟩
    refine ⟨_, results_tmp rfl _ _ _, v, rfl, ?_, hB.trans (belowK_b (w := w) (Nat.le_refl _) W D _ _ (by simp at hD; omega) hK rfl rfl)⟩
    have h := own_base (ownsRow_putObj hrow (.deferred none) hK rfl) (show w.heap.size ≤ w.heap.size + 2 by omega)
    have e1 : ((restP C 0 0).map toPt).map cellV = (restP C 0 0).map fun p => .string (mk (cellL p)) := by
      rw [List.map_map]
      refine List.map_congr_left fun p hp => ?_
      show cellV (toPt p) = _
      unfold cellV
      rw [toPt_val p (HM.out p hp), bytesL_mk']
    rw [e1, List.length_map] at h
    exact h
  case stop =>
    rintro D c pre W _ _ h _
    exact h.elim

end Go.Proofs.YtpoafhgbhnblmaaGreatDoor
namespace Go.Pub
open Go.RowKit
def letX (l r : Bool) : List UInt8 := if l && r then [99] else if l then [108] else if r then [114] else [45]
def inn1 (c : List UInt8) : List UInt8 := Lib.trimPrefix c [58]
def inn2 (c : List UInt8) : List UInt8 := Lib.trimSuffix (inn1 c) [58]
/-- The alignment letter of a cell, or nothing. -/
def letL (c : List UInt8) : List UInt8 := if inn2 c = [] ∨ (inn2 c).all (· == 45) = false then [] else letX (Lib.hasPrefix c [58]) (Lib.hasSuffix (inn1 c) [58])
theorem dropWhile_nil {p : UInt8 → Bool} : ∀ l : List UInt8, l.dropWhile p = [] ↔ l.all p = true
  | [] => by simp
  | c :: l => by
    by_cases h : p c = true
    · rw [List.dropWhile_cons_of_pos h, dropWhile_nil l, List.all_cons, h, Bool.true_and]
    · rw [List.dropWhile_cons_of_neg h, List.all_cons]; simp [h]
theorem trimB_nil (l : List UInt8) : Lib.trimB l 45 = [] ↔ l.all (· == 45) = true := by
  unfold Lib.trimB Lib.trimRightB Lib.trimLeftB
  rw [dropWhile_nil, List.all_reverse]
  have e : l.all (· == 45) = l.reverse.all (· == 45) := List.all_reverse.symm
  rw [e]
  generalize l.reverse = m
  by_cases h : m.all (· == 45) = true
  · rw [(dropWhile_nil m).2 h]; simp [h]
  · constructor
    · intro h2
      rw [← List.takeWhile_append_dropWhile (p := (· == 45)) (l := m), List.all_append, h2, Bool.and_true]
      exact List.all_takeWhile
    · exact fun e => absurd e h
theorem letL_len (c : List UInt8) : (letL c).length ≤ 1 := by
  unfold letL letX
  split
  · simp
  · split
    · simp
    · split
      · simp
      · split <;> simp
theorem tsuf_len (c p : List UInt8) : (Lib.trimSuffix c p).length ≤ c.length := by
  unfold Lib.trimSuffix; split <;> simp
theorem tpre_len (c p : List UInt8) : (Lib.trimPrefix c p).length ≤ c.length := by
  unfold Lib.trimPrefix; split <;> simp
theorem inn2_len (c : List UInt8) : (inn2 c).length ≤ c.length := Nat.le_trans (tsuf_len _ _) (tpre_len _ _)
end Go.Pub
namespace Go.Proofs.YtpoafhgbhnblmaaGreatDoor
open Go.RowKit Go.Pub
set_option maxRecDepth 100000 in
set_option maxHeartbeats 1000000 in
theorem t_align1 (c : ByteArray) (w : World) (hs : c.size ≤ 1000000) : Calls Tryz.prog 172 #[.string c] w fun e w' => e = .returned (.string (mk (letL (bytesL c)))) ∧ Below w.heap.size w w' := by
  have hz1 := tpre_len (bytesL c) [58]
  have hz2 := inn2_len (bytesL c)
  rw [bytesL_length] at hz1 hz2
  have H1 : Hid (∀ W, Calls Tryz.prog 215 #[.string c, .string ⟨#[58]⟩] W fun e w' => e = .returned (.tuple #[.string (mk (inn1 (bytesL c))), .bool (Lib.hasPrefix (bytesL c) [58])]) ∧ w' = W) := Lib.hid fun W => Tryz.strings_CutPrefix c ⟨#[58]⟩ W
  have H2 : Hid (∀ W, Calls Tryz.prog 216 #[.string (mk (inn1 (bytesL c))), .string ⟨#[58]⟩] W fun e w' => e = .returned (.tuple #[.string (mk (inn2 (bytesL c))), .bool (Lib.hasSuffix (inn1 (bytesL c)) [58])]) ∧ w' = W) := Lib.hid fun W => Tryz.strings_CutSuffix (mk (inn1 (bytesL c))) ⟨#[58]⟩ W (by rw [mk_size]; unfold inn1; omega)
  have H3 : Hid (∀ W, Calls Tryz.prog 94 #[.string (mk (inn2 (bytesL c))), .string ⟨#[45]⟩] W fun e w' => e = .returned (.string (mk (Lib.trimB (inn2 (bytesL c)) 45))) ∧ Below W.heap.size W w') := Lib.hid fun W => by
    refine (Tryz.strings_Trim_one (mk (inn2 (bytesL c))) 45 (by decide) W (by rw [mk_size]; omega)).mono ?_
    rintro e w' ⟨rfl, rfl | rfl⟩
    · exact ⟨rfl, Below.refl _ _⟩
    · exact ⟨rfl, (Below.refl _ _).drew⟩
  have HX : Hid (letL (bytesL c) = if inn2 (bytesL c) = [] ∨ (inn2 (bytesL c)).all (· == 45) = false then [] else letX (Lib.hasPrefix (bytesL c) [58]) (Lib.hasSuffix (inn1 (bytesL c)) [58])) := Lib.hid rfl
  have HT := Lib.hid (trimB_nil (inn2 (bytesL c)))
  generalize letL (bytesL c) = R at *
  generalize Lib.hasPrefix (bytesL c) [58] = p at *
  generalize Lib.hasSuffix (inn1 (bytesL c)) [58] = q at *
  generalize Lib.trimB (inn2 (bytesL c)) 45 = T at *
  generalize inn2 (bytesL c) = I at *
  generalize mk (inn1 (bytesL c)) = J at *
  by_cases h0 : I = []
  · have HF : Hid (R = []) := Lib.hid (by rw [HX.out, if_pos (Or.inl h0)])
    subst h0
    have H2' : Hid (∀ W, Calls Tryz.prog 216 #[.string J, .string ⟨#[58]⟩] W fun e w' => e = .returned (.tuple #[.string ⟨#[]⟩, .bool q]) ∧ w' = W) := Lib.hid H2.out
    go_enter Tryz.func172, Tryz.ntmps172
    go_wp2_with fail
    ((with_reducible refine (H1.out _).mono ?_))
    rintro e w0 ⟨rfl, rfl⟩
    go_wp2_with fail
    ((with_reducible refine (H2'.out _).mono ?_))
    rintro e w0 ⟨rfl, rfl⟩
    go_wp2_with fail
    go_ret
    exact ⟨ret_str (by rw [HF.out]; rfl), Below.refl _ _⟩
  · obtain ⟨x1, x2⟩ := cons_list (mk I) (by rw [bytesL_mk']; exact h0)
    by_cases h1 : I.all (· == 45) = true
    · have HF : Hid (R = letX p q) := Lib.hid (by rw [HX.out, if_neg (by rintro (e | e); exact h0 e; rw [h1] at e; cases e)])
      obtain rfl : T = [] := HT.out.2 h1
      have H3' : Hid (∀ W, Calls Tryz.prog 94 #[.string (mk I), .string ⟨#[45]⟩] W fun e w' => e = .returned (.string ⟨#[]⟩) ∧ Below W.heap.size W w') := Lib.hid H3.out
      clear H3 h0 h1 HT HX
      generalize mk I = I' at *
      cases p <;> cases q
      all_goals
        go_enter Tryz.func172, Tryz.ntmps172
        go_wp2_with fail
        ((with_reducible refine (H1.out _).mono ?_))
        rintro e w0 ⟨rfl, rfl⟩
        go_wp2_with fail
        ((with_reducible refine (H2.out _).mono ?_))
        rintro e w0 ⟨rfl, rfl⟩
        go_wp2_with fail
        ((with_reducible refine (H3'.out _).mono ?_))
        rintro e w1 ⟨rfl, b1⟩
        go_wp2_with fail
        go_ret
        exact ⟨ret_str (by rw [HF.out]; rfl), b1⟩
    · have HF : Hid (R = []) := Lib.hid (by rw [HX.out, if_pos (Or.inr (by simpa using h1))])
      obtain ⟨y1, y2⟩ := cons_list (mk T) (by rw [bytesL_mk']; exact fun e => h1 (HT.out.1 e))
      clear h0 h1 HT HX
      generalize mk I = I' at *
      generalize mk T = T' at *
      go_enter Tryz.func172, Tryz.ntmps172
      go_wp2_with fail
      ((with_reducible refine (H1.out _).mono ?_))
      rintro e w0 ⟨rfl, rfl⟩
      go_wp2_with fail
      ((with_reducible refine (H2.out _).mono ?_))
      rintro e w0 ⟨rfl, rfl⟩
      go_wp2_with fail
      ((with_reducible refine (H3.out _).mono ?_))
      rintro e w1 ⟨rfl, b1⟩
      go_wp2_with fail
      go_ret
      exact ⟨ret_str (by rw [HF.out]; rfl), b1⟩

end Go.Proofs.YtpoafhgbhnblmaaGreatDoor
namespace Go.Pub
open Go.RowKit
/-- Cells, cut or padded. -/
def fitL (zs : List ByteArray) (n : Nat) : List ByteArray := zs.take n ++ List.replicate (n - zs.length) ⟨#[]⟩
theorem fitL_len (zs : List ByteArray) (n : Nat) : (fitL zs n).length = n := by unfold fitL; simp; omega
/-- The number of columns. -/
def colN (c : Int) : Nat := min c.toNat 32
theorem made_rep (z : Value) (n : Nat) : madeCells #[z] n = (List.replicate n z).toArray := by
  unfold madeCells
  apply Array.ext
  · simp
  · intro i h1 h2
    simp [Nat.mod_one]
theorem splice_fit (zs : List ByteArray) (n : Nat) : splice (List.replicate n (Value.string ⟨#[]⟩)) 0 (strs (zs.take n)) = strs (fitL zs n) := by
  unfold splice fitL strs
  simp [List.map_append, List.map_replicate, List.drop_replicate]
  by_cases h : n ≤ zs.length
  · rw [show min n zs.length = n by omega, show n - n = 0 by omega, show n - zs.length = 0 by omega]
  · rw [show min n zs.length = zs.length by omega]
end Go.Pub
namespace Go.Proofs.YtpoafhgbhnblmaaGreatDoor
open Go.RowKit Go.Pub
end Go.Proofs.YtpoafhgbhnblmaaGreatDoor
namespace Go.Pub
open Go.RowKit
/-- The letter of a part. -/
def letP (p : List UInt8) : List UInt8 := letL (trimS p)
/-- The alignments of parts. -/
def alnL (ps : List (List UInt8)) : Option (List UInt8) := if ps.length ≤ 32 ∧ (ps.all fun p => !(letP p).isEmpty) = true then some (ps.flatMap letP) else none
/-- The alignments of a line. -/
def alignR (l : List UInt8) : Option (List UInt8) := if l.contains 124 then alnL (partsL l) else none
theorem letP_len (p : List UInt8) (h : letP p ≠ []) : (letP p).length = 1 := by
  have := letL_len (trimS p)
  unfold letP at *
  cases hp : letL (trimS p) with
  | nil => exact absurd hp h
  | cons a b => rw [hp] at this; simp at this ⊢; exact this
theorem flat_len : ∀ ps : List (List UInt8), (∀ p ∈ ps, letP p ≠ []) → (ps.flatMap letP).length = ps.length
  | [], _ => rfl
  | p :: ps, h => by
    rw [List.flatMap_cons, List.length_append, letP_len p (h p List.mem_cons_self), flat_len ps (fun q hq => h q (List.mem_cons_of_mem _ hq)), List.length_cons]; omega
/-- The letters that have come. -/
def letsP (pre : List Pt) : List UInt8 := pre.flatMap fun x => letP (bytesL x.1)
def goodP (pre : List Pt) : Prop := ∀ x ∈ pre, letP (bytesL x.1) ≠ []
theorem letsP_snoc (pre : List Pt) (x : Pt) : letsP (pre ++ [x]) = letsP pre ++ letP (bytesL x.1) := by unfold letsP; simp
theorem letsP_len : ∀ pre : List Pt, goodP pre → (letsP pre).length = pre.length
  | [], _ => rfl
  | p :: ps, h => by
    unfold letsP
    rw [List.flatMap_cons, List.length_append, letP_len _ (h p List.mem_cons_self)]
    have := letsP_len ps (fun q hq => h q (List.mem_cons_of_mem _ hq))
    unfold letsP at this
    rw [this, List.length_cons]; omega
theorem toPt_back (ps : List (List UInt8)) (h : ∀ p ∈ ps, p.length ≤ 1000000) : (ps.map toPt).map (fun x => bytesL x.1) = ps := by
  rw [List.map_map]
  conv => rhs; rw [← List.map_id ps]
  refine List.map_congr_left fun p hp => ?_
  show bytesL (toPt p).1 = p
  rw [toPt_val p (h p hp), bytesL_mk']
theorem letsP_map (ps : List (List UInt8)) (h : ∀ p ∈ ps, p.length ≤ 1000000) : letsP (ps.map toPt) = ps.flatMap letP := by
  unfold letsP
  conv => rhs; rw [← toPt_back ps h]
  rw [List.flatMap_map, List.map_map, List.flatMap_map]; rfl
theorem aln_done (ps : List (List UInt8)) (h : ∀ p ∈ ps, p.length ≤ 1000000) (hg : goodP (ps.map toPt)) (hl : (ps.map toPt).length ≤ 32) : alnL ps = some (letsP (ps.map toPt)) := by
  unfold alnL
  rw [letsP_map ps h, if_pos]
  refine ⟨by simpa using hl, ?_⟩
  rw [List.all_eq_true]
  intro p hp
  have := hg (toPt p) (List.mem_map_of_mem hp)
  rw [toPt_val p (h p hp), bytesL_mk'] at this
  cases hq : letP p with
  | nil => exact absurd hq this
  | cons a b => rfl
theorem aln_stop (ps : List (List UInt8)) (h : ∀ p ∈ ps, p.length ≤ 1000000) (pre : List Pt) (x : Pt) (hp : (pre ++ [x]) <+: ps.map toPt) (hx : letP (bytesL x.1) = [] ∨ 32 ≤ pre.length) : alnL ps = none := by
  unfold alnL
  rw [if_neg]
  rintro ⟨h1, h2⟩
  rcases hx with hx | hx
  · obtain ⟨r, hr⟩ := hp
    have hm : x ∈ ps.map toPt := by rw [← hr]; simp
    obtain ⟨p, hpm, rfl⟩ := List.mem_map.1 hm
    rw [toPt_val p (h p hpm), bytesL_mk'] at hx
    have := List.all_eq_true.1 h2 p hpm
    rw [hx] at this
    cases this
  · have := hp.length_le
    simp at this
    omega
end Go.Pub
namespace Go.Proofs.YtpoafhgbhnblmaaGreatDoor
open Go.RowKit Go.Pub Go.Shelf
attribute [local go_sem] Oper.semAt_some
def alnVal : Option (List UInt8) → Value
  | none => .tuple #[.string ⟨#[]⟩, .bool false]
  | some r => .tuple #[.string (mk r), .bool true]
def AlnPost (r : Option (List UInt8)) (w : World) (e : Ending) (w' : World) : Prop := e = .returned (alnVal r) ∧ Below w.heap.size w w'
theorem contains_iff (l : List UInt8) (c : UInt8) : decide (0 ≤ Lib.indexByte l c) = l.contains c := (Lib.contains_iff_indexByte l c).symm
set_option maxRecDepth 100000 in
set_option maxHeartbeats 4000000 in
theorem t_align (s : ByteArray) (w : World) (hs : s.size ≤ 1000000) : Calls Tryz.prog 119 #[.string s] w (AlnPost (alignR (bytesL s)) w) := by
  have HCn : Hid (∀ W, Calls Tryz.prog 170 #[.string s, .string ⟨#[124]⟩] W fun e w' => e = .returned (.bool ((bytesL s).contains 124)) ∧ w' = W) := Lib.hid fun W => by
    have h := Tryz.strings_Contains_one s 124 W
    rw [contains_iff] at h
    exact h
  have HA : Hid (alignR (bytesL s) = if (bytesL s).contains 124 = true then alnL (partsL (bytesL s)) else none) := Lib.hid rfl
  have HP := Lib.hid fun W => t_parts s W hs
  have hcs := coreB_size (bytesL s)
  rw [bytesL_length] at hcs
  have HX : Hid (partsL (bytesL s) = restP (coreB (bytesL s)) 0 0) := Lib.hid (by rw [restP_zero]; rfl)
  have HM : Hid (∀ p ∈ restP (coreB (bytesL s)) 0 0, p.length ≤ 1000000) := Lib.hid (fun p hp => by
    rw [← HX.out] at hp
    have := splitGo_mem _ _ p hp
    rw [bytesL_length] at this
    omega)
  rw [HX.out] at HA
  clear HX
  generalize alignR (bytesL s) = R at *
  generalize coreB (bytesL s) = C at *
  cases hcn : (bytesL s).contains 124
  · have HF : Hid (R = none) := Lib.hid (by rw [HA.out, hcn]; rfl)
    rw [hcn] at HCn
    clear hcn HA
    go_enter Tryz.func119, Tryz.ntmps119
    go_wp2_with fail
    ((with_reducible refine (HCn.out _).mono ?_))
    rintro e w' ⟨rfl, rfl⟩
    go_wp2_with fail
    refine bodyPost_ret (v := .tuple #[.string ⟨#[]⟩, .bool false]) (by simp [results, Tryz.results119, go_sem]) rfl ⟨by rw [HF.out]; rfl, ?_⟩
    exact ((Below.refl _ _).alloc (Nat.le_refl _) _).alloc (by simp) _
  have HF : Hid (R = alnL (restP C 0 0)) := Lib.hid (by rw [HA.out, hcn]; rfl)
  rw [hcn] at HCn
  clear hcn HA
  refine (callsIn_wide (n := 5)).1 ?_
  refine callsIn_of_wp_marks Tryz.func119 rfl trivial ?_ rfl
  simp only [Tryz.ntmps119, List.size_toArray, List.length_cons, List.length_nil, Nat.reduceAdd, Nat.reduceSub, Array.replicate_succ, Array.replicate_zero, List.push_toArray, List.append_toArray, List.nil_append, List.cons_append]
  gi_wp2_with fail
  refine ⟨trivial, ?_⟩
  ((with_reducible refine (callsIn_wide.2 (HCn.out _)).mono ?_))
  rintro e w' ⟨rfl, rfl⟩
  gi_wp2_with fail
  refine ⟨trivial, ?_⟩
  ((with_reducible refine (callsIn_wide.2 (HP.out _)).mono ?_))
  rintro e w' ⟨rfl, rfl⟩
  gi_wp2_with fail
  have bR := Boxed.new w 9 (.string ⟨#[]⟩)
  have bF := Boxed.new (w.alloc (.cells #[.string ⟨#[]⟩] 9)) 4 (.bool false)
  rw [World.size_alloc] at bF
  have bL := Boxed.new ((w.alloc (.cells #[.string ⟨#[]⟩] 9)).alloc (.cells #[.bool false] 4)) 9 (.string ⟨#[]⟩)
  rw [World.size_alloc, World.size_alloc] at bL
  have bC := Boxed.new (((w.alloc (.cells #[.string ⟨#[]⟩] 9)).alloc (.cells #[.bool false] 4)).alloc (.cells #[.string ⟨#[]⟩] 9)) 9 (.string C)
  rw [World.size_alloc, World.size_alloc, World.size_alloc] at bC
  have hB0 : Below w.heap.size w ((((w.alloc (.cells #[.string ⟨#[]⟩] 9)).alloc (.cells #[.bool false] 4)).alloc (.cells #[.string ⟨#[]⟩] 9)).alloc (.cells #[.string C] 9)) := ((((Below.refl _ w).alloc (Nat.le_refl _) _).alloc (by simp) _).alloc (by simp; omega) _).alloc (by simp; omega) _
  have bR' := ((bR.alloc (.cells #[.bool false] 4)).alloc (.cells #[.string ⟨#[]⟩] 9)).alloc (.cells #[.string C] 9)
  have bF' := (bF.alloc (.cells #[.string ⟨#[]⟩] 9)).alloc (.cells #[.string C] 9)
  have bL' := bL.alloc (.cells #[.string C] 9)
  have hzW : ((((w.alloc (.cells #[.string ⟨#[]⟩] 9)).alloc (.cells #[.bool false] 4)).alloc (.cells #[.string ⟨#[]⟩] 9)).alloc (.cells #[.string C] 9)).heap.size = w.heap.size + 4 := by simp
  generalize ((((w.alloc (.cells #[.string ⟨#[]⟩] 9)).alloc (.cells #[.bool false] 4)).alloc (.cells #[.string ⟨#[]⟩] 9)).alloc (.cells #[.string C] 9)) = W0 at *
  clear bR bF bL
  refine wpIn_rangeFunc_ownG rfl (by omega) (gf := 214) (lb := #[.pointer (some ⟨w.heap.size + 1 + 1 + 1, 0, none⟩)]) rfl trivial (enters_of Tryz.func214 (by kernel_rfl) rfl)
    (parts_stops 4 (by omega) (w.heap.size + 1 + 1 + 1) C (by omega) _ bC) (Kp := KpB (w.heap.size + 1 + 1 + 1)) (fun h1 h2 => h2.trans h1) (fun W l o o' hl ho hc _ => World.putObj_heap_other (fun e => by omega)) (Below.refl _ _) (fun _ => rfl)
    (fun (pre : List Pt) W => (Boxed W (w.heap.size + 1 + 1) 9 (.string (mk (letsP pre))) ∧ Boxed W (w.heap.size + 1 + 1 + 1) 9 (.string C)) ∧ (Boxed W w.heap.size 9 (.string ⟨#[]⟩) ∧ Boxed W (w.heap.size + 1) 4 (.bool false)) ∧ (goodP pre ∧ pre.length ≤ 32) ∧ Below w.heap.size w W)
    (fun c (pre : List Pt) W => (c = Code.ret ∧ ∃ pr x, pre = pr ++ [x] ∧ (letP (bytesL x.1) = [] ∨ 32 ≤ pr.length)) ∧ (Boxed W w.heap.size 9 (.string ⟨#[]⟩) ∧ Boxed W (w.heap.size + 1) 4 (.bool false)) ∧ Below w.heap.size w W)
    (OwnFrom.and (OwnFrom.and (Own.from (boxed_own _ _ (fun pre => .string (mk (letsP pre)))) _) (Own.from (boxed_own _ _ (fun _ => .string C)) _)) (OwnFrom.and (OwnFrom.and (Own.from (boxed_own _ _ (fun _ => .string ⟨#[]⟩)) _) (Own.from (boxed_own _ _ (fun _ => .bool false)) _)) (OwnFrom.and (ownFrom_pure _ _) (ownFrom_below (Nat.le_refl _) (by omega)))))
    (fun c => OwnFrom.and (ownFrom_pure _ _) (OwnFrom.and (OwnFrom.and (Own.from (boxed_own _ _ (fun _ => .string ⟨#[]⟩)) _) (Own.from (boxed_own _ _ (fun _ => .bool false)) _)) (ownFrom_below (Nat.le_refl _) (by omega))))
    ⟨⟨bL', bC⟩, ⟨bR', bF'⟩, ⟨fun x hx => (by cases hx), by simp⟩, hB0⟩
    (fun (x : Pt) => { tmps := #[.string s, undef, .pointer (some ⟨w.heap.size, 0, none⟩), .pointer (some ⟨w.heap.size + 1, 0, none⟩), .pointer (some ⟨w.heap.size + 1 + 1, 0, none⟩), .string x.1, undef, .string s, .bool true, .bool false, .string s, .func (.func 214) #[] #[.pointer (some ⟨w.heap.size + 1 + 1 + 1, 0, none⟩)], .string x.1, undef, undef, undef, undef, undef, undef, undef, undef, undef, undef, undef, undef, undef, undef], defers := [] }) ?assign ?body ?done ?stop
  case assign =>
    intro l x W K hK
    gi_wp2_with fail
    exact hK
  case body =>
    rintro l pre x W ⟨⟨hL, hsB⟩, ⟨hr1, hr2⟩, ⟨hg, hlen⟩, hB⟩ hlt
    have HT := Lib.hid fun W => CallsIn.inRound l ((callsIn_wide (n := 5 - 1 - 1 - 1)).2 (t_trim x.1 W x.2))
    have hxt : (mk (trimS (bytesL x.1))).size ≤ 1000000 := by rw [mk_size]; have := trimS_len (bytesL x.1); rw [bytesL_length] at this; have := x.2; omega
    have HR1 : Hid (∀ W1, CallsIn (Fence.wide.inRound l) (5 - 1 - 1 - 1) Tryz.prog 172 #[.string (mk (trimS (bytesL x.1)))] W1 fun e w' => e = .returned (.string (mk (letP (bytesL x.1)))) ∧ Below W1.heap.size W1 w') := Lib.hid fun W1 => by
      have h := CallsIn.inRound l ((callsIn_wide (n := 5 - 1 - 1 - 1)).2 (t_align1 (mk (trimS (bytesL x.1))) W1 hxt))
      rw [bytesL_mk'] at h
      exact h
    have hls : (mk (letsP pre)).size = pre.length := by rw [mk_size, letsP_len pre hg]
    have HLs := Lib.hid (letsP_snoc pre x)
    have HG := Lib.hid hg
    clear hg
    have hml := mk_size (letP (bytesL x.1))
    have hl1 : (letP (bytesL x.1)).length ≤ 1 := letL_len _
    generalize hLp : mk (letsP pre) = Lb at *
    have HLp := Lib.hid hLp
    clear hLp
    generalize mk (trimS (bytesL x.1)) = T at *
    by_cases h0 : letP (bytesL x.1) = []
    · have HR1' : Hid (∀ W1, CallsIn (Fence.wide.inRound l) (5 - 1 - 1 - 1) Tryz.prog 172 #[.string T] W1 fun e w' => e = .returned (.string ⟨#[]⟩) ∧ Below W1.heap.size W1 w') := Lib.hid (by rw [h0] at HR1; exact HR1.out)
      have H0 := Lib.hid h0
      clear h0 HR1
      gi_wp2_with fail
      refine ⟨trivial, ?_⟩
      ((with_reducible refine (HT.out _).mono ?_))
      rintro e w' ⟨rfl, rfl⟩
      gi_wp2_with fail
      refine ⟨trivial, ?_⟩
      ((with_reducible refine (HR1'.out _).mono ?_))
      rintro e W1 ⟨rfl, b1⟩
      have gr1 : Boxed W1 w.heap.size 9 (.string ⟨#[]⟩) := (b1.block _ hr1.lt).trans hr1
      have gr2 : Boxed W1 (w.heap.size + 1) 4 (.bool false) := (b1.block _ hr2.lt).trans hr2
      have q1 : Boxed ((W1.setCell ⟨w.heap.size, 0, none⟩ (.string ⟨#[]⟩)).setCell ⟨w.heap.size + 1, 0, none⟩ (.bool false)) w.heap.size 9 (.string ⟨#[]⟩) := (gr1.set _).kept (grownBy_setCell' _ (w.heap.size + 1) _) (by simp)
      have q2 : Boxed ((W1.setCell ⟨w.heap.size, 0, none⟩ (.string ⟨#[]⟩)).setCell ⟨w.heap.size + 1, 0, none⟩ (.bool false)) (w.heap.size + 1) 4 (.bool false) := (gr2.kept (grownBy_setCell' W1 w.heap.size _) (by simp)).set _
      have k1 := gr1.cell
      have k2 := gr2.cell
      have k2' := (gr2.kept (grownBy_setCell' W1 w.heap.size (.string ⟨#[]⟩)) (by simp)).cell
      have k3 := gr1.frozen
      have k4 := gr2.frozen
      gi_wp2_with fail
      exact ⟨((keeps_of_below b1).trans ((KeepsOthers.setCell _ _ _).trans (KeepsOthers.setCell _ _ _))).from _, ⟨rfl, pre, x, rfl, Or.inl H0.out⟩, ⟨q1, q2⟩, ((hB.trans (b1.mono hB.size)).setCell (p := ⟨w.heap.size, 0, none⟩) (Nat.le_refl _) _).setCell (p := ⟨w.heap.size + 1, 0, none⟩) (by show w.heap.size ≤ w.heap.size + 1; omega) _⟩
    · obtain ⟨x1, x2⟩ := cons_list (mk (letP (bytesL x.1))) (by rw [bytesL_mk']; exact h0)
      have H0 := Lib.hid h0
      clear h0
      have cat : ∀ w : World, (Op.stringOp .add Lb (mk (letP (bytesL x.1)))).run Tryz.prog w = .ok (.string (mk (letsP (pre ++ [x])))) w := fun w => by
        rw [HLs.out, ← HLp.out]
        refine cat_mk w _ _ _ ?_ (by rw [bytesL_mk'])
        have : (letsP pre).length = pre.length := by rw [← hls, ← HLp.out, mk_size]
        omega
      generalize hL2 : mk (letsP (pre ++ [x])) = Lb2 at *
      have HL2 := Lib.hid hL2
      clear hL2
      generalize mk (letP (bytesL x.1)) = Y at *
      by_cases h32 : 32 ≤ pre.length
      · gi_wp2_with fail
        refine ⟨trivial, ?_⟩
        ((with_reducible refine (HT.out _).mono ?_))
        rintro e w' ⟨rfl, rfl⟩
        gi_wp2_with fail
        refine ⟨trivial, ?_⟩
        ((with_reducible refine (HR1.out _).mono ?_))
        rintro e W1 ⟨rfl, b1⟩
        have gr1 : Boxed W1 w.heap.size 9 (.string ⟨#[]⟩) := (b1.block _ hr1.lt).trans hr1
        have gr2 : Boxed W1 (w.heap.size + 1) 4 (.bool false) := (b1.block _ hr2.lt).trans hr2
        have gL : Boxed W1 (w.heap.size + 1 + 1) 9 (.string Lb) := (b1.block _ hL.lt).trans hL
        have q1 : Boxed ((W1.setCell ⟨w.heap.size, 0, none⟩ (.string ⟨#[]⟩)).setCell ⟨w.heap.size + 1, 0, none⟩ (.bool false)) w.heap.size 9 (.string ⟨#[]⟩) := (gr1.set _).kept (grownBy_setCell' _ (w.heap.size + 1) _) (by simp)
        have q2 : Boxed ((W1.setCell ⟨w.heap.size, 0, none⟩ (.string ⟨#[]⟩)).setCell ⟨w.heap.size + 1, 0, none⟩ (.bool false)) (w.heap.size + 1) 4 (.bool false) := (gr2.kept (grownBy_setCell' W1 w.heap.size _) (by simp)).set _
        have k0 := gL.cell
        have k1 := gr1.cell
        have k2 := gr2.cell
        have k2' := (gr2.kept (grownBy_setCell' W1 w.heap.size (.string ⟨#[]⟩)) (by simp)).cell
        have k3 := gr1.frozen
        have k4 := gr2.frozen
        gi_wp2_with fail
        exact ⟨((keeps_of_below b1).trans ((KeepsOthers.setCell _ _ _).trans (KeepsOthers.setCell _ _ _))).from _, ⟨rfl, pre, x, rfl, Or.inr h32⟩, ⟨q1, q2⟩, ((hB.trans (b1.mono hB.size)).setCell (p := ⟨w.heap.size, 0, none⟩) (Nat.le_refl _) _).setCell (p := ⟨w.heap.size + 1, 0, none⟩) (by show w.heap.size ≤ w.heap.size + 1; omega) _⟩
      · have hgn : Hid (goodP (pre ++ [x])) := Lib.hid (fun y hy => by
          rcases List.mem_append.1 hy with hy | hy
          · exact HG.out y hy
          · rw [List.mem_singleton] at hy; rw [hy]; exact H0.out)
        gi_wp2_with fail
        refine ⟨trivial, ?_⟩
        ((with_reducible refine (HT.out _).mono ?_))
        rintro e w' ⟨rfl, rfl⟩
        gi_wp2_with fail
        refine ⟨trivial, ?_⟩
        ((with_reducible refine (HR1.out _).mono ?_))
        rintro e W1 ⟨rfl, b1⟩
        have gr1 : Boxed W1 w.heap.size 9 (.string ⟨#[]⟩) := (b1.block _ hr1.lt).trans hr1
        have gr2 : Boxed W1 (w.heap.size + 1) 4 (.bool false) := (b1.block _ hr2.lt).trans hr2
        have gL : Boxed W1 (w.heap.size + 1 + 1) 9 (.string Lb) := (b1.block _ hL.lt).trans hL
        have gC : Boxed W1 (w.heap.size + 1 + 1 + 1) 9 (.string C) := (b1.block _ hsB.lt).trans hsB
        have k0 := gL.cell
        have k5 := gL.frozen
        gi_wp2_with fail
        have gC2 : Boxed (W1.setCell ⟨w.heap.size + 1 + 1, 0, none⟩ (.string Lb2)) (w.heap.size + 1 + 1 + 1) 9 (.string C) := gC.kept (grownBy_setCell' W1 (w.heap.size + 1 + 1) _) (by simp)
        exact ⟨((keeps_of_below b1).trans (KeepsOthers.setCell _ _ _)).from _, gC2.trans hsB.symm, ⟨by rw [HL2.out]; exact gL.set _, gC2⟩, ⟨gr1.kept (grownBy_setCell' W1 (w.heap.size + 1 + 1) _) (by simp; omega), gr2.kept (grownBy_setCell' W1 (w.heap.size + 1 + 1) _) (by simp)⟩, ⟨hgn.out, by simp; omega⟩, (hB.trans (b1.mono hB.size)).setCell (p := ⟨w.heap.size + 1 + 1, 0, none⟩) (by show w.heap.size ≤ w.heap.size + 1 + 1; omega) _⟩
  case done =>
    rintro D ys W hD rfl ⟨⟨hL, hsB⟩, ⟨hr1, hr2⟩, ⟨hg, hlen⟩, hB⟩ hK
    have HE := Lib.hid (aln_done _ HM.out hg hlen)
    clear hg
    generalize hLp : mk (letsP ((restP C 0 0).map toPt)) = Lb at *
    have HLp := Lib.hid hLp
    clear hLp
    have k0 := hL.cell
    have k1 := hr1.cell
    have k3 := hr1.frozen
    have k2 := hr2.cell
    have k2' := (hr2.kept (grownBy_setCell' W w.heap.size (.string Lb)) (by simp)).cell
    have k4 := hr2.frozen
    have q1 : Boxed ((W.setCell ⟨w.heap.size, 0, none⟩ (.string Lb)).setCell ⟨w.heap.size + 1, 0, none⟩ (.bool true)) w.heap.size 9 (.string Lb) := (hr1.set _).kept (grownBy_setCell' _ (w.heap.size + 1) _) (by simp)
    have q2 : Boxed ((W.setCell ⟨w.heap.size, 0, none⟩ (.string Lb)).setCell ⟨w.heap.size + 1, 0, none⟩ (.bool true)) (w.heap.size + 1) 4 (.bool true) := (hr2.kept (grownBy_setCell' W w.heap.size _) (by simp)).set _
    have q3 : Below w.heap.size w ((W.setCell ⟨w.heap.size, 0, none⟩ (.string Lb)).setCell ⟨w.heap.size + 1, 0, none⟩ (.bool true)) := (hB.setCell (p := ⟨w.heap.size, 0, none⟩) (Nat.le_refl _) _).setCell (p := ⟨w.heap.size + 1, 0, none⟩) (by show w.heap.size ≤ w.heap.size + 1; omega) _
    have hK' := ((KeepsOthers.setCell W ⟨w.heap.size, 0, none⟩ (.string Lb)).trans (KeepsOthers.setCell _ ⟨w.heap.size + 1, 0, none⟩ (.bool true))).same D _ hK rfl
    gi_wp2_with fail
    refine ⟨by simp, .inl ⟨_, _, rfl, run_takeDeferred hK', ?_⟩⟩
    have c1 := cell_kept q1.cell (grownBy_putObj' _ D (.deferred none)) (fun r e => by cases e; exact ⟨_, hK', rfl⟩)
    have c2 := cell_kept q2.cell (grownBy_putObj' _ D (.deferred none)) (fun r e => by cases e; exact ⟨_, hK', rfl⟩)
    refine ⟨.tuple #[.string Lb, .bool true], by simp [results, Tryz.results119, go_sem, c1, c2], ?_, q3.trans (belowK_b (w := w) (Nat.le_refl _) _ D _ _ (by omega) hK' rfl rfl)⟩
    rw [HF.out, HE.out, ← HLp.out]; rfl
  case stop =>
    rintro D c pre W hD hpre ⟨⟨rfl, pr, x, rfl, hx⟩, ⟨hr1, hr2⟩, hB⟩ hK
    have HE := Lib.hid (aln_stop _ HM.out pr x hpre hx)
    gi_wp2_with fail
    refine ⟨by simp, .inl ⟨_, _, rfl, run_takeDeferred hK, ?_⟩⟩
    have c1 := cell_kept hr1.cell (grownBy_putObj' _ D (.deferred none)) (fun r e => by cases e; exact ⟨_, hK, rfl⟩)
    have c2 := cell_kept hr2.cell (grownBy_putObj' _ D (.deferred none)) (fun r e => by cases e; exact ⟨_, hK, rfl⟩)
    refine ⟨.tuple #[.string ⟨#[]⟩, .bool false], by simp [results, Tryz.results119, go_sem, c1, c2], ?_, hB.trans (belowK_b (w := w) (Nat.le_refl _) _ D _ _ (by omega) hK rfl rfl)⟩
    rw [HF.out, HE.out]; rfl

end Go.Proofs.YtpoafhgbhnblmaaGreatDoor
namespace Go.Pub
open Go.RowKit
/-- The cells of a line. -/
def cellsB (l : List UInt8) : List ByteArray := (partsL l).map fun p => mk (cellL p)
theorem cellsB_strs (l : List UInt8) : ((partsL l).map fun p => Value.string (mk (cellL p))) = strs (cellsB l) := by unfold cellsB strs; rw [List.map_map]; rfl
theorem cellsB_len (l : List UInt8) : (cellsB l).length = (partsL l).length := by unfold cellsB; rw [List.length_map]
theorem partsL_len (l : List UInt8) : (partsL l).length ≤ l.length + 1 := by
  unfold partsL
  have h1 := splitGo_len (bytesL (coreB l)) false
  have h2 := coreB_size l
  rw [bytesL_length] at h1; omega
end Go.Pub
namespace Go.Proofs.YtpoafhgbhnblmaaGreatDoor
open Go.RowKit Go.Pub
def CellsPost (l : List UInt8) (w : World) (e : Ending) (W' : World) : Prop := ∃ A c, e = .returned (.slice A (cellsB l).length c) ∧ W'.ownsRow w.heap.size 9 1 (.slice A (cellsB l).length c) (cellsB l).length (strs (cellsB l)) ∧ Below w.heap.size w W'
theorem t_cellsP (s : ByteArray) (m : Int) (w : World) (hs : s.size ≤ 1000000) (hm : w.cell? ⟨0, 0, none⟩ = some (.int .i64 m)) : Calls Tryz.prog 120 #[.string s] w (CellsPost (bytesL s) w) := by
  refine (t_cells s m w hs hm).mono ?_
  rintro e W' ⟨v, rfl, hown, hb⟩
  rw [cellsB_strs, ← cellsB_len] at hown
  obtain ⟨A, c, rfl⟩ := own_slice hown
  exact ⟨A, c, rfl, hown, hb⟩
end Go.Proofs.YtpoafhgbhnblmaaGreatDoor
namespace Go.Pub
open Go.RowKit
/-- Whether two lines begin a table. -/
def headB (a b : List UInt8) : Bool := match alignR b with | none => false | some r => (cellsB a).length == r.length
theorem reads_block {w : World} {g : Nat} {t : TypeId} {zs : List ByteArray} (h : w.heap[g]? = some (.cells (strs zs).toArray t (0, 0))) : Reads w (g + 1) 1 (some ⟨g, 0, none⟩) zs.length (strs zs) := by
  refine ⟨by rw [strs_len]; omega, fun hn => ⟨_, rfl, by show g < g + 1; omega, fun j u hj => ?_⟩⟩
  have := cell_of_row w g j _ t (0, 0) h
  unfold Addr.add
  by_cases h0 : j = 0
  · subst h0; rw [if_pos rfl, this]; simpa using hj
  · rw [if_neg h0]
    show w.cell? ⟨g, 0 + j, none⟩ = _
    rw [Nat.zero_add, this]; simpa using hj
theorem alnR_len {l r : List UInt8} (h : alignR l = some r) : r.length ≤ 32 := by
  unfold alignR at h
  split at h
  · unfold alnL at h
    split at h
    · rename_i hh
      simp only [Option.some.injEq] at h
      subst h
      have hg : ∀ p ∈ partsL l, letP p ≠ [] := fun p hp e => by
        have := List.all_eq_true.1 hh.2 p hp
        rw [e] at this
        cases this
      rw [flat_len _ hg]; exact hh.1
    · simp at h
  · simp at h
end Go.Pub
namespace Go.Proofs.YtpoafhgbhnblmaaGreatDoor
open Go.RowKit Go.Pub
set_option maxRecDepth 100000 in
set_option maxHeartbeats 1000000 in
theorem t_head (a b : ByteArray) (m : Int) (w : World) (ha : a.size ≤ 1000000) (hb : b.size ≤ 1000000) (hm : w.cell? ⟨0, 0, none⟩ = some (.int .i64 m)) :
    Calls Tryz.prog 77 #[.string a, .string b] w fun e w' => e = .returned (.bool (headB (bytesL a) (bytesL b))) ∧ Below w.heap.size w w' := by
  have h0w : 0 < w.heap.size := World.block_lt_of_cell? _ _ hm
  have HA := Lib.hid fun W => t_align b W hb
  have HC := Lib.hid fun W (h : W.cell? ⟨0, 0, none⟩ = some (.int .i64 m)) => t_cellsP a m W ha h
  have HX : Hid (headB (bytesL a) (bytesL b) = match alignR (bytesL b) with | none => false | some r => (cellsB (bytesL a)).length == r.length) := Lib.hid rfl
  have hcl : (cellsB (bytesL a)).length ≤ 1000001 := by rw [cellsB_len]; have := partsL_len (bytesL a); rw [bytesL_length] at this; omega
  have HL : Hid (∀ r, alignR (bytesL b) = some r → r.length ≤ 32) := Lib.hid fun r h => alnR_len h
  unfold CellsPost at HC
  generalize headB (bytesL a) (bytesL b) = R at *
  generalize cellsB (bytesL a) = zs at *
  generalize alignR (bytesL b) = D at *
  cases D with
  | none =>
    have HF : Hid (R = false) := Lib.hid HX.out
    go_enter Tryz.func77, Tryz.ntmps77
    go_wp2_with fail
    ((with_reducible refine (HA.out _).mono ?_))
    rintro e w1 ⟨he, b1⟩
    dsimp only [alnVal] at he
    subst he
    go_wp2_with fail
    go_ret
    exact ⟨ret_bool HF.out.symm, b1⟩
  | some r =>
    have hrl := HL.out r rfl
    have HF : Hid (R = ((zs.length : Int) == ((mk r).size : Int))) := Lib.hid (by
      rw [HX.out, mk_size, Bool.eq_iff_iff]; simp only [beq_iff_eq]; omega)
    have hms : (mk r).size ≤ 32 := by rw [mk_size]; exact hrl
    go_enter Tryz.func77, Tryz.ntmps77
    go_wp2_with fail
    ((with_reducible refine (HA.out _).mono ?_))
    rintro e w1 ⟨he, b1⟩
    dsimp only [alnVal] at he
    subst he
    have hm1 : w1.cell? ⟨0, 0, none⟩ = some (.int .i64 m) := (b1.cell (p := ⟨0, 0, none⟩) h0w).trans hm
    have hz1 := b1.size
    go_wp2_with fail
    ((with_reducible refine (HC.out _ hm1).mono ?_))
    rintro e w2 ⟨A, c, rfl, hown, b2⟩
    clear hown
    go_wp2_with fail
    go_ret
    exact ⟨ret_bool HF.out.symm, b1.trans (b2.mono hz1)⟩

end Go.Proofs.YtpoafhgbhnblmaaGreatDoor
