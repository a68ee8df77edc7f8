/-
  table.Cells.
-/
import Derived.Test.YtoageahnddepcaaDoorTabB
import Derived.Test.YtoageahnddepcaaDoorBlk
import Derived.Test.YtoageahnddepcaaDoorRegIn
import Derived.Maps.AppendAt
import Derived.Laws.OwnMore
set_option linter.unusedVariables false
set_option linter.unusedSimpArgs false
namespace Go.Pub
open Go.RowKit
/-- The cell of a part. -/
def cellL (p : List UInt8) : List UInt8 := unbarL (trimS p)
def cellV (x : Pt) : Value := .string (mk (cellL (bytesL x.1)))
theorem unbarL_len : ∀ (n : Nat) (l : List UInt8), l.length ≤ n → (unbarL l).length ≤ l.length
  | 0, l, h => by cases l with
    | nil => simp [unbarL]
    | cons c l => simp at h
  | n + 1, [], _ => by simp [unbarL]
  | n + 1, c :: l, h => by
    rw [unbarL_cons]
    split
    · cases l with
      | nil => simp
      | cons d l' =>
        have := unbarL_len n l' (by simp at h; omega)
        simp; omega
    · have := unbarL_len n l (by simp at h; omega)
      simp; omega
theorem count_le_len (l : List UInt8) : Lib.count l oldU ≤ l.length := by
  have h := Lib.countB_mul_le (mk oldU) (by decide) (mk l).size (mk l) (Nat.le_refl _)
  unfold Lib.countB at h
  have e1 : (mk l).data.toList = l := bytesL_mk' l
  have e2 : (mk oldU).data.toList = oldU := bytesL_mk' oldU
  rw [e1, e2, mk_size, mk_size] at h
  rw [show oldU.length = 2 from rfl] at h
  omega
end Go.Pub
namespace Go.Proofs.YtoageahnddepcaaDoor
open Go.RowKit Go.Pub Go.Shelf
attribute [local go_sem] Oper.semAt_some

theorem strInfo : (Tryd.prog.info? 9).map (fun i => (i.zero, i.size, i.bytes)) = some (some (.string ⟨#[]⟩), 1, 16) := by kernel_rfl

theorem repl_any (s : ByteArray) (m : Int) (w : World) (hs : s.size ≤ 1000000) (hm : w.cell? ⟨0, 0, none⟩ = some (.int .i64 m)) :
    Calls Tryd.prog 27 #[.string s, .string ⟨#[92, 124]⟩, .string ⟨#[124]⟩] w fun e w' => e = .returned (.string (mk (unbarL (bytesL s)))) ∧ Below w.heap.size w w' := by
  have hc := count_le_len (bytesL s)
  rw [bytesL_length] at hc
  have h := Tryd.strings_ReplaceAll s ⟨#[92, 124]⟩ ⟨#[124]⟩ m w (by omega) hm (by decide) (by
    show s.size + Lib.count (bytesL s) oldU * 1 ≤ _
    omega)
  refine h.mono ?_
  rintro e w' ⟨rfl, hb⟩
  refine ⟨?_, hb⟩
  have e1 : Lib.replaceAll (bytesL s) [92, 124] [124] = unbarL (bytesL s) := by
    unfold Lib.replaceAll Lib.replace Lib.replaceNum
    rw [if_neg (by decide), if_pos (by omega)]
    exact repl_unbar _ _ (Nat.le_refl _)
  show Ending.returned (.string ⟨(Lib.replaceAll (bytesL s) [92, 124] [124]).toArray⟩) = _
  rw [e1]; rfl

set_option maxRecDepth 100000 in
set_option maxHeartbeats 4000000 in
theorem t_cells (s : ByteArray) (m : Int) (w : World) (hs : s.size ≤ 1000000) (hm : w.cell? ⟨0, 0, none⟩ = some (.int .i64 m)) :
    Calls Tryd.prog 12 #[.string s] w fun e W' => ∃ v, e = .returned v ∧ W'.ownsRow w.heap.size 9 1 v (partsL (bytesL s)).length ((partsL (bytesL s)).map fun p => .string (mk (cellL p))) ∧ Below w.heap.size w W' := by
  have h0w : 0 < w.heap.size := World.block_lt_of_cell? _ _ hm
  have HP := Lib.hid fun W => t_parts s W hs
  have hcs := coreB_size (bytesL s)
  rw [bytesL_length] at hcs
  have HX : Hid (partsL (bytesL s) = restP (coreB (bytesL s)) 0 0) := Lib.hid (by rw [restP_zero]; rfl)
  have hN : (restP (coreB (bytesL s)) 0 0).length ≤ 1000001 := by rw [← HX.out]; have := splitGo_len (bytesL (coreB (bytesL s))) false; rw [bytesL_length] at this; unfold partsL; omega
  have HM : Hid (∀ p ∈ restP (coreB (bytesL s)) 0 0, p.length ≤ 1000000) := Lib.hid (fun p hp => by
    rw [← HX.out] at hp
    have := splitGo_mem _ _ p hp
    rw [bytesL_length] at this
    omega)
  rw [HX.out]
  clear HX
  generalize coreB (bytesL s) = C at *
  obtain ⟨i0, hi, hz0, hz1, hz2⟩ := info_parts strInfo
  refine (callsIn_wide (n := 5)).1 ?_
  refine callsIn_of_wp_marks Tryd.func12 rfl trivial ?_ rfl
  simp only [Tryd.ntmps12, List.size_toArray, List.length_cons, List.length_nil, Nat.reduceAdd, Nat.reduceSub, Array.replicate_succ, Array.replicate_zero, List.push_toArray, List.append_toArray, List.nil_append, List.cons_append]
  gi_wp2_with fail
  refine ⟨trivial, ?_⟩
  ((with_reducible refine (callsIn_wide.2 (HP.out _)).mono ?_))
  rintro e w' ⟨rfl, rfl⟩
  gi_wp2_with fail
  have bO := Boxed.new w 23 (.slice none 0 0)
  have bN := Boxed.new (w.alloc (.cells #[.slice none 0 0] 23)) 9 (.string C)
  rw [World.size_alloc] at bN
  have hB0 : Below w.heap.size w ((w.alloc (.cells #[.slice none 0 0] 23)).alloc (.cells #[.string C] 9)) := ((Below.refl _ w).alloc (Nat.le_refl _) _).alloc (by simp) _
  refine wpIn_rangeFunc_ownG rfl (by omega) (gf := 40) (lb := #[.pointer (some ⟨w.heap.size + 1, 0, none⟩)]) rfl trivial (enters_of Tryd.func40 (by kernel_rfl) rfl)
    (parts_stops 4 (by omega) (w.heap.size + 1) C (by omega) _ bN) (Kp := KpB (w.heap.size + 1)) (fun h1 h2 => h2.trans h1) (fun W l o o' hl ho hc _ => World.putObj_heap_other (fun e => by simp at hl; omega)) (Below.refl _ _) (fun _ => rfl)
    (fun (pre : List Pt) W => (∃ v, Boxed W w.heap.size 23 v ∧ W.ownsRow (w.heap.size + 2) 9 1 v pre.length (pre.map cellV) ∧ True) ∧ (Boxed W (w.heap.size + 1) 9 (.string C) ∧ Below w.heap.size w W))
    (fun _ _ _ => False)
    (OwnFrom.and (Own.from (holdsRow_own (w.heap.size + 2) w.heap.size 23 9 1 (fun (pre : List Pt) => pre.length) (fun pre => pre.map cellV) (fun _ _ => True)) _) (OwnFrom.and (Own.from (boxed_own (w.heap.size + 1) 9 (fun _ => .string C)) _) (ownFrom_below (Nat.le_refl _) (by simp; omega))))
    (fun _ _ _ _ _ hs _ _ => hs)
    ⟨⟨_, bO.alloc _, World.ownsRow_nil _ _ _ _, trivial⟩, bN, hB0⟩
    (fun (x : Pt) => { tmps := #[.string s, undef, .slice none 0 0, .pointer (some ⟨w.heap.size, 0, none⟩), .string x.1, .string s, .func (.func 40) #[] #[.pointer (some ⟨w.heap.size + 1, 0, none⟩)], .string x.1, undef, undef, undef, undef, undef, undef, undef], defers := [] }) ?assign ?body ?done ?stop
  case assign =>
    intro l x W K hK
    gi_wp2_with fail
    exact hK
  case body =>
    rintro l pre x W ⟨⟨v, hv, hrow, _⟩, hsB, hB⟩ hlt
    have hc := hv.cell
    have hmx : Tryd.prog.follows .mixedOrders = true := by kernel_rfl
    have HT := Lib.hid fun W => t_trim x.1 W x.2
    have hxt : (mk (trimS (bytesL x.1))).size ≤ 1000000 := by rw [mk_size]; have := trimS_len (bytesL x.1); rw [bytesL_length] at this; have := x.2; omega
    have hpl : pre.length ≤ 1000001 := by omega
    have HR : Hid (∀ W1, W1.cell? ⟨0, 0, none⟩ = some (.int .i64 m) → Calls Tryd.prog 27 #[.string (mk (trimS (bytesL x.1))), .string ⟨#[92, 124]⟩, .string ⟨#[124]⟩] W1 fun e w' => e = .returned (.string (mk (cellL (bytesL x.1)))) ∧ Below W1.heap.size W1 w') := Lib.hid fun W1 h1 => by
      have h := repl_any (mk (trimS (bytesL x.1))) m W1 hxt h1
      rw [bytesL_mk'] at h
      exact h
    have hmW : W.drew.cell? ⟨0, 0, none⟩ = some (.int .i64 m) := (hB.cell (p := ⟨0, 0, none⟩) h0w).trans hm
    have HV : Hid (cellV x = .string (mk (cellL (bytesL x.1)))) := Lib.hid rfl
    generalize mk (trimS (bytesL x.1)) = T at *
    generalize mk (cellL (bytesL x.1)) = Y at *

    have hcW : W.drew.cell? ⟨w.heap.size, 0, none⟩ = some v := hc
    have HL : Hid ((pre ++ [x]).map cellV = pre.map cellV ++ [.string Y]) := Lib.hid (by rw [List.map_append]; show _ ++ [cellV x] = _; rw [HV.out])
    gi_wp2_with fail
    refine regionIn_any hmx (by kernel_rfl) (fun ⟨_, _, h⟩ => h) ?_
    refine wpAny_take (i := 1) (v := .string x.1) rfl (by kernel_rfl) (by kernel_rfl) (by kernel_rfl) (fun _ _ _ h => h) (Or.inl ⟨by rfl, fun w' => ?_⟩) ?_
    · go_simp
    simp only [Act.put, List.setIfInBounds_toArray, List.set_cons_zero, List.set_cons_succ]
    refine wpAny_ready (rs := [0, 2]) (by kernel_rfl) (by simp) (AllReady.cons rfl (fun K hK => ?_) (AllReady.cons rfl (fun K hK => ?_) AllReady.nil))
    · go_simp
      refine hK _ _ ?_
      clear hK K
      refine wpAny_ready (rs := [2]) (by kernel_rfl) (by simp) (AllReady.cons rfl (fun K hK => ?_) AllReady.nil)
      go_simp
      ((with_reducible refine (HT.out _).mono ?_))
      rintro e w' ⟨rfl, rfl⟩
      refine hK _ _ ?_
      clear hK K
      refine wpAny_ready (rs := [3]) (by kernel_rfl) (by simp) (AllReady.cons rfl (fun K hK => ?_) AllReady.nil)
      go_simp
      ((with_reducible refine (HR.out _ hmW).mono ?_))
      rintro e W1 ⟨rfl, b1⟩
      have hv1 : Boxed W1 w.heap.size 23 v := (b1.block _ hv.lt).trans hv
      have hs1 : Boxed W1 (w.heap.size + 1) 9 (.string C) := (b1.block _ hsB.lt).trans hsB
      have hrow1 : W1.ownsRow (w.heap.size + 2) 9 1 v pre.length (pre.map cellV) := own_below (w := W.drew) hrow b1
      have hzW := hs1.lt
      have hc1 := hv1.cell
      have hc2 := (hv1.alloc (.cells #[.string Y] 9)).cell
      refine hK _ _ ?_
      clear hK K
      refine wpAny_ready (rs := [4]) (by kernel_rfl) (by simp) (AllReady.cons rfl (fun K hK => ?_) AllReady.nil)
      go_simp
      refine hK _ _ ?_
      clear hK K
      refine wpAny_ready (rs := [5]) (by kernel_rfl) (by simp) (AllReady.cons rfl (fun K hK => ?_) AllReady.nil)
      rw [if_pos (by rfl)]
      refine wp_append_own _ _ _ 23 rfl (w.heap.size + 2) 9 i0 (.string ⟨#[]⟩) 1 16 Tryd.underlying23 hi hz0 hz1 hz2 rfl (by decide) v pre.length (pre.map cellV) rfl (hrow1.alloc _) ⟨W1.heap.size, 0, none⟩ 1 1 [.string Y] rfl rfl (cell_one_new _ _ _) (by simp [Value.oneCell']) (by unfold maxLen; omega) (by omega) (by simp; omega) ?_
      intro v' W2 hown2 hgrow _
      obtain ⟨g', cap', rfl⟩ := ownsRow_succ hown2
      obtain ⟨q1, q2, q6, q3, q4, q5⟩ := appended2 hv1 hs1 hrow1 hown2 hgrow
      have hc3 := q1.cell
      have hf3 := q1.frozen
      refine hK _ _ ?_
      clear hK K
      simp only [Act.put, List.setIfInBounds_toArray, List.set_cons_zero, List.set_cons_succ]
      refine wpAny_ready (rs := [6]) (by kernel_rfl) (by simp) (AllReady.cons rfl (fun K hK => ?_) AllReady.nil)
      go_simp
      refine hK _ _ ?_
      clear hK K
      refine wpAny_done (by kernel_rfl) ?_ _
      exact ⟨(((KeepsOthers.drew W).trans (keeps_of_below b1)).trans q4).from _, q6.trans hsB.symm, ⟨_, q2, by rw [HL.out, List.length_append]; exact q3, trivial⟩, q6, (hB.drew.trans (b1.mono hB.size)).trans q5⟩
    · go_simp
      ((with_reducible refine (HT.out _).mono ?_))
      rintro e w' ⟨rfl, rfl⟩
      refine hK _ _ ?_
      clear hK K
      refine wpAny_ready (rs := [0, 3]) (by kernel_rfl) (by simp) (AllReady.cons rfl (fun K hK => ?_) (AllReady.cons rfl (fun K hK => ?_) AllReady.nil))
      · go_simp
        refine hK _ _ ?_
        clear hK K
        refine wpAny_ready (rs := [3]) (by kernel_rfl) (by simp) (AllReady.cons rfl (fun K hK => ?_) AllReady.nil)
        go_simp
        ((with_reducible refine (HR.out _ hmW).mono ?_))
        rintro e W1 ⟨rfl, b1⟩
        have hv1 : Boxed W1 w.heap.size 23 v := (b1.block _ hv.lt).trans hv
        have hs1 : Boxed W1 (w.heap.size + 1) 9 (.string C) := (b1.block _ hsB.lt).trans hsB
        have hrow1 : W1.ownsRow (w.heap.size + 2) 9 1 v pre.length (pre.map cellV) := own_below (w := W.drew) hrow b1
        have hzW := hs1.lt
        have hc1 := hv1.cell
        have hc2 := (hv1.alloc (.cells #[.string Y] 9)).cell
        refine hK _ _ ?_
        clear hK K
        refine wpAny_ready (rs := [4]) (by kernel_rfl) (by simp) (AllReady.cons rfl (fun K hK => ?_) AllReady.nil)
        go_simp
        refine hK _ _ ?_
        clear hK K
        refine wpAny_ready (rs := [5]) (by kernel_rfl) (by simp) (AllReady.cons rfl (fun K hK => ?_) AllReady.nil)
        rw [if_pos (by rfl)]
        refine wp_append_own _ _ _ 23 rfl (w.heap.size + 2) 9 i0 (.string ⟨#[]⟩) 1 16 Tryd.underlying23 hi hz0 hz1 hz2 rfl (by decide) v pre.length (pre.map cellV) rfl (hrow1.alloc _) ⟨W1.heap.size, 0, none⟩ 1 1 [.string Y] rfl rfl (cell_one_new _ _ _) (by simp [Value.oneCell']) (by unfold maxLen; omega) (by omega) (by simp; omega) ?_
        intro v' W2 hown2 hgrow _
        obtain ⟨g', cap', rfl⟩ := ownsRow_succ hown2
        obtain ⟨q1, q2, q6, q3, q4, q5⟩ := appended2 hv1 hs1 hrow1 hown2 hgrow
        have hc3 := q1.cell
        have hf3 := q1.frozen
        refine hK _ _ ?_
        clear hK K
        simp only [Act.put, List.setIfInBounds_toArray, List.set_cons_zero, List.set_cons_succ]
        refine wpAny_ready (rs := [6]) (by kernel_rfl) (by simp) (AllReady.cons rfl (fun K hK => ?_) AllReady.nil)
        go_simp
        refine hK _ _ ?_
        clear hK K
        refine wpAny_done (by kernel_rfl) ?_ _
        exact ⟨(((KeepsOthers.drew W).trans (keeps_of_below b1)).trans q4).from _, q6.trans hsB.symm, ⟨_, q2, by rw [HL.out, List.length_append]; exact q3, trivial⟩, q6, (hB.drew.trans (b1.mono hB.size)).trans q5⟩
      · go_simp
        ((with_reducible refine (HR.out _ hmW).mono ?_))
        rintro e W1 ⟨rfl, b1⟩
        have hv1 : Boxed W1 w.heap.size 23 v := (b1.block _ hv.lt).trans hv
        have hs1 : Boxed W1 (w.heap.size + 1) 9 (.string C) := (b1.block _ hsB.lt).trans hsB
        have hrow1 : W1.ownsRow (w.heap.size + 2) 9 1 v pre.length (pre.map cellV) := own_below (w := W.drew) hrow b1
        have hzW := hs1.lt
        have hc1 := hv1.cell
        have hc2 := (hv1.alloc (.cells #[.string Y] 9)).cell
        refine hK _ _ ?_
        clear hK K
        refine wpAny_ready (rs := [0, 4]) (by kernel_rfl) (by simp) (AllReady.cons rfl (fun K hK => ?_) (AllReady.cons rfl (fun K hK => ?_) AllReady.nil))
        · go_simp
          refine hK _ _ ?_
          clear hK K
          refine wpAny_ready (rs := [4]) (by kernel_rfl) (by simp) (AllReady.cons rfl (fun K hK => ?_) AllReady.nil)
          go_simp
          refine hK _ _ ?_
          clear hK K
          refine wpAny_ready (rs := [5]) (by kernel_rfl) (by simp) (AllReady.cons rfl (fun K hK => ?_) AllReady.nil)
          rw [if_pos (by rfl)]
          refine wp_append_own _ _ _ 23 rfl (w.heap.size + 2) 9 i0 (.string ⟨#[]⟩) 1 16 Tryd.underlying23 hi hz0 hz1 hz2 rfl (by decide) v pre.length (pre.map cellV) rfl (hrow1.alloc _) ⟨W1.heap.size, 0, none⟩ 1 1 [.string Y] rfl rfl (cell_one_new _ _ _) (by simp [Value.oneCell']) (by unfold maxLen; omega) (by omega) (by simp; omega) ?_
          intro v' W2 hown2 hgrow _
          obtain ⟨g', cap', rfl⟩ := ownsRow_succ hown2
          obtain ⟨q1, q2, q6, q3, q4, q5⟩ := appended2 hv1 hs1 hrow1 hown2 hgrow
          have hc3 := q1.cell
          have hf3 := q1.frozen
          refine hK _ _ ?_
          clear hK K
          simp only [Act.put, List.setIfInBounds_toArray, List.set_cons_zero, List.set_cons_succ]
          refine wpAny_ready (rs := [6]) (by kernel_rfl) (by simp) (AllReady.cons rfl (fun K hK => ?_) AllReady.nil)
          go_simp
          refine hK _ _ ?_
          clear hK K
          refine wpAny_done (by kernel_rfl) ?_ _
          exact ⟨(((KeepsOthers.drew W).trans (keeps_of_below b1)).trans q4).from _, q6.trans hsB.symm, ⟨_, q2, by rw [HL.out, List.length_append]; exact q3, trivial⟩, q6, (hB.drew.trans (b1.mono hB.size)).trans q5⟩
        · go_simp
          refine hK _ _ ?_
          clear hK K
          refine wpAny_ready (rs := [0]) (by kernel_rfl) (by simp) (AllReady.cons rfl (fun K hK => ?_) AllReady.nil)
          go_simp
          refine hK _ _ ?_
          clear hK K
          refine wpAny_ready (rs := [5]) (by kernel_rfl) (by simp) (AllReady.cons rfl (fun K hK => ?_) AllReady.nil)
          rw [if_pos (by rfl)]
          refine wp_append_own _ _ _ 23 rfl (w.heap.size + 2) 9 i0 (.string ⟨#[]⟩) 1 16 Tryd.underlying23 hi hz0 hz1 hz2 rfl (by decide) v pre.length (pre.map cellV) rfl (hrow1.alloc _) ⟨W1.heap.size, 0, none⟩ 1 1 [.string Y] rfl rfl (cell_one_new _ _ _) (by simp [Value.oneCell']) (by unfold maxLen; omega) (by omega) (by simp; omega) ?_
          intro v' W2 hown2 hgrow _
          obtain ⟨g', cap', rfl⟩ := ownsRow_succ hown2
          obtain ⟨q1, q2, q6, q3, q4, q5⟩ := appended2 hv1 hs1 hrow1 hown2 hgrow
          have hc3 := q1.cell
          have hf3 := q1.frozen
          refine hK _ _ ?_
          clear hK K
          simp only [Act.put, List.setIfInBounds_toArray, List.set_cons_zero, List.set_cons_succ]
          refine wpAny_ready (rs := [6]) (by kernel_rfl) (by simp) (AllReady.cons rfl (fun K hK => ?_) AllReady.nil)
          go_simp
          refine hK _ _ ?_
          clear hK K
          refine wpAny_done (by kernel_rfl) ?_ _
          exact ⟨(((KeepsOthers.drew W).trans (keeps_of_below b1)).trans q4).from _, q6.trans hsB.symm, ⟨_, q2, by rw [HL.out, List.length_append]; exact q3, trivial⟩, q6, (hB.drew.trans (b1.mono hB.size)).trans q5⟩
  case done =>
    rintro D ys W hD rfl ⟨⟨v, hv, hrow, _⟩, hsB, hB⟩ hK
    have hc := hv.cell
    gi_wp2_with fail
    refine ⟨by simp, .inl ⟨_, _, rfl, run_takeDeferred hK, ?_⟩⟩
    refine ⟨_, results_tmp rfl _ _ _, v, rfl, ?_, hB.trans (belowK_b (w := w) (Nat.le_refl _) W D _ _ (by simp at hD; omega) hK rfl rfl)⟩
    have h := own_base (ownsRow_putObj hrow (.deferred none) hK rfl) (show w.heap.size ≤ w.heap.size + 2 by omega)
    have e1 : ((restP C 0 0).map toPt).map cellV = (restP C 0 0).map fun p => .string (mk (cellL p)) := by
      rw [List.map_map]
      refine List.map_congr_left fun p hp => ?_
      show cellV (toPt p) = _
      unfold cellV
      rw [toPt_val p (HM.out p hp), bytesL_mk']
    rw [e1, List.length_map] at h
    exact h
  case stop =>
    rintro D c pre W _ _ h _
    exact h.elim
end Go.Proofs.YtoageahnddepcaaDoor
