/-
  table.parts and its iterator.
-/
import Derived.Test.YtoageahnddepcaaDoorTabA
import Derived.Test.YtoageahnddepcaaDoorShelf
import Derived.RangeFuncNested
import Derived.RangeFuncBound
import Derived.RangeFuncCalls
import Derived.RangeFuncLeaves
import Derived.Shelf.Abstract
import Derived.Shelf.RegionOpen
import Derived.WalkKit
import Derived.OwnWalkIn
import Derived.TacticsInMore
import Derived.LoopNIn
import Derived.LoopIn
set_option linter.unusedVariables false
set_option linter.unusedSimpArgs false
namespace Go.Pub
/-- A part, with its bound. -/
abbrev Pt := { x : ByteArray // x.size ≤ 1000000 }
def toPt (p : List UInt8) : Pt := if h : p.length ≤ 1000000 then ⟨mk p, by rw [mk_size]; exact h⟩ else ⟨⟨#[]⟩, by show 0 ≤ _; omega⟩
theorem toPt_val (p : List UInt8) (h : p.length ≤ 1000000) : (toPt p).1 = mk p := by unfold toPt; rw [dif_pos h]
theorem extract_sub (s : ByteArray) (a i : Nat) : s.extract a i = mk (sub s a i) := by rw [← bytesL_sub, mk_bytesL]
theorem toPt_sub (s : ByteArray) (a i : Nat) (h : s.size ≤ 1000000) : (toPt (sub s a i)).1 = s.extract a i := by
  rw [toPt_val _ (by have := sub_len s a i; omega), extract_sub]
/-- The line without the spaces around it and the bar ahead. -/
def core1 (l : List UInt8) : ByteArray := mk (Lib.trimPrefix (trimS l) [124])
/-- What is parted. -/
def coreB (l : List UInt8) : ByteArray := if 0 < (core1 l).size ∧ sepB (core1 l) ((core1 l).size - 1) = true then (core1 l).extract 0 ((core1 l).size - 1) else core1 l
/-- The parts of a line. -/
def partsL (l : List UInt8) : List (List UInt8) := splitGo false (bytesL (coreB l))
theorem core1_size (l : List UInt8) : (core1 l).size ≤ l.length := by
  unfold core1 Lib.trimPrefix
  rw [mk_size]
  have := trimS_len l
  split
  · rw [List.length_drop]; omega
  · exact this
theorem coreB_size (l : List UInt8) : (coreB l).size ≤ l.length := by
  have := core1_size l
  unfold coreB
  split
  · rw [ByteArray.size_extract]; omega
  · exact this
end Go.Pub
namespace Go.Proofs.YtoageahnddepcaaDoor
open Go.RowKit Go.Pub Go.Shelf
attribute [local go_sem] Oper.semAt_some

set_option maxRecDepth 100000 in
set_option maxHeartbeats 1000000 in
theorem t_parts (s : ByteArray) (w : World) (hs : s.size ≤ 1000000) : Calls Tryd.prog 26 #[.string s] w fun e w' =>
    e = .returned (.func (.func 40) #[] #[.pointer (some ⟨w.heap.size, 0, none⟩)]) ∧ w' = w.alloc (.cells #[.string (coreB (bytesL s))] 9) := by
  have HT := Lib.hid fun W => t_trim s W hs
  have HP : Hid (∀ W, Calls Tryd.prog 38 #[.string (mk (trimS (bytesL s))), .string ⟨#[124]⟩] W fun e w' => e = .returned (.string (core1 (bytesL s))) ∧ w' = W) := Lib.hid fun W => by
    have h := Tryd.strings_TrimPrefix (mk (trimS (bytesL s))) ⟨#[124]⟩ W
    exact h
  have HX : Hid (coreB (bytesL s) = if 0 < (core1 (bytesL s)).size ∧ sepB (core1 (bytesL s)) ((core1 (bytesL s)).size - 1) = true then (core1 (bytesL s)).extract 0 ((core1 (bytesL s)).size - 1) else core1 (bytesL s)) := Lib.hid rfl
  have hz := core1_size (bytesL s)
  rw [bytesL_length] at hz
  generalize coreB (bytesL s) = R at *
  generalize core1 (bytesL s) = C at *
  generalize mk (trimS (bytesL s)) = T at *
  by_cases h0 : 0 < C.size
  · have hnat : ((C.size : Int) - 1).toNat = C.size - 1 := by omega
    have hcast : ((C.size : Int) - 1) = ((C.size - 1 : Nat) : Int) := by omega
    have HS := Lib.hid fun W => t_sep C (C.size - 1) W (by omega) (by omega)
    cases hsb : sepB C (C.size - 1)
    · have HF : Hid (R = C) := Lib.hid (by rw [HX.out, if_neg (by rw [hsb]; simp)])
      rw [hsb] at HS
      clear hsb
      go_enter Tryd.func26, Tryd.ntmps26
      go_wp2_with fail
      ((with_reducible refine (HT.out _).mono ?_))
      rintro e w0 ⟨rfl, rfl⟩
      go_wp2_with fail
      ((with_reducible refine (HP.out _).mono ?_))
      rintro e w0 ⟨rfl, rfl⟩
      go_wp2_with fail
      ((with_reducible refine (HS.out _).mono ?_))
      rintro e w0 ⟨rfl, rfl⟩
      go_wp2_with fail
      go_ret
      exact ⟨rfl, by rw [HF.out]⟩
    · have HF : Hid (R = C.extract 0 (C.size - 1)) := Lib.hid (by rw [HX.out, if_pos ⟨h0, hsb⟩])
      rw [hsb] at HS
      clear hsb
      go_enter Tryd.func26, Tryd.ntmps26
      go_wp2_with fail
      ((with_reducible refine (HT.out _).mono ?_))
      rintro e w0 ⟨rfl, rfl⟩
      go_wp2_with fail
      ((with_reducible refine (HP.out _).mono ?_))
      rintro e w0 ⟨rfl, rfl⟩
      go_wp2_with fail
      ((with_reducible refine (HS.out _).mono ?_))
      rintro e w0 ⟨rfl, rfl⟩
      go_wp2_with fail
      go_ret
      exact ⟨rfl, by rw [HF.out]⟩
  · have HF : Hid (R = C) := Lib.hid (by rw [HX.out, if_neg (fun e => h0 e.1)])
    go_enter Tryd.func26, Tryd.ntmps26
    go_wp2_with fail
    ((with_reducible refine (HT.out _).mono ?_))
    rintro e w0 ⟨rfl, rfl⟩
    go_wp2_with fail
    ((with_reducible refine (HP.out _).mono ?_))
    rintro e w0 ⟨rfl, rfl⟩
    go_wp2_with fail
    go_ret
    exact ⟨rfl, by rw [HF.out]⟩

/-- A round keeps what the iterator has captured. -/
def KpB (Bn : Nat) (W W' : World) : Prop := W'.heap[Bn]? = W.heap[Bn]?

set_option maxRecDepth 100000 in
set_option maxHeartbeats 2000000 in
theorem parts_stops (n : Nat) (hn : 1 ≤ n) (Bn : Nat) (s : ByteArray) (hs : s.size ≤ 1000000) (w : World) (hB : w.heap[Bn]? = some (.cells #[.string s] 9 (0, 0))) :
    SeqStopsK Fence.wide n Tryd.prog 40 #[.pointer (some ⟨Bn, 0, none⟩)] (fun x : Pt => #[Value.string x.1]) (KpB Bn) (fun ys => ys = (restP s 0 0).map toPt) (fun pre => pre <+: (restP s 0 0).map toPt) (restP s 0 0).length w := fun l J Jx W hW _ _ hY h0 => by
  have hlt : Bn < w.heap.size := by
    rcases Nat.lt_or_ge Bn w.heap.size with h | h
    · exact h
    · rw [Array.getElem?_eq_none h] at hB; cases hB
  have hBW : W.heap[Bn]? = some (.cells #[.string s] 9 (0, 0)) := (hW.block Bn hlt).trans hB
  have hcW : W.cell? ⟨Bn, 0, none⟩ = some (.string s) := cell_of_row W Bn 0 _ _ _ hBW
  have HA : Hid (restP s 0 0 = restP s 0 0) := Lib.hid rfl
  generalize hall : restP s 0 0 = all at *
  have HALL := Lib.hid hall
  clear hall HA
  refine callsIn_of_wp Tryd.func40 rfl trivial ?_ rfl
  simp only [Tryd.ntmps40, List.size_toArray, List.length_cons, List.length_nil, Nat.reduceAdd, Nat.reduceSub, Array.replicate_succ, Array.replicate_zero, List.push_toArray, List.append_toArray, List.nil_append, List.cons_append]
  gi_wp2
  gi_loopw [3, 7] (fun v3 v7 wr => ∃ (a i : Nat) (done : List (List UInt8)), v3 = .int .i64 a ∧ v7 = .int .i64 i ∧ a ≤ i ∧ i ≤ s.size ∧ wr.heap[Bn]? = some (.cells #[.string s] 9 (0, 0)) ∧ Hid (done ++ restP s a i = all) ∧ J (done.map toPt) wr)
    (fun _ v7 _ => s.size - (intOf v7).toNat)
  case atStart => exact ⟨0, 0, [], rfl, rfl, by omega, by omega, hBW, HALL, h0⟩
  case round =>
    clear hcW hBW h0
    obtain ⟨a, i, done, rfl, rfl, hai, hi, hBr, Hall, hJs⟩ := hrel
    have hc : wr.cell? ⟨Bn, 0, none⟩ = some (.string s) := cell_of_row wr Bn 0 _ _ _ hBr
    by_cases hlt2 : i < s.size
    · have HS := Lib.hid fun W => callsIn_wide (n := n - 1).2 (t_sep s i W hs hlt2)
      cases hsb : sepB s i
      · rw [hsb] at HS
        have HN : Hid (done ++ restP s a (i + 1) = all) := Lib.hid (by rw [← restP_no s a i hai hlt2 hsb]; exact Hall.out)
        clear hsb
        gi_wp2_with fail
        refine ⟨trivial, ?_⟩
        ((with_reducible refine (HS.out _).mono ?_))
        rintro e w0 ⟨rfl, rfl⟩
        gi_wp2_with fail
        go_roundw
        case rel => exact ⟨a, i + 1, done, rfl, by go_num, by omega, by omega, hBr, HN, hJs⟩
        case measure => simp [intOf]; omega
      · rw [hsb] at HS
        have HN : Hid (done ++ [sub s a i] ++ restP s (i + 1) (i + 1) = all) := Lib.hid (by rw [← Hall.out, restP_sep s a i hlt2 hsb]; simp)
        clear hsb
        have ex := toPt_sub s a i hs
        obtain ⟨fn, tmps, assign, body, hy, hR⟩ := hY (done.map toPt) (toPt (sub s a i)) wr hJs (by rw [← HN.out]; simp)
        rw [ex] at hy
        gi_wp2_with fail
        refine ⟨trivial, ?_⟩
        ((with_reducible refine (HS.out _).mono ?_))
        rintro e w0 ⟨rfl, rfl⟩
        gi_wp2_with fail
        refine hR.mono ?_
        rintro e W3 (⟨rfl, hJ3, hk3⟩ | ⟨rfl, hJx3⟩)
        · have hB3 : W3.heap[Bn]? = some (.cells #[.string s] 9 (0, 0)) := hk3.trans hBr
          gi_wp2_with fail
          go_roundw
          case rel => exact ⟨i + 1, i + 1, done ++ [sub s a i], by go_num, by go_num, by omega, by omega, hB3, HN, by rw [List.map_append]; exact hJ3⟩
          case measure => simp [intOf]; omega
        · gi_wp2_with fail
          refine bodyPost_ret (results_none rfl _ _ _) rfl ?_
          exact ⟨⟨_, rfl⟩, .inr ⟨_, ⟨(restP s (i + 1) (i + 1)).map toPt, by rw [← HN.out]; simp⟩, hJx3⟩⟩
    · obtain rfl : i = s.size := by omega
      have HN : Hid (done ++ [sub s a s.size] = all) := Lib.hid (by rw [← Hall.out, restP_end s a s.size (Nat.le_refl _)])
      have ex := toPt_sub s a s.size hs
      obtain ⟨fn, tmps, assign, body, hy, hR⟩ := hY (done.map toPt) (toPt (sub s a s.size)) wr hJs (by rw [← HN.out]; simp)
      rw [ex] at hy
      gi_wp2_with fail
      refine hR.mono ?_
      rintro e W3 (⟨rfl, hJ3, hk3⟩ | ⟨rfl, hJx3⟩)
      · gi_wp2_with fail
        go_end0
        exact ⟨⟨_, rfl⟩, .inl ⟨_, by rw [← HN.out]; simp, hJ3⟩⟩
      · gi_wp2_with fail
        go_end0
        exact ⟨⟨_, rfl⟩, .inr ⟨_, ⟨[], by rw [← HN.out]; simp⟩, hJx3⟩⟩
end Go.Proofs.YtoageahnddepcaaDoor
