/-
  Texts of the proof, put together (what this law reaches): TabA, TabB, RegIn, AttrA, MkB.
-/
import Derived.Test.YtpoafhgbhnblmaaGreatDoorD04
import Derived.Test.YtpoafhgbhnblmaaGreatDoorD02
import Derived.Test.YtpoafhgbhnblmaaGreatDoorProg
import Derived.WalkKit
import Derived.Lib.Hide
import Derived.Test.YtpoafhgbhnblmaaGreatDoorD03
import Derived.RangeFuncNested
import Derived.RangeFuncBound
import Derived.RangeFuncCalls
import Derived.RangeFuncLeaves
import Derived.Shelf.Abstract
import Derived.Shelf.RegionOpen
import Derived.OwnWalkIn
import Derived.TacticsInMore
import Derived.LoopNIn
import Derived.LoopIn
import Derived.Deep.RegionHeld3
import Derived.OrdersIn
import Derived.TacticsIn
import Derived.RangeFuncBox
import Derived.Outline
set_option linter.unusedVariables false
set_option linter.unusedSimpArgs false
namespace Go.Pub
/-- The first byte from k on that is no space. -/
def indA (s : ByteArray) (k : Nat) : Nat := k + indN (sfx s k)
theorem g32 (s : ByteArray) (k : Nat) : s.get! k = 32 ↔ bt s k = 32 := bt_u8 s k 32 (by decide)
theorem indA_end (s : ByteArray) (k : Nat) (h : s.size ≤ k) : indA s k = k := by unfold indA; rw [sfx_nil s k h]; rfl
theorem indA_yes (s : ByteArray) (k : Nat) (h : k < s.size) (hc : bt s k = 32) : indA s k = indA s (k + 1) := by
  unfold indA; rw [sfx_cons s k h]
  show k + (if s.get! k = 32 then indN (sfx s (k + 1)) + 1 else 0) = _
  rw [if_pos ((g32 s k).2 hc)]; omega
theorem indA_no (s : ByteArray) (k : Nat) (h : k < s.size) (hc : bt s k ≠ 32) : indA s k = k := by
  unfold indA; rw [sfx_cons s k h]
  show k + (if s.get! k = 32 then indN (sfx s (k + 1)) + 1 else 0) = _
  rw [if_neg (fun e => hc ((g32 s k).1 e))]; rfl
theorem indA_le (s : ByteArray) : indA s 0 ≤ s.size := by
  unfold indA; have := indN_le (sfx s 0); rw [sfx_len] at this; omega
theorem ind_extract (s : ByteArray) : bytesL (s.extract (indA s 0) s.size) = trimF (bytesL s) := by
  rw [extract_drop, bytesL_mk', trimF_ind]
  unfold sfx indA sfx
  rw [List.drop_zero, Nat.zero_add]
theorem bytesL_snoc (x : ByteArray) (h : 0 < x.size) : bytesL x = bytesL (x.extract 0 (x.size - 1)) ++ [x.get! (x.size - 1)] := by
  have := sub_snoc x 0 (x.size - 1) (by omega) (by omega)
  rw [show x.size - 1 + 1 = x.size by omega] at this
  have e : sub x 0 x.size = bytesL x := by
    unfold sub; rw [List.drop_zero, List.take_of_length_le (by rw [bytesL_length]; omega)]
  rw [← e, this, bytesL_sub]
theorem trim_step (x : ByteArray) (h : 0 < x.size) (hc : bt x (x.size - 1) = 32) : trimR (bytesL x) = trimR (bytesL (x.extract 0 (x.size - 1))) := by
  rw [bytesL_snoc x h, (g32 x _).2 hc, trimR_sp]
theorem trim_stop (x : ByteArray) (h : 0 < x.size) (hc : bt x (x.size - 1) ≠ 32) : trimR (bytesL x) = bytesL x := by
  rw [bytesL_snoc x h, trimR_no _ _ (fun e => hc ((g32 x _).1 e))]
theorem trim_zero (x : ByteArray) (h : x.size = 0) : trimR (bytesL x) = bytesL x := by
  rw [(size_nil x).1 h]; rfl
def strLen : Value → Nat
  | .string b => b.size
  | _ => 0
end Go.Pub
namespace Go.Proofs.YtpoafhgbhnblmaaGreatDoor
open Go.RowKit Go.Pub
set_option maxRecDepth 100000 in
set_option maxHeartbeats 1000000 in
theorem t_indent (s : ByteArray) (w : World) (hs : s.size ≤ 1000000) : Calls Tryz.prog 58 #[.string s] w fun e w' => e = .returned (.int .i64 (indA s 0)) ∧ w = w' := by
  generalize hR : indA s 0 = R at *
  have HR := Lib.hid hR
  clear hR
  go_enter Tryz.func58, Tryz.ntmps58
  go_wp2
  go_loop [3] (fun v => ∃ k : Nat, k ≤ s.size ∧ v = .int .i64 k ∧ Hid (indA s k = R)) (fun v => s.size - (intOf v).toNat)
  case atStart => exact ⟨0, by omega, rfl, HR⟩
  case round =>
    obtain ⟨k, hk, rfl, Hk⟩ := hrel
    by_cases hlt : k < s.size
    · have hlt2 : ((s[k].toNat : Nat) : Int) < 256 := by rw [get_bt s k hlt]; have := bt_lt s k; omega
      by_cases hc : bt s k = 32
      · have z : (((s[k].toNat : Nat) : Int) == 32) = true := by rw [get_bt s k hlt, hc]; rfl
        have HF : Hid (indA s (k + 1) = R) := Lib.hid (by rw [← Hk.out, indA_yes s k hlt hc])
        clear hc
        go_wp2_with fail
        go_round
        case rel => exact ⟨k + 1, by omega, by go_num, HF⟩
        case measure => simp [intOf]; omega
      · have z : (((s[k].toNat : Nat) : Int) == 32) = false := by rw [get_bt s k hlt, beq_eq_false_iff_ne]; omega
        have HF : Hid (k = R) := Lib.hid (by rw [← Hk.out, indA_no s k hlt hc])
        clear hc
        go_wp2_with fail
        go_ret
        exact ⟨ret_int (by rw [HF.out]), rfl⟩
    · have HF : Hid (k = R) := Lib.hid (by rw [← Hk.out, indA_end s k (by omega)])
      go_wp2_with fail
      go_ret
      exact ⟨ret_int (by rw [HF.out]), rfl⟩

set_option maxRecDepth 100000 in
set_option maxHeartbeats 1000000 in
theorem t_trim (s : ByteArray) (w : World) (hs : s.size ≤ 1000000) : Calls Tryz.prog 105 #[.string s] w fun e w' => e = .returned (.string (mk (trimS (bytesL s)))) ∧ w = w' := by
  have HI := Lib.hid fun W => t_indent s W hs
  have hi := indA_le s
  have HX := Lib.hid (show trimR (bytesL (s.extract (indA s 0) s.size)) = trimS (bytesL s) by rw [ind_extract]; rfl)
  have hz : (s.extract (indA s 0) s.size).size ≤ s.size := by rw [ByteArray.size_extract]; omega
  generalize trimS (bytesL s) = R at *
  generalize indA s 0 = I at *
  go_enter Tryz.func105, Tryz.ntmps105
  go_wp2_with fail
  ((with_reducible refine (HI.out _).mono ?_))
  rintro e w0 ⟨rfl, rfl⟩
  go_wp2_with fail
  go_loop [0] (fun v => ∃ x : ByteArray, v = .string x ∧ x.size ≤ s.size ∧ Hid (trimR (bytesL x) = R)) (fun v => strLen v)
  case atStart => exact ⟨_, rfl, hz, HX⟩
  case round =>
    clear hz HX
    obtain ⟨x, rfl, hx, Hx⟩ := hrel
    by_cases h0 : x.size = 0
    · have HF : Hid (mk R = x) := Lib.hid (by rw [← Hx.out, trim_zero x h0, mk_bytesL])
      obtain ⟨x1, x2⟩ := nil_list x ((size_nil x).1 h0)
      go_wp2_with fail
      go_ret
      exact ⟨ret_str HF.out.symm, rfl⟩
    · obtain ⟨x1, x2⟩ := cons_list x (fun e => h0 ((size_nil x).2 e))
      have hpos : 0 < x.size := by omega
      have hlt : x.size - 1 < x.size := by omega
      have hcast : ((x.size : Int) - 1) = ((x.size - 1 : Nat) : Int) := by omega
      have hnat : ((x.size : Int) - 1).toNat = x.size - 1 := by omega
      by_cases hc : bt x (x.size - 1) = 32
      · have z : (((x[x.size - 1].toNat : Nat) : Int) == 32) = true := by rw [get_bt x _ hlt, hc]; rfl
        have HF : Hid (trimR (bytesL (x.extract 0 (x.size - 1))) = R) := Lib.hid (by rw [← Hx.out, trim_step x hpos hc])
        have hz : (x.extract 0 (x.size - 1)).size = x.size - 1 := by rw [ByteArray.size_extract]; omega
        clear hc h0
        go_wp2_with fail
        go_round
        case rel => exact ⟨_, by rfl, by rw [hz]; omega, HF⟩
        case measure => simp only [strLen]; rw [hz]; omega
      · have z : (((x[x.size - 1].toNat : Nat) : Int) == 32) = false := by rw [get_bt x _ hlt, beq_eq_false_iff_ne]; omega
        have HF : Hid (mk R = x) := Lib.hid (by rw [← Hx.out, trim_stop x hpos hc, mk_bytesL])
        clear hc h0
        go_wp2_with fail
        go_ret
        exact ⟨ret_str HF.out.symm, rfl⟩

set_option maxRecDepth 100000 in
set_option maxHeartbeats 1000000 in
theorem t_sep (s : ByteArray) (i : Nat) (w : World) (hs : s.size ≤ 1000000) (hi : i < s.size) : Calls Tryz.prog 213 #[.string s, .int .i64 i] w fun e w' => e = .returned (.bool (sepB s i)) ∧ w = w' := by
  have hE : sepB s i = (bt s i == 124 && (i == 0 || bt s (i - 1) != 92)) := rfl
  by_cases h1 : bt s i = 124
  · have z1 : (((s[i].toNat : Nat) : Int) == 124) = true := by rw [get_bt s i hi, h1]; rfl
    by_cases h2 : i = 0
    · subst h2
      have HF : Hid (sepB s 0 = true) := Lib.hid (by rw [hE, h1]; rfl)
      clear hE h1
      generalize sepB s 0 = R at *
      go_enter Tryz.func213, Tryz.ntmps213
      go_wp2_with fail
      go_ret
      exact ⟨ret_bool HF.out.symm, rfl⟩
    · have hlt : i - 1 < s.size := by omega
      have hnat : ((i : Int) - 1).toNat = i - 1 := by omega
      have HF : Hid (sepB s i = ((i : Int) == 0 || ((s[i - 1].toNat : Nat) : Int) != 92)) := Lib.hid (by
        rw [hE, h1, get_bt s _ hlt, show (i == 0) = false by rw [beq_eq_false_iff_ne]; exact h2, show ((i : Int) == 0) = false by rw [beq_eq_false_iff_ne]; omega]
        show (bt s (i - 1) != 92) = (((bt s (i - 1) : Nat) : Int) != 92)
        rw [Bool.eq_iff_iff]; simp only [bne_iff_ne, ne_eq]; omega)
      clear hE h1
      generalize sepB s i = R at *
      go_enter Tryz.func213, Tryz.ntmps213
      go_wp2_with fail
      go_ret
      exact ⟨ret_bool HF.out.symm, rfl⟩
  · have z1 : (((s[i].toNat : Nat) : Int) == 124) = false := by rw [get_bt s i hi, beq_eq_false_iff_ne]; omega
    have HF : Hid (sepB s i = false) := Lib.hid (by rw [hE, beq_eq_false_iff_ne.2 h1]; rfl)
    clear hE h1
    generalize sepB s i = R at *
    go_enter Tryz.func213, Tryz.ntmps213
    go_wp2_with fail
    go_ret
    exact ⟨ret_bool HF.out.symm, rfl⟩

end Go.Proofs.YtpoafhgbhnblmaaGreatDoor
namespace Go.Pub
/-- A part, with its bound. -/
abbrev Pt := { x : ByteArray // x.size ≤ 1000000 }
def toPt (p : List UInt8) : Pt := if h : p.length ≤ 1000000 then ⟨mk p, by rw [mk_size]; exact h⟩ else ⟨⟨#[]⟩, by show 0 ≤ _; omega⟩
theorem toPt_val (p : List UInt8) (h : p.length ≤ 1000000) : (toPt p).1 = mk p := by unfold toPt; rw [dif_pos h]
theorem extract_sub (s : ByteArray) (a i : Nat) : s.extract a i = mk (sub s a i) := by rw [← bytesL_sub, mk_bytesL]
theorem toPt_sub (s : ByteArray) (a i : Nat) (h : s.size ≤ 1000000) : (toPt (sub s a i)).1 = s.extract a i := by
  rw [toPt_val _ (by have := sub_len s a i; omega), extract_sub]
/-- The line without the spaces around it and the bar ahead. -/
def core1 (l : List UInt8) : ByteArray := mk (Lib.trimPrefix (trimS l) [124])
/-- What is parted. -/
def coreB (l : List UInt8) : ByteArray := if 0 < (core1 l).size ∧ sepB (core1 l) ((core1 l).size - 1) = true then (core1 l).extract 0 ((core1 l).size - 1) else core1 l
/-- The parts of a line. -/
def partsL (l : List UInt8) : List (List UInt8) := splitGo false (bytesL (coreB l))
theorem core1_size (l : List UInt8) : (core1 l).size ≤ l.length := by
  unfold core1 Lib.trimPrefix
  rw [mk_size]
  have := trimS_len l
  split
  · rw [List.length_drop]; omega
  · exact this
theorem coreB_size (l : List UInt8) : (coreB l).size ≤ l.length := by
  have := core1_size l
  unfold coreB
  split
  · rw [ByteArray.size_extract]; omega
  · exact this
end Go.Pub
namespace Go.Proofs.YtpoafhgbhnblmaaGreatDoor
open Go.RowKit Go.Pub Go.Shelf
attribute [local go_sem] Oper.semAt_some
set_option maxRecDepth 100000 in
set_option maxHeartbeats 1000000 in
theorem t_parts (s : ByteArray) (w : World) (hs : s.size ≤ 1000000) : Calls Tryz.prog 171 #[.string s] w fun e w' =>
    e = .returned (.func (.func 214) #[] #[.pointer (some ⟨w.heap.size, 0, none⟩)]) ∧ w' = w.alloc (.cells #[.string (coreB (bytesL s))] 9) := by
  have HT := Lib.hid fun W => t_trim s W hs
  have HP : Hid (∀ W, Calls Tryz.prog 212 #[.string (mk (trimS (bytesL s))), .string ⟨#[124]⟩] W fun e w' => e = .returned (.string (core1 (bytesL s))) ∧ w' = W) := Lib.hid fun W => by
    have h := Tryz.strings_TrimPrefix (mk (trimS (bytesL s))) ⟨#[124]⟩ W
    exact h
  have HX : Hid (coreB (bytesL s) = if 0 < (core1 (bytesL s)).size ∧ sepB (core1 (bytesL s)) ((core1 (bytesL s)).size - 1) = true then (core1 (bytesL s)).extract 0 ((core1 (bytesL s)).size - 1) else core1 (bytesL s)) := Lib.hid rfl
  have hz := core1_size (bytesL s)
  rw [bytesL_length] at hz
  generalize coreB (bytesL s) = R at *
  generalize core1 (bytesL s) = C at *
  generalize mk (trimS (bytesL s)) = T at *
  by_cases h0 : 0 < C.size
  · have hnat : ((C.size : Int) - 1).toNat = C.size - 1 := by omega
    have hcast : ((C.size : Int) - 1) = ((C.size - 1 : Nat) : Int) := by omega
    have HS := Lib.hid fun W => t_sep C (C.size - 1) W (by omega) (by omega)
    cases hsb : sepB C (C.size - 1)
    · have HF : Hid (R = C) := Lib.hid (by rw [HX.out, if_neg (by rw [hsb]; simp)])
      rw [hsb] at HS
      clear hsb
      go_enter Tryz.func171, Tryz.ntmps171
      go_wp2_with fail
      ((with_reducible refine (HT.out _).mono ?_))
      rintro e w0 ⟨rfl, rfl⟩
      go_wp2_with fail
      ((with_reducible refine (HP.out _).mono ?_))
      rintro e w0 ⟨rfl, rfl⟩
      go_wp2_with fail
      ((with_reducible refine (HS.out _).mono ?_))
      rintro e w0 ⟨rfl, rfl⟩
      go_wp2_with fail
      go_ret
      exact ⟨rfl, by rw [HF.out]⟩
    · have HF : Hid (R = C.extract 0 (C.size - 1)) := Lib.hid (by rw [HX.out, if_pos ⟨h0, hsb⟩])
      rw [hsb] at HS
      clear hsb
      go_enter Tryz.func171, Tryz.ntmps171
      go_wp2_with fail
      ((with_reducible refine (HT.out _).mono ?_))
      rintro e w0 ⟨rfl, rfl⟩
      go_wp2_with fail
      ((with_reducible refine (HP.out _).mono ?_))
      rintro e w0 ⟨rfl, rfl⟩
      go_wp2_with fail
      ((with_reducible refine (HS.out _).mono ?_))
      rintro e w0 ⟨rfl, rfl⟩
      go_wp2_with fail
      go_ret
      exact ⟨rfl, by rw [HF.out]⟩
  · have HF : Hid (R = C) := Lib.hid (by rw [HX.out, if_neg (fun e => h0 e.1)])
    go_enter Tryz.func171, Tryz.ntmps171
    go_wp2_with fail
    ((with_reducible refine (HT.out _).mono ?_))
    rintro e w0 ⟨rfl, rfl⟩
    go_wp2_with fail
    ((with_reducible refine (HP.out _).mono ?_))
    rintro e w0 ⟨rfl, rfl⟩
    go_wp2_with fail
    go_ret
    exact ⟨rfl, by rw [HF.out]⟩

/-- A round keeps what the iterator has captured. -/
def KpB (Bn : Nat) (W W' : World) : Prop := W'.heap[Bn]? = W.heap[Bn]?
set_option maxRecDepth 100000 in
set_option maxHeartbeats 2000000 in
theorem parts_stops (n : Nat) (hn : 1 ≤ n) (Bn : Nat) (s : ByteArray) (hs : s.size ≤ 1000000) (w : World) (hB : w.heap[Bn]? = some (.cells #[.string s] 9 (0, 0))) :
    SeqStopsK Fence.wide n Tryz.prog 214 #[.pointer (some ⟨Bn, 0, none⟩)] (fun x : Pt => #[Value.string x.1]) (KpB Bn) (fun ys => ys = (restP s 0 0).map toPt) (fun pre => pre <+: (restP s 0 0).map toPt) (restP s 0 0).length w := fun l J Jx W hW _ _ hY h0 => by
  have hlt : Bn < w.heap.size := by
    rcases Nat.lt_or_ge Bn w.heap.size with h | h
    · exact h
    · rw [Array.getElem?_eq_none h] at hB; cases hB
  have hBW : W.heap[Bn]? = some (.cells #[.string s] 9 (0, 0)) := (hW.block Bn hlt).trans hB
  have hcW : W.cell? ⟨Bn, 0, none⟩ = some (.string s) := cell_of_row W Bn 0 _ _ _ hBW
  have HA : Hid (restP s 0 0 = restP s 0 0) := Lib.hid rfl
  generalize hall : restP s 0 0 = all at *
  have HALL := Lib.hid hall
  clear hall HA
  refine callsIn_of_wp Tryz.func214 rfl trivial ?_ rfl
  simp only [Tryz.ntmps214, List.size_toArray, List.length_cons, List.length_nil, Nat.reduceAdd, Nat.reduceSub, Array.replicate_succ, Array.replicate_zero, List.push_toArray, List.append_toArray, List.nil_append, List.cons_append]
  gi_wp2
  gi_loopw [3, 7] (fun v3 v7 wr => ∃ (a i : Nat) (done : List (List UInt8)), v3 = .int .i64 a ∧ v7 = .int .i64 i ∧ a ≤ i ∧ i ≤ s.size ∧ wr.heap[Bn]? = some (.cells #[.string s] 9 (0, 0)) ∧ Hid (done ++ restP s a i = all) ∧ J (done.map toPt) wr)
    (fun _ v7 _ => s.size - (intOf v7).toNat)
  case atStart => exact ⟨0, 0, [], rfl, rfl, by omega, by omega, hBW, HALL, h0⟩
  case round =>
    clear hcW hBW h0
    obtain ⟨a, i, done, rfl, rfl, hai, hi, hBr, Hall, hJs⟩ := hrel
    have hc : wr.cell? ⟨Bn, 0, none⟩ = some (.string s) := cell_of_row wr Bn 0 _ _ _ hBr
    by_cases hlt2 : i < s.size
    · have HS := Lib.hid fun W => callsIn_wide (n := n - 1).2 (t_sep s i W hs hlt2)
      cases hsb : sepB s i
      · rw [hsb] at HS
        have HN : Hid (done ++ restP s a (i + 1) = all) := Lib.hid (by rw [← restP_no s a i hai hlt2 hsb]; exact Hall.out)
        clear hsb
        gi_wp2_with fail
        refine ⟨trivial, ?_⟩
        ((with_reducible refine (HS.out _).mono ?_))
        rintro e w0 ⟨rfl, rfl⟩
        gi_wp2_with fail
        go_roundw
        case rel => exact ⟨a, i + 1, done, rfl, by go_num, by omega, by omega, hBr, HN, hJs⟩
        case measure => simp [intOf]; omega
      · rw [hsb] at HS
        have HN : Hid (done ++ [sub s a i] ++ restP s (i + 1) (i + 1) = all) := Lib.hid (by rw [← Hall.out, restP_sep s a i hlt2 hsb]; simp)
        clear hsb
        have ex := toPt_sub s a i hs
        obtain ⟨fn, tmps, assign, body, hy, hR⟩ := hY (done.map toPt) (toPt (sub s a i)) wr hJs (by rw [← HN.out]; simp)
        rw [ex] at hy
        gi_wp2_with fail
        refine ⟨trivial, ?_⟩
        ((with_reducible refine (HS.out _).mono ?_))
        rintro e w0 ⟨rfl, rfl⟩
        gi_wp2_with fail
        refine hR.mono ?_
        rintro e W3 (⟨rfl, hJ3, hk3⟩ | ⟨rfl, hJx3⟩)
        · have hB3 : W3.heap[Bn]? = some (.cells #[.string s] 9 (0, 0)) := hk3.trans hBr
          gi_wp2_with fail
          go_roundw
          case rel => exact ⟨i + 1, i + 1, done ++ [sub s a i], by go_num, by go_num, by omega, by omega, hB3, HN, by rw [List.map_append]; exact hJ3⟩
          case measure => simp [intOf]; omega
        · gi_wp2_with fail
          refine bodyPost_ret (results_none rfl _ _ _) rfl ?_
          exact ⟨⟨_, rfl⟩, .inr ⟨_, ⟨(restP s (i + 1) (i + 1)).map toPt, by rw [← HN.out]; simp⟩, hJx3⟩⟩
    · obtain rfl : i = s.size := by omega
      have HN : Hid (done ++ [sub s a s.size] = all) := Lib.hid (by rw [← Hall.out, restP_end s a s.size (Nat.le_refl _)])
      have ex := toPt_sub s a s.size hs
      obtain ⟨fn, tmps, assign, body, hy, hR⟩ := hY (done.map toPt) (toPt (sub s a s.size)) wr hJs (by rw [← HN.out]; simp)
      rw [ex] at hy
      gi_wp2_with fail
      refine hR.mono ?_
      rintro e W3 (⟨rfl, hJ3, hk3⟩ | ⟨rfl, hJx3⟩)
      · gi_wp2_with fail
        go_end0
        exact ⟨⟨_, rfl⟩, .inl ⟨_, by rw [← HN.out]; simp, hJ3⟩⟩
      · gi_wp2_with fail
        go_end0
        exact ⟨⟨_, rfl⟩, .inr ⟨_, ⟨[], by rw [← HN.out]; simp⟩, hJx3⟩⟩

end Go.Proofs.YtpoafhgbhnblmaaGreatDoor
namespace Go.Pub
open Go Go.RowKit
def isDefer : Op → Bool
  | .defer _ => true
  | _ => false
theorem not_defer {o : Op} (h : isDefer o = false) : ∀ c, o ≠ .defer c := by
  rintro c rfl; cases h
theorem opIn_of_wp {P : Program} {o : Oper} {a : Act} {w : World} {K : Act → World → Prop} {Q : Exit → Act → World → Prop} {l n : Nat} (hd : isDefer o.op = false) (h : o.wp P a w K Q) : o.wpIn (Fence.wide.inRound l) n P a w K Q := by
  unfold Oper.wpIn
  unfold Oper.wp at h
  refine ⟨fun _ _ => trivial, ?_⟩
  rw [show (Fence.wide.inRound l).round = some l from rfl, Oper.semAt_some l _ _ (not_defer hd)]
  generalize (execOp a.eval o).run P w = r at *
  cases r with
  | ok x w' =>
    cases x with
    | value v => exact h
    | skip => exact h
    | defer d => exact h
    | enter f args => exact ⟨fun hh => (by cases hh), CallsIn.inRound l (callsIn_wide.2 h)⟩
    | row r args => exact ⟨fun hh => (by cases hh), fun c cs _ => let ⟨v, w', hr, hs⟩ := h c cs; ⟨v, w', hr, stepsIn_wide.2 hs⟩⟩
    | _ => exact h.elim
  | halt x w' => cases x <;> first | exact h | exact h.elim
theorem anyIn_of_any {P : Program} {ops : Array Oper} {Q : Exit → Act → World → Prop} {md : Region.Mode} {l n : Nat} (hd : ∀ (i : Nat) (o : Oper), ops[i]? = some o → isDefer o.op = false) (hlo : LetsOut Q → False) :
    ∀ (fuel : Nat) (listed : Array Bool) (a : Act) (w : World), wpAny P md ops Q fuel listed a w → wpAnyIn (Fence.wide.inRound l) n P md ops Q fuel listed a w
  | 0, _, _, _, h => h
  | fuel + 1, listed, a, w, h => by
    refine ⟨h.1, fun i hi => ?_⟩
    have h1 := h.2 i hi
    unfold wpOp at h1
    unfold wpOpIn
    cases ho : ops[i]? with
    | none =>
      rw [ho] at h1
      exact anyIn_of_any hd hlo fuel _ _ _ h1
    | some o =>
      rw [ho] at h1
      simp only at h1 ⊢
      split
      · rename_i hw
        rw [if_pos hw] at h1
        rcases h1 with h1 | h1
        · exact Oper.wpIn_mono (fun a w h2 => anyIn_of_any hd hlo fuel _ a w h2) (opIn_of_wp (hd i o ho) h1)
        · exact (hlo h1.2).elim
      · rename_i hw
        rw [if_neg hw] at h1
        exact ⟨fun _ _ => trivial, anyIn_of_any hd hlo fuel _ _ _ h1⟩
/-- The region in a round, by the held walk. -/
theorem regionIn_held {P : Program} {ops : List Oper} {Q : Exit → Act → World → Prop} {S : World → Prop} {id l n : Nat} {a : Act} {w : World} (hm : P.follows .mixedOrders = true) (hd : (ops.all fun o => !isDefer o.op) = true) (hlo : LetsOut Q → False) (hS : S w.drew)
    (h : S w.drew → wpAnyH P .any ops.toArray Q S ops.length (Array.replicate ops.length false) a w.drew) : (Code.region id ops.toArray true).wpIn (Fence.wide.inRound l) n P Q a w := by
  refine wpIn_region_any hm ?_
  refine anyIn_of_any (fun i o ho => ?_) hlo _ _ _ _ (wpAny_of_held _ _ _ _ (h hS))
  have hm2 : o ∈ ops := by
    have := List.mem_of_getElem? (l := ops) (i := i) (by simpa using ho)
    exact this
  have := List.all_eq_true.1 hd o hm2
  simpa using this
theorem keeps_of_below {W W' : World} (h : Below W.heap.size W W') : KeepsOthers W W' :=
  ⟨h.size, fun k o hk _ => (h.block k (Array.getElem?_eq_some_iff.1 hk).1).trans hk⟩
theorem own_base {W : World} {b b' : Nat} {e : TypeId} {size : Nat} {v : Value} {k : Nat} {xs : List Value} (h : W.ownsRow b e size v k xs) (hb : b' ≤ b) : W.ownsRow b' e size v k xs := by
  refine ⟨h.1, ?_⟩
  rcases h.2 with ⟨rfl, h0⟩ | ⟨g, cap, cur, rfl, hg, rest⟩
  · exact .inl ⟨rfl, h0⟩
  · exact .inr ⟨g, cap, cur, rfl, Nat.le_trans hb hg, rest⟩
theorem own_far {W : World} {b : Nat} {e : TypeId} {size : Nat} {v : Value} {k : Nat} {xs : List Value} (h : W.ownsRow b e size v k xs) {g : Nat} (hg : g < b) : some g ≠ v.ownBlock := by
  rcases h.2 with ⟨rfl, h0⟩ | ⟨g', cap, cur, rfl, hg', rest⟩
  · simp [Value.ownBlock]
  · intro e'
    have : g = g' := by simpa [Value.ownBlock] using e'
    omega
/-- 'out = append(out, ..)' in a loop, beside a box that the iterator reads. -/
theorem appended2 {W w1 : World} {B : Nat} {t t2 e : TypeId} {size : Nat} {v v' c : Value} {k m : Nat} {xs ys : List Value} {tmp : Obj}
    (hv : Boxed W B t v) (hs : Boxed W (B + 1) t2 c) (hrow : W.ownsRow (B + 2) e size v k xs)
    (hown' : w1.ownsRow (B + 2) e size v' m ys) (hgrow : (W.alloc tmp).grownBy w1 v.ownBlock) :
    Boxed w1 B t v ∧ Boxed (w1.setCell ⟨B, 0, none⟩ v') B t v' ∧ Boxed (w1.setCell ⟨B, 0, none⟩ v') (B + 1) t2 c ∧ (w1.setCell ⟨B, 0, none⟩ v').ownsRow (B + 2) e size v' m ys ∧ KeepsOthers W (w1.setCell ⟨B, 0, none⟩ v') ∧ Below B W (w1.setCell ⟨B, 0, none⟩ v') := by
  have hlt := hs.lt
  have hv1 : Boxed w1 B t v := (hv.alloc tmp).kept hgrow (own_far hrow (by omega))
  have hs1 : Boxed w1 (B + 1) t2 c := (hs.alloc tmp).kept hgrow (own_far hrow (by omega))
  refine ⟨hv1, hv1.set v', hs1.kept (grownBy_setCell' w1 B v') (by simp), hown'.kept (grownBy_setCell' w1 B v') (.inr (own_far hown' (by omega)).symm), ?_, ?_⟩
  · refine ((KeepsOthers.alloc W tmp).trans (KeepsOthers.of_grownBy hgrow fun j o ej hj => ?_)).trans (KeepsOthers.setCell _ _ _)
    rcases (hrow.alloc tmp).2 with ⟨rfl, _⟩ | ⟨g, cap, cur, rfl, _, hgb, _⟩
    · simp [Value.ownBlock] at ej
    · obtain rfl : g = j := by simpa [Value.ownBlock] using ej
      rw [hgb] at hj; cases hj; rfl
  · refine (((Below.refl B W).alloc (by omega) tmp).grown hgrow (by simp; omega) fun j ej => ?_).setCell (p := ⟨B, 0, none⟩) (Nat.le_refl _) v'
    have := own_far hrow (g := j)
    rcases Nat.lt_or_ge j B with h | h
    · exact absurd ej.symm (this (by omega))
    · exact h
theorem regionIn_any {P : Program} {ops : List Oper} {Q : Exit → Act → World → Prop} {id l n : Nat} {a : Act} {w : World} (hm : P.follows .mixedOrders = true) (hd : (ops.all fun o => !isDefer o.op) = true) (hlo : LetsOut Q → False)
    (h : wpAny P .any ops.toArray Q ops.length (Array.replicate ops.length false) a w.drew) : (Code.region id ops.toArray true).wpIn (Fence.wide.inRound l) n P Q a w := by
  refine wpIn_region_any hm ?_
  refine anyIn_of_any (fun i o ho => ?_) hlo _ _ _ _ h
  have hm2 : o ∈ ops := List.mem_of_getElem? (l := ops) (i := i) (by simpa using ho)
  have := List.all_eq_true.1 hd o hm2
  simpa using this
end Go.Pub
namespace Go.Pub
def letterN (b : Nat) : Bool := (decide (97 ≤ b) && decide (b ≤ 122)) || (decide (65 ≤ b) && decide (b ≤ 90))
def partN (b : Nat) : Bool := letterN b || (decide (48 ≤ b) && decide (b ≤ 57)) || b == 45 || b == 95 || b == 46 || b == 58
def wEnd (s : ByteArray) : Nat → Nat → Nat
  | 0, i => i
  | f + 1, i => if i < s.size ∧ partN (bt s i) = true then wEnd s f (i + 1) else i
def wordAt (s : ByteArray) (i : Nat) : Nat := wEnd s (s.size - i) i
theorem wEnd_step (s : ByteArray) (f i : Nat) (h : i < s.size) (hp : partN (bt s i) = true) (hf : s.size - i ≤ f) : wEnd s f i = wEnd s (f - 1) (i + 1) := by
  obtain ⟨g, rfl⟩ : ∃ g, f = g + 1 := ⟨f - 1, by omega⟩
  simp [wEnd, h, hp]
theorem wEnd_stop (s : ByteArray) (f i : Nat) (h : ¬ (i < s.size ∧ partN (bt s i) = true)) : wEnd s f i = i := by
  cases f with
  | zero => rfl
  | succ f => simp only [wEnd]; rw [if_neg h]
theorem wEnd_bd (s : ByteArray) : ∀ f i, i ≤ wEnd s f i ∧ (i ≤ s.size → wEnd s f i ≤ s.size)
  | 0, i => ⟨Nat.le_refl _, fun h => h⟩
  | f + 1, i => by
    unfold wEnd
    split
    · rename_i h
      have := wEnd_bd s f (i + 1)
      exact ⟨by omega, fun _ => this.2 (by omega)⟩
    · exact ⟨Nat.le_refl _, fun h => h⟩
def nameB (s : ByteArray) : Bool := decide (1 ≤ s.size) && decide (s.size ≤ 60) && letterN (bt s 0) && (wordAt s 0 == s.size)
end Go.Pub
namespace Go.Proofs.YtpoafhgbhnblmaaGreatDoor
open Go.RowKit Go.Pub
set_option maxRecDepth 100000 in
set_option maxHeartbeats 1000000 in
theorem aletter_any (b : Nat) (hb : b < 256) (w : World) : Calls Tryz.prog 96 #[.int .u8 b] w fun e w' => e = .returned (.bool (letterN b)) ∧ w = w' := by
  have H : Hid (letterN b = ((decide (97 ≤ b) && decide (b ≤ 122)) || (decide (65 ≤ b) && decide (b ≤ 90)))) := Lib.hid rfl
  generalize letterN b = r at *
  by_cases h1 : 97 ≤ b
  · by_cases h2 : b ≤ 122
    all_goals
      go_enter Tryz.func96, Tryz.ntmps96
      go_wp2
      go_ret
      exact ⟨ret_bool (by rw [H.out]; first | rfl | (rw [Bool.eq_iff_iff]; simp; omega)), rfl⟩
  · by_cases h2 : 65 ≤ b
    all_goals
      go_enter Tryz.func96, Tryz.ntmps96
      go_wp2
      go_ret
      exact ⟨ret_bool (by rw [H.out]; first | rfl | (rw [Bool.eq_iff_iff]; simp; omega)), rfl⟩

set_option maxRecDepth 100000 in
set_option maxHeartbeats 2000000 in
theorem inName_any (b : Nat) (hb : b < 256) (w : World) : Calls Tryz.prog 156 #[.int .u8 b] w fun e w' => e = .returned (.bool (partN b)) ∧ w = w' := by
  have H : Hid (partN b = (letterN b || (decide (48 ≤ b) && decide (b ≤ 57)) || b == 45 || b == 95 || b == 46 || b == 58)) := Lib.hid rfl
  have HL := Lib.hid (aletter_any b hb)
  generalize partN b = r at *
  generalize letterN b = l at *
  by_cases c1 : b = 45
  · subst c1
    go_enter Tryz.func156, Tryz.ntmps156
    go_wp2_with fail
    go_ret
    exact ⟨ret_bool (by rw [H.out]; simp), rfl⟩
  have z1 : ((b : Int) == 45) = false := by simp; omega
  by_cases c2 : b = 95
  · subst c2
    go_enter Tryz.func156, Tryz.ntmps156
    go_wp2_with fail
    go_ret
    exact ⟨ret_bool (by rw [H.out]; simp), rfl⟩
  have z2 : ((b : Int) == 95) = false := by simp; omega
  by_cases c3 : b = 46
  · subst c3
    go_enter Tryz.func156, Tryz.ntmps156
    go_wp2_with fail
    go_ret
    exact ⟨ret_bool (by rw [H.out]; simp), rfl⟩
  have z3 : ((b : Int) == 46) = false := by simp; omega
  by_cases c4 : b = 58
  · subst c4
    go_enter Tryz.func156, Tryz.ntmps156
    go_wp2_with fail
    go_ret
    exact ⟨ret_bool (by rw [H.out]; simp), rfl⟩
  have z4 : ((b : Int) == 58) = false := by simp; omega
  have H2 : Hid (r = (l || (decide (48 ≤ b) && decide (b ≤ 57)))) := Lib.hid (by
    have b1 : (b == 45) = false := by simpa using c1
    have b2 : (b == 95) = false := by simpa using c2
    have b3 : (b == 46) = false := by simpa using c3
    have b4 : (b == 58) = false := by simpa using c4
    rw [H.out, b1, b2, b3, b4]; simp only [Bool.or_false])
  clear c1 c2 c3 c4
  cases l
  · by_cases h1 : 48 ≤ b
    all_goals
      go_enter Tryz.func156, Tryz.ntmps156
      go_wp2_with fail
      refine (HL.out _).mono ?_
      rintro e w1 ⟨rfl, rfl⟩
      go_wp2
      go_ret
      exact ⟨ret_bool (by rw [H2.out]; first | rfl | (simp [show ¬ 48 ≤ b by omega]; done) | (rw [Bool.eq_iff_iff, Bool.or_eq_true, Bool.and_eq_true]; simp only [decide_eq_true_eq, Bool.false_eq_true, false_or]; omega)), rfl⟩
  · go_enter Tryz.func156, Tryz.ntmps156
    go_wp2_with fail
    refine (HL.out _).mono ?_
    rintro e w1 ⟨rfl, rfl⟩
    go_wp2
    go_ret
    exact ⟨ret_bool (by rw [H2.out]; rfl), rfl⟩

set_option maxRecDepth 100000 in
set_option maxHeartbeats 2000000 in
theorem wordEnd_any (s : ByteArray) (i : Nat) (w : World) (hs : s.size < 9223372036854775807) : Calls Tryz.prog 97 #[.string s, .int .i64 i] w fun e w' => e = .returned (.int .i64 (wordAt s i)) ∧ w = w' := by
  have HW : Hid (wEnd s (s.size - i) i = wordAt s i) := Lib.hid rfl
  generalize wordAt s i = R at *
  go_enter Tryz.func97, Tryz.ntmps97
  go_wp2
  go_loop [1] (fun v => ∃ k f : Nat, v = .int .i64 k ∧ wEnd s f k = R ∧ s.size - k ≤ f) (fun v => s.size - (intOf v).toNat)
  case atStart => exact ⟨i, s.size - i, rfl, HW.out, Nat.le_refl _⟩
  case round =>
    obtain ⟨k, f, rfl, hR, hf⟩ := hrel
    have HR := Lib.hid hR
    clear hR
    by_cases hk : k < s.size
    · have hb := bt_lt s k
      have hbt := Lib.hid (get_bt s k hk)
      have hst := Lib.hid (wEnd_step s f k hk)
      have hsp := Lib.hid (wEnd_stop s f k)
      have HP : Hid (∀ W, Calls Tryz.prog 156 #[.int .u8 s[k].toNat] W fun e w' => e = .returned (.bool (partN (bt s k))) ∧ W = w') := Lib.hid fun W => by rw [get_bt s k hk]; exact inName_any _ hb W
      generalize partN (bt s k) = p at *
      cases p
      · go_wp2_with fail
        refine (HP.out _).mono ?_
        rintro e w1 ⟨rfl, rfl⟩
        go_wp2
        go_ret
        exact ⟨ret_int (by rw [← HR.out, hsp.out (by simp)]), rfl⟩
      · go_wp2_with fail
        refine (HP.out _).mono ?_
        rintro e w1 ⟨rfl, rfl⟩
        go_wp2
        go_round
        case rel => exact ⟨k + 1, f - 1, by go_num, by rw [← HR.out, hst.out (by first | rfl | trivial) hf], by omega⟩
        case measure => simp [intOf]; omega
    · have hsp := Lib.hid (wEnd_stop s f k (by omega))
      go_wp2
      go_ret
      exact ⟨ret_int (by rw [← HR.out, hsp.out]), rfl⟩

set_option maxRecDepth 100000 in
set_option maxHeartbeats 2000000 in
theorem name_any (s : ByteArray) (w : World) (hs : s.size < 9223372036854775807) : Calls Tryz.prog 51 #[.string s] w fun e w' => e = .returned (.bool (nameB s)) ∧ w = w' := by
  have H : Hid (nameB s = (decide (1 ≤ s.size) && decide (s.size ≤ 60) && letterN (bt s 0) && (wordAt s 0 == s.size))) := Lib.hid rfl
  have HW := Lib.hid (wordEnd_any s 0)
  generalize nameB s = R at *
  by_cases h0 : s.size = 0
  · have z0 : ((s.size : Int) == 0) = true := by rw [h0]; rfl
    have hR : Hid (R = false) := Lib.hid (by rw [H.out, h0]; rfl)
    clear h0
    go_enter Tryz.func51, Tryz.ntmps51
    go_wp2_with fail
    go_ret
    exact ⟨ret_bool hR.out.symm, rfl⟩
  have hp : 0 < s.size := by omega
  have z0 : ((s.size : Int) == 0) = false := by rw [beq_eq_false_iff_ne]; omega
  clear h0
  by_cases h1 : 60 < s.size
  · have hR : Hid (R = false) := Lib.hid (by rw [H.out, show decide (s.size ≤ 60) = false by simpa using h1]; simp)
    go_enter Tryz.func51, Tryz.ntmps51
    go_wp2_with fail
    go_ret
    exact ⟨ret_bool hR.out.symm, rfl⟩
  have hb := bt_lt s 0
  have HL : Hid (∀ W, Calls Tryz.prog 96 #[.int .u8 s[0].toNat] W fun e w' => e = .returned (.bool (letterN (bt s 0))) ∧ W = w') := Lib.hid fun W => by rw [get_bt s 0 hp]; exact aletter_any _ hb W
  have H2 : Hid (R = (letterN (bt s 0) && (wordAt s 0 == s.size))) := Lib.hid (by rw [H.out]; simp [show 1 ≤ s.size by omega, show s.size ≤ 60 by omega])
  have d1 : decide (60 < s.size) = false := by simpa using h1
  generalize letterN (bt s 0) = l at *
  generalize wordAt s 0 = e0 at *
  cases l
  · go_enter Tryz.func51, Tryz.ntmps51
    go_wp2_with fail
    refine (HL.out _).mono ?_
    rintro e w1 ⟨rfl, rfl⟩
    go_wp2_with fail
    go_ret
    exact ⟨ret_bool (by rw [H2.out]; rfl), rfl⟩
  · go_enter Tryz.func51, Tryz.ntmps51
    go_wp2_with fail
    refine (HL.out _).mono ?_
    rintro e w1 ⟨rfl, rfl⟩
    go_wp2_with fail
    refine (HW.out _ hs).mono ?_
    rintro e w1 ⟨rfl, rfl⟩
    go_wp2
    go_ret
    exact ⟨ret_bool (by rw [H2.out, Bool.eq_iff_iff]; simp; try omega), rfl⟩

end Go.Proofs.YtpoafhgbhnblmaaGreatDoor
namespace Go.Pub
/-- The first byte of a kind, or the end. -/
def firstN (s : ByteArray) (p : Nat → Bool) : Nat := (bytesL s).findIdx fun b => p b.toNat
theorem bytesL_at (s : ByteArray) (k : Nat) (h : k < s.size) : (bytesL s)[k]? = some (s.get! k) := by
  have := sfx_cons s k h
  unfold sfx at this
  rw [← List.head?_drop, this]; rfl
theorem firstN_eq (s : ByteArray) (p : Nat → Bool) (k : Nat) (h : k ≤ s.size) (h1 : ∀ j, j < k → p (bt s j) = false) (h2 : k < s.size → p (bt s k) = true) : firstN s p = k := by
  unfold firstN
  rcases Nat.lt_or_ge k s.size with hk | hk
  · have hkl : k < (bytesL s).length := by rw [bytesL_length]; exact hk
    rw [List.findIdx_eq hkl]
    have hat : ∀ j (hj : j < (bytesL s).length), (bytesL s)[j] = s.get! j := fun j hj => by
      have := bytesL_at s j (by rw [bytesL_length] at hj; exact hj)
      rw [List.getElem?_eq_getElem hj] at this
      injection this
    refine ⟨by rw [hat k hkl]; exact h2 hk, fun j hj => ?_⟩
    rw [hat j (by omega)]
    exact h1 j hj
  · have hke : k = (bytesL s).length := by rw [bytesL_length]; omega
    rw [hke, List.findIdx_eq_length]
    intro b hb
    obtain ⟨j, hj, rfl⟩ := List.mem_iff_getElem.1 hb
    have := bytesL_at s j (by rw [bytesL_length] at hj; exact hj)
    rw [List.getElem?_eq_getElem hj] at this
    injection this with this
    rw [this]
    exact h1 j (by omega)
theorem firstN_le (s : ByteArray) (p : Nat → Bool) : firstN s p ≤ s.size := by
  unfold firstN
  rw [← bytesL_length]
  exact List.findIdx_le_length
theorem range_pre' {k n : Nat} (h : k ≤ n) : List.range k <+: List.range n := by
  have := List.take_prefix k (List.range n)
  rw [List.take_range, Nat.min_eq_left h] at this
  exact this
theorem pre_range {l : List Nat} {n : Nat} (h : l <+: List.range n) : l = List.range l.length ∧ l.length ≤ n := by
  have h1 := h.length_le
  rw [List.length_range] at h1
  have := List.prefix_iff_eq_take.1 h
  rw [List.take_range, Nat.min_eq_left h1] at this
  exact ⟨this, h1⟩
theorem pre_snoc {l : List Nat} {x n : Nat} (h : l ++ [x] <+: List.range n) : l = List.range x ∧ x < n := by
  obtain ⟨h1, h2⟩ := pre_range h
  rw [List.length_append, List.length_singleton] at h1 h2
  rw [List.range_succ] at h1
  obtain ⟨h3, h4⟩ := List.append_inj' h1 rfl
  injection h4 with h4
  subst h4
  exact ⟨h3, by omega⟩
def lastF {n : Nat} (l : List (Fin n)) : Int := match l.getLast? with | some x => ((x.1 : Nat) : Int) | none => 0
theorem lastF_snoc {n : Nat} (l : List (Fin n)) (x : Fin n) : lastF (l ++ [x]) = ((x.1 : Nat) : Int) := by unfold lastF; rw [List.getLast?_concat]
end Go.Pub
namespace Go.Proofs.YtpoafhgbhnblmaaGreatDoor
open Go.RowKit Go.Pub Go.Shelf
attribute [local go_sem] Oper.semAt_some
theorem characters_any (s : ByteArray) (w : World) : Calls Tryz.prog 106 #[.string s] w fun e w' =>
    e = .returned (.func (.func 163) #[] #[.pointer (some ⟨w.heap.size, 0, none⟩)]) ∧ w' = w.alloc (.cells #[.string s] 9) := by
  go_enter Tryz.func106, Tryz.ntmps106
  go_wp2
  go_ret
  exact ⟨rfl, rfl⟩
set_option maxRecDepth 100000 in
set_option maxHeartbeats 2000000 in
theorem chars_stops (n : Nat) (hn : 1 ≤ n) (Bn : Nat) (s : ByteArray) (hs : s.size ≤ 1000000) (w : World) (hB : w.heap[Bn]? = some (.cells #[.string s] 9 (0, 0))) :
    SeqStopsK Fence.wide n Tryz.prog 163 #[.pointer (some ⟨Bn, 0, none⟩)] (fun x : Fin s.size => #[Value.int .i64 (x.1 : Nat), Value.int .u8 (bt s x.1)]) (KpB Bn) (fun ys => ys.map Fin.val = List.range s.size) (fun pre => pre.map Fin.val <+: List.range s.size) s.size w := fun l J Jx W hW _ _ hY h0 => by
  have hlt : Bn < w.heap.size := by
    rcases Nat.lt_or_ge Bn w.heap.size with h | h
    · exact h
    · rw [Array.getElem?_eq_none h] at hB; cases hB
  have hBW : W.heap[Bn]? = some (.cells #[.string s] 9 (0, 0)) := (hW.block Bn hlt).trans hB
  have hcW : W.cell? ⟨Bn, 0, none⟩ = some (.string s) := cell_of_row W Bn 0 _ _ _ hBW
  refine callsIn_of_wp Tryz.func163 rfl trivial ?_ rfl
  simp only [Tryz.ntmps163, List.size_toArray, List.length_cons, List.length_nil, Nat.reduceAdd, Nat.reduceSub, Array.replicate_succ, Array.replicate_zero, List.push_toArray, List.append_toArray, List.nil_append, List.cons_append]
  gi_wp2
  gi_loopw [6] (fun v6 wr => ∃ (i : Nat) (pre : List (Fin s.size)), v6 = .int .i64 i ∧ i ≤ s.size ∧ wr.heap[Bn]? = some (.cells #[.string s] 9 (0, 0)) ∧ Hid (pre.map Fin.val = List.range i) ∧ J pre wr)
    (fun v6 _ => s.size - (intOf v6).toNat)
  case atStart => exact ⟨0, [], rfl, by omega, hBW, Lib.hid rfl, h0⟩
  case round =>
    clear hcW hBW h0
    obtain ⟨i, pre, rfl, hi, hBr, HPre, hJs⟩ := hrel
    have hc : wr.cell? ⟨Bn, 0, none⟩ = some (.string s) := cell_of_row wr Bn 0 _ _ _ hBr
    have hpl : pre.length = i := by
      have := congrArg List.length HPre.out
      rwa [List.length_map, List.length_range] at this
    by_cases hlt2 : i < s.size
    · have hg := get_bt s i hlt2
      have HN : Hid ((pre ++ [(⟨i, hlt2⟩ : Fin s.size)]).map Fin.val = List.range (i + 1)) := Lib.hid (by rw [List.map_append, HPre.out, List.range_succ]; rfl)
      obtain ⟨fn, tmps, assign, body, hy, hR⟩ := hY pre ⟨i, hlt2⟩ wr hJs (by omega)
      clear hpl
      gi_wp2_with fail
      refine hR.mono ?_
      rintro e W3 (⟨rfl, hJ3, hk3⟩ | ⟨rfl, hJx3⟩)
      · have hB3 : W3.heap[Bn]? = some (.cells #[.string s] 9 (0, 0)) := hk3.trans hBr
        gi_wp2_with fail
        go_roundw
        case rel => exact ⟨i + 1, _, by go_num, by omega, hB3, HN, hJ3⟩
        case measure => simp [intOf]; omega
      · gi_wp2_with fail
        refine bodyPost_ret (results_none rfl _ _ _) rfl ?_
        exact ⟨⟨_, rfl⟩, .inr ⟨_, by rw [HN.out]; exact range_pre' (by omega), hJx3⟩⟩
    · obtain rfl : i = s.size := by omega
      gi_wp2_with fail
      go_end0
      exact ⟨⟨_, rfl⟩, .inl ⟨_, HPre.out, hJs⟩⟩

set_option maxRecDepth 100000 in
set_option maxHeartbeats 4000000 in
theorem m_run (s : ByteArray) (c : Nat) (hc : c < 256) (w : World) (hs : s.size ≤ 1000000) : Calls Tryz.prog 102 #[.string s, .int .u8 c] w fun e w' => e = .returned (.int .i64 (firstN s (· != c))) ∧ Below w.heap.size w w' := by
  have HP := Lib.hid fun W => characters_any s W
  refine (callsIn_wide (n := 5)).1 ?_
  refine callsIn_of_wp_marks Tryz.func102 rfl trivial ?_ rfl
  simp only [Tryz.ntmps102, List.size_toArray, List.length_cons, List.length_nil, Nat.reduceAdd, Nat.reduceSub, Array.replicate_succ, Array.replicate_zero, List.push_toArray, List.append_toArray, List.nil_append, List.cons_append]
  gi_wp2_with fail
  refine ⟨trivial, ?_⟩
  ((with_reducible refine (callsIn_wide.2 (HP.out _)).mono ?_))
  rintro e w' ⟨rfl, rfl⟩
  gi_wp2_with fail
  have bC := Boxed.new w 5 (.int .u8 c)
  have bR := Boxed.new (w.alloc (.cells #[.int .u8 c] 5)) 3 (.int .i64 0)
  rw [World.size_alloc] at bR
  have bS := Boxed.new ((w.alloc (.cells #[.int .u8 c] 5)).alloc (.cells #[.int .i64 0] 3)) 9 (.string s)
  rw [World.size_alloc, World.size_alloc] at bS
  have hB0 : Below w.heap.size w (((w.alloc (.cells #[.int .u8 c] 5)).alloc (.cells #[.int .i64 0] 3)).alloc (.cells #[.string s] 9)) := (((Below.refl _ w).alloc (Nat.le_refl _) _).alloc (by simp) _).alloc (by simp; omega) _
  have bC' := (bC.alloc (.cells #[.int .i64 0] 3)).alloc (.cells #[.string s] 9)
  have bR' := bR.alloc (.cells #[.string s] 9)
  have hzW : (((w.alloc (.cells #[.int .u8 c] 5)).alloc (.cells #[.int .i64 0] 3)).alloc (.cells #[.string s] 9)).heap.size = w.heap.size + 3 := by simp
  generalize (((w.alloc (.cells #[.int .u8 c] 5)).alloc (.cells #[.int .i64 0] 3)).alloc (.cells #[.string s] 9)) = W0 at *
  clear bC bR
  refine wpIn_rangeFunc_ownG rfl (by omega) (gf := 163) (lb := #[.pointer (some ⟨w.heap.size + 1 + 1, 0, none⟩)]) rfl trivial (enters_of Tryz.func163 (by kernel_rfl) rfl)
    (chars_stops 4 (by omega) (w.heap.size + 1 + 1) s hs _ bS) (Kp := KpB (w.heap.size + 1 + 1)) (fun h1 h2 => h2.trans h1) (fun W l o o' hl ho hc _ => World.putObj_heap_other (fun e => by omega)) (Below.refl _ _) (fun _ => rfl)
    (fun (pre : List (Fin s.size)) W => (Boxed W w.heap.size 5 (.int .u8 c) ∧ Boxed W (w.heap.size + 1 + 1) 9 (.string s)) ∧ Boxed W (w.heap.size + 1) 3 (.int .i64 0) ∧ (∀ j ∈ pre, bt s j.1 = c) ∧ Below w.heap.size w W)
    (fun q (pre : List (Fin s.size)) W => (q = Code.ret ∧ ∃ pr x, pre = pr ++ [x] ∧ (∀ j ∈ pr, bt s j.1 = c) ∧ bt s x.1 ≠ c) ∧ Boxed W (w.heap.size + 1) 3 (.int .i64 (lastF pre)) ∧ Below w.heap.size w W)
    (OwnFrom.and (OwnFrom.and (Own.from (boxed_own _ _ (fun _ => .int .u8 c)) _) (Own.from (boxed_own _ _ (fun _ => .string s)) _)) (OwnFrom.and (Own.from (boxed_own _ _ (fun _ => .int .i64 0)) _) (OwnFrom.and (ownFrom_pure _ _) (ownFrom_below (Nat.le_refl _) (by omega)))))
    (fun q => OwnFrom.and (ownFrom_pure _ _) (OwnFrom.and (Own.from (boxed_own _ _ (fun pre => .int .i64 (lastF pre))) _) (ownFrom_below (Nat.le_refl _) (by omega))))
    ⟨⟨bC', bS⟩, bR', fun j h => absurd h (by simp), hB0⟩
    (fun (x : Fin s.size) => { tmps := #[.string s, .int .u8 c, undef, .pointer (some ⟨w.heap.size, 0, none⟩), .pointer (some ⟨w.heap.size + 1, 0, none⟩), .int .i64 (x.1 : Nat), .int .u8 (bt s x.1), .string s, .func (.func 163) #[] #[.pointer (some ⟨w.heap.size + 1 + 1, 0, none⟩)], .int .i64 (x.1 : Nat), .int .u8 (bt s x.1), undef, undef, undef, undef, undef, undef], defers := [] }) ?assign ?body ?done ?stop
  case assign =>
    intro l x W K hK
    gi_wp2_with fail
    exact hK
  case body =>
    rintro l pre x W ⟨⟨hC, hsB⟩, hR, hg, hB⟩ hlt
    have HG := Lib.hid hg
    clear hg
    have k1 := hC.cell
    have k2 := hR.cell
    have k3 := hR.frozen
    by_cases hx : bt s x.1 = c
    · have d1 : (((bt s x.1 : Nat) : Int) != (c : Int)) = false := by rw [hx]; simp
      have HN : Hid (∀ j ∈ pre ++ [x], bt s j.1 = c) := Lib.hid fun j hj => by
        rcases List.mem_append.1 hj with hj | hj
        · exact HG.out j hj
        · rw [List.mem_singleton] at hj; rw [hj]; exact hx
      clear hx
      gi_wp2_with fail
      exact ⟨(KeepsOthers.refl _).from _, rfl, ⟨hC, hsB⟩, hR, HN.out, hB⟩
    · have d1 : (((bt s x.1 : Nat) : Int) != (c : Int)) = true := by rw [bne_iff_ne]; omega
      have HX := Lib.hid hx
      clear hx
      gi_wp2_with fail
      exact ⟨(KeepsOthers.setCell _ _ _).from _, ⟨rfl, pre, x, rfl, HG.out, HX.out⟩, by rw [lastF_snoc]; exact hR.set _, hB.setCell (p := ⟨w.heap.size + 1, 0, none⟩) (by show w.heap.size ≤ w.heap.size + 1; omega) _⟩
  case done =>
    rintro D ys W hD hys ⟨⟨hC, hsB⟩, hR, hg, hB⟩ hK
    have HE : Hid (firstN s (· != c) = s.size) := Lib.hid (firstN_eq s _ _ (Nat.le_refl _) (fun j hj => by
      rw [bne_eq_false_iff_eq]
      have : j ∈ ys.map Fin.val := by rw [hys]; exact List.mem_range.2 hj
      obtain ⟨y, hy, rfl⟩ := List.mem_map.1 this
      exact hg y hy) (fun h => absurd h (by omega)))
    clear hg hys
    have k2 := hR.cell
    have k3 := hR.frozen
    have q1 := hR.set (.int .i64 s.size)
    have q3 : Below w.heap.size w (W.setCell ⟨w.heap.size + 1, 0, none⟩ (.int .i64 s.size)) := hB.setCell (p := ⟨w.heap.size + 1, 0, none⟩) (by show w.heap.size ≤ w.heap.size + 1; omega) _
    have hK' := (KeepsOthers.setCell W ⟨w.heap.size + 1, 0, none⟩ (.int .i64 s.size)).same D _ hK rfl
    gi_wp2_with fail
    refine ⟨by simp, .inl ⟨_, _, rfl, run_takeDeferred hK', ?_⟩⟩
    have c1 := cell_kept q1.cell (grownBy_putObj' _ D (.deferred none)) (fun r e => by cases e; exact ⟨_, hK', rfl⟩)
    refine ⟨.int .i64 s.size, by simp [results, Tryz.results102, go_sem, c1], ?_, q3.trans (belowK_b (w := w) (Nat.le_refl _) _ D _ _ (by omega) hK' rfl rfl)⟩
    rw [HE.out]
  case stop =>
    rintro D q pre W hD hpre ⟨⟨rfl, pr, x, rfl, hg, hx⟩, hR, hB⟩ hK
    rw [List.map_append] at hpre
    obtain ⟨hp1, hp2⟩ := pre_snoc hpre
    have HE : Hid (firstN s (· != c) = x.1) := Lib.hid (firstN_eq s _ _ (Nat.le_of_lt hp2) (fun j hj => by
      rw [bne_eq_false_iff_eq]
      have : j ∈ pr.map Fin.val := by rw [hp1]; exact List.mem_range.2 hj
      obtain ⟨y, hy, rfl⟩ := List.mem_map.1 this
      exact hg y hy) (fun _ => by rw [bne_iff_ne]; exact hx))
    rw [lastF_snoc] at hR
    clear hg hx hpre hp1
    gi_wp2_with fail
    refine ⟨by simp, .inl ⟨_, _, rfl, run_takeDeferred hK, ?_⟩⟩
    have c1 := cell_kept hR.cell (grownBy_putObj' _ D (.deferred none)) (fun r e => by cases e; exact ⟨_, hK, rfl⟩)
    refine ⟨.int .i64 x.1, by simp [results, Tryz.results102, go_sem, c1], ?_, hB.trans (belowK_b (w := w) (Nat.le_refl _) _ D _ _ (by omega) hK rfl rfl)⟩
    rw [HE.out]

end Go.Proofs.YtpoafhgbhnblmaaGreatDoor
