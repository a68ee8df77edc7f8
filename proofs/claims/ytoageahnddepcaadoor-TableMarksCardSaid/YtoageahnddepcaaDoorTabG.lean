/-
  table.Row and the reference's.
-/
import Derived.Test.YtoageahnddepcaaDoorTabF
import Derived.Test.YtoageahnddepcaaDoorStrs
import Derived.Test.YtoageahnddepcaaDoorBuild
set_option linter.unusedVariables false
set_option linter.unusedSimpArgs false
namespace Go.Pub
open Go.RowKit
def row1 (z : ByteArray) : List UInt8 := 32 :: (barL (bytesL z) ++ [32, 124])
/-- The line of cells. -/
def rowL (zs : List ByteArray) : List UInt8 := 124 :: zs.flatMap row1
theorem barL_len (l : List UInt8) : (barL l).length ≤ 2 * l.length := by
  induction l with
  | nil => simp [barL]
  | cons c l ih =>
    rw [barL_cons, List.length_append, List.length_cons]
    have : (if c = 124 then ([92, 124] : List UInt8) else [c]).length ≤ 2 := by split <;> simp
    omega
theorem row1_len (z : ByteArray) : (row1 z).length ≤ 2 * z.size + 3 := by
  unfold row1
  have := barL_len (bytesL z)
  rw [bytesL_length] at this
  simp; omega
theorem row_take (zs : List ByteArray) (k : Nat) (h : k < zs.length) : rowL (zs.take (k + 1)) = rowL (zs.take k) ++ row1 zs[k] := by
  unfold rowL
  rw [List.take_succ_eq_append_getElem h, List.flatMap_append]
  simp
theorem row_len (zs : List ByteArray) (M : Nat) (hM : ∀ z ∈ zs, z.size ≤ M) : ∀ k, (rowL (zs.take k)).length ≤ 1 + k * (2 * M + 3) := by
  intro k
  induction k with
  | zero => simp [rowL]
  | succ k ih =>
    by_cases h : k < zs.length
    · rw [row_take zs k h, List.length_append]
      have h1 := row1_len zs[k]
      have h2 := hM zs[k] (List.getElem_mem h)
      rw [Nat.succ_mul]
      omega
    · rw [List.take_of_length_le (by omega)] at ih ⊢
      rw [Nat.succ_mul]; omega
theorem count1_le (l : List UInt8) : Lib.count l [124] ≤ l.length := by
  have h := Lib.countB_mul_le (mk [124]) (by decide) (mk l).size (mk l) (Nat.le_refl _)
  unfold Lib.countB at h
  have e1 : (mk l).data.toList = l := bytesL_mk' l
  have e2 : (mk [124]).data.toList = [124] := bytesL_mk' _
  rw [e1, e2, mk_size, mk_size] at h
  rw [show ([124] : List UInt8).length = 1 from rfl] at h
  omega
theorem bar_step (s : ByteArray) (k : Nat) (h : k < s.size) : barL (sfx s k) = (if bt s k = 124 then [92] else []) ++ s.get! k :: barL (sfx s (k + 1)) := by
  rw [sfx_cons s k h, barL_cons]
  by_cases hc : bt s k = 124
  · rw [if_pos hc, (bt_u8 s k 124 (by decide)).2 hc]; rfl
  · rw [if_neg hc, if_neg (show ¬ s.get! k = 124 from fun e => hc ((bt_u8 s k 124 (by decide)).1 e))]; rfl
end Go.Pub
namespace Go.Proofs.YtoageahnddepcaaDoor
open Go.RowKit Go.Pub

theorem replb_any (s : ByteArray) (m : Int) (w : World) (hs : s.size ≤ 1000000) (hm : w.cell? ⟨0, 0, none⟩ = some (.int .i64 m)) :
    Calls Tryd.prog 27 #[.string s, .string ⟨#[124]⟩, .string ⟨#[92, 124]⟩] w fun e w' => e = .returned (.string (mk (barL (bytesL s)))) ∧ Below w.heap.size w w' := by
  have hc := count1_le (bytesL s)
  rw [bytesL_length] at hc
  have h := Tryd.strings_ReplaceAll s ⟨#[124]⟩ ⟨#[92, 124]⟩ m w (by omega) hm (by decide) (by
    show s.size + Lib.count (bytesL s) [124] * 2 ≤ _
    omega)
  refine h.mono ?_
  rintro e w' ⟨rfl, hb⟩
  refine ⟨?_, hb⟩
  have e1 : Lib.replaceAll (bytesL s) [124] [92, 124] = barL (bytesL s) := by
    unfold Lib.replaceAll Lib.replace Lib.replaceNum
    rw [if_neg (by decide), if_pos (by omega)]
    exact repl_bar _ _ (Nat.le_refl _)
  show Ending.returned (.string ⟨(Lib.replaceAll (bytesL s) [124] [92, 124]).toArray⟩) = _
  rw [e1]; rfl

def RowRel (zs : List ByteArray) (w : World) (i : Value) (wr : World) : Prop :=
  ∃ (k : Nat) (acc : List UInt8), i = .int .i64 k ∧ k ≤ zs.length ∧ Lib.IsBuilderF 46 5 w.heap.size w.heap.size (Lib.byteCells acc) wr ∧ Below w.heap.size w wr ∧ Hid (acc = rowL (zs.take k)) ∧ w.heap.size < wr.heap.size

set_option maxRecDepth 100000 in
set_option maxHeartbeats 4000000 in
theorem t_row (zs : List ByteArray) (A : Option Addr) (c B : Nat) (m : Int) (w : World) (hr : Reads w B 1 A zs.length (strs zs)) (hB : B ≤ w.heap.size) (hl : zs.length ≤ 10000) (hM : ∀ z ∈ zs, z.size ≤ 100000) (hm : w.cell? ⟨0, 0, none⟩ = some (.int .i64 m)) :
    Calls Tryd.prog 21 #[.slice A zs.length c] w fun e w' => e = .returned (.string (mk (rowL zs))) ∧ Below w.heap.size w w' := by
  have h0w : 0 < w.heap.size := World.block_lt_of_cell? _ _ hm
  have HX : Hid (rowL zs = rowL (zs.take zs.length)) := Lib.hid (by rw [List.take_length])
  have HL := Lib.hid (row_len zs 100000 hM)
  have HM := Lib.hid hM
  have HRd := Lib.hid hr
  generalize rowL zs = R at *
  clear hr hM
  go_enter Tryd.func21, Tryd.ntmps21
  go_wp2_with fail
  refine (writeByte_k w.heap.size w.heap.size [] 124 _ (Lib.IsBuilderF.of (Lib.fresh_isBuilder 46 5 w)) (by simp) (by simp)).mono ?_
  rintro e W1 ⟨rfl, h1, b1, _⟩
  have hz1 := b1.size
  have HB1 := Lib.hid (((Below.refl w.heap.size w).alloc (Nat.le_refl _) _).trans b1)
  have HI1 : Hid (Lib.IsBuilderF 46 5 w.heap.size w.heap.size (Lib.byteCells [124]) W1) := Lib.hid (Or.inr h1)
  simp at hz1
  clear b1 h1
  go_wp2_with fail
  go_loopw [9] (fun v wr => RowRel zs w v wr) (fun v _ => zs.length - (intOf v).toNat)
  case atStart => exact ⟨0, [124], rfl, by omega, HI1.out, HB1.out, Lib.hid rfl, by omega⟩
  case round =>
    clear HB1 HI1 hz1
    obtain ⟨k, acc, rfl, hk, hI, hbw, Hacc, hsz⟩ := hrel
    have hal : acc.length ≤ 1 + k * 200003 := by rw [Hacc.out]; exact HL.out k
    by_cases hlt : k < zs.length
    · obtain ⟨b, off, rfl, hbB, hcell⟩ := reads_get HRd.out (by omega)
      have hc : wr.cell? ⟨b, off + k, none⟩ = some (.string zs[k]) := (hbw.cell (p := ⟨b, off + k, none⟩) (by show b < _; omega)).trans (hcell k hlt)
      have hst := Lib.hid (row_take zs k hlt)
      have hzk := HM.out zs[k] (List.getElem_mem hlt)
      have hmr : wr.cell? ⟨0, 0, none⟩ = some (.int .i64 m) := (hbw.cell (p := ⟨0, 0, none⟩) h0w).trans hm
      have HR := Lib.hid (replb_any zs[k] m wr (by omega) hmr)
      have hbl : (mk (barL (bytesL zs[k]))).size ≤ 200000 := by rw [mk_size]; have := barL_len (bytesL zs[k]); rw [bytesL_length] at this; omega
      have HE : Hid (row1 zs[k] = 32 :: (barL (bytesL zs[k]) ++ [32, 124])) := Lib.hid rfl
      have hkm : k * 200003 ≤ 10000 * 200003 := Nat.mul_le_mul_right _ (by omega)
      have cat1 : ∀ w : World, (Op.stringOp .add ⟨#[32]⟩ (mk (barL (bytesL zs[k])))).run Tryd.prog w = .ok (.string (mk (32 :: barL (bytesL zs[k])))) w := fun w => by
        rw [run_string_add_sum w _ _ (by show 1 + _ ≤ _; omega)]
        show Result.ok (Value.string (mk [32] ++ mk _)) w = _
        rw [mk_app]; rfl
      have cat2 : ∀ w : World, (Op.stringOp .add (mk (32 :: barL (bytesL zs[k]))) ⟨#[32, 124]⟩).run Tryd.prog w = .ok (.string (mk (row1 zs[k]))) w := fun w => by
        rw [run_string_add_sum w _ _ (by rw [mk_size] at hbl ⊢; show _ + 2 ≤ _; simp; omega)]
        show Result.ok (Value.string (mk _ ++ mk [32, 124])) w = _
        rw [mk_app]; rfl
      have hrl : (mk (row1 zs[k])).size ≤ 200003 := by rw [mk_size]; have := row1_len zs[k]; omega
      have HS : Hid (Lib.strCells (mk (row1 zs[k])) = Lib.byteCells (row1 zs[k])) := Lib.hid (by rw [Lib.strCells_eq]; exact congrArg Lib.byteCells (bytesL_mk' _))
      generalize mk (barL (bytesL zs[k])) = Y at *
      generalize mk (32 :: barL (bytesL zs[k])) = Y2 at *
      clear hcell
      go_wp2_with fail
      ((with_reducible refine (HR.out).mono ?_))
      rintro e w1 ⟨rfl, b1⟩
      have hI1 := builder_below hI b1
      have hz1 := b1.size
      go_wp2_with fail
      refine (writeString_k w.heap.size w.heap.size _ (mk (row1 zs[k])) _ hI1 (by rw [Lib.byteCells_length]; omega) (by omega)).mono ?_
      rintro e W1 ⟨rfl, h1, b2, _⟩
      have hz2 := b2.size
      rw [HS.out, ← Lib.byteCells_append] at h1
      go_wp2_with fail
      go_roundw
      case rel =>
        exact ⟨k + 1, acc ++ row1 zs[k], by go_num, by omega, Or.inr h1, (hbw.trans (b1.mono (by omega))).trans b2, Lib.hid (by rw [hst.out, Hacc.out]), by omega⟩
      case measure => simp [intOf]; omega
    · have HF : Hid (acc = R) := Lib.hid (by rw [Hacc.out, HX.out, show k = zs.length by omega])
      go_wp2_with fail
      refine (Tryd.Builder_String_any_k w.heap.size w.heap.size acc _ hI (by omega)).mono ?_
      rintro e W1 ⟨rfl, h1, b1, _⟩
      go_wp2_with fail
      go_ret
      exact ⟨ret_str (by rw [HF.out]; rfl), hbw.trans b1⟩
end Go.Proofs.YtoageahnddepcaaDoor
