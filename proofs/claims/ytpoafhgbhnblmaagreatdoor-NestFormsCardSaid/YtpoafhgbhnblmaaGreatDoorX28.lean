/-
  Texts of the proof, put together (what this law reaches): NsC.
-/
import Derived.Test.YtpoafhgbhnblmaaGreatDoorX25
import Derived.Test.YtpoafhgbhnblmaaGreatDoorX14
import Derived.Test.YtpoafhgbhnblmaaGreatDoorX24
import Derived.Deep.CutRange
import Derived.Deep.DeepCutAuto
import Derived.Test.YtpoafhgbhnblmaaGreatDoorX09
import Derived.Test.YtpoafhgbhnblmaaGreatDoorX05
set_option linter.unusedVariables false
set_option linter.unusedSimpArgs false
namespace Go.Proofs.YtpoafhgbhnblmaaGreatDoor
open Go.RowKit Go.Pub
theorem joinN_take (zs : List ByteArray) (k : Nat) (h : k < zs.length) : joinN (zs.take (k + 1)) = joinN (zs.take k) ++ (bytesL zs[k] ++ [10]) := by
  unfold joinN
  rw [List.take_succ_eq_append_getElem h, List.flatMap_append]
  simp
theorem joinN_len (zs : List ByteArray) (M : Nat) (hM : ∀ z ∈ zs, z.size ≤ M) : ∀ k, (joinN (zs.take k)).length ≤ k * (M + 1) := by
  intro k
  induction k with
  | zero => simp [joinN]
  | succ k ih =>
    by_cases h : k < zs.length
    · rw [joinN_take zs k h, List.length_append, List.length_append, bytesL_length]
      have := hM zs[k] (List.getElem_mem h)
      have e : (k + 1) * (M + 1) = k * (M + 1) + (M + 1) := Nat.succ_mul _ _
      simp only [List.length_singleton]
      omega
    · rw [List.take_of_length_le (by omega)]
      rw [List.take_of_length_le (by omega)] at ih
      exact Nat.le_trans ih (Nat.mul_le_mul_right _ (by omega))
def JnRel (zs : List ByteArray) (w : World) (i : Value) (wr : World) : Prop :=
  ∃ (k : Nat) (acc : List UInt8), i = .int .i64 k ∧ k ≤ zs.length ∧ Lib.IsBuilderF 158 5 w.heap.size w.heap.size (Lib.byteCells acc) wr ∧ Below w.heap.size w wr ∧ Hid (acc = joinN (zs.take k)) ∧ w.heap.size < wr.heap.size
set_option maxRecDepth 100000 in
set_option maxHeartbeats 4000000 in
theorem l_join (zs : List ByteArray) (A : Option Addr) (c B : Nat) (w : World) (hr : Reads w B 1 A zs.length (strs zs)) (hB : B ≤ w.heap.size) (hl : zs.length ≤ 10000) (hM : ∀ z ∈ zs, z.size ≤ 100000) :
    Calls Tryz.prog 116 #[.slice A zs.length c] w fun e w' => e = .returned (.string (mk (joinN zs))) ∧ Below w.heap.size w w' := by
  have HX : Hid (joinN zs = joinN (zs.take zs.length)) := Lib.hid (by rw [List.take_length])
  have HL := Lib.hid (joinN_len zs 100000 hM)
  have HM := Lib.hid hM
  have HRd := Lib.hid hr
  have hI0 := Lib.hid (Lib.IsBuilderF.of (Lib.fresh_isBuilder 158 5 w))
  have hB0 : Hid (∀ x y z, Below w.heap.size w (w.alloc (.cells x y z))) := Lib.hid fun _ _ _ => (Below.refl _ w).alloc (Nat.le_refl _) _
  generalize joinN zs = R at *
  clear hr hM
  go_enter Tryz.func116, Tryz.ntmps116
  go_wp2_with fail
  go_loopw [8] (fun v wr => JnRel zs w v wr) (fun v _ => zs.length - (intOf v).toNat)
  case atStart => exact ⟨0, [], rfl, by omega, hI0.out, hB0.out _ _ _, Lib.hid rfl, by simp⟩
  case round =>
    clear hI0 hB0
    obtain ⟨k, acc, rfl, hk, hI, hbw, Hacc, hsz⟩ := hrel
    have hal : acc.length ≤ k * 100001 := by rw [Hacc.out]; exact HL.out k
    by_cases hlt : k < zs.length
    · obtain ⟨b, off, rfl, hbB, hcell⟩ := reads_get HRd.out (by omega)
      have hc : wr.cell? ⟨b, off + k, none⟩ = some (.string zs[k]) := (hbw.cell (p := ⟨b, off + k, none⟩) (by show b < _; omega)).trans (hcell k hlt)
      have hst := Lib.hid (joinN_take zs k hlt)
      have hzk := HM.out zs[k] (List.getElem_mem hlt)
      have hkm : k * 100001 ≤ 10000 * 100001 := Nat.mul_le_mul_right _ (by omega)
      have HS : Hid (Lib.strCells zs[k] = Lib.byteCells (bytesL zs[k])) := Lib.hid (by rw [Lib.strCells_eq]; rfl)
      have hzl := bytesL_length zs[k]
      generalize zs[k] = z at *
      clear hcell
      go_wp2_with fail
      refine (writeString_k w.heap.size w.heap.size _ z _ hI (by rw [Lib.byteCells_length]; omega) (by omega)).mono ?_
      rintro e W1 ⟨rfl, h1, b2, _⟩
      have hz2 := b2.size
      rw [HS.out, ← Lib.byteCells_append] at h1
      go_wp2_with fail
      refine (writeByte_k w.heap.size w.heap.size _ 10 _ (Or.inr h1) (by rw [Lib.byteCells_length, List.length_append, hzl]; omega) (by omega)).mono ?_
      rintro e W2 ⟨rfl, h2, b3, _⟩
      have hz3 := b3.size
      replace h2 : Lib.BuilderAtF 158 5 w.heap.size w.heap.size (Value.pointer (some { block := w.heap.size, off := 0 })) (Lib.byteCells (acc ++ bytesL z ++ [10])) W2 := by
        rw [Lib.byteCells_append]; exact h2
      go_wp2_with fail
      go_roundw
      case rel =>
        exact ⟨k + 1, acc ++ (bytesL z ++ [10]), by go_num, by omega, by rw [← List.append_assoc]; exact Or.inr h2, (hbw.trans b2).trans b3, Lib.hid (by rw [hst.out, Hacc.out]), by omega⟩
      case measure => simp [intOf]; omega
    · have HF : Hid (acc = R) := Lib.hid (by rw [Hacc.out, HX.out, show k = zs.length by omega])
      go_wp2_with fail
      refine (Tryz.Builder_String_any_k w.heap.size w.heap.size acc _ hI (by omega)).mono ?_
      rintro e W1 ⟨rfl, h1, b1, _⟩
      go_wp2_with fail
      go_ret
      exact ⟨by rw [← HF.out]; rfl, hbw.trans b1⟩

end Go.Proofs.YtpoafhgbhnblmaaGreatDoor
