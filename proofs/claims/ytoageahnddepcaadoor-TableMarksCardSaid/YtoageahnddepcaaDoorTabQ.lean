/-
  The laws TableCells, TableAgain, walked.
-/
import Derived.Test.YtoageahnddepcaaDoorTabO
set_option linter.unusedVariables false
set_option linter.unusedSimpArgs false
namespace Go.Proofs.YtoageahnddepcaaDoor
open Go.RowKit Go.Pub

theorem quietL {P : Program} {f : FuncId} {args : Array Value} {w : World} {n : Nat} {v : Value}
    (h : Calls P f args (w.drewN n) fun e w' => e = .returned v ∧ w.drewN n = w') : Calls P f args (w.drewN n) fun e w' => e = .returned v ∧ ∃ n', w' = w.drewN n' :=
  h.mono fun e w' h => ⟨h.1, n, h.2.symm⟩

set_option maxRecDepth 100000 in
set_option maxHeartbeats 4000000 in
theorem lawCells_any (s : ByteArray) (m : Int) (w : World) (hs : s.size ≤ 9223372036854775807) (hm : w.cell? ⟨0, 0, none⟩ = some (.int .i64 m)) : Calls Tryd.prog 3 #[.string s] w fun e w' => e = .returned (.bool true) ∧ Below w.heap.size w w' := by
  have h0w : 0 < w.heap.size := World.block_lt_of_cell? _ _ hm
  have HM : Hid (∀ W, Below w.heap.size w W → W.cell? ⟨0, 0, none⟩ = some (.int .i64 m)) := Lib.hid fun W h => (h.cell (p := ⟨0, 0, none⟩) h0w).trans hm
  have HA : Hid (∀ W, Below w.heap.size w W → Calls Tryd.prog 11 #[] W fun e w' => e = .returned (.bool true) ∧ Below W.heap.size W w') := Lib.hid fun W h => awake_any m W (HM.out W h)
  clear hm
  by_cases h : 800 < s.size
  · have d1 : decide (800 < s.size) = true := decide_eq_true h
    go_enter Tryd.func3, Tryd.ntmps3
    go_wp2_with fail
    ((with_reducible refine (HA.out _ (Below.refl _ _)).mono ?_))
    rintro e w1 ⟨rfl, b1⟩
    go_wp2_with fail
    go_ret
    exact ⟨rfl, b1⟩
  have d1 : decide (800 < s.size) = false := decide_eq_false h
  have HC := Lib.hid fun W (hW : Below w.heap.size w W) => t_cellsP s m W (by omega) (HM.out W hW)
  have HR := Lib.hid fun W => r_cellsP s W (by omega)
  have HTr := Lib.hid (cellsB_trim (bytesL s))
  have hln : (cellsB (bytesL s)).length ≤ 801 := by rw [cellsB_len]; have := partsL_len (bytesL s); rw [bytesL_length] at this; omega
  have hpos : 1 ≤ (cellsB (bytesL s)).length := by rw [cellsB_len]; exact partsL_pos _
  have HZ := Lib.hid (cellsB_mem (bytesL s))
  rw [bytesL_length] at HZ
  unfold CellsPost at HC HR
  generalize cellsB (bytesL s) = zs at *
  have d2 : decide (1 ≤ zs.length) = true := decide_eq_true hpos
  have d3 : decide ((1 : Int) ≤ (zs.length : Int)) = true := decide_eq_true (by omega)
  go_enter Tryd.func3, Tryd.ntmps3
  go_wp2_with fail
  ((with_reducible refine (HC.out _ (Below.refl _ _)).mono ?_))
  rintro e w1 ⟨A, c, rfl, hown, b1⟩
  have HRd := Lib.hid (Reads.of_own hown)
  have B1 := Lib.hid b1
  have hz1 := b1.size
  clear hown b1
  go_wp2_with fail
  go_loopw [4] (fun v wr => ∃ k : Nat, v = .int .i64 k ∧ k ≤ zs.length ∧ Below w1.heap.size w1 wr) (fun v _ => zs.length - (intOf v).toNat)
  case atStart => exact ⟨0, rfl, by omega, Below.refl _ _⟩
  case round =>
    obtain ⟨k, rfl, hk, hbw⟩ := hrel
    by_cases hlt : k < zs.length
    · obtain ⟨b, off, rfl, hbB, hcell⟩ := reads_get HRd.out (by omega)
      have hc : wr.cell? ⟨b, off + k, none⟩ = some (.string zs[k]) := (hbw.cell (p := ⟨b, off + k, none⟩) hbB).trans (hcell k hlt)
      have HT := Lib.hid fun W => r_trim zs[k] W (by have := HZ.out zs[k] (List.getElem_mem hlt); omega)
      rw [HTr.out k hlt] at HT
      clear hcell
      generalize zs[k] = z at *
      have z1 : (z.toList != z.toList) = false := by simp
      have z2 : (z.toList == z.toList) = true := by simp
      go_wp2_with fail
      go_quiet ((go_at_call 13; exact quietL (HT.out _)))
      go_wp2
      go_roundw
      case rel => exact ⟨k + 1, by go_num, by omega, below_drewN hbw _⟩
      case measure => simp [intOf]; omega
    · have HBW := Lib.hid hbw
      have hzr := hbw.size
      clear hbw
      go_wp2_with fail
      ((with_reducible refine (HR.out _).mono ?_))
      rintro e w2 ⟨A', c', rfl, hown', b2⟩
      have R2 := Lib.hid (Reads.of_own hown')
      have hz2 := b2.size
      have B2 := Lib.hid (HBW.out.trans (b2.mono hzr))
      have R1 := Lib.hid ((HRd.out.below B2.out).more (show w1.heap.size ≤ w2.heap.size by omega))
      clear hown' b2
      go_wp2_with fail
      refine (texts_same zs A A' c c' w2.heap.size w2 R1.out R2.out (Nat.le_refl _) (by omega)).mono ?_
      rintro e w3 ⟨rfl, b3⟩
      have B3 := Lib.hid (B1.out.trans ((B2.out.trans (b3.mono (by omega))).mono hz1))
      clear b3
      go_wp2_with fail
      ((with_reducible refine (HA.out _ B3.out).mono ?_))
      rintro e w4 ⟨rfl, b4⟩
      go_wp2_with fail
      go_ret
      exact ⟨rfl, B3.out.trans (b4.mono B3.out.size)⟩

set_option maxRecDepth 100000 in
set_option maxHeartbeats 4000000 in
theorem lawAgain_any (s : ByteArray) (m : Int) (w : World) (hs : s.size ≤ 9223372036854775807) (hm : w.cell? ⟨0, 0, none⟩ = some (.int .i64 m)) : Calls Tryd.prog 8 #[.string s] w fun e w' => e = .returned (.bool true) ∧ Below w.heap.size w w' := by
  have h0w : 0 < w.heap.size := World.block_lt_of_cell? _ _ hm
  have HM : Hid (∀ W, Below w.heap.size w W → W.cell? ⟨0, 0, none⟩ = some (.int .i64 m)) := Lib.hid fun W h => (h.cell (p := ⟨0, 0, none⟩) h0w).trans hm
  have HA : Hid (∀ W, Below w.heap.size w W → Calls Tryd.prog 11 #[] W fun e w' => e = .returned (.bool true) ∧ Below W.heap.size W w') := Lib.hid fun W h => awake_any m W (HM.out W h)
  clear hm
  by_cases h : 800 < s.size
  · have d1 : decide (800 < s.size) = true := decide_eq_true h
    go_enter Tryd.func8, Tryd.ntmps8
    go_wp2_with fail
    ((with_reducible refine (HA.out _ (Below.refl _ _)).mono ?_))
    rintro e w1 ⟨rfl, b1⟩
    go_wp2_with fail
    go_ret
    exact ⟨rfl, b1⟩
  have d1 : decide (800 < s.size) = false := decide_eq_false h
  have HC := Lib.hid fun W (hW : Below w.heap.size w W) => t_cellsP s m W (by omega) (HM.out W hW)
  have HTr := Lib.hid (cellsB_trim (bytesL s))
  have hln : (cellsB (bytesL s)).length ≤ 801 := by rw [cellsB_len]; have := partsL_len (bytesL s); rw [bytesL_length] at this; omega
  have hpos : 1 ≤ (cellsB (bytesL s)).length := by rw [cellsB_len]; exact partsL_pos _
  have hsum := cells_sum (bytesL s)
  rw [bytesL_length] at hsum
  have HZ := Lib.hid (cellsB_mem (bytesL s))
  rw [bytesL_length] at HZ
  unfold CellsPost at HC
  generalize cellsB (bytesL s) = zs at *
  have HBk : Hid (cellsB (rowL zs) = zs) := Lib.hid (cells_row zs (fun e => by rw [e] at hpos; simp at hpos) (fun z hz => by
    obtain ⟨i, hi, rfl⟩ := List.mem_iff_getElem.1 hz
    exact HTr.out i hi))
  have hrl : (rowL zs).length ≤ 1000000 := by have := row_sum zs; omega
  have HC2 : Hid (∀ W, Below w.heap.size w W → Calls Tryd.prog 12 #[.string (mk (rowL zs))] W (SlPost zs W)) := Lib.hid fun W hW => by
    refine (t_cellsP (mk (rowL zs)) m W (by rw [mk_size]; exact hrl) (HM.out W hW)).mono ?_
    rintro e W' ⟨A, c, he, ho, hb⟩
    rw [bytesL_mk', HBk.out] at he ho
    exact SlPost.of rfl he ho hb
  have HRw := Lib.hid fun W A c B (hr : Reads W B 1 A zs.length (strs zs)) (hB : B ≤ W.heap.size) (hW : Below w.heap.size w W) => t_row zs A c B m W hr hB (by omega) (fun z hz => by have := HZ.out z hz; omega) (HM.out W hW)
  have d2 : decide (1 ≤ zs.length) = true := decide_eq_true hpos
  have d3 : decide ((1 : Int) ≤ (zs.length : Int)) = true := decide_eq_true (by omega)
  generalize mk (rowL zs) = Rw at *
  clear HBk hrl HTr HZ
  go_enter Tryd.func8, Tryd.ntmps8
  go_wp2_with fail
  ((with_reducible refine (HC.out _ (Below.refl _ _)).mono ?_))
  rintro e w1 ⟨A, c, rfl, hown, b1⟩
  have HRd := Lib.hid (Reads.of_own hown)
  have B1 := Lib.hid b1
  have hz1 := b1.size
  clear hown b1
  go_wp2_with fail
  ((with_reducible refine (HRw.out _ _ _ _ HRd.out (Nat.le_refl _) B1.out).mono ?_))
  rintro e w2 ⟨rfl, b2⟩
  have hz2 := b2.size
  have D2 := Lib.hid b2
  have B2 := Lib.hid (B1.out.trans (b2.mono hz1))
  clear b2
  go_wp2_with fail
  ((with_reducible refine (HC2.out _ B2.out).mono ?_))
  rintro e w3 ⟨A', c', rfl, hr3, b3⟩
  have hz3 := b3.size
  have R3 := Lib.hid hr3
  have R1 := Lib.hid ((HRd.out.below (D2.out.trans (b3.mono hz2))).more (show w1.heap.size ≤ w3.heap.size by omega))
  have B3 := Lib.hid (B2.out.trans (b3.mono (by omega)))
  clear b3 hr3
  go_wp2_with fail
  refine (texts_same zs A' A c' c w3.heap.size w3 R3.out R1.out (Nat.le_refl _) (by omega)).mono ?_
  rintro e w4 ⟨rfl, b4⟩
  have B4 := Lib.hid (B3.out.trans (b4.mono B3.out.size))
  clear b4
  go_wp2_with fail
  ((with_reducible refine (HA.out _ B4.out).mono ?_))
  rintro e w5 ⟨rfl, b5⟩
  go_wp2_with fail
  go_ret
  exact ⟨rfl, B4.out.trans (b5.mono B4.out.size)⟩
end Go.Proofs.YtoageahnddepcaaDoor
