/-
  table.Head and the reference's; the examples of chapter 6.
-/
import Derived.Test.YtoageahnddepcaaDoorTabK
set_option linter.unusedVariables false
set_option linter.unusedSimpArgs false
namespace Go.Pub
open Go.RowKit
/-- Whether two lines begin a table. -/
def headB (a b : List UInt8) : Bool := match alignR b with | none => false | some r => (cellsB a).length == r.length
theorem reads_block {w : World} {g : Nat} {t : TypeId} {zs : List ByteArray} (h : w.heap[g]? = some (.cells (strs zs).toArray t (0, 0))) : Reads w (g + 1) 1 (some ⟨g, 0, none⟩) zs.length (strs zs) := by
  refine ⟨by rw [strs_len]; omega, fun hn => ⟨_, rfl, by show g < g + 1; omega, fun j u hj => ?_⟩⟩
  have := cell_of_row w g j _ t (0, 0) h
  unfold Addr.add
  by_cases h0 : j = 0
  · subst h0; rw [if_pos rfl, this]; simpa using hj
  · rw [if_neg h0]
    show w.cell? ⟨g, 0 + j, none⟩ = _
    rw [Nat.zero_add, this]; simpa using hj
theorem alnR_len {l r : List UInt8} (h : alignR l = some r) : r.length ≤ 32 := by
  unfold alignR at h
  split at h
  · unfold alnL at h
    split at h
    · rename_i hh
      simp only [Option.some.injEq] at h
      subst h
      have hg : ∀ p ∈ partsL l, letP p ≠ [] := fun p hp e => by
        have := List.all_eq_true.1 hh.2 p hp
        rw [e] at this
        cases this
      rw [flat_len _ hg]; exact hh.1
    · simp at h
  · simp at h
end Go.Pub
namespace Go.Proofs.YtoageahnddepcaaDoor
open Go.RowKit Go.Pub

set_option maxRecDepth 100000 in
set_option maxHeartbeats 1000000 in
theorem t_head (a b : ByteArray) (m : Int) (w : World) (ha : a.size ≤ 1000000) (hb : b.size ≤ 1000000) (hm : w.cell? ⟨0, 0, none⟩ = some (.int .i64 m)) :
    Calls Tryd.prog 18 #[.string a, .string b] w fun e w' => e = .returned (.bool (headB (bytesL a) (bytesL b))) ∧ Below w.heap.size w w' := by
  have h0w : 0 < w.heap.size := World.block_lt_of_cell? _ _ hm
  have HA := Lib.hid fun W => t_align b W hb
  have HC := Lib.hid fun W (h : W.cell? ⟨0, 0, none⟩ = some (.int .i64 m)) => t_cellsP a m W ha h
  have HX : Hid (headB (bytesL a) (bytesL b) = match alignR (bytesL b) with | none => false | some r => (cellsB (bytesL a)).length == r.length) := Lib.hid rfl
  have hcl : (cellsB (bytesL a)).length ≤ 1000001 := by rw [cellsB_len]; have := partsL_len (bytesL a); rw [bytesL_length] at this; omega
  have HL : Hid (∀ r, alignR (bytesL b) = some r → r.length ≤ 32) := Lib.hid fun r h => alnR_len h
  unfold CellsPost at HC
  generalize headB (bytesL a) (bytesL b) = R at *
  generalize cellsB (bytesL a) = zs at *
  generalize alignR (bytesL b) = D at *
  cases D with
  | none =>
    have HF : Hid (R = false) := Lib.hid HX.out
    go_enter Tryd.func18, Tryd.ntmps18
    go_wp2_with fail
    ((with_reducible refine (HA.out _).mono ?_))
    rintro e w1 ⟨he, b1⟩
    dsimp only [alnVal] at he
    subst he
    go_wp2_with fail
    go_ret
    exact ⟨ret_bool HF.out.symm, b1⟩
  | some r =>
    have hrl := HL.out r rfl
    have HF : Hid (R = ((zs.length : Int) == ((mk r).size : Int))) := Lib.hid (by
      rw [HX.out, mk_size, Bool.eq_iff_iff]; simp only [beq_iff_eq]; omega)
    have hms : (mk r).size ≤ 32 := by rw [mk_size]; exact hrl
    go_enter Tryd.func18, Tryd.ntmps18
    go_wp2_with fail
    ((with_reducible refine (HA.out _).mono ?_))
    rintro e w1 ⟨he, b1⟩
    dsimp only [alnVal] at he
    subst he
    have hm1 : w1.cell? ⟨0, 0, none⟩ = some (.int .i64 m) := (b1.cell (p := ⟨0, 0, none⟩) h0w).trans hm
    have hz1 := b1.size
    go_wp2_with fail
    ((with_reducible refine (HC.out _ hm1).mono ?_))
    rintro e w2 ⟨A, c, rfl, hown, b2⟩
    clear hown
    go_wp2_with fail
    go_ret
    exact ⟨ret_bool HF.out.symm, b1.trans (b2.mono hz1)⟩

set_option maxRecDepth 100000 in
set_option maxHeartbeats 1000000 in
theorem r_head (a b : ByteArray) (w : World) (ha : a.size ≤ 1000000) (hb : b.size ≤ 1000000) :
    Calls Tryd.prog 19 #[.string a, .string b] w fun e w' => e = .returned (.bool (headB (bytesL a) (bytesL b))) ∧ Below w.heap.size w w' := by
  have HA := Lib.hid fun W => r_align b W hb
  have HC := Lib.hid fun W => r_cellsP a W ha
  have HX : Hid (headB (bytesL a) (bytesL b) = match alignR (bytesL b) with | none => false | some r => (cellsB (bytesL a)).length == r.length) := Lib.hid rfl
  have hcl : (cellsB (bytesL a)).length ≤ 1000001 := by rw [cellsB_len]; have := partsL_len (bytesL a); rw [bytesL_length] at this; omega
  have HL : Hid (∀ r, alignR (bytesL b) = some r → r.length ≤ 32) := Lib.hid fun r h => alnR_len h
  unfold CellsPost at HC
  generalize headB (bytesL a) (bytesL b) = R at *
  generalize cellsB (bytesL a) = zs at *
  generalize alignR (bytesL b) = D at *
  cases D with
  | none =>
    have HF : Hid (R = false) := Lib.hid HX.out
    go_enter Tryd.func19, Tryd.ntmps19
    go_wp2_with fail
    ((with_reducible refine (HA.out _).mono ?_))
    rintro e w1 ⟨he, b1⟩
    dsimp only [alnVal] at he
    subst he
    go_wp2_with fail
    go_ret
    exact ⟨ret_bool HF.out.symm, b1⟩
  | some r =>
    have hrl := HL.out r rfl
    have HF : Hid (R = (((mk r).size : Int) == (zs.length : Int))) := Lib.hid (by
      rw [HX.out, mk_size, Bool.eq_iff_iff]; simp only [beq_iff_eq]; omega)
    have hms : (mk r).size ≤ 32 := by rw [mk_size]; exact hrl
    go_enter Tryd.func19, Tryd.ntmps19
    go_wp2_with fail
    ((with_reducible refine (HA.out _).mono ?_))
    rintro e w1 ⟨he, b1⟩
    dsimp only [alnVal] at he
    subst he
    have hz1 := b1.size
    go_wp2_with fail
    ((with_reducible refine (HC.out _).mono ?_))
    rintro e w2 ⟨A, c, rfl, hown, b2⟩
    clear hown
    go_wp2_with fail
    go_ret
    exact ⟨ret_bool HF.out.symm, b1.trans (b2.mono hz1)⟩

theorem ex_al1 : alignR (bytesL ⟨#[124, 58, 45, 124, 45, 45, 45, 124, 58, 45, 58, 124]⟩) = some [108, 45, 99] := by kernel_rfl
theorem ex_al2 : alignR (bytesL ⟨#[45, 45, 45]⟩) = none := by kernel_rfl
theorem ex_ce1 : cellsB (bytesL ⟨#[124, 32, 97, 32, 124, 32, 98, 32, 92, 124, 32, 99, 32, 124]⟩) = [⟨#[97]⟩, ⟨#[98, 32, 124, 32, 99]⟩] := by kernel_rfl
theorem ex_ce2 : cellsB (bytesL ⟨#[]⟩) = [⟨#[]⟩] := by kernel_rfl
theorem ex_hd : headB (bytesL ⟨#[97, 32, 124, 32, 98]⟩) (bytesL ⟨#[45, 45, 124, 45, 45]⟩) = true := by kernel_rfl
theorem ex_ro1 : rowL [⟨#[97]⟩, ⟨#[98, 124, 99]⟩] = [124, 32, 97, 32, 124, 32, 98, 92, 124, 99, 32, 124] := by kernel_rfl
theorem ex_ro2 : rowL [] = [124] := by kernel_rfl
theorem ex_fi : fitL [⟨#[97]⟩] (colN 2) = [⟨#[97]⟩, ⟨#[]⟩] := by kernel_rfl
end Go.Proofs.YtoageahnddepcaaDoor
