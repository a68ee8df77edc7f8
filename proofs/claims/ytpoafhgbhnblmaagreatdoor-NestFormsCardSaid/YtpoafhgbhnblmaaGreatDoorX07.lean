/-
  Texts of the proof, put together (what this law reaches): RefE.
-/
import Derived.Test.YtpoafhgbhnblmaaGreatDoorX03
import Derived.Test.YtpoafhgbhnblmaaGreatDoorX05
set_option linter.unusedVariables false
set_option linter.unusedSimpArgs false
namespace Go.Pub
def intCells (l : List Int) : List Value := l.map (Value.int .i64)
theorem intCells_at (l : List Int) (k : Nat) (h : k < l.length) : (intCells l)[k]? = some (.int .i64 l[k]) := by simp [intCells, h]
theorem add_plain (g k : Nat) : (⟨g, 0, none⟩ : Addr).add k = ⟨g, k, none⟩ := by unfold Addr.add; split <;> simp_all
end Go.Pub
namespace Go.Proofs.YtpoafhgbhnblmaaGreatDoor
open Go.RowKit Go.Pub
set_option maxRecDepth 100000 in
set_option maxHeartbeats 400000 in
theorem rclean_any (c : Int) (w : World) : Calls Tryz.prog 29 #[.int .i64 c] w fun e w' => e = .returned (.bool (!uncleanB c)) ∧ w = w' := by
  have H : Hid ((!uncleanB c) = !((decide (c < 32) && c != 10) || c == 127)) := Lib.hid rfl
  generalize (!uncleanB c) = b at *
  by_cases h2 : c = 10
  · subst h2
    go_enter Tryz.func29, Tryz.ntmps29
    go_wp2
    go_ret
    exact ⟨ret_bool (by rw [H.out]; rfl), rfl⟩
  · have h3 : (c == 10) = false := by simpa using h2
    clear h2
    by_cases h : 32 ≤ c
    · go_enter Tryz.func29, Tryz.ntmps29
      go_wp2
      go_ret
      exact ⟨ret_bool (by rw [H.out]; simp [show ¬ c < 32 by omega]; rfl), rfl⟩
    · go_enter Tryz.func29, Tryz.ntmps29
      go_wp2
      go_ret
      exact ⟨ret_bool (by rw [H.out]; simp at h3; simp; omega), rfl⟩

set_option maxRecDepth 100000 in
set_option maxHeartbeats 4000000 in
theorem rValid_any (s : ByteArray) (w : World) (hs : s.size ≤ 1000000) : Calls Tryz.prog 21 #[.string s] w fun e w' => e = .returned (.bool (validB s)) ∧ Below w.heap.size w w' := by
  have HV : Hid (validB s = (pts s).all okPt) := Lib.hid rfl
  have HP := Lib.hid (points_any s)
  have hlen := pts_length s
  generalize validB s = V at *
  generalize pts s = l at *
  go_enter Tryz.func21, Tryz.ntmps21
  go_wp2_with fail
  refine (HP.out _ hs).mono ?_
  rintro e w1 ⟨v, rfl, hown, hb1⟩
  obtain ⟨A, cp, rfl⟩ := own_slice hown
  have hrd := Reads.of_own hown
  go_wp2
  go_loopw [8] (fun i wr => ∃ k : Nat, i = .int .i64 k ∧ k ≤ l.length ∧ Below w1.heap.size w1 wr ∧ (l.take k).all okPt = true) (fun i _ => l.length - (intOf i).toNat)
  case atStart => exact ⟨0, rfl, by omega, Below.refl _ w1, rfl⟩
  case round =>
    obtain ⟨k, rfl, hk, hb, hok⟩ := hrel
    have Hok := Lib.hid hok
    clear hok
    by_cases hlt : k < l.length
    · obtain ⟨ad, rfl, hadb, hcell⟩ := hrd.2 (by omega)
      obtain ⟨g, hg⟩ : ∃ g, ad = ⟨g, 0, none⟩ := by
        obtain ⟨g, cap, hv, _⟩ := hown.form (by omega)
        injection hv with h1 h2 h3
        injection h1 with h1
        exact ⟨g, h1⟩
      subst hg
      have hp := ptCells_at l k l[k] (List.getElem?_eq_getElem hlt)
      have hc0 : wr.cell? ⟨g, k * 2, none⟩ = some (.int .i64 l[k].1) := (hb.cell (p := ⟨g, k * 2, none⟩) hadb).trans (by rw [← add_plain]; exact hcell _ _ hp.1)
      have hc1 : wr.cell? ⟨g, k * 2 + 1, none⟩ = some (.int .i64 l[k].2) := (hb.cell (p := ⟨g, k * 2 + 1, none⟩) hadb).trans (by rw [← add_plain]; exact hcell _ _ hp.2)
      have hz := hb.size
      have hVf : Hid (okPt l[k] = false → V = false) := Lib.hid fun h => by
        rw [HV.out, ← List.take_append_drop k l, List.drop_eq_getElem_cons hlt, List.all_append, List.all_cons, h]; simp
      have hVt : Hid (okPt l[k] = true → (l.take (k + 1)).all okPt = true) := Lib.hid fun h => by
        rw [List.take_succ_eq_append_getElem hlt, List.all_append, Hok.out]; simp [h]
      have hokp : Hid (okPt l[k] = (!(l[k].1 == 65533 && l[k].2 == 1) && !uncleanB l[k].1)) := Lib.hid rfl
      clear hp hcell
      generalize l[k] = D at *
      by_cases c3 : uncleanB D.1 = true
      · have Hv : Hid (V = false) := Lib.hid (hVf.out (by rw [hokp.out, c3]; simp))
        go_wp2_with (go_at_call 29; refine (rclean_any _ _).mono ?_; rw [c3]; rintro e w' ⟨rfl, rfl⟩)
        go_ret
        exact ⟨ret_bool Hv.out.symm, (hb1.trans (hb.mono hb1.size)).alloc (Nat.le_trans hb1.size hz) _⟩
      · rw [Bool.not_eq_true] at c3
        by_cases c1 : ((D.1 : Int) == 65533) = true
        · by_cases c2 : ((D.2 : Int) == 1) = true
          · have Hv : Hid (V = false) := Lib.hid (hVf.out (by rw [hokp.out, c3]; simp at c1 c2; simp; omega))
            go_wp2_with (go_at_call 29; refine (rclean_any _ _).mono ?_; rw [c3]; rintro e w' ⟨rfl, rfl⟩)
            go_ret
            exact ⟨ret_bool Hv.out.symm, (hb1.trans (hb.mono hb1.size)).alloc (Nat.le_trans hb1.size hz) _⟩
          · rw [Bool.not_eq_true] at c2
            have Hv := Lib.hid (hVt.out (by rw [hokp.out, c3]; simp at c1 c2; simp; omega))
            go_wp2_with (go_at_call 29; refine (rclean_any _ _).mono ?_; rw [c3]; rintro e w' ⟨rfl, rfl⟩)
            go_roundw
            case rel => exact ⟨k + 1, by go_num, by omega, hb.alloc hz _, Hv.out⟩
            case measure => simp [intOf]; omega
        · rw [Bool.not_eq_true] at c1
          have Hv := Lib.hid (hVt.out (by rw [hokp.out, c3]; simp at c1; simp; omega))
          go_wp2_with (go_at_call 29; refine (rclean_any _ _).mono ?_; rw [c3]; rintro e w' ⟨rfl, rfl⟩)
          go_roundw
          case rel => exact ⟨k + 1, by go_num, by omega, hb.alloc hz _, Hv.out⟩
          case measure => simp [intOf]; omega
    · obtain rfl : k = l.length := by omega
      have Hv : Hid (V = true) := Lib.hid (by rw [HV.out]; have := Hok.out; rwa [List.take_length] at this)
      go_wp2
      go_ret
      exact ⟨ret_bool Hv.out.symm, hb1.trans (hb.mono hb1.size)⟩

end Go.Proofs.YtpoafhgbhnblmaaGreatDoor
