/-
  Texts of the proof, put together: RefD.
-/
import Derived.Test.YthfienjmigidbaaGreatDoorB03
import Derived.Test.YthfienjmigidbaaGreatDoorB04
set_option linter.unusedVariables false
set_option linter.unusedSimpArgs false
namespace Go.Proofs.YthfienjmigidbaaGreatDoor
open Go.RowKit Go.Pub

set_option maxRecDepth 100000 in
set_option maxHeartbeats 400000 in
theorem rSpace_any (c : Int) (w : World) : Calls Tryz.prog 53 #[.int .i64 c] w fun e w' => e = .returned (.bool (spaceB c)) ∧ w = w' := by
  have H : Hid (spaceB c = (c == 32 || c == 10)) := Lib.hid rfl
  generalize spaceB c = b at *
  go_enter Tryz.func53, Tryz.ntmps53
  go_wp2
  all_goals
    go_ret
    exact ⟨ret_bool (by rw [H.out] <;> simp_all), rfl⟩

set_option maxRecDepth 100000 in
set_option maxHeartbeats 400000 in
theorem rDigit_any (c : Int) (w : World) : Calls Tryz.prog 111 #[.int .i64 c] w fun e w' => e = .returned (.bool (digitB c)) ∧ w = w' := by
  have H : Hid (digitB c = (decide (48 ≤ c) && decide (c ≤ 57))) := Lib.hid rfl
  generalize digitB c = b at *
  by_cases h : 48 ≤ c
  all_goals
    go_enter Tryz.func111, Tryz.ntmps111
    go_wp2
  all_goals
    go_ret
    exact ⟨ret_bool (by rw [H.out]; first | rfl | (simp; omega)), rfl⟩

set_option maxRecDepth 100000 in
set_option maxHeartbeats 2000000 in
theorem rLower_any (c : Int) (w : World) : Calls Tryz.prog 54 #[.int .i64 c] w fun e w' => e = .returned (.int .i64 (lowerZ c)) ∧ w = w' := by
  have H : Hid (lowerZ c = if (65 ≤ c ∧ c ≤ 90) ∨ (192 ≤ c ∧ c ≤ 222 ∧ c ≠ 215) ∨ (913 ≤ c ∧ c ≤ 939 ∧ c ≠ 930) ∨ (1040 ≤ c ∧ c ≤ 1071) then c + 32 else if 1024 ≤ c ∧ c ≤ 1039 then c + 80 else c) := Lib.hid rfl
  generalize lowerZ c = b at *
  go_enter Tryz.func54, Tryz.ntmps54
  go_wp2
  all_goals
    go_ret
    refine ⟨ret_int ?_, rfl⟩
    rw [H.out]
    try simp only [beq_iff_eq, bne_iff_ne, beq_eq_false_iff_ne, bne_eq_false_iff_eq, ne_eq] at *
    (repeat' split) <;> omega

/-- A list of ranges in memory, from the head of block g on. -/
def RangesAt (w : World) (g : Nat) (l : List (Int × Int)) : Prop := g < w.heap.size ∧ ∀ k p, l[k]? = some p → w.cell? ⟨g, k * 2, none⟩ = some (.int .i64 p.1) ∧ w.cell? ⟨g, k * 2 + 1, none⟩ = some (.int .i64 p.2)

set_option maxRecDepth 100000 in
set_option maxHeartbeats 2000000 in
theorem in_any (c : Int) (g cap : Nat) (l : List (Int × Int)) (w : World) (hl : l.length ≤ 1000) (h : RangesAt w g l) :
    Calls Tryz.prog 138 #[.int .i64 c, .slice (some ⟨g, 0, none⟩) l.length cap] w fun e w' => e = .returned (.bool (inB c l)) ∧ Below w.heap.size w w' := by
  have HI : Hid (∀ k, inB c l = (inB c (l.take k) || inB c (l.drop k))) := Lib.hid fun k => by unfold inB; rw [← List.any_append, List.take_append_drop]
  generalize inB c l = R at *
  go_enter Tryz.func138, Tryz.ntmps138
  go_wp2
  go_loopw [9] (fun i wr => ∃ k : Nat, i = .int .i64 k ∧ k ≤ l.length ∧ Below w.heap.size w wr ∧ inB c (l.take k) = false) (fun i _ => l.length - (intOf i).toNat)
  case atStart => exact ⟨0, rfl, by omega, Below.refl _ w, rfl⟩
  case round =>
    obtain ⟨k, rfl, hk, hb, hno⟩ := hrel
    have Hno := Lib.hid hno
    clear hno
    by_cases hlt : k < l.length
    · have hp := h.2 k l[k] (List.getElem?_eq_getElem hlt)
      have hdrop : Hid (inB c (l.drop k) = ((decide (l[k].1 ≤ c) && decide (c ≤ l[k].2)) || inB c (l.drop (k + 1)))) := Lib.hid (by rw [List.drop_eq_getElem_cons hlt]; rfl)
      have htake : Hid (inB c (l.take (k + 1)) = (inB c (l.take k) || (decide (l[k].1 ≤ c) && decide (c ≤ l[k].2)))) := Lib.hid (by rw [List.take_succ_eq_append_getElem hlt]; unfold inB; rw [List.any_append]; simp)
      generalize l[k] = p at *
      have hc0 : wr.cell? ⟨g, k * 2, none⟩ = some (.int .i64 p.1) := (hb.cell (p := ⟨g, k * 2, none⟩) h.1).trans hp.1
      have hc1 : wr.cell? ⟨g, k * 2 + 1, none⟩ = some (.int .i64 p.2) := (hb.cell (p := ⟨g, k * 2 + 1, none⟩) h.1).trans hp.2
      have hz := hb.size
      clear hp
      by_cases c1 : p.1 ≤ c
      · by_cases c2 : c ≤ p.2
        · go_wp2
          go_ret
          exact ⟨ret_bool (by rw [HI.out k, Hno.out, hdrop.out]; simp [c1, c2]), hb.alloc hz _⟩
        · have d2 : decide (c ≤ p.2) = false := by simpa using c2
          go_wp2
          go_roundw
          case rel => exact ⟨k + 1, by go_num, by omega, hb.alloc hz _, by rw [htake.out, Hno.out]; simp; omega⟩
          case measure => simp [intOf]; omega
      · have d1 : decide (p.1 ≤ c) = false := by simpa using c1
        go_wp2
        go_roundw
        case rel => exact ⟨k + 1, by go_num, by omega, hb.alloc hz _, by rw [htake.out, Hno.out]; simp; omega⟩
        case measure => simp [intOf]; omega
    · obtain rfl : k = l.length := by omega
      have hR : Hid (R = false) := Lib.hid (by rw [HI.out l.length, Hno.out, List.drop_length]; rfl)
      go_wp2
      go_ret
      exact ⟨ret_bool hR.out.symm, hb⟩

set_option maxRecDepth 100000 in
set_option maxHeartbeats 2000000 in
theorem rPunct_any (c : Int) (w : World) : Calls Tryz.prog 137 #[.int .i64 c] w fun e w' => e = .returned (.bool (inB c punctL)) ∧ Below w.heap.size w w' := by
  go_enter Tryz.func137, Tryz.ntmps137
  go_wp2_with fail
  refine (in_any c w.heap.size 13 punctL _ (by decide) ?_).mono ?_
  · refine ⟨by simp, fun k p hk => ?_⟩
    have hk' : k < 13 := (List.getElem?_eq_some_iff.1 hk).1
    match k, hk' with
    | 0, _ | 1, _ | 2, _ | 3, _ | 4, _ | 5, _ | 6, _ | 7, _ | 8, _ | 9, _ | 10, _ | 11, _ | 12, _ => simp [punctL] at hk; subst hk; simp
  · rintro e w1 ⟨rfl, hb⟩
    go_wp2
    go_ret
    exact ⟨rfl, ((Below.refl _ w).alloc (Nat.le_refl _) _).trans (hb.mono (by simp))⟩

set_option maxRecDepth 100000 in
set_option maxHeartbeats 2000000 in
theorem rLetter_any (c : Int) (w : World) : Calls Tryz.prog 110 #[.int .i64 c] w fun e w' => e = .returned (.bool (inB c letterL)) ∧ Below w.heap.size w w' := by
  go_enter Tryz.func110, Tryz.ntmps110
  go_wp2_with fail
  refine (in_any c w.heap.size 14 letterL _ (by decide) ?_).mono ?_
  · refine ⟨by simp, fun k p hk => ?_⟩
    have hk' : k < 14 := (List.getElem?_eq_some_iff.1 hk).1
    match k, hk' with
    | 0, _ | 1, _ | 2, _ | 3, _ | 4, _ | 5, _ | 6, _ | 7, _ | 8, _ | 9, _ | 10, _ | 11, _ | 12, _ | 13, _ => simp [letterL] at hk; subst hk; simp
  · rintro e w1 ⟨rfl, hb⟩
    go_wp2
    go_ret
    exact ⟨rfl, ((Below.refl _ w).alloc (Nat.le_refl _) _).trans (hb.mono (by simp))⟩
end Go.Proofs.YthfienjmigidbaaGreatDoor
