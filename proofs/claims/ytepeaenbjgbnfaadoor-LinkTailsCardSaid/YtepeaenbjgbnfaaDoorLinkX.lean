/-
  The reference's Read (layer 8); the law LinkTails.
-/
import Derived.Test.YtepeaenbjgbnfaaDoorLinkW
import Derived.Deep.RegionHeld3
set_option linter.unusedVariables false
set_option linter.unusedSimpArgs false
namespace Go.Proofs.YtepeaenbjgbnfaaDoor
open Go.RowKit Go.Pub

theorem read_ret {W : World} {g : Nat} {x y z u v : Value} {P : Ending → World → Prop} {act : Act} (hr : Blk W g 29 #[x, y, z, u, v]) (h4 : act.tmps.getD 4 undef = .pointer (some ⟨g, 0, none⟩))
    (hd : act.defers = []) (hP : P (.returned (.agg #[x, y, z, u, v])) W) : bodyPost Tryd.prog Tryd.f13 P Exit.ret act W := by
  have c0 : W.cell? ⟨g, 0, none⟩ = some x := hr.cell 0
  have c1 : W.cell? ⟨g, 1, none⟩ = some y := hr.cell 1
  have c2 : W.cell? ⟨g, 2, none⟩ = some z := hr.cell 2
  have c3 : W.cell? ⟨g, 3, none⟩ = some u := hr.cell 3
  have c4 : W.cell? ⟨g, 4, none⟩ = some v := hr.cell 4
  refine bodyPost_ret (v := .agg #[x, y, z, u, v]) ?_ hd hP
  rw [Array.getD_eq_getD_getElem?] at h4
  simp [results, Tryd.results13, go_sem, h4, c0, c1, c2, c3, c4]

set_option maxRecDepth 100000 in
set_option maxHeartbeats 4000000 in
theorem r_read (s : ByteArray) (i : Int) (w : World) (hs : s.size ≤ 1000000) :
    Calls Tryd.prog 13 #[.string s, .int .i64 i] w (FndPost (tailR s i) w) := by
  by_cases h : 0 ≤ i ∧ i < s.size
  rotate_left
  · have HR : Hid (tailR s i = none) := Lib.hid (by unfold tailR; rw [if_neg h])
    generalize tailR s i = R at *
    by_cases h0 : i < 0
    · have d0 : decide (i < 0) = true := by simpa using h0
      go_enter Tryd.func13, Tryd.ntmps13
      go_wp2
      exact read_ret (Blk.new _ _ _) rfl rfl ⟨by rw [HR.out]; rfl, (Below.refl _ _).alloc (Nat.le_refl _) _⟩
    · have d1 : decide ((s.size : Int) ≤ i) = true := by simp; omega
      go_enter Tryd.func13, Tryd.ntmps13
      go_wp2
      exact read_ret (Blk.new _ _ _) rfl rfl ⟨by rw [HR.out]; rfl, (Below.refl _ _).alloc (Nat.le_refl _) _⟩
  obtain ⟨k, rfl⟩ := Int.eq_ofNat_of_zero_le h.1
  have hi : k < s.size := by have := h.2; omega
  clear h
  have zi : decide ((k : Int) < 0) = false := by simp
  have zj : decide (s.size ≤ k) = false := by simp; omega
  have HB0 : Hid (∀ n, Z5 ((w.alloc (.cells #[.string ⟨#[]⟩, .string ⟨#[]⟩, .string ⟨#[]⟩, .int .i64 0, .bool false] 29)).drewN n) w.heap.size) := Lib.hid fun n => (Blk.new w _ _).drewN n
  have HL0 : Hid (∀ w1, Below (w.heap.size + 1) (w.alloc (.cells #[.string ⟨#[]⟩, .string ⟨#[]⟩, .string ⟨#[]⟩, .int .i64 0, .bool false] 29)) w1 → Below w.heap.size w w1) := Lib.hid fun w1 b => ((Below.refl _ _).alloc (Nat.le_refl _) _).trans (b.mono (by omega))
  by_cases hc : bt s k = 40
  · have HC := Lib.hid fun W => r_inside s k W hs hi hc
    have z0 : (((s[k].toNat : Nat) : Int) == 40) = true := by rw [get_bt s k hi, hc]; rfl
    clear hc
    generalize tailR s k = R at *
    generalize hF : fndTup R = F at *
    obtain ⟨f0, f1, f2, f3, f4⟩ := F
    have HFT := Lib.hid hF
    clear hF
    go_enter Tryd.func13, Tryd.ntmps13
    go_wp2_with fail
    ((with_reducible refine (HC.out _).mono ?_))
    rintro e w1 ⟨he, b1⟩
    rw [HFT.out] at he
    dsimp only [fndV] at he
    subst he
    have HB1 := Lib.hid (show Z5 w1 w.heap.size from Blk.below (HB0.out 0) b1 (by simp))
    obtain ⟨k0, k1, k2, k3, k4, y0, y1, y2, y3, y4⟩ := Z5.facts HB1.out
    go_wp2
    exact read_ret (blk5 HB1.out _ _ _ _ _) rfl rfl ⟨by rw [HFT.out]; rfl, below5 (HL0.out _ (by simpa using b1)) (Nat.le_refl _) _ _ _ _ _⟩
  · have HC := Lib.hid fun W => r_readlabel s k W hs (by omega)
    have z0 : (((s[k].toNat : Nat) : Int) == 40) = false := by rw [get_bt s k hi, beq_eq_false_iff_ne]; omega
    have HR : Hid (tailR s k = (brackR s k).map fun r => ⟨[], [], r.1, r.2⟩) := Lib.hid (by unfold tailR; rw [if_pos ⟨by omega, by omega⟩, Int.toNat_natCast, if_neg hc])
    clear hc
    generalize tailR s k = R at *
    generalize brackR s k = B at *
    cases B with
    | none =>
      go_enter Tryd.func13, Tryd.ntmps13
      go_wp2_with fail
      ((with_reducible refine (HC.out _).mono ?_))
      rintro e w1 ⟨he, b1⟩
      dsimp only [partVal] at he
      subst he
      have hz1 := b1.size
      have HB1 := Lib.hid (show Z5 w1 w.heap.size from Blk.below (HB0.out 0) b1 (by simp))
      have HB2 := Lib.hid (Blk.alloc HB1.out (.cells #[.string ⟨#[]⟩, .int .i64 0, .bool false] 42))
      obtain ⟨k0, k1, k2, k3, k4, y0, y1, y2, y3, y4⟩ := Z5.facts HB2.out
      go_wp2
      exact read_ret (blk5 HB2.out _ _ _ _ _) rfl rfl ⟨by rw [HR.out]; rfl, below5 ((HL0.out _ (by simpa using b1)).alloc (by simp at hz1; omega) _) (Nat.le_refl _) _ _ _ _ _⟩
    | some q =>
      obtain ⟨l, n⟩ := q
      go_enter Tryd.func13, Tryd.ntmps13
      go_wp2_with fail
      ((with_reducible refine (HC.out _).mono ?_))
      rintro e w1 ⟨he, b1⟩
      dsimp only [partVal] at he
      subst he
      have hz1 := b1.size
      have HB1 := Lib.hid (show Z5 w1 w.heap.size from Blk.below (HB0.out 0) b1 (by simp))
      have HB2 := Lib.hid (Blk.alloc HB1.out (.cells #[.string (mk l), .int .i64 n, .bool true] 42))
      obtain ⟨k0, k1, k2, k3, k4, y0, y1, y2, y3, y4⟩ := Z5.facts HB2.out
      go_wp2
      exact read_ret (blk5 HB2.out _ _ _ _ _) rfl rfl ⟨by rw [HR.out]; rfl, below5 ((HL0.out _ (by simpa using b1)).alloc (by simp at hz1; omega) _) (Nat.le_refl _) _ _ _ _ _⟩

theorem tail_tup {r : Option Tl} {w w' : World} {e : Ending} (h : TailPost r w e w') : e = .returned (.tuple #[.string (fndTup r).1, .string (fndTup r).2.1, .string (fndTup r).2.2.1, .int .i64 (fndTup r).2.2.2.1, .bool (fndTup r).2.2.2.2]) ∧ Below w.heap.size w w' := by
  cases r <;> exact h

set_option maxRecDepth 100000 in
set_option maxHeartbeats 4000000 in
theorem lawTails_any (s : ByteArray) (i : Int) (w : World) (hs : s.size ≤ 9223372036854775807) : Calls Tryd.prog 4 #[.string s, .int .i64 i] w fun e w' => e = .returned (.bool true) ∧ Below w.heap.size w w' := by
  have HA := Lib.hid awake_any
  by_cases h : 800 < s.size
  · have d1 : decide (800 < s.size) = true := decide_eq_true h
    go_enter Tryd.func4, Tryd.ntmps4
    go_wp2_with fail
    ((with_reducible refine (HA.out _).mono ?_))
    rintro e w1 ⟨rfl, b1⟩
    go_wp2_with fail
    go_ret
    exact ⟨rfl, b1⟩
  have d1 : decide (800 < s.size) = false := decide_eq_false h
  have d2 : decide (s.size ≤ 800) = true := decide_eq_true (by omega)
  have H1 := Lib.hid fun W => (l_tail s i W (by omega)).mono fun _ _ => tail_tup
  have H2 := Lib.hid fun W => r_read s i W (by omega)
  generalize tailR s i = R at *
  generalize hF : fndTup R = F at *
  obtain ⟨f0, f1, f2, f3, f4⟩ := F
  have H2' : Hid (∀ W, Calls Tryd.prog 13 #[.string s, .int .i64 i] W fun e w' => e = .returned (.agg #[.string f0, .string f1, .string f2, .int .i64 f3, .bool f4]) ∧ Below W.heap.size W w') := Lib.hid fun W => by
    refine (H2.out W).mono ?_
    rintro e w' ⟨rfl, hb⟩
    exact ⟨by rw [hF]; rfl, hb⟩
  clear H2 hF
  have q0 : (f0.toList == f0.toList) = true := beq_self_eq_true _
  have q1 : (f1.toList == f1.toList) = true := beq_self_eq_true _
  have q2 : (f2.toList == f2.toList) = true := beq_self_eq_true _
  have q3 : (f3 == f3) = true := beq_self_eq_true _
  have q4 : (f4 == f4) = true := beq_self_eq_true _
  go_enter Tryd.func4, Tryd.ntmps4
  go_wp2_with fail
  ((with_reducible refine (H1.out _).mono ?_))
  rintro e w1 ⟨rfl, b1⟩
  have hz1 := b1.size
  go_wp2_with fail
  obtain ⟨W0, hW0⟩ : ∃ W0, W0 = w1.alloc (.cells #[.string f0, .string f1, .string f2, .int .i64 f3, .bool f4] 29) := ⟨_, rfl⟩
  rw [← hW0]
  have hblk : Blk W0 w1.heap.size 29 #[.string f0, .string f1, .string f2, .int .i64 f3, .bool f4] := by rw [hW0]; exact Blk.new _ _ _
  have hbel : Below w.heap.size w W0 := by rw [hW0]; exact b1.alloc hz1 _
  have hsz : w1.heap.size + 1 = W0.heap.size := by rw [hW0]; simp
  have HS : Hid (∀ W, Below (w1.heap.size + 1) W0 W → W.cell? ⟨w1.heap.size, 0, none⟩ = some (.string f0) ∧ W.cell? ⟨w1.heap.size, 1, none⟩ = some (.string f1) ∧ W.cell? ⟨w1.heap.size, 2, none⟩ = some (.string f2) ∧ W.cell? ⟨w1.heap.size, 3, none⟩ = some (.int .i64 f3) ∧ W.cell? ⟨w1.heap.size, 4, none⟩ = some (.bool f4) ∧ Below (w1.heap.size + 1) W0 W) := Lib.hid fun W hW => by
    have h := hblk.below hW (by omega)
    exact ⟨h.cell 0, h.cell 1, h.cell 2, h.cell 3, h.cell 4, hW⟩
  have HR2 : Hid (∀ W, Below (w1.heap.size + 1) W0 W → Calls Tryd.prog 13 #[.string s, .int .i64 i] W fun e w' => e = .returned (.agg #[.string f0, .string f1, .string f2, .int .i64 f3, .bool f4]) ∧ Below (w1.heap.size + 1) W0 w') := Lib.hid fun W hW => (H2'.out W).mono fun e w' h => ⟨h.1, hW.trans (h.2.mono (by have := hW.size; omega))⟩
  have HA2 : Hid (∀ W, Below (w1.heap.size + 1) W0 W → Calls Tryd.prog 7 #[] W fun e w' => e = .returned (.bool true) ∧ Below (w1.heap.size + 1) W0 w') := Lib.hid fun W hW => (HA.out W).mono fun e w' h => ⟨h.1, hW.trans (h.2.mono (by have := hW.size; omega))⟩
  have HEND : Hid (∀ W, Below (w1.heap.size + 1) W0 W → Below w.heap.size w W) := Lib.hid fun W hW => hbel.trans (hW.mono (by omega))
  have HB0 : Hid (Below (w1.heap.size + 1) W0 W0) := Lib.hid (Below.refl _ _)
  have s0 := HS.out W0 HB0.out
  clear hW0 hblk hbel hsz H2' HA H1 b1 hz1 d1 d2 h hs
  go_region_held3 (fun w' => w'.cell? ⟨w1.heap.size, 0, none⟩ = some (.string f0) ∧ w'.cell? ⟨w1.heap.size, 1, none⟩ = some (.string f1) ∧ w'.cell? ⟨w1.heap.size, 2, none⟩ = some (.string f2) ∧ w'.cell? ⟨w1.heap.size, 3, none⟩ = some (.int .i64 f3) ∧ w'.cell? ⟨w1.heap.size, 4, none⟩ = some (.bool f4) ∧ Below (w1.heap.size + 1) W0 w')
    (first | exact HS.out _ b9 | exact HS.out _ HB0.out.drew | go_keep)
    (first
      | (go_at_call 13; (with_reducible refine (HR2.out _ (by assumption : _ ∧ _ ∧ _ ∧ _ ∧ _ ∧ Below (w1.heap.size + 1) W0 _).2.2.2.2.2).mono ?_); rintro e W9 ⟨rfl, b9⟩)
      | (go_at_call 7; (with_reducible refine (HA2.out _ (by assumption : _ ∧ _ ∧ _ ∧ _ ∧ _ ∧ Below (w1.heap.size + 1) W0 _).2.2.2.2.2).mono ?_); rintro e W9 ⟨rfl, b9⟩))
  all_goals
    go_wp2_with fail
    go_ret
    exact ⟨rfl, HEND.out _ b9⟩
end Go.Proofs.YtepeaenbjgbnfaaDoor
