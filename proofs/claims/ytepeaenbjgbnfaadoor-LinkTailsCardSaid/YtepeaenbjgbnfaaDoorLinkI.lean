/-
  The reference's ReadTitle, ReadDest.
-/
import Derived.Test.YtepeaenbjgbnfaaDoorLinkH
import Derived.Test.YtepeaenbjgbnfaaDoorLinkD
import Derived.Deep.RegionWith
import Derived.StillTailTactics
set_option linter.unusedVariables false
set_option linter.unusedSimpArgs false
namespace Go.Proofs.YtepeaenbjgbnfaaDoor
open Go.RowKit Go.Pub

theorem title_ret {W : World} {g : Nat} {x y z : Value} {P : Ending → World → Prop} {act : Act} (hr : Blk W g 42 #[x, y, z]) (h4 : act.tmps.getD 4 undef = .pointer (some ⟨g, 0, none⟩))
    (hd : act.defers = []) (hP : P (.returned (.agg #[x, y, z])) W) : bodyPost Tryd.prog Tryd.f24 P Exit.ret act W := by
  have c0 : W.cell? ⟨g, 0, none⟩ = some x := hr.cell 0
  have c1 : W.cell? ⟨g, 1, none⟩ = some y := hr.cell 1
  have c2 : W.cell? ⟨g, 2, none⟩ = some z := hr.cell 2
  refine bodyPost_ret (v := .agg #[x, y, z]) ?_ hd hP
  rw [Array.getD_eq_getD_getElem?] at h4
  simp [results, Tryd.results24, go_sem, h4, c0, c1, c2]

theorem dest_ret {W : World} {g : Nat} {x y z : Value} {P : Ending → World → Prop} {act : Act} (hr : Blk W g 42 #[x, y, z]) (h4 : act.tmps.getD 4 undef = .pointer (some ⟨g, 0, none⟩))
    (hd : act.defers = []) (hP : P (.returned (.agg #[x, y, z])) W) : bodyPost Tryd.prog Tryd.f23 P Exit.ret act W := by
  have c0 : W.cell? ⟨g, 0, none⟩ = some x := hr.cell 0
  have c1 : W.cell? ⟨g, 1, none⟩ = some y := hr.cell 1
  have c2 : W.cell? ⟨g, 2, none⟩ = some z := hr.cell 2
  refine bodyPost_ret (v := .agg #[x, y, z]) ?_ hd hP
  rw [Array.getD_eq_getD_getElem?] at h4
  simp [results, Tryd.results23, go_sem, h4, c0, c1, c2]

/-- The block of a result that is all zero. -/
def Z3 (W : World) (g : Nat) : Prop := Blk W g 42 #[.string ⟨#[]⟩, .int .i64 0, .bool false]
theorem Z3.facts {W : World} {g : Nat} (h : Z3 W g) : W.cell? ⟨g, 0, none⟩ = some (.string ⟨#[]⟩) ∧ W.cell? ⟨g, 1, none⟩ = some (.int .i64 0) ∧ W.cell? ⟨g, 2, none⟩ = some (.bool false) ∧ W.frozen? ⟨g, 0, none⟩ = false ∧ W.frozen? ⟨g, 1, none⟩ = false ∧ W.frozen? ⟨g, 2, none⟩ = false :=
  ⟨h.cell 0, h.cell 1, h.cell 2, h.frozen 0, h.frozen 1, h.frozen 2⟩

set_option maxRecDepth 100000 in
set_option maxHeartbeats 4000000 in
theorem r_title_no (s : ByteArray) (i : Int) (w : World) (hs : s.size ≤ 1000000) (h : ¬ (0 ≤ i ∧ i < s.size)) :
    Calls Tryd.prog 24 #[.string s, .int .i64 i] w (RPartPost (titleR s i) w) := by
  have HR : Hid (titleR s i = none) := Lib.hid (by unfold titleR; rw [if_neg h])
  generalize titleR s i = R at *
  by_cases h0 : i < 0
  · have d0 : decide (i < 0) = true := by simpa using h0
    go_enter Tryd.func24, Tryd.ntmps24
    go_wp2
    exact title_ret (Blk.new _ _ _) rfl rfl (rpart_none HR.out ((Below.refl _ _).alloc (Nat.le_refl _) _))
  · have d1 : decide ((s.size : Int) ≤ i) = true := by simp; omega
    go_enter Tryd.func24, Tryd.ntmps24
    go_wp2
    exact title_ret (Blk.new _ _ _) rfl rfl (rpart_none HR.out ((Below.refl _ _).alloc (Nat.le_refl _) _))

set_option maxRecDepth 100000 in
set_option maxHeartbeats 4000000 in
theorem r_title_in (s : ByteArray) (i : Nat) (w : World) (hs : s.size ≤ 1000000) (hi : i < s.size) :
    Calls Tryd.prog 24 #[.string s, .int .i64 i] w (RPartPost (titleR s i) w) := by
  have zi : decide ((i : Int) < 0) = false := by simp
  have zj : decide (s.size ≤ i) = false := by simp; omega
  have hlt2 : ((s[i].toNat : Nat) : Int) < 256 := by rw [get_bt s i hi]; have := bt_lt s i; omega
  have hR : titleR s i = if bt s i = 34 then betw s i 34 34 else if bt s i = 39 then betw s i 39 39 else none := by unfold titleR; rw [if_pos ⟨by omega, by omega⟩, Int.toNat_natCast]
  have HR := Lib.hid hR
  clear hR
  generalize titleR s i = R at *
  by_cases c1 : bt s i = 34 ∨ bt s i = 39
  · have HC : Hid (∀ W, Calls Tryd.prog 40 #[.string s, .int .i64 i, .int .u8 ((s[i].toNat : Nat) : Int), .int .u8 ((s[i].toNat : Nat) : Int)] W (RPartPost R W)) := Lib.hid fun W => by
      rw [get_bt s i hi, HR.out]
      rcases c1 with c | c
      · rw [if_pos c, c]; exact r_between s i 34 34 W hs hi (by decide) (by decide)
      · rw [if_neg (by omega), if_pos c, c]; exact r_between s i 39 39 W hs hi (by decide) (by decide)
    have cc : (((s[i].toNat : Nat) : Int) != 34) = false ∨ ((((s[i].toNat : Nat) : Int) != 34) = true ∧ (((s[i].toNat : Nat) : Int) != 39) = false) := by
      rw [get_bt s i hi]
      rcases c1 with c | c
      · left; rw [c]; rfl
      · right; rw [c]; exact ⟨rfl, rfl⟩
    clear c1 HR
    have HB0 : Hid (∀ n, Z3 ((w.alloc (.cells #[.string ⟨#[]⟩, .int .i64 0, .bool false] 42)).drewN n) w.heap.size) := Lib.hid fun n => (Blk.new w _ _).drewN n
    rcases cc with z1 | ⟨z1, z2⟩
    all_goals
      cases R
      all_goals
        go_enter Tryd.func24, Tryd.ntmps24
        go_wp2_with fail
        go_still_tail 8, (by kernel_rfl)
        go_wp2_with fail
        ((with_reducible refine (HC.out _).mono ?_))
        rintro e w1 ⟨he, b1⟩
        dsimp only [partVal] at he
        subst he
        have HB1 := Lib.hid (show Z3 w1 w.heap.size from Blk.below (HB0.out 1) b1 (by simp))
        obtain ⟨c0, c1, c2, f0, f1, f2⟩ := Z3.facts HB1.out
        go_wp2
        exact title_ret (blk3 HB1.out rfl _ _ _) rfl rfl ⟨rfl, below3 (blw1 (n := 1) b1) (Nat.le_refl _) _ _ _⟩
  · have z1 : (((s[i].toNat : Nat) : Int) != 34) = true := by rw [get_bt s i hi]; simp; omega
    have z2 : (((s[i].toNat : Nat) : Int) != 39) = true := by rw [get_bt s i hi]; simp; omega
    have HN : Hid (R = none) := Lib.hid (by rw [HR.out, if_neg (by omega), if_neg (by omega)])
    clear c1 HR
    go_enter Tryd.func24, Tryd.ntmps24
    go_wp2
    exact title_ret (Blk.new _ _ _) rfl rfl (rpart_none HN.out ((Below.refl _ _).alloc (Nat.le_refl _) _))
end Go.Proofs.YtepeaenbjgbnfaaDoor
