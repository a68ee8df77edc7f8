/-
  Texts of the proof, put together: LinkI, LinkJ, LinkR, LinkT, MkDA.
-/
import Derived.Test.YthfienjmigidbaaGreatDoorB17
import Derived.Test.YthfienjmigidbaaGreatDoorB06
import Derived.Deep.RegionWith
import Derived.StillTailTactics
import Derived.Test.YthfienjmigidbaaGreatDoorB25
import Derived.Test.YthfienjmigidbaaGreatDoorB31
import Derived.Test.YthfienjmigidbaaGreatDoorB29
set_option linter.unusedVariables false
set_option linter.unusedSimpArgs false
namespace Go.Proofs.YthfienjmigidbaaGreatDoor
open Go.RowKit Go.Pub

theorem title_ret {W : World} {g : Nat} {x y z : Value} {P : Ending → World → Prop} {act : Act} (hr : Blk W g 70 #[x, y, z]) (h4 : act.tmps.getD 4 undef = .pointer (some ⟨g, 0, none⟩))
    (hd : act.defers = []) (hP : P (.returned (.agg #[x, y, z])) W) : bodyPost Tryz.prog Tryz.f63 P Exit.ret act W := by
  have c0 : W.cell? ⟨g, 0, none⟩ = some x := hr.cell 0
  have c1 : W.cell? ⟨g, 1, none⟩ = some y := hr.cell 1
  have c2 : W.cell? ⟨g, 2, none⟩ = some z := hr.cell 2
  refine bodyPost_ret (v := .agg #[x, y, z]) ?_ hd hP
  rw [Array.getD_eq_getD_getElem?] at h4
  simp [results, Tryz.results63, go_sem, h4, c0, c1, c2]

theorem dest_ret {W : World} {g : Nat} {x y z : Value} {P : Ending → World → Prop} {act : Act} (hr : Blk W g 70 #[x, y, z]) (h4 : act.tmps.getD 4 undef = .pointer (some ⟨g, 0, none⟩))
    (hd : act.defers = []) (hP : P (.returned (.agg #[x, y, z])) W) : bodyPost Tryz.prog Tryz.f62 P Exit.ret act W := by
  have c0 : W.cell? ⟨g, 0, none⟩ = some x := hr.cell 0
  have c1 : W.cell? ⟨g, 1, none⟩ = some y := hr.cell 1
  have c2 : W.cell? ⟨g, 2, none⟩ = some z := hr.cell 2
  refine bodyPost_ret (v := .agg #[x, y, z]) ?_ hd hP
  rw [Array.getD_eq_getD_getElem?] at h4
  simp [results, Tryz.results62, go_sem, h4, c0, c1, c2]

/-- The block of a result that is all zero. -/
def Z3 (W : World) (g : Nat) : Prop := Blk W g 70 #[.string ⟨#[]⟩, .int .i64 0, .bool false]
theorem Z3.facts {W : World} {g : Nat} (h : Z3 W g) : W.cell? ⟨g, 0, none⟩ = some (.string ⟨#[]⟩) ∧ W.cell? ⟨g, 1, none⟩ = some (.int .i64 0) ∧ W.cell? ⟨g, 2, none⟩ = some (.bool false) ∧ W.frozen? ⟨g, 0, none⟩ = false ∧ W.frozen? ⟨g, 1, none⟩ = false ∧ W.frozen? ⟨g, 2, none⟩ = false :=
  ⟨h.cell 0, h.cell 1, h.cell 2, h.frozen 0, h.frozen 1, h.frozen 2⟩

set_option maxRecDepth 100000 in
set_option maxHeartbeats 4000000 in
theorem r_title_no (s : ByteArray) (i : Int) (w : World) (hs : s.size ≤ 1000000) (h : ¬ (0 ≤ i ∧ i < s.size)) :
    Calls Tryz.prog 63 #[.string s, .int .i64 i] w (RPartPost (titleR s i) w) := by
  have HR : Hid (titleR s i = none) := Lib.hid (by unfold titleR; rw [if_neg h])
  generalize titleR s i = R at *
  by_cases h0 : i < 0
  · have d0 : decide (i < 0) = true := by simpa using h0
    go_enter Tryz.func63, Tryz.ntmps63
    go_wp2
    exact title_ret (Blk.new _ _ _) rfl rfl (rpart_none HR.out ((Below.refl _ _).alloc (Nat.le_refl _) _))
  · have d1 : decide ((s.size : Int) ≤ i) = true := by simp; omega
    go_enter Tryz.func63, Tryz.ntmps63
    go_wp2
    exact title_ret (Blk.new _ _ _) rfl rfl (rpart_none HR.out ((Below.refl _ _).alloc (Nat.le_refl _) _))

set_option maxRecDepth 100000 in
set_option maxHeartbeats 4000000 in
theorem r_title_in (s : ByteArray) (i : Nat) (w : World) (hs : s.size ≤ 1000000) (hi : i < s.size) :
    Calls Tryz.prog 63 #[.string s, .int .i64 i] w (RPartPost (titleR s i) w) := by
  have zi : decide ((i : Int) < 0) = false := by simp
  have zj : decide (s.size ≤ i) = false := by simp; omega
  have hlt2 : ((s[i].toNat : Nat) : Int) < 256 := by rw [get_bt s i hi]; have := bt_lt s i; omega
  have hR : titleR s i = if bt s i = 34 then betw s i 34 34 else if bt s i = 39 then betw s i 39 39 else none := by unfold titleR; rw [if_pos ⟨by omega, by omega⟩, Int.toNat_natCast]
  have HR := Lib.hid hR
  clear hR
  generalize titleR s i = R at *
  by_cases c1 : bt s i = 34 ∨ bt s i = 39
  · have HC : Hid (∀ W, Calls Tryz.prog 107 #[.string s, .int .i64 i, .int .u8 ((s[i].toNat : Nat) : Int), .int .u8 ((s[i].toNat : Nat) : Int)] W (RPartPost R W)) := Lib.hid fun W => by
      rw [get_bt s i hi, HR.out]
      rcases c1 with c | c
      · rw [if_pos c, c]; exact r_between s i 34 34 W hs hi (by decide) (by decide)
      · rw [if_neg (by omega), if_pos c, c]; exact r_between s i 39 39 W hs hi (by decide) (by decide)
    have cc : (((s[i].toNat : Nat) : Int) != 34) = false ∨ ((((s[i].toNat : Nat) : Int) != 34) = true ∧ (((s[i].toNat : Nat) : Int) != 39) = false) := by
      rw [get_bt s i hi]
      rcases c1 with c | c
      · left; rw [c]; rfl
      · right; rw [c]; exact ⟨rfl, rfl⟩
    clear c1 HR
    have HB0 : Hid (∀ n, Z3 ((w.alloc (.cells #[.string ⟨#[]⟩, .int .i64 0, .bool false] 70)).drewN n) w.heap.size) := Lib.hid fun n => (Blk.new w _ _).drewN n
    rcases cc with z1 | ⟨z1, z2⟩
    all_goals
      cases R
      all_goals
        go_enter Tryz.func63, Tryz.ntmps63
        go_wp2_with fail
        go_still_tail 8, (by kernel_rfl)
        go_wp2_with fail
        ((with_reducible refine (HC.out _).mono ?_))
        rintro e w1 ⟨he, b1⟩
        dsimp only [partVal] at he
        subst he
        have HB1 := Lib.hid (show Z3 w1 w.heap.size from Blk.below (HB0.out 1) b1 (by simp))
        obtain ⟨c0, c1, c2, f0, f1, f2⟩ := Z3.facts HB1.out
        go_wp2
        exact title_ret (blk3 HB1.out rfl _ _ _) rfl rfl ⟨rfl, below3 (blw1 (n := 1) b1) (Nat.le_refl _) _ _ _⟩
  · have z1 : (((s[i].toNat : Nat) : Int) != 34) = true := by rw [get_bt s i hi]; simp; omega
    have z2 : (((s[i].toNat : Nat) : Int) != 39) = true := by rw [get_bt s i hi]; simp; omega
    have HN : Hid (R = none) := Lib.hid (by rw [HR.out, if_neg (by omega), if_neg (by omega)])
    clear c1 HR
    go_enter Tryz.func63, Tryz.ntmps63
    go_wp2
    exact title_ret (Blk.new _ _ _) rfl rfl (rpart_none HN.out ((Below.refl _ _).alloc (Nat.le_refl _) _))
end Go.Proofs.YthfienjmigidbaaGreatDoor
namespace Go.Proofs.YthfienjmigidbaaGreatDoor
open Go.RowKit Go.Pub

theorem r_title (s : ByteArray) (i : Int) (w : World) (hs : s.size ≤ 1000000) :
    Calls Tryz.prog 63 #[.string s, .int .i64 i] w (RPartPost (titleR s i) w) := by
  by_cases h : 0 ≤ i ∧ i < s.size
  · obtain ⟨k, rfl⟩ := Int.eq_ofNat_of_zero_le h.1
    exact r_title_in s k w hs (by have := h.2; omega)
  · exact r_title_no s i w hs h

set_option maxRecDepth 100000 in
set_option maxHeartbeats 4000000 in
theorem r_dest_no (s : ByteArray) (i : Int) (w : World) (hs : s.size ≤ 1000000) (h : ¬ (0 ≤ i ∧ i < s.size)) :
    Calls Tryz.prog 62 #[.string s, .int .i64 i] w (RPartPost (destR s i) w) := by
  have HR : Hid (destR s i = none) := Lib.hid (by unfold destR; rw [if_neg h])
  generalize destR s i = R at *
  by_cases h0 : i < 0
  · have d0 : decide (i < 0) = true := by simpa using h0
    go_enter Tryz.func62, Tryz.ntmps62
    go_wp2
    exact dest_ret (Blk.new _ _ _) rfl rfl (rpart_none HR.out ((Below.refl _ _).alloc (Nat.le_refl _) _))
  · have d1 : decide ((s.size : Int) ≤ i) = true := by simp; omega
    go_enter Tryz.func62, Tryz.ntmps62
    go_wp2
    exact dest_ret (Blk.new _ _ _) rfl rfl (rpart_none HR.out ((Below.refl _ _).alloc (Nat.le_refl _) _))

set_option maxRecDepth 100000 in
set_option maxHeartbeats 4000000 in
theorem r_dest_ang (s : ByteArray) (i : Nat) (w : World) (hs : s.size ≤ 1000000) (hi : i < s.size) (h : bt s i = 60) :
    Calls Tryz.prog 62 #[.string s, .int .i64 i] w (RPartPost (destR s i) w) := by
  have HC : Hid (∀ W, Calls Tryz.prog 107 #[.string s, .int .i64 i, .int .u8 62, .int .u8 60] W (RPartPost (destR s i) W)) := Lib.hid fun W => by
    have e : destR s i = betw s i 62 60 := by unfold destR; rw [if_pos ⟨by omega, by omega⟩, Int.toNat_natCast, if_pos h]
    rw [e]; exact r_between s i 62 60 W hs hi (by decide) (by decide)
  generalize destR s i = R at *
  have z0 : (((s[i].toNat : Nat) : Int) == 60) = true := by rw [get_bt s i hi, h]; rfl
  have zi : decide ((i : Int) < 0) = false := by simp
  have zj : decide (s.size ≤ i) = false := by simp; omega
  clear h
  have HB0 : Hid (∀ n, Z3 ((w.alloc (.cells #[.string ⟨#[]⟩, .int .i64 0, .bool false] 70)).drewN n) w.heap.size) := Lib.hid fun n => (Blk.new w _ _).drewN n
  cases R
  all_goals
    go_enter Tryz.func62, Tryz.ntmps62
    go_wp2_with fail
    ((with_reducible refine (HC.out _).mono ?_))
    rintro e w1 ⟨he, b1⟩
    dsimp only [partVal] at he
    subst he
    have HB1 := Lib.hid (show Z3 w1 w.heap.size from Blk.below (HB0.out 0) b1 (by simp))
    obtain ⟨c0, c1, c2, f0, f1, f2⟩ := Z3.facts HB1.out
    go_wp2
    exact dest_ret (blk3 HB1.out rfl _ _ _) rfl rfl ⟨rfl, below3 (blw1 (n := 0) b1) (Nat.le_refl _) _ _ _⟩

def RDRel (s : ByteArray) (i : Nat) (w : World) (a b : Value) (wr : World) : Prop :=
  ∃ o k : Nat, o ≤ 8 ∧ i ≤ k ∧ k ≤ s.size ∧ a = .int .i64 k ∧ b = .int .i64 o ∧ Hid (destA s o k = destA s 0 i) ∧ Z3 wr w.heap.size ∧ Below w.heap.size w wr

set_option maxRecDepth 100000 in
set_option maxHeartbeats 8000000 in
theorem r_dest_plain (s : ByteArray) (i : Nat) (w : World) (hs : s.size ≤ 1000000) (hi : i < s.size) (h : bt s i ≠ 60) :
    Calls Tryz.prog 62 #[.string s, .int .i64 i] w (RPartPost (destR s i) w) := by
  have e : destR s i = (destA s 0 i).bind fun k => if k = i then none else some (unescL (sub s i k), k) := by unfold destR; rw [if_pos ⟨by omega, by omega⟩, Int.toNat_natCast, if_neg h]
  have HS : Hid (∀ k, k ≠ i → destA s 0 i = some k → destR s i = some (unescL (sub s i k), k)) := Lib.hid fun k hk hd => by rw [e, hd]; exact if_neg hk
  have HN : Hid (destA s 0 i = none → destR s i = none) := Lib.hid fun hd => by rw [e, hd]; rfl
  have HI : Hid (destA s 0 i = some i → destR s i = none) := Lib.hid fun hd => by rw [e, hd]; exact if_pos rfl
  clear e
  generalize destR s i = R at *
  have z0 : (((s[i].toNat : Nat) : Int) == 60) = false := by rw [get_bt s i hi, beq_eq_false_iff_ne]; omega
  have zi : decide ((i : Int) < 0) = false := by simp
  have zj : decide (s.size ≤ i) = false := by simp; omega
  clear h
  go_enter Tryz.func62, Tryz.ntmps62
  go_wp2
  go_loopw [5, 6] (fun a b wr => RDRel s i w a b wr) (fun a _ _ => s.size - (intOf a).toNat)
  case atStart => exact ⟨0, i, by omega, by omega, by omega, rfl, rfl, Lib.hid rfl, Blk.new _ _ _, (Below.refl _ _).alloc (Nat.le_refl _) _⟩
  case round =>
    obtain ⟨o, k, ho, hk1, hk, rfl, rfl, Hk, hB, hbw⟩ := hrel
    have hz := hbw.size
    have HB := Lib.hid hB
    have hgl := hB.lt
    clear hB
    by_cases hx : s.size ≤ k ∨ (k < s.size ∧ dstop s o k)
    · have hv : destA s o k = if o = 0 then some k else none := by
        rcases hx with hx | ⟨hx, hy⟩
        · exact destA_end s o k hx
        · exact destA_stop s o k hx hy
      have HV := Lib.hid hv
      clear hv
      have hw : s.size ≤ k ∨ (∃ hlt : k < s.size, (((s[k].toNat : Nat) : Int) != 32) = false) ∨ (∃ hlt : k < s.size, (((s[k].toNat : Nat) : Int) != 32) = true ∧ (((s[k].toNat : Nat) : Int) != 10) = false) ∨ (∃ hlt : k < s.size, (((s[k].toNat : Nat) : Int) != 32) = true ∧ (((s[k].toNat : Nat) : Int) != 10) = true ∧ (((s[k].toNat : Nat) : Int) != 41) = false ∧ o = 0) := by
        rcases hx with hx | ⟨hx, hy⟩
        · exact Or.inl hx
        · right
          rcases hy with hy | hy | ⟨hy, hz⟩
          · left; exact ⟨hx, by rw [get_bt s k hx, hy]; rfl⟩
          · right; left; exact ⟨hx, by rw [get_bt s k hx, hy]; exact ⟨rfl, rfl⟩⟩
          · right; right; exact ⟨hx, by rw [get_bt s k hx, hy]; exact ⟨rfl, rfl, rfl, hz⟩⟩
      clear hx
      by_cases e1 : k = i ∨ 0 < o
      · have HR : Hid (R = none) := Lib.hid (by
          by_cases h0 : o = 0
          · obtain rfl : k = i := by omega
            exact HI.out (by rw [← Hk.out, HV.out, if_pos h0])
          · exact HN.out (by rw [← Hk.out, HV.out, if_neg h0]))
        have hE : (((k : Int) == i) = true ∧ (k == i) = true) ∨ (((k : Int) == i) = false ∧ (k == i) = false ∧ 0 < o) := by
          by_cases h0 : k = i
          · left; rw [h0]; simp
          · right; exact ⟨by rw [beq_eq_false_iff_ne]; omega, by rw [beq_eq_false_iff_ne]; omega, by omega⟩
        clear e1
        obtain ⟨c0, c1, c2, f0, f1, f2⟩ := Z3.facts HB.out
        rcases hw with hw | ⟨hlt, y1⟩ | ⟨hlt, y1, y2⟩ | ⟨hlt, y1, y2, y3, rfl⟩
        all_goals
          rcases hE with ⟨x1, x3⟩ | ⟨x1, x3, x2⟩
          all_goals
            first
            | omega
            | (go_wp2
               exact dest_ret (blk3 HB.out rfl _ _ _) rfl rfl (rpart_none HR.out (below3 hbw (Nat.le_refl _) _ _ _)))
      · obtain rfl : o = 0 := by omega
        have HR : Hid (R = some (unescL (sub s i k), k)) := Lib.hid (HS.out k (by omega) (by rw [← Hk.out, HV.out, if_pos rfl]))
        have x1 : ((k : Int) == i) = false := by rw [beq_eq_false_iff_ne]; omega
        have x2 : (k == i) = false := by rw [beq_eq_false_iff_ne]; omega
        have HU := Lib.hid fun W => r_unescape_sub s i k W hs
        clear e1
        rcases hw with hw | ⟨hlt, y1⟩ | ⟨hlt, y1, y2⟩ | ⟨hlt, y1, y2, y3, _⟩
        all_goals
          go_wp2_with fail
          ((with_reducible refine (HU.out _).mono ?_))
          rintro e w1 ⟨rfl, b1⟩
          have HB1 := Lib.hid (show Z3 w1 w.heap.size from Blk.below HB.out b1 hgl)
          obtain ⟨c0, c1, c2, f0, f1, f2⟩ := Z3.facts HB1.out
          go_wp2
          exact dest_ret (blk3 HB1.out rfl _ _ _) rfl rfl (rpart_some HR.out rfl (below3 (hbw.trans (b1.mono hz)) (Nat.le_refl _) _ _ _))
    · have hlt : k < s.size := by omega
      have hns : ¬ dstop s o k := fun e => hx (Or.inr ⟨hlt, e⟩)
      clear hx
      have HC := Lib.hid fun W => r_escaped s k W hs hlt
      have hlt2 : ((s[k].toNat : Nat) : Int) < 256 := by rw [get_bt s k hlt]; have := bt_lt s k; omega
      have n32 : bt s k ≠ 32 := fun e => hns (Or.inl e)
      have n10 : bt s k ≠ 10 := fun e => hns (Or.inr (Or.inl e))
      have y1 : (((s[k].toNat : Nat) : Int) != 32) = true := by rw [get_bt s k hlt]; simp; omega
      have y2 : (((s[k].toNat : Nat) : Int) != 10) = true := by rw [get_bt s k hlt]; simp; omega
      by_cases hE : escAt s k = true
      · obtain ⟨hk2, h92⟩ := escAt_lt hE
        have y3 : (((s[k].toNat : Nat) : Int) != 41) = true := by rw [get_bt s k hlt]; simp; omega
        have hst : Hid (destA s o (k + 2) = destA s 0 i) := Lib.hid (by rw [← Hk.out]; exact (destA_esc s o k hE).symm)
        rw [hE] at HC
        clear hE n32 n10 hns h92
        go_wp2_with fail
        ((with_reducible refine (HC.out _).mono ?_))
        rintro e w1 ⟨rfl, b1⟩
        go_wp2
        go_roundw
        case rel => exact ⟨o, k + 2, by omega, by omega, by omega, by go_num, rfl, hst, HB.out.below b1 hgl, hbw.trans (b1.mono hz)⟩
        case measure => simp [intOf]; omega
      · rw [Bool.not_eq_true] at hE
        have HE := Lib.hid hE
        rw [hE] at HC
        clear hE
        by_cases c40 : bt s k = 40
        · have y3 : (((s[k].toNat : Nat) : Int) != 41) = true := by rw [get_bt s k hlt]; simp; omega
          have y3' : (((s[k].toNat : Nat) : Int) == 41) = false := by rw [get_bt s k hlt, beq_eq_false_iff_ne]; omega
          have y4 : (((s[k].toNat : Nat) : Int) == 40) = true := by rw [get_bt s k hlt, c40]; rfl
          have hst := destA_open s o k hlt c40
          have Hst := Lib.hid hst
          clear n32 n10 hns hst c40
          by_cases h8 : 8 ≤ o
          · obtain rfl : o = 8 := by omega
            have HR : Hid (R = none) := Lib.hid (HN.out (by rw [← Hk.out, Hst.out, if_pos h8]))
            go_wp2_with fail
            ((with_reducible refine (HC.out _).mono ?_))
            rintro e w1 ⟨rfl, b1⟩
            have HB1 := Lib.hid (show Z3 w1 w.heap.size from Blk.below HB.out b1 hgl)
            obtain ⟨c0, c1, c2, f0, f1, f2⟩ := Z3.facts HB1.out
            go_wp2
            exact dest_ret (blk3 HB1.out rfl _ _ _) rfl rfl (rpart_none HR.out (below3 (hbw.trans (b1.mono hz)) (Nat.le_refl _) _ _ _))
          · have hst : Hid (destA s (o + 1) (k + 1) = destA s 0 i) := Lib.hid (by rw [← Hk.out, Hst.out, if_neg h8])
            go_wp2_with fail
            ((with_reducible refine (HC.out _).mono ?_))
            rintro e w1 ⟨rfl, b1⟩
            go_wp2
            go_roundw
            case rel => exact ⟨o + 1, k + 1, by omega, by omega, by omega, by go_num, by go_num, hst, HB.out.below b1 hgl, hbw.trans (b1.mono hz)⟩
            case measure => simp [intOf]; omega
        · have y4 : (((s[k].toNat : Nat) : Int) == 40) = false := by rw [get_bt s k hlt, beq_eq_false_iff_ne]; omega
          by_cases c41 : bt s k = 41
          · have y3 : (((s[k].toNat : Nat) : Int) != 41) = false := by rw [get_bt s k hlt, c41]; rfl
            have y3' : (((s[k].toNat : Nat) : Int) == 41) = true := by rw [get_bt s k hlt, c41]; rfl
            have ho0 : 0 < o := by
              rcases Nat.eq_zero_or_pos o with e | e
              · exact absurd (Or.inr (Or.inr ⟨c41, e⟩)) hns
              · exact e
            have hst : Hid (destA s (o - 1) (k + 1) = destA s 0 i) := Lib.hid (by rw [← Hk.out, destA_close s o k hlt c41 ho0])
            clear n32 n10 hns c40 c41
            go_wp2_with fail
            ((with_reducible refine (HC.out _).mono ?_))
            rintro e w1 ⟨rfl, b1⟩
            go_wp2
            go_roundw
            case rel => exact ⟨o - 1, k + 1, by omega, by omega, by omega, by go_num, congrArg (Value.int .i64) (by omega), hst, HB.out.below b1 hgl, hbw.trans (b1.mono hz)⟩
            case measure => simp [intOf]; omega
          · have y3 : (((s[k].toNat : Nat) : Int) != 41) = true := by rw [get_bt s k hlt]; simp; omega
            have y3' : (((s[k].toNat : Nat) : Int) == 41) = false := by rw [get_bt s k hlt, beq_eq_false_iff_ne]; omega
            have hst : Hid (destA s o (k + 1) = destA s 0 i) := Lib.hid (by rw [← Hk.out, destA_step s o k hlt hns HE.out c40 c41])
            clear n32 n10 hns c40 c41
            go_wp2_with fail
            ((with_reducible refine (HC.out _).mono ?_))
            rintro e w1 ⟨rfl, b1⟩
            go_wp2
            go_roundw
            case rel => exact ⟨o, k + 1, by omega, by omega, by omega, by go_num, rfl, hst, HB.out.below b1 hgl, hbw.trans (b1.mono hz)⟩
            case measure => simp [intOf]; omega

theorem r_dest (s : ByteArray) (i : Int) (w : World) (hs : s.size ≤ 1000000) :
    Calls Tryz.prog 62 #[.string s, .int .i64 i] w (RPartPost (destR s i) w) := by
  by_cases h : 0 ≤ i ∧ i < s.size
  · obtain ⟨k, rfl⟩ := Int.eq_ofNat_of_zero_le h.1
    by_cases hc : bt s k = 60
    · exact r_dest_ang s k w hs (by have := h.2; omega) hc
    · exact r_dest_plain s k w hs (by have := h.2; omega) hc
  · exact r_dest_no s i w hs h
end Go.Proofs.YthfienjmigidbaaGreatDoor
namespace Go.Pub
theorem labB_bne (c : Int) (h : labB c = true) : inB c letterL = true ∨ (inB c letterL = false ∧ (digitB c = true ∨ (digitB c = false ∧ ((c != 32) = false ∨ ((c != 32) = true ∧ ((c != 45) = false ∨ ((c != 45) = true ∧ ((c != 95) = false ∨ ((c != 95) = true ∧ ((c != 46) = false ∨ ((c != 46) = true ∧ (c != 58) = false))))))))))) := by
  unfold labB at h
  unfold bne
  cases h1 : inB c letterL <;> cases h2 : digitB c <;> cases h3 : c == 32 <;> cases h4 : c == 45 <;> cases h5 : c == 95 <;> cases h6 : c == 46 <;> cases h7 : c == 58 <;> simp_all
theorem labB_bnn (c : Int) (h : labB c = false) : inB c letterL = false ∧ digitB c = false ∧ (c != 32) = true ∧ (c != 45) = true ∧ (c != 95) = true ∧ (c != 46) = true ∧ (c != 58) = true := by
  unfold labB at h
  simp only [Bool.or_eq_false_iff] at h
  unfold bne
  rw [h.1.1.1.1.2, h.1.1.1.2, h.1.1.2, h.1.2, h.2]
  exact ⟨h.1.1.1.1.1.1, h.1.1.1.1.1.2, rfl, rfl, rfl, rfl, rfl⟩
end Go.Pub
namespace Go.Proofs.YthfienjmigidbaaGreatDoor
open Go.RowKit Go.Pub

set_option maxRecDepth 100000 in
set_option maxHeartbeats 8000000 in
theorem r_label (s : ByteArray) (w : World) (hs : s.size ≤ 1000000) :
    Calls Tryz.prog 66 #[.string s] w fun e w' => e = .returned (.string (mk (labelL (bytesL s)))) ∧ Below w.heap.size w w' := by
  have HC := Lib.hid fun W => rFold_any s W hs
  have hR : labelL (bytesL s) = if 60 < (foldL s).length then [] else if (pts (mk (foldL s))).all fun p => labB p.1 then foldL s else [] := by unfold labelL; rw [mk_bytesL]
  have HR := Lib.hid hR
  clear hR
  generalize labelL (bytesL s) = R at *
  generalize foldL s = F at *
  obtain ⟨g, hg⟩ : ∃ g : ByteArray, g = mk F := ⟨_, rfl⟩
  have HG : Hid (mk F = g) := Lib.hid hg.symm
  have hgs : g.size = F.length := by rw [hg]; show F.toArray.size = _; simp
  have HC' : Hid (∀ W, Calls Tryz.prog 16 #[.string s] W fun e w' => e = .returned (.string g) ∧ Below W.heap.size W w') := Lib.hid (by rw [hg]; exact HC.out)
  clear HC hg
  by_cases hl : g.size < 1 ∨ 60 < g.size
  · have HF : Hid (R = []) := Lib.hid (by
      rw [HR.out]
      rcases hl with hl | hl
      · have : F = [] := List.length_eq_zero_iff.1 (by omega)
        rw [this, if_neg (by simp)]; split <;> rfl
      · rw [if_pos (by omega)])
    clear hgs
    have hw : g.size = 0 ∨ (decide ((g.size : Int) < 1) = false ∧ 60 < g.size) := by
      rcases hl with hl | hl
      · exact Or.inl (by omega)
      · exact Or.inr ⟨by simp; omega, hl⟩
    clear hl
    rcases hw with z1 | ⟨z1, z2⟩
    all_goals
      go_enter Tryz.func66, Tryz.ntmps66
      go_wp2_with fail
      ((with_reducible refine (HC'.out _).mono ?_))
      rintro e w1 ⟨rfl, b1⟩
      go_wp2
      go_ret
      exact ⟨ret_str (by rw [HF.out]; rfl), b1⟩
  · have HR2 : Hid (R = if (pts g).all (fun p => labB p.1) then F else []) := Lib.hid (by rw [HR.out, if_neg (by omega), HG.out])
    have zl : decide (60 < (g.size : Int)) = false := by simp; omega
    have zk : decide ((g.size : Int) < 1) = false := by simp; omega
    have HP := Lib.hid (points_any g)
    have hlen := pts_length g
    generalize pts g = l at *
    clear hgs HR
    go_enter Tryz.func66, Tryz.ntmps66
    go_wp2_with fail
    ((with_reducible refine (HC'.out _).mono ?_))
    rintro e w1 ⟨rfl, b1⟩
    have hz1 := b1.size
    go_wp2_with fail
    refine (HP.out _ (by omega)).mono ?_
    rintro e w2 ⟨v0, rfl, hown0, b2⟩
    obtain ⟨A, cp, rfl⟩ := own_slice hown0
    have hrd := Reads.of_own hown0
    have hz2 := b2.size
    go_wp2
    go_loopw [20] (fun i wr => ∃ k : Nat, i = .int .i64 k ∧ k ≤ l.length ∧ Below w2.heap.size w2 wr ∧ Hid (l.all (fun p => labB p.1) = (l.drop k).all (fun p => labB p.1))) (fun i _ => l.length - (intOf i).toNat)
    case atStart => exact ⟨0, rfl, by omega, Below.refl _ _, Lib.hid (by rw [List.drop_zero])⟩
    case round =>
      obtain ⟨k, rfl, hk, hb, Hal⟩ := hrel
      by_cases hlt : k < l.length
      · obtain ⟨ad, rfl, hadb, hcell⟩ := hrd.2 (by omega)
        obtain ⟨gb, hg⟩ : ∃ g, ad = ⟨g, 0, none⟩ := by
          obtain ⟨g, cap, hv, _⟩ := hown0.form (by omega)
          injection hv with h1 h2 h3
          injection h1 with h1
          exact ⟨g, h1⟩
        subst hg
        have hp := ptCells_at l k l[k] (List.getElem?_eq_getElem hlt)
        have hc0 : wr.cell? ⟨gb, k * 2, none⟩ = some (.int .i64 l[k].1) := (hb.cell (p := ⟨gb, k * 2, none⟩) hadb).trans (by rw [← add_plain]; exact hcell _ _ hp.1)
        have hc1 : wr.cell? ⟨gb, k * 2 + 1, none⟩ = some (.int .i64 l[k].2) := (hb.cell (p := ⟨gb, k * 2 + 1, none⟩) hadb).trans (by rw [← add_plain]; exact hcell _ _ hp.2)
        have hz := hb.size
        have hst : Hid (l.all (fun p => labB p.1) = (labB l[k].1 && (l.drop (k + 1)).all (fun p => labB p.1))) := Lib.hid (by rw [Hal.out, List.drop_eq_getElem_cons hlt, List.all_cons])
        clear hp hcell
        have HL := Lib.hid fun W => rLetter_any (l[k].1 : Int) W
        have HD := Lib.hid fun W => rDigit_any (l[k].1 : Int) W
        generalize l[k] = D at *
        cases hlb : labB (D.1 : Int)
        · have HF : Hid (R = []) := Lib.hid (by rw [HR2.out, hst.out, hlb, if_neg (by simp)])
          obtain ⟨y1, y2, y3, y4, y5, y6, y7⟩ := labB_bnn _ hlb
          clear hlb
          rw [y1] at HL
          rw [y2] at HD
          clear y1 y2
          go_wp2_with fail
          ((with_reducible refine (HL.out _).mono ?_))
          rintro e w3 ⟨rfl, b3⟩
          go_wp2_with fail
          ((with_reducible refine (HD.out _).mono ?_))
          rintro e w' ⟨rfl, rfl⟩
          go_wp2_with fail
          go_ret
          exact ⟨ret_str (by rw [HF.out]; rfl), b1.trans ((b2.trans (((hb.alloc hz _).trans (b3.mono (by simp; omega))).mono hz2)).mono hz1)⟩
        · have hst2 : Hid (l.all (fun p => labB p.1) = (l.drop (k + 1)).all (fun p => labB p.1)) := Lib.hid (by rw [hst.out, hlb, Bool.true_and])
          have hy := labB_bne _ hlb
          clear hlb
          rcases hy with y1 | ⟨y1, y2 | ⟨y2, y3 | ⟨y3, y4 | ⟨y4, y5 | ⟨y5, y6 | ⟨y6, y7⟩⟩⟩⟩⟩⟩
          · rw [y1] at HL
            clear y1
            go_wp2_with fail
            ((with_reducible refine (HL.out _).mono ?_))
            rintro e w3 ⟨rfl, b3⟩
            go_wp2_with fail
            go_roundw
            case rel => exact ⟨k + 1, by go_num, by omega, (hb.alloc hz _).trans (b3.mono (by simp; omega)), hst2⟩
            case measure => simp [intOf]; omega
          all_goals
            rw [y1] at HL
            rw [y2] at HD
            clear y1 y2
            go_wp2_with fail
            ((with_reducible refine (HL.out _).mono ?_))
            rintro e w3 ⟨rfl, b3⟩
            go_wp2_with fail
            ((with_reducible refine (HD.out _).mono ?_))
            rintro e w' ⟨rfl, rfl⟩
            go_wp2_with fail
            go_roundw
            case rel => exact ⟨k + 1, by go_num, by omega, (hb.alloc hz _).trans (b3.mono (by simp; omega)), hst2⟩
            case measure => simp [intOf]; omega
      · obtain rfl : k = l.length := by omega
        have HF : Hid (R = F) := Lib.hid (by rw [HR2.out, Hal.out, List.drop_length]; rfl)
        go_wp2_with fail
        go_ret
        exact ⟨ret_str (by rw [HF.out]; exact HG.out.symm), b1.trans ((b2.trans (hb.mono hz2)).mono hz1)⟩
end Go.Proofs.YthfienjmigidbaaGreatDoor
namespace Go.Pub
/-- The first byte from k on that is a closing bracket, or the end. -/
def brkA (s : ByteArray) (k : Nat) : Nat := k + brk (sfx s k)
theorem brkA_end (s : ByteArray) (k : Nat) (h : s.size ≤ k) : brkA s k = k := by unfold brkA; rw [sfx_nil s k h]; rfl
theorem brk_cons (c : UInt8) (l : List UInt8) : brk (c :: l) = if c == 93 then 0 else brk l + 1 := by
  unfold brk; rw [List.findIdx_cons]; cases c == 93 <;> rfl
theorem g93 (s : ByteArray) (k : Nat) : s.get! k = 93 ↔ bt s k = 93 := bt_u8 s k 93 (by decide)
theorem brkA_stop (s : ByteArray) (k : Nat) (h : k < s.size) (hc : bt s k = 93) : brkA s k = k := by
  unfold brkA; rw [sfx_cons s k h, brk_cons, (g93 s k).2 hc]; rfl
theorem brkA_step (s : ByteArray) (k : Nat) (h : k < s.size) (hc : bt s k ≠ 93) : brkA s k = brkA s (k + 1) := by
  unfold brkA; rw [sfx_cons s k h, brk_cons, if_neg (by rw [beq_iff_eq]; exact fun e => hc ((g93 s k).1 e))]; omega
theorem brackA (s : ByteArray) (i : Nat) (h : i < s.size) (hc : bt s i = 91) : brackR s i = if brkA s (i + 1) < s.size ∧ labelL (sub s (i + 1) (brkA s (i + 1))) ≠ [] then some (labelL (sub s (i + 1) (brkA s (i + 1))), brkA s (i + 1) + 1) else none := by
  unfold brackR
  rw [if_pos ⟨h, hc⟩]
  have e1 : (sfx s (i + 1)).take (brk (sfx s (i + 1))) = sub s (i + 1) (brkA s (i + 1)) := by
    unfold sub sfx brkA
    congr 1
    show _ = i + 1 + brk (sfx s (i + 1)) - (i + 1)
    unfold sfx
    omega
  have e2 : brk (sfx s (i + 1)) < (sfx s (i + 1)).length ↔ brkA s (i + 1) < s.size := by
    rw [sfx_len]; unfold brkA; omega
  have e3 : i + brk (sfx s (i + 1)) + 2 = brkA s (i + 1) + 1 := by unfold brkA; omega
  rw [e1, e3]
  by_cases hh : brkA s (i + 1) < s.size ∧ labelL (sub s (i + 1) (brkA s (i + 1))) ≠ []
  · rw [if_pos hh, if_pos ⟨e2.2 hh.1, hh.2⟩]
  · rw [if_neg hh, if_neg (fun e => hh ⟨e2.1 e.1, e.2⟩)]
end Go.Pub
namespace Go.Proofs.YthfienjmigidbaaGreatDoor
open Go.RowKit Go.Pub

theorem r_label_sub (s : ByteArray) (i k : Nat) (w : World) (hs : s.size ≤ 1000000) : Calls Tryz.prog 66 #[.string (s.extract i k)] w fun e w' => e = .returned (.string (mk (labelL (sub s i k)))) ∧ Below w.heap.size w w' := by
  have h := r_label (s.extract i k) w (by have : (s.extract i k).size ≤ s.size := by rw [ByteArray.size_extract]; omega
                                          omega)
  rw [bytesL_sub] at h
  exact h

theorem label_ret {W : World} {g : Nat} {x y z : Value} {P : Ending → World → Prop} {act : Act} (hr : Blk W g 70 #[x, y, z]) (h4 : act.tmps.getD 4 undef = .pointer (some ⟨g, 0, none⟩))
    (hd : act.defers = []) (hP : P (.returned (.agg #[x, y, z])) W) : bodyPost Tryz.prog Tryz.f61 P Exit.ret act W := by
  have c0 : W.cell? ⟨g, 0, none⟩ = some x := hr.cell 0
  have c1 : W.cell? ⟨g, 1, none⟩ = some y := hr.cell 1
  have c2 : W.cell? ⟨g, 2, none⟩ = some z := hr.cell 2
  refine bodyPost_ret (v := .agg #[x, y, z]) ?_ hd hP
  rw [Array.getD_eq_getD_getElem?] at h4
  simp [results, Tryz.results61, go_sem, h4, c0, c1, c2]

set_option maxRecDepth 100000 in
set_option maxHeartbeats 4000000 in
theorem r_readlabel_no (s : ByteArray) (i : Nat) (w : World) (hs : s.size ≤ 1000000) (hi : i ≤ s.size) (h : ¬ (i < s.size ∧ bt s i = 91)) :
    Calls Tryz.prog 61 #[.string s, .int .i64 i] w (RPartPost (brackR s i) w) := by
  have HR : Hid (brackR s i = none) := Lib.hid (by unfold brackR; rw [if_neg h])
  generalize brackR s i = R at *
  have zi : decide ((i : Int) < 0) = false := by simp
  by_cases hlt : i < s.size
  · have z0 : (((s[i].toNat : Nat) : Int) != 91) = true := by rw [get_bt s i hlt]; simp; omega
    have zj : decide (s.size ≤ i) = false := by simp; omega
    clear h
    go_enter Tryz.func61, Tryz.ntmps61
    go_wp2
    exact label_ret (Blk.new _ _ _) rfl rfl (rpart_none HR.out ((Below.refl _ _).alloc (Nat.le_refl _) _))
  · have zj : decide (s.size ≤ i) = true := by simp; omega
    clear h
    go_enter Tryz.func61, Tryz.ntmps61
    go_wp2
    exact label_ret (Blk.new _ _ _) rfl rfl (rpart_none HR.out ((Below.refl _ _).alloc (Nat.le_refl _) _))

set_option maxRecDepth 100000 in
set_option maxHeartbeats 8000000 in
theorem r_readlabel_yes (s : ByteArray) (i : Nat) (w : World) (hs : s.size ≤ 1000000) (hi : i < s.size) (h : bt s i = 91) :
    Calls Tryz.prog 61 #[.string s, .int .i64 i] w (RPartPost (brackR s i) w) := by
  have HR := Lib.hid (brackA s i hi h)
  generalize brackR s i = R at *
  have z0 : (((s[i].toNat : Nat) : Int) != 91) = false := by rw [get_bt s i hi, h]; rfl
  have zi : decide ((i : Int) < 0) = false := by simp
  have zj : decide (s.size ≤ i) = false := by simp; omega
  clear h
  go_enter Tryz.func61, Tryz.ntmps61
  go_wp2
  go_loopw [5] (fun a wr => ∃ k : Nat, i + 1 ≤ k ∧ k ≤ s.size ∧ a = .int .i64 k ∧ Hid (brkA s k = brkA s (i + 1)) ∧ Z3 wr w.heap.size ∧ Below w.heap.size w wr) (fun a _ => s.size - (intOf a).toNat)
  case atStart => exact ⟨i + 1, by omega, by omega, by go_num, Lib.hid rfl, Blk.new _ _ _, (Below.refl _ _).alloc (Nat.le_refl _) _⟩
  case round =>
    obtain ⟨k, hk1, hk, rfl, Hk, hB, hbw⟩ := hrel
    have hz := hbw.size
    have HB := Lib.hid hB
    have hgl := hB.lt
    clear hB
    by_cases hlt : k < s.size
    · by_cases hc : bt s k = 93
      · have y1 : (((s[k].toNat : Nat) : Int) != 93) = false := by rw [get_bt s k hlt, hc]; rfl
        have HK : Hid (R = if labelL (sub s (i + 1) k) ≠ [] then some (labelL (sub s (i + 1) k), k + 1) else none) := Lib.hid (by
          rw [HR.out, ← Hk.out, brkA_stop s k hlt hc]
          by_cases hh : labelL (sub s (i + 1) k) ≠ []
          · rw [if_pos ⟨hlt, hh⟩, if_pos hh]
          · rw [if_neg (fun e => hh e.2), if_neg hh])
        have HC := Lib.hid fun W => r_label_sub s (i + 1) k W hs
        clear hc HR
        generalize labelL (sub s (i + 1) k) = Lb at *
        cases Lb with
        | nil =>
          have HF : Hid (R = none) := Lib.hid (by rw [HK.out, if_neg (by simp)])
          have HC' : Hid (∀ W, Calls Tryz.prog 66 #[.string (s.extract (i + 1) k)] W fun e w' => e = .returned (.string ⟨#[]⟩) ∧ Below W.heap.size W w') := Lib.hid HC.out
          go_wp2_with fail
          ((with_reducible refine (HC'.out _).mono ?_))
          rintro e w1 ⟨rfl, b1⟩
          have HB1 := Lib.hid (show Z3 w1 w.heap.size from Blk.below HB.out b1 hgl)
          obtain ⟨c0, c1, c2, f0, f1, f2⟩ := Z3.facts HB1.out
          go_wp2
          exact label_ret (blk3 HB1.out rfl _ _ _) rfl rfl (rpart_none HF.out (below3 (hbw.trans (b1.mono hz)) (Nat.le_refl _) _ _ _))
        | cons c l =>
          have HF : Hid (R = some (c :: l, k + 1)) := Lib.hid (by rw [HK.out, if_pos (by simp)])
          have x1 : (mk (c :: l)).toList.isEmpty = false := by rw [Lib.toList_data]; rfl
          have x2 : (mk (c :: l)).toList = c :: l := by rw [Lib.toList_data]; rfl
          generalize hG : mk (c :: l) = G at *
          have HG := Lib.hid hG
          clear hG
          go_wp2_with fail
          ((with_reducible refine (HC.out _).mono ?_))
          rintro e w1 ⟨rfl, b1⟩
          have hz1 := b1.size
          have HB1 := Lib.hid (show Z3 w1 w.heap.size from Blk.below HB.out b1 hgl)
          have hgl1 := HB1.out.lt
          go_wp2_with fail
          ((with_reducible refine (HC.out _).mono ?_))
          rintro e w2 ⟨rfl, b2⟩
          have HB2 := Lib.hid (show Z3 w2 w.heap.size from Blk.below HB1.out b2 hgl1)
          obtain ⟨c0, c1, c2, f0, f1, f2⟩ := Z3.facts HB2.out
          go_wp2
          exact label_ret (blk3 HB2.out rfl _ _ _) rfl rfl (by rw [← HG.out]; exact rpart_some HF.out (by omega) (below3 ((hbw.trans (b1.mono hz)).trans (b2.mono (by omega))) (Nat.le_refl _) _ _ _))
      · have y1 : (((s[k].toNat : Nat) : Int) != 93) = true := by rw [get_bt s k hlt]; simp; omega
        have hst := Lib.hid (brkA_step s k hlt hc)
        clear hc
        go_wp2_with fail
        go_roundw
        case rel => exact ⟨k + 1, by omega, by omega, by go_num, Lib.hid (by rw [← hst.out]; exact Hk.out), HB.out, hbw⟩
        case measure => simp [intOf]; omega
    · have HF : Hid (R = none) := Lib.hid (by rw [HR.out, ← Hk.out, brkA_end s k (by omega), if_neg (fun e => hlt e.1)])
      have zk : decide (s.size ≤ k) = true := by simp; omega
      obtain ⟨c0, c1, c2, f0, f1, f2⟩ := Z3.facts HB.out
      go_wp2_with fail
      exact label_ret (blk3 HB.out rfl _ _ _) rfl rfl (rpart_none HF.out (below3 hbw (Nat.le_refl _) _ _ _))

theorem r_readlabel (s : ByteArray) (i : Nat) (w : World) (hs : s.size ≤ 1000000) (hi : i ≤ s.size) :
    Calls Tryz.prog 61 #[.string s, .int .i64 i] w (RPartPost (brackR s i) w) := by
  by_cases h : i < s.size ∧ bt s i = 91
  · exact r_readlabel_yes s i w hs h.1 h.2
  · exact r_readlabel_no s i w hs hi h
end Go.Proofs.YthfienjmigidbaaGreatDoor
namespace Go.Pub
/-- The end of a string, from j on. -/
def ext (s : ByteArray) (j : Nat) : ByteArray := mk (sfx s j)
theorem ext_eq (s : ByteArray) (j : Nat) : s.extract j s.size = ext s j := extract_drop s j
theorem ext_sfx (s : ByteArray) (j k : Nat) : sfx (ext s j) k = sfx s (j + k) := by unfold ext sfx; rw [bytesL_mk', List.drop_drop]
theorem ext_bytes (s : ByteArray) (j : Nat) : bytesL (ext s j) = sfx s j := bytesL_mk' _
theorem ext_ext (s : ByteArray) (j k : Nat) : ext (ext s j) k = ext s (j + k) := by unfold ext; rw [← ext_sfx]; rfl
theorem ext_size (s : ByteArray) (j : Nat) : (ext s j).size = s.size - j := by unfold ext; rw [mk_size, sfx_len]
theorem ext_zero (s : ByteArray) : ext s 0 = s := by unfold ext sfx; rw [List.drop_zero, mk_bytesL]
theorem ext_bt (s : ByteArray) (j k : Nat) (h : j + k < s.size) : bt (ext s j) k = bt s (j + k) := by
  have e1 := sfx_cons (ext s j) k (by rw [ext_size]; omega)
  rw [ext_sfx, sfx_cons s (j + k) h] at e1
  injection e1 with e1 _
  unfold bt
  rw [e1]
theorem ext_sub (s : ByteArray) (j a b : Nat) : sub (ext s j) a b = sub s (j + a) (j + b) := by
  have e : ∀ (x : ByteArray) (u v : Nat), sub x u v = (sfx x u).take (v - u) := fun _ _ _ => rfl
  rw [e, e, ext_sfx, show j + b - (j + a) = b - a by omega]
theorem triL_F : ∀ l : List UInt8, triL l = trimF l
  | [] => rfl
  | c :: l => by
    rw [triL_cons]
    by_cases h : c = 32
    · rw [if_pos h, h, trimF_sp]; exact triL_F l
    · rw [if_neg h, trimF_no _ _ h]
theorem triB_ext (s : ByteArray) (j : Nat) : triB (ext s j) = ext s (indA s j) := by
  unfold triB; rw [ext_bytes, triL_F, trimF_sfx]; rfl
theorem triB_at (s : ByteArray) : triB s = ext s (indA s 0) := by have := triB_ext s 0; rwa [ext_zero] at this
theorem map_add {α : Type} (o : Option α) (f g : α → α) (h : ∀ x, f x = g x) : o.map f = o.map g := by cases o; rfl; exact congrArg some (h _)
theorem scan_ext (s : ByteArray) (a b j k : Nat) : scanA s a b (j + k) = (scanA (ext s j) a b k).map (j + ·) := by
  unfold scanA
  rw [ext_sfx, Option.map_map]
  exact map_add _ _ _ fun x => by show x + (j + k) = j + (x + k); omega
theorem betw_ext (s : ByteArray) (a b j : Nat) : betw s j a b = (betw (ext s j) 0 a b).map fun p => (p.1, j + p.2) := by
  unfold betw
  rw [scan_ext s a b j 1, Option.map_map, Option.map_map, show 0 + 1 = 1 from rfl]
  cases scanA (ext s j) a b 1 with
  | none => rfl
  | some x =>
    show some _ = some _
    congr 1
    show (unescL (sub s (j + 1) (j + x)), j + x + 1) = (unescL (sub (ext s j) 1 x), j + (x + 1))
    rw [ext_sub]; rfl
theorem destN (s : ByteArray) (j : Nat) : destR s (j : Nat) = if j < s.size then (if bt s j = 60 then betw s j 62 60 else (destA s 0 j).bind fun k => if k = j then none else some (unescL (sub s j k), k)) else none := by
  unfold destR
  by_cases hj : j < s.size
  · have g1 : (0 : Int) ≤ (j : Int) ∧ (j : Int) < (s.size : Int) := ⟨by omega, by omega⟩
    rw [if_pos g1, if_pos hj]; rfl
  · have g1 : ¬ ((0 : Int) ≤ (j : Int) ∧ (j : Int) < (s.size : Int)) := by omega
    rw [if_neg g1, if_neg hj]
theorem titleN (s : ByteArray) (j : Nat) : titleR s (j : Nat) = if j < s.size then (if bt s j = 34 then betw s j 34 34 else if bt s j = 39 then betw s j 39 39 else none) else none := by
  unfold titleR
  by_cases hj : j < s.size
  · have g1 : (0 : Int) ≤ (j : Int) ∧ (j : Int) < (s.size : Int) := ⟨by omega, by omega⟩
    rw [if_pos g1, if_pos hj]; rfl
  · have g1 : ¬ ((0 : Int) ≤ (j : Int) ∧ (j : Int) < (s.size : Int)) := by omega
    rw [if_neg g1, if_neg hj]
theorem dest_ext (s : ByteArray) (j : Nat) : destR s j = (destR (ext s j) 0).map fun p => (p.1, j + p.2) := by
  rw [show destR (ext s j) 0 = destR (ext s j) ((0 : Nat) : Int) from rfl, destN, destN]
  by_cases hj : j < s.size
  · have g2 : 0 < (ext s j).size := by rw [ext_size]; omega
    have e : bt (ext s j) 0 = bt s j := by rw [ext_bt s j 0 (by omega)]; rfl
    rw [if_pos hj, if_pos g2, e]
    by_cases h : bt s j = 60
    · rw [if_pos h, if_pos h]; exact betw_ext s 62 60 j
    · rw [if_neg h, if_neg h]
      unfold destA
      rw [ext_sfx, Nat.add_zero]
      cases destL 0 (sfx s j) with
      | none => rfl
      | some x =>
        show (if x + j = j then none else some (unescL (sub s j (x + j)), x + j)) = (if x + 0 = 0 then none else some (unescL (sub (ext s j) 0 (x + 0)), x + 0)).map _
        by_cases hx : x = 0
        · rw [if_pos (by omega), if_pos (by omega)]; rfl
        · rw [if_neg (by omega), if_neg (by omega), ext_sub]
          show some _ = some _
          rw [Nat.add_zero, Nat.add_zero, Nat.add_comm x j]
  · have g2 : ¬ 0 < (ext s j).size := by rw [ext_size]; omega
    rw [if_neg hj, if_neg g2]; rfl
theorem title_ext (s : ByteArray) (j : Nat) : titleR s j = (titleR (ext s j) 0).map fun p => (p.1, j + p.2) := by
  rw [show titleR (ext s j) 0 = titleR (ext s j) ((0 : Nat) : Int) from rfl, titleN, titleN]
  by_cases hj : j < s.size
  · have g2 : 0 < (ext s j).size := by rw [ext_size]; omega
    have e : bt (ext s j) 0 = bt s j := by rw [ext_bt s j 0 (by omega)]; rfl
    rw [if_pos hj, if_pos g2, e]
    by_cases h : bt s j = 34
    · rw [if_pos h, if_pos h]; exact betw_ext s 34 34 j
    · rw [if_neg h, if_neg h]
      by_cases h' : bt s j = 39
      · rw [if_pos h', if_pos h']; exact betw_ext s 39 39 j
      · rw [if_neg h', if_neg h']; rfl
  · have g2 : ¬ 0 < (ext s j).size := by rw [ext_size]; omega
    rw [if_neg hj, if_neg g2]; rfl
theorem brack_ext (s : ByteArray) (j : Nat) : brackR s j = (brackR (ext s j) 0).map fun p => (p.1, j + p.2) := by
  unfold brackR
  have h0 : sfx (ext s j) (0 + 1) = sfx s (j + 1) := ext_sfx s j 1
  rw [h0]
  by_cases hj : j < s.size ∧ bt s j = 91
  · have g2 : 0 < (ext s j).size ∧ bt (ext s j) 0 = 91 := ⟨by rw [ext_size]; omega, by rw [ext_bt s j 0 (by omega)]; exact hj.2⟩
    rw [if_pos hj, if_pos g2]
    by_cases h2 : brk (sfx s (j + 1)) < (sfx s (j + 1)).length ∧ labelL ((sfx s (j + 1)).take (brk (sfx s (j + 1)))) ≠ []
    · rw [if_pos h2, if_pos h2]
      show some _ = some _
      congr 2
      show j + brk (sfx s (j + 1)) + 2 = j + (0 + brk (sfx s (j + 1)) + 2)
      omega
    · rw [if_neg h2, if_neg h2]; rfl
  · have g2 : ¬ (0 < (ext s j).size ∧ bt (ext s j) 0 = 91) := by
      rintro ⟨h1, h2⟩
      rw [ext_size] at h1
      rw [ext_bt s j 0 (by omega)] at h2
      exact hj ⟨by omega, h2⟩
    rw [if_neg hj, if_neg g2]; rfl
/-- A definition, read by indices. -/
def defTl (s : ByteArray) (l d : List UInt8) (e : Nat) : Option (List UInt8 × List UInt8 × List UInt8) :=
  if indA s e = s.size then some (l, d, []) else if indA s e = e then none
  else match titleR s (indA s e : Nat) with
    | none => none
    | some t => if indA s t.2 < s.size then none else some (l, d, t.1)
def defDt (s : ByteArray) (l : List UInt8) (t : Nat) : Option (List UInt8 × List UInt8 × List UInt8) :=
  match destR s (indA s (t + 1) : Nat) with
  | none => none
  | some d => defTl s l d.1 d.2
def defI (s : ByteArray) : Option (List UInt8 × List UInt8 × List UInt8) :=
  if 3 < indA s 0 then none else
  match brackR s (indA s 0) with
  | none => none
  | some b => if b.2 < s.size ∧ bt s b.2 = 58 then defDt s b.1 b.2 else none
theorem ind_ge (s : ByteArray) (i : Nat) : i ≤ indA s i := by rw [indA_run]; omega
theorem ind_lt (s : ByteArray) (i : Nat) (h : i ≤ s.size) : indA s i ≤ s.size := (indA_bd s i h).2
theorem defTl_eq (s : ByteArray) (l d : List UInt8) (j p : Nat) (hp : j + p ≤ s.size) :
    defTl s l d (j + p) = (if (triB ((ext s j).extract p (ext s j).size)).size = 0 then some (l, d, [])
    else if (triB ((ext s j).extract p (ext s j).size)).size = (ext s j).size - p then none
    else (titleR (triB ((ext s j).extract p (ext s j).size)) 0).bind fun t =>
      if (triB ((triB ((ext s j).extract p (ext s j).size)).extract t.2 (triB ((ext s j).extract p (ext s j).size)).size)).size = 0 then some (l, d, t.1) else none) := by
  have hA : triB ((ext s j).extract p (ext s j).size) = ext s (indA s (j + p)) := by rw [ext_eq, ext_ext, triB_ext]
  rw [hA]
  have h1 := ind_ge s (j + p)
  have h2 := ind_lt s (j + p) hp
  unfold defTl
  generalize indA s (j + p) = k at *
  rw [ext_size, ext_size]
  by_cases h3 : k = s.size
  · have g : s.size - k = 0 := by omega
    rw [if_pos h3, if_pos g]
  have g3 : ¬ s.size - k = 0 := by omega
  rw [if_neg h3, if_neg g3]
  by_cases h4 : k = j + p
  · have g : s.size - k = s.size - j - p := by omega
    rw [if_pos h4, if_pos g]
  have g4 : ¬ s.size - k = s.size - j - p := by omega
  rw [if_neg h4, if_neg g4, title_ext s k]
  cases ht : titleR (ext s k) 0 with
  | none => rfl
  | some t =>
    obtain ⟨t, q⟩ := t
    have hq := (titleR_le ht).2.1
    rw [ext_size] at hq
    show (if indA s (k + q) < s.size then none else some (l, d, t)) = (if (triB ((ext s k).extract q (s.size - k))).size = 0 then some (l, d, t) else none)
    have e : triB ((ext s k).extract q (s.size - k)) = ext s (indA s (k + q)) := by
      rw [← ext_size, ext_eq, ext_ext, triB_ext]
    rw [e, ext_size]
    simp only at hq
    have h5 := ind_lt s (k + q) (by omega)
    by_cases h6 : indA s (k + q) < s.size
    · rw [if_pos h6, if_neg (by omega)]
    · rw [if_neg h6, if_pos (by omega)]
theorem defDt_eq (s : ByteArray) (l : List UInt8) (t : Nat) (ht : t < s.size) : defDt s l t = defB l (triB (ext s (t + 1))) := by
  rw [triB_ext]
  unfold defDt defB
  rw [dest_ext]
  have h2 := ind_lt s (t + 1) ht
  generalize indA s (t + 1) = j at *
  cases hd : destR (ext s j) 0 with
  | none => rfl
  | some d =>
    obtain ⟨d, p⟩ := d
    have hp := (destR_le hd).2.1
    rw [ext_size] at hp
    exact defTl_eq s l d j p (by simp only at hp; omega)
theorem defI_eq (s : ByteArray) : defI s = defR s := by
  unfold defI defR
  rw [triB_at]
  have hi := indA_le s
  generalize indA s 0 = i at *
  rw [ext_size]
  by_cases h3 : 3 < i
  · rw [if_pos h3, if_pos (by omega)]
  rw [if_neg h3, if_neg (by omega), brack_ext s i]
  cases hb : brackR (ext s i) 0 with
  | none => rfl
  | some b =>
    obtain ⟨l, t⟩ := b
    have ht := (brackR_le hb).2
    rw [ext_size] at ht
    simp only at ht
    show (if i + t < s.size ∧ bt s (i + t) = 58 then defDt s l (i + t) else none) = (if t < s.size - i ∧ bt (ext s i) t = 58 then defB l (triB ((ext s i).extract (t + 1) (s.size - i))) else none)
    by_cases h4 : i + t < s.size ∧ bt s (i + t) = 58
    · rw [if_pos h4, if_pos ⟨by omega, by rw [ext_bt s i t h4.1]; exact h4.2⟩, defDt_eq s l (i + t) h4.1, ← ext_size, ext_eq, ext_ext]; rfl
    · rw [if_neg h4, if_neg]
      rintro ⟨h5, h6⟩
      exact h4 ⟨by omega, by rw [← ext_bt s i t (by omega)]; exact h6⟩
end Go.Pub
namespace Go.Proofs.YthfienjmigidbaaGreatDoor
open Go.RowKit Go.Pub

/-- A definition as a mark. -/
def defMk (r : Option (List UInt8 × List UInt8 × List UInt8)) : Option MkL := r.map fun x => { kind := 11, info := mk x.1, dest := mk x.2.1, title := mk x.2.2 }
theorem tri_zero (x : ByteArray) : (triB x).size = 0 ↔ blankB x = true := by
  rw [triB_at, ext_size]
  have := indA_le x
  unfold blankB
  rw [decide_eq_true_iff]
  omega
theorem defTitle_eq (L d : List UInt8) (A : ByteArray) (n : Nat) : defTitle (mk L) d A n = defMk (if A.size = 0 then some (L, d, []) else if A.size = n then none else (titleR A 0).bind fun t => if (triB (A.extract t.2 A.size)).size = 0 then some (L, d, t.1) else none) := by
  unfold defTitle defMk
  by_cases h1 : A.size = 0
  · rw [if_pos h1, if_pos h1]; rfl
  rw [if_neg h1, if_neg h1]
  by_cases h2 : A.size = n
  · rw [if_pos h2, if_pos h2]; rfl
  rw [if_neg h2, if_neg h2]
  cases titleR A 0 with
  | none => rfl
  | some t =>
    obtain ⟨t, q⟩ := t
    show (if blankB (A.extract q A.size) = true then some _ else none) = Option.map _ (if (triB (A.extract q A.size)).size = 0 then some (L, d, t) else none)
    by_cases h3 : blankB (A.extract q A.size) = true
    · rw [if_pos h3, if_pos ((tri_zero _).2 h3)]; rfl
    · rw [if_neg h3, if_neg (fun h => h3 ((tri_zero _).1 h))]; rfl
theorem defTail_eq (L : List UInt8) (r : ByteArray) : defTail (mk L) r = defMk (defB L r) := by
  unfold defTail defB
  cases destR r 0 with
  | none => rfl
  | some d =>
    obtain ⟨d, p⟩ := d
    exact defTitle_eq L d _ _
theorem pre_one (x : ByteArray) (a : UInt8) : Lib.hasPrefix (bytesL x) [a] = true ↔ 0 < x.size ∧ bt x 0 = a.toNat := by
  by_cases h : 0 < x.size
  · have e := sfx_cons x 0 h
    have e0 : sfx x 0 = bytesL x := by unfold sfx; rw [List.drop_zero]
    rw [e0] at e
    rw [e]
    have : Lib.hasPrefix (x.get! 0 :: sfx x (0 + 1)) [a] = (a == x.get! 0) := by
      show ([a].isPrefixOf (x.get! 0 :: _)) = _
      rw [List.isPrefixOf]
      cases (a == x.get! 0) <;> rfl
    rw [this, beq_iff_eq]
    constructor
    · intro h1; exact ⟨h, by rw [h1]; rfl⟩
    · intro h1; exact (UInt8.toNat_inj.1 (h1.2 : (x.get! 0).toNat = a.toNat)).symm
  · constructor
    · intro h1
      have := pre_len h1
      simp at this; omega
    · intro h1; exact absurd h1.1 h
/-- A definition at the line's core: as link.Def reads it. -/
theorem defM_eq (c : ByteArray) : defM c = defMk ((brackR c 0).bind fun b => if b.2 < c.size ∧ bt c b.2 = 58 then defB b.1 (triB (c.extract (b.2 + 1) c.size)) else none) := by
  unfold defM brackR
  have h1 : sfx c (0 + 1) = sfx c 1 := rfl
  rw [h1]
  have e1 : tl1 c = ext c 1 := ext_eq c 1
  have e2 : bytesL (ext c 1) = sfx c 1 := ext_bytes c 1
  rw [e1]
  unfold cutB cutRest cutHead
  rw [e2, bytesL_mk', ext_eq, ext_ext]
  generalize hb : brk (sfx c 1) = b at *
  have hl : (sfx c 1).length = (ext c 1).size := by rw [sfx_len, ext_size]
  rw [hl]
  have hp := pre_one (ext c (1 + (b + 1))) 58
  rw [ext_size] at hp
  have e3 : 0 + b + 2 = 1 + (b + 1) := by omega
  rw [e3]
  by_cases hA : bt c 0 = 91 ∧ decide (b < (ext c 1).size) = true ∧ Lib.hasPrefix (bytesL (if b < (ext c 1).size then ext c (1 + (b + 1)) else ⟨#[]⟩)) [58] = true ∧ labelL ((sfx c 1).take b) ≠ []
  · rw [if_pos hA]
    obtain ⟨a1, a2, a3, a4⟩ := hA
    have a2 := of_decide_eq_true a2
    rw [if_pos a2] at a3
    have hs1 := ext_size c 1
    have g2 : 0 < c.size ∧ bt c 0 = 91 := ⟨by omega, a1⟩
    have g3 : b < (ext c 1).size ∧ labelL ((sfx c 1).take b) ≠ [] := ⟨a2, a4⟩
    have h7 := hp.1 a3
    have h9 := h7.2
    rw [ext_bt c _ 0 (by omega)] at h9
    have g5 : 1 + (b + 1) < c.size ∧ bt c (1 + (b + 1)) = 58 := ⟨by omega, h9⟩
    rw [if_pos g2, if_pos g3, if_pos a2]
    show _ = defMk (if 1 + (b + 1) < c.size ∧ bt c (1 + (b + 1)) = 58 then defB (labelL ((sfx c 1).take b)) (triB (c.extract (1 + (b + 1) + 1) c.size)) else none)
    rw [if_pos g5, defTail_eq, tl1_sfx, ext_sfx, ext_eq]
    rfl
  · rw [if_neg hA]
    by_cases g2 : 0 < c.size ∧ bt c 0 = 91
    · rw [if_pos g2]
      by_cases g3 : b < (ext c 1).size ∧ labelL ((sfx c 1).take b) ≠ []
      · rw [if_pos g3]
        show none = defMk (if 1 + (b + 1) < c.size ∧ bt c (1 + (b + 1)) = 58 then defB (labelL ((sfx c 1).take b)) (triB (c.extract (1 + (b + 1) + 1) c.size)) else none)
        have g5 : ¬ (1 + (b + 1) < c.size ∧ bt c (1 + (b + 1)) = 58) := by
          intro g5
          refine hA ⟨g2.2, decide_eq_true g3.1, ?_, g3.2⟩
          rw [if_pos g3.1]
          exact hp.2 ⟨by omega, by rw [ext_bt c _ 0 (by omega)]; exact g5.2⟩
        rw [if_neg g5]; rfl
      · rw [if_neg g3]; rfl
    · rw [if_neg g2]; rfl
/-- What the mark of a line says of its definition. -/
theorem mark_def (s : ByteArray) (h : (markM s).kind = 11) : ∃ x, defR s = some x ∧ markM s = { kind := 11, info := mk x.1, dest := mk x.2.1, title := mk x.2.2 } := by
  unfold markM at h ⊢
  by_cases hb : blankB s = true
  · rw [if_pos hb] at h; cases h
  rw [if_neg hb] at h ⊢
  unfold markC at h ⊢
  by_cases h3 : 3 < indA s 0
  · rw [if_pos h3] at h; cases h
  rw [if_neg h3] at h ⊢
  have hle := indA_le s
  rw [ext_eq] at h ⊢
  cases hf : firstS (rdrs (ext s (indA s 0)) (indA s 0)) with
  | none => rw [hf] at h; cases h
  | some m =>
    rw [hf] at h
    have hm := first_mem _ _ hf
    have hk : m.kind = 11 := h
    unfold rdrs at hm
    simp only [List.mem_cons, List.not_mem_nil, or_false] at hm
    have hd : defM (ext s (indA s 0)) = some m := by
      rcases hm with h | h | h | h | h | h | h | h | h | h
      · have := head_kind h.symm; omega
      · have := rule_kind h.symm; omega
      · obtain ⟨_, rfl⟩ := quote_some h.symm; cases hk
      · have := bullet_some h.symm; subst this; cases hk
      · obtain ⟨_, _, rfl⟩ := number_some h.symm; cases hk
      · have := fence_some h.symm; omega
      · have := math_kind h.symm; omega
      · have := div_kind h.symm; omega
      · obtain ⟨_, rfl⟩ := note_some h.symm; cases hk
      · exact h.symm
    rw [defM_eq] at hd
    have hr : defR s = (brackR (ext s (indA s 0)) 0).bind fun b => if b.2 < (ext s (indA s 0)).size ∧ bt (ext s (indA s 0)) b.2 = 58 then defB b.1 (triB ((ext s (indA s 0)).extract (b.2 + 1) (ext s (indA s 0)).size)) else none := by
      unfold defR
      rw [triB_at, if_neg (by rw [ext_size]; omega)]
    rw [← hr] at hd
    cases hx : defR s with
    | none => rw [hx] at hd; cases hd
    | some x =>
      rw [hx] at hd
      injection hd with hd
      exact ⟨x, rfl, hd.symm⟩
end Go.Proofs.YthfienjmigidbaaGreatDoor
