/-
  Texts of the proof, put together: LinkC, LinkD, CharsC, CharsD.
-/
import Derived.Test.YthfienjmigidbaaGreatDoorB05
import Derived.Test.YthfienjmigidbaaGreatDoorB03
import Derived.Test.YthfienjmigidbaaGreatDoorB01
set_option linter.unusedVariables false
set_option linter.unusedSimpArgs false
namespace Go.Proofs.YthfienjmigidbaaGreatDoor
open Go.RowKit Go.Pub

set_option maxRecDepth 100000 in
set_option maxHeartbeats 1000000 in
theorem l_dest_out (s : ByteArray) (i : Int) (w : World) (hs : s.size ≤ 1000000) (h : ¬ (0 ≤ i ∧ i < s.size)) :
    Calls Tryz.prog 56 #[.string s, .int .i64 i] w (PartPost (destR s i) w) := by
  have HR : Hid (destR s i = none) := Lib.hid (by unfold destR; rw [if_neg h])
  generalize destR s i = R at *
  by_cases h0 : i < 0
  all_goals
    go_enter Tryz.func56, Tryz.ntmps56
    go_wp2
    go_ret3
    exact part_none HR.out (Below.refl _ _)

set_option maxRecDepth 100000 in
set_option maxHeartbeats 1000000 in
theorem l_dest_ang (s : ByteArray) (i : Nat) (w : World) (hs : s.size ≤ 1000000) (hi : i < s.size) (h : bt s i = 60) :
    Calls Tryz.prog 56 #[.string s, .int .i64 i] w (PartPost (destR s i) w) := by
  have HC : Hid (∀ W, Calls Tryz.prog 98 #[.string s, .int .i64 i] W (PartPost (destR s i) W)) := Lib.hid fun W => by
    have e : destR s i = betw s i 62 60 := by unfold destR; rw [if_pos ⟨by omega, by omega⟩, Int.toNat_natCast, if_pos h]
    rw [e]; exact l_angled s i W hs hi
  generalize destR s i = R at *
  have z0 : (((s[i].toNat : Nat) : Int) == 60) = true := by rw [get_bt s i hi, h]; rfl
  clear h
  cases R with
  | none =>
    go_enter Tryz.func56, Tryz.ntmps56
    go_wp2_with fail
    ((with_reducible refine (HC.out _).mono ?_))
    rintro e w' ⟨rfl, b1⟩
    go_wp2
    go_ret3
    exact part_none rfl b1
  | some p =>
    go_enter Tryz.func56, Tryz.ntmps56
    go_wp2_with fail
    ((with_reducible refine (HC.out _).mono ?_))
    rintro e w' ⟨rfl, b1⟩
    go_wp2
    go_ret3
    exact part_some rfl rfl b1

def DRel (s : ByteArray) (i : Nat) (a b : Value) : Prop :=
  ∃ o k : Nat, o ≤ 8 ∧ i ≤ k ∧ k ≤ s.size ∧ a = .int .i64 o ∧ b = .int .i64 k ∧ Hid (destA s o k = destA s 0 i)

set_option maxRecDepth 100000 in
set_option maxHeartbeats 8000000 in
theorem l_dest_plain (s : ByteArray) (i : Nat) (w : World) (hs : s.size ≤ 1000000) (hi : i < s.size) (h : bt s i ≠ 60) :
    Calls Tryz.prog 56 #[.string s, .int .i64 i] w (PartPost (destR s i) w) := by
  have e : destR s i = (destA s 0 i).bind fun k => if k = i then none else some (unescL (sub s i k), k) := by unfold destR; rw [if_pos ⟨by omega, by omega⟩, Int.toNat_natCast, if_neg h]
  have HS : Hid (∀ k, k ≠ i → destA s 0 i = some k → destR s i = some (unescL (sub s i k), k)) := Lib.hid fun k hk hd => by rw [e, hd]; exact if_neg hk
  have HN : Hid (destA s 0 i = none → destR s i = none) := Lib.hid fun hd => by rw [e, hd]; rfl
  have HI : Hid (destA s 0 i = some i → destR s i = none) := Lib.hid fun hd => by rw [e, hd]; exact if_pos rfl
  clear e
  generalize destR s i = R at *
  have z0 : (((s[i].toNat : Nat) : Int) == 60) = false := by rw [get_bt s i hi, beq_eq_false_iff_ne]; omega
  have zi : decide ((i : Int) < 0) = false := by simp
  have zj : decide (s.size ≤ i) = false := by simp; omega
  clear h
  go_enter Tryz.func56, Tryz.ntmps56
  go_wp2
  go_loop [7, 8] (fun a b => DRel s i a b) (fun _ b => s.size - (intOf b).toNat)
  case atStart => exact ⟨0, i, by omega, by omega, by omega, rfl, rfl, Lib.hid rfl⟩
  case round =>
    obtain ⟨o, k, ho, hk1, hk, rfl, rfl, Hk⟩ := hrel
    by_cases hx : s.size ≤ k ∨ (k < s.size ∧ dstop s o k)
    · have hv : destA s o k = if o = 0 then some k else none := by
        rcases hx with hx | ⟨hx, hy⟩
        · exact destA_end s o k hx
        · exact destA_stop s o k hx hy
      have HV := Lib.hid hv
      clear hv
      have hw : s.size ≤ k ∨ (∃ hlt : k < s.size, (((s[k].toNat : Nat) : Int) == 32) = true) ∨ (∃ hlt : k < s.size, (((s[k].toNat : Nat) : Int) == 32) = false ∧ (((s[k].toNat : Nat) : Int) == 10) = true) ∨ (∃ hlt : k < s.size, (((s[k].toNat : Nat) : Int) == 32) = false ∧ (((s[k].toNat : Nat) : Int) == 10) = false ∧ (((s[k].toNat : Nat) : Int) == 41) = true ∧ o = 0) := by
        rcases hx with hx | ⟨hx, hy⟩
        · exact Or.inl hx
        · right
          rcases hy with hy | hy | ⟨hy, hz⟩
          · left; exact ⟨hx, by rw [get_bt s k hx, hy]; rfl⟩
          · right; left; exact ⟨hx, by rw [get_bt s k hx, hy]; exact ⟨rfl, rfl⟩⟩
          · right; right; exact ⟨hx, by rw [get_bt s k hx, hy]; exact ⟨rfl, rfl, rfl, hz⟩⟩
      clear hx
      by_cases e1 : k = i ∨ 0 < o
      · have HR : Hid (R = none) := Lib.hid (by
          by_cases h0 : o = 0
          · obtain rfl : k = i := by omega
            exact HI.out (by rw [← Hk.out, HV.out, if_pos h0])
          · exact HN.out (by rw [← Hk.out, HV.out, if_neg h0]))
        have hE : (((k : Int) == i) = true ∧ (k == i) = true) ∨ (((k : Int) == i) = false ∧ (k == i) = false ∧ 0 < o) := by
          by_cases h0 : k = i
          · left; rw [h0]; simp
          · right; exact ⟨by rw [beq_eq_false_iff_ne]; omega, by rw [beq_eq_false_iff_ne]; omega, by omega⟩
        clear e1
        rcases hw with hw | ⟨hlt, y1⟩ | ⟨hlt, y1, y2⟩ | ⟨hlt, y1, y2, y3, rfl⟩
        all_goals
          rcases hE with ⟨x1, x3⟩ | ⟨x1, x3, x2⟩
          all_goals
            first
            | omega
            | (go_wp2
               go_ret3
               exact part_none HR.out (Below.refl _ _))
      · obtain rfl : o = 0 := by omega
        have HR : Hid (R = some (unescL (sub s i k), k)) := Lib.hid (HS.out k (by omega) (by rw [← Hk.out, HV.out, if_pos rfl]))
        have x1 : ((k : Int) == i) = false := by rw [beq_eq_false_iff_ne]; omega
        have x2 : (k == i) = false := by rw [beq_eq_false_iff_ne]; omega
        have HU := Lib.hid fun W => l_unescape_sub s i k W hs
        clear e1
        rcases hw with hw | ⟨hlt, y1⟩ | ⟨hlt, y1, y2⟩ | ⟨hlt, y1, y2, y3, _⟩
        all_goals
          go_wp2_with fail
          ((with_reducible refine (HU.out _).mono ?_))
          rintro e w' ⟨rfl, b1⟩
          go_wp2
          go_ret3
          exact part_some HR.out rfl b1
    · have hlt : k < s.size := by omega
      have hns : ¬ dstop s o k := fun e => hx (Or.inr ⟨hlt, e⟩)
      clear hx
      have HC := Lib.hid fun W => l_escaped s k W hs hlt
      have hlt2 : ((s[k].toNat : Nat) : Int) < 256 := by rw [get_bt s k hlt]; have := bt_lt s k; omega
      have n32 : bt s k ≠ 32 := fun e => hns (Or.inl e)
      have n10 : bt s k ≠ 10 := fun e => hns (Or.inr (Or.inl e))
      have y1 : (((s[k].toNat : Nat) : Int) == 32) = false := by rw [get_bt s k hlt, beq_eq_false_iff_ne]; omega
      have y2 : (((s[k].toNat : Nat) : Int) == 10) = false := by rw [get_bt s k hlt, beq_eq_false_iff_ne]; omega
      by_cases hE : escAt s k = true
      · obtain ⟨hk2, h92⟩ := escAt_lt hE
        have y3 : (((s[k].toNat : Nat) : Int) == 41) = false := by rw [get_bt s k hlt, beq_eq_false_iff_ne]; omega
        have hst : Hid (destA s o (k + 2) = destA s 0 i) := Lib.hid (by rw [← Hk.out]; exact (destA_esc s o k hE).symm)
        rw [hE] at HC
        clear hE n32 n10 hns h92
        go_wp2_with fail
        ((with_reducible refine (HC.out _).mono ?_))
        rintro e w' ⟨rfl, rfl⟩
        go_wp2
        go_round
        case rel => exact ⟨o, k + 2, by omega, by omega, by omega, rfl, by go_num, hst⟩
        case measure => simp [intOf]; omega
      · rw [Bool.not_eq_true] at hE
        have HE := Lib.hid hE
        rw [hE] at HC
        clear hE
        by_cases c40 : bt s k = 40
        · have y3 : (((s[k].toNat : Nat) : Int) == 41) = false := by rw [get_bt s k hlt, beq_eq_false_iff_ne]; omega
          have y4 : (((s[k].toNat : Nat) : Int) == 40) = true := by rw [get_bt s k hlt, c40]; rfl
          have hst := destA_open s o k hlt c40
          have Hst := Lib.hid hst
          clear n32 n10 hns hst c40
          by_cases h8 : 8 ≤ o
          · obtain rfl : o = 8 := by omega
            have HR : Hid (R = none) := Lib.hid (HN.out (by rw [← Hk.out, Hst.out, if_pos h8]))
            go_wp2_with fail
            ((with_reducible refine (HC.out _).mono ?_))
            rintro e w' ⟨rfl, rfl⟩
            go_wp2
            go_ret3
            exact part_none HR.out (Below.refl _ _)
          · have hst : Hid (destA s (o + 1) (k + 1) = destA s 0 i) := Lib.hid (by rw [← Hk.out, Hst.out, if_neg h8])
            go_wp2_with fail
            ((with_reducible refine (HC.out _).mono ?_))
            rintro e w' ⟨rfl, rfl⟩
            go_wp2
            go_round
            case rel => exact ⟨o + 1, k + 1, by omega, by omega, by omega, by go_num, by go_num, hst⟩
            case measure => simp [intOf]; omega
        · have y4 : (((s[k].toNat : Nat) : Int) == 40) = false := by rw [get_bt s k hlt, beq_eq_false_iff_ne]; omega
          by_cases c41 : bt s k = 41
          · have y3 : (((s[k].toNat : Nat) : Int) == 41) = true := by rw [get_bt s k hlt, c41]; rfl
            have ho0 : 0 < o := by
              rcases Nat.eq_zero_or_pos o with e | e
              · exact absurd (Or.inr (Or.inr ⟨c41, e⟩)) hns
              · exact e
            have y5 : ((o : Int) == 0) = false := by rw [beq_eq_false_iff_ne]; omega
            have hst : Hid (destA s (o - 1) (k + 1) = destA s 0 i) := Lib.hid (by rw [← Hk.out, destA_close s o k hlt c41 ho0])
            clear n32 n10 hns c40 c41
            go_wp2_with fail
            ((with_reducible refine (HC.out _).mono ?_))
            rintro e w' ⟨rfl, rfl⟩
            go_wp2
            go_round
            case rel => exact ⟨o - 1, k + 1, by omega, by omega, by omega, congrArg (Value.int .i64) (by omega), by go_num, hst⟩
            case measure => simp [intOf]; omega
          · have y3 : (((s[k].toNat : Nat) : Int) == 41) = false := by rw [get_bt s k hlt, beq_eq_false_iff_ne]; omega
            have hst : Hid (destA s o (k + 1) = destA s 0 i) := Lib.hid (by rw [← Hk.out, destA_step s o k hlt hns HE.out c40 c41])
            clear n32 n10 hns c40 c41
            go_wp2_with fail
            ((with_reducible refine (HC.out _).mono ?_))
            rintro e w' ⟨rfl, rfl⟩
            go_wp2
            go_round
            case rel => exact ⟨o, k + 1, by omega, by omega, by omega, rfl, by go_num, hst⟩
            case measure => simp [intOf]; omega

theorem l_dest (s : ByteArray) (i : Int) (w : World) (hs : s.size ≤ 1000000) :
    Calls Tryz.prog 56 #[.string s, .int .i64 i] w (PartPost (destR s i) w) := by
  by_cases h : 0 ≤ i ∧ i < s.size
  · obtain ⟨k, rfl⟩ := Int.eq_ofNat_of_zero_le h.1
    by_cases hc : bt s k = 60
    · exact l_dest_ang s k w hs (by have := h.2; omega) hc
    · exact l_dest_plain s k w hs (by have := h.2; omega) hc
  · exact l_dest_out s i w hs h
end Go.Proofs.YthfienjmigidbaaGreatDoor
namespace Go.Pub
open Go.RowKit
theorem hpAlloc (w : World) (o : Obj) : (w.alloc o).heap.size = w.heap.size + 1 := by simp
theorem blw0 (w : World) (o : Obj) (n : Nat) : Below w.heap.size w ((w.alloc o).drewN n) := below_drewN ((Below.refl _ w).alloc (Nat.le_refl _) o) n
theorem blw00 (w : World) (o p : Obj) (n m : Nat) : Below w.heap.size w ((((w.alloc o).drewN n).alloc p).drewN m) :=
  below_drewN ((blw0 w o n).alloc (by show w.heap.size ≤ (w.alloc o).heap.size; simp) p) m
theorem blw1 {w : World} {o : Obj} {n : Nat} {w' : World} (b : Below ((w.alloc o).drewN n).heap.size ((w.alloc o).drewN n) w') : Below w.heap.size w w' :=
  (blw0 w o n).trans (b.mono (by show w.heap.size ≤ (w.alloc o).heap.size; simp))
theorem blw2 {w : World} {o p : Obj} {n m : Nat} {w' : World} (b : Below ((((w.alloc o).drewN n).alloc p).drewN m).heap.size ((((w.alloc o).drewN n).alloc p).drewN m) w') : Below w.heap.size w w' :=
  (blw00 w o p n m).trans (b.mono (by
    show w.heap.size ≤ (((w.alloc o).drewN n).alloc p).heap.size
    simp only [hpAlloc]
    show w.heap.size ≤ (w.alloc o).heap.size + 1
    simp only [hpAlloc]; omega))
end Go.Pub
namespace Go.Proofs.YthfienjmigidbaaGreatDoor
open Go.RowKit Go.Pub

set_option maxRecDepth 100000 in
set_option maxHeartbeats 1000000 in
theorem l_title_out (s : ByteArray) (i : Int) (w : World) (hs : s.size ≤ 1000000) (h : ¬ (0 ≤ i ∧ i < s.size)) :
    Calls Tryz.prog 57 #[.string s, .int .i64 i] w (PartPost (titleR s i) w) := by
  have HR : Hid (titleR s i = none) := Lib.hid (by unfold titleR; rw [if_neg h])
  generalize titleR s i = R at *
  by_cases h0 : i < 0
  all_goals
    go_enter Tryz.func57, Tryz.ntmps57
    go_wp2
    go_ret3
    exact part_none HR.out (Below.refl _ _)

set_option maxRecDepth 100000 in
set_option maxHeartbeats 1000000 in
theorem l_title_in (s : ByteArray) (i : Nat) (w : World) (hs : s.size ≤ 1000000) (hi : i < s.size) :
    Calls Tryz.prog 57 #[.string s, .int .i64 i] w (PartPost (titleR s i) w) := by
  have zi : decide ((i : Int) < 0) = false := by simp
  have zj : decide (s.size ≤ i) = false := by simp; omega
  have hlt2 : ((s[i].toNat : Nat) : Int) < 256 := by rw [get_bt s i hi]; have := bt_lt s i; omega
  have i0 : ∀ w, (Instr.index 103 (.agg #[.int .u8 34, .int .u8 34, .int .u8 39, .int .u8 39]) (.int .i64 0)).run Tryz.prog w = .ok (.agg #[.int .u8 34, .int .u8 34]) w := fun _ => by kernel_rfl
  have i1 : ∀ w, (Instr.index 103 (.agg #[.int .u8 34, .int .u8 34, .int .u8 39, .int .u8 39]) (.int .i64 1)).run Tryz.prog w = .ok (.agg #[.int .u8 39, .int .u8 39]) w := fun _ => by kernel_rfl
  have hR : titleR s i = if bt s i = 34 then betw s i 34 34 else if bt s i = 39 then betw s i 39 39 else none := by unfold titleR; rw [if_pos ⟨by omega, by omega⟩, Int.toNat_natCast]
  have HR := Lib.hid hR
  clear hR
  generalize titleR s i = R at *
  by_cases c1 : bt s i = 34
  · have HC : Hid (∀ W, Calls Tryz.prog 101 #[.string s, .int .i64 i, .int .u8 34] W (PartPost R W)) := Lib.hid fun W => by
      rw [HR.out, if_pos c1]; exact l_quoted s i 34 W hs hi (Or.inl rfl)
    have z1 : (((s[i].toNat : Nat) : Int) == 34) = true := by rw [get_bt s i hi, c1]; rfl
    clear c1 HR
    cases R
    all_goals
      go_enter Tryz.func57, Tryz.ntmps57
      go_wp2
      refine wp_loop_rounds 3 ?_
      rw [rounds_succ]
      go_wp2
      go_quiet (fail)
      go_wp2_with fail
      ((with_reducible refine (HC.out _).mono ?_))
      rintro e w' ⟨rfl, b1⟩
      go_wp2
      go_ret3
      first
      | exact part_none rfl (blw1 b1)
      | exact part_some rfl rfl (blw1 b1)
  · have z1 : (((s[i].toNat : Nat) : Int) == 34) = false := by rw [get_bt s i hi, beq_eq_false_iff_ne]; omega
    by_cases c2 : bt s i = 39
    · have HC : Hid (∀ W, Calls Tryz.prog 101 #[.string s, .int .i64 i, .int .u8 39] W (PartPost R W)) := Lib.hid fun W => by
        rw [HR.out, if_neg c1, if_pos c2]; exact l_quoted s i 39 W hs hi (Or.inr rfl)
      have z2 : (((s[i].toNat : Nat) : Int) == 39) = true := by rw [get_bt s i hi, c2]; rfl
      clear c1 c2 HR
      cases R
      all_goals
        go_enter Tryz.func57, Tryz.ntmps57
        go_wp2
        refine wp_loop_rounds 3 ?_
        rw [rounds_succ]
        go_wp2
        go_quiet (fail)
        go_wp2
        rw [rounds_succ]
        go_wp2
        go_quiet (fail)
        go_wp2_with fail
        ((with_reducible refine (HC.out _).mono ?_))
        rintro e w' ⟨rfl, b1⟩
        go_wp2
        go_ret3
        first
        | exact part_none rfl (blw2 b1)
        | exact part_some rfl rfl (blw2 b1)
    · have z2 : (((s[i].toNat : Nat) : Int) == 39) = false := by rw [get_bt s i hi, beq_eq_false_iff_ne]; omega
      have HN : Hid (R = none) := Lib.hid (by rw [HR.out, if_neg c1, if_neg c2])
      clear c1 c2 HR
      go_enter Tryz.func57, Tryz.ntmps57
      go_wp2
      refine wp_loop_rounds 3 ?_
      rw [rounds_succ]
      go_wp2
      go_quiet (fail)
      go_wp2
      rw [rounds_succ]
      go_wp2
      go_quiet (fail)
      go_wp2
      rw [rounds_succ]
      go_wp2
      go_ret3
      exact part_none HN.out (blw00 w _ _ _ _)

theorem l_title (s : ByteArray) (i : Int) (w : World) (hs : s.size ≤ 1000000) :
    Calls Tryz.prog 57 #[.string s, .int .i64 i] w (PartPost (titleR s i) w) := by
  by_cases h : 0 ≤ i ∧ i < s.size
  · obtain ⟨k, rfl⟩ := Int.eq_ofNat_of_zero_le h.1
    exact l_title_in s k w hs (by have := h.2; omega)
  · exact l_title_out s i w hs h

set_option maxRecDepth 100000 in
set_option maxHeartbeats 1000000 in
theorem l_skip (s : ByteArray) (i : Nat) (w : World) (hs : s.size ≤ 1000000) (hi : i ≤ s.size) :
    Calls Tryz.prog 102 #[.string s, .int .i64 i] w fun e w' => e = .returned (.int .i64 (skipA s i)) ∧ w = w' := by
  have HX : Hid (skipA s i = skipA s i) := Lib.hid rfl
  generalize hR : skipA s i = R at *
  have HR := Lib.hid hR
  clear hR HX
  go_enter Tryz.func102, Tryz.ntmps102
  go_wp2
  go_loop [1] (fun v => ∃ k : Nat, i ≤ k ∧ k ≤ s.size ∧ v = .int .i64 k ∧ Hid (skipA s k = R)) (fun v => s.size - (intOf v).toNat)
  case atStart => exact ⟨i, by omega, by omega, rfl, HR⟩
  case round =>
    obtain ⟨k, hk1, hk, rfl, Hk⟩ := hrel
    by_cases hlt : k < s.size
    · have hlt2 : ((s[k].toNat : Nat) : Int) < 256 := by rw [get_bt s k hlt]; have := bt_lt s k; omega
      have HC : Hid (∀ W, Calls Tryz.prog 69 #[.int .i64 ((s[k].toNat : Nat) : Int)] W fun e w' => e = .returned (.bool (spaceB (bt s k : Int))) ∧ W = w') := Lib.hid fun W => by
        rw [get_bt s k hlt]; exact space_any _ W
      cases hsp : spaceB (bt s k : Int)
      · have HF : Hid (k = R) := Lib.hid (by rw [← Hk.out, skipA_no s k hlt hsp])
        rw [hsp] at HC
        clear hsp
        go_wp2_with fail
        ((with_reducible refine (HC.out _).mono ?_))
        rintro e w' ⟨rfl, rfl⟩
        go_wp2
        go_ret
        exact ⟨ret_int (by rw [HF.out]), rfl⟩
      · have HF : Hid (skipA s (k + 1) = R) := Lib.hid (by rw [← Hk.out, skipA_yes s k hlt hsp])
        rw [hsp] at HC
        clear hsp
        go_wp2_with fail
        ((with_reducible refine (HC.out _).mono ?_))
        rintro e w' ⟨rfl, rfl⟩
        go_wp2
        go_round
        case rel => exact ⟨k + 1, by omega, by omega, by go_num, HF⟩
        case measure => simp [intOf]; omega
    · have HF : Hid (k = R) := Lib.hid (by rw [← Hk.out, skipA_end s k (by omega)])
      go_wp2
      go_ret
      exact ⟨ret_int (by rw [HF.out]), rfl⟩
end Go.Proofs.YthfienjmigidbaaGreatDoor
namespace Go.Proofs.YthfienjmigidbaaGreatDoor
open Go.RowKit Go.Pub

theorem cells_enc (r : Int) : Lib.runeCells r = Lib.byteCells (encL r) := by rw [← Lib.byteCells_encodeRune, encodeRune_eq]

end Go.Proofs.YthfienjmigidbaaGreatDoor
namespace Go.Proofs.YthfienjmigidbaaGreatDoor
open Go.RowKit Go.Pub

theorem foldP_space (g : Bool) (acc : List UInt8) (p : Nat × Nat) (l : List (Nat × Nat)) (h : spaceB p.1 = true) : foldP g acc (p :: l) = foldP true acc l := by simp [foldP, h]
theorem foldP_other (g : Bool) (acc : List UInt8) (p : Nat × Nat) (l : List (Nat × Nat)) (h : spaceB p.1 = false) : foldP g acc (p :: l) = foldP false (acc ++ ((if g && !acc.isEmpty then [32] else []) ++ encL (lowerZ p.1))) l := by simp [foldP, h]

def FoldRel (s : ByteArray) (R : List UInt8) (w : World) (g : Bool) (wr : World) : Prop :=
  ∃ (pos f : Nat) (acc : List UInt8), Lib.IsBuilderF 75 5 w.heap.size w.heap.size (Lib.byteCells acc) wr ∧ wr.heap[w.heap.size + 1]? = some (.stringIter s pos) ∧ Below w.heap.size w wr ∧ foldP g acc (ptsFrom s f pos) = R ∧ s.size ≤ pos + f ∧ acc.length ≤ 8 * pos ∧ pos ≤ s.size

set_option maxHeartbeats 8000000 in
set_option maxRecDepth 1000000 in
theorem fold_any (s : ByteArray) (w : World) (hs : s.size ≤ 1000000) :
    Calls Tryz.prog 24 #[.string s] w fun e w' => e = .returned (.string ⟨(foldL s).toArray⟩) ∧ Below w.heap.size w w' := by
  have HC : Hid (foldP false [] (pts s) = foldL s) := Lib.hid rfl
  generalize foldL s = R at *
  go_enter Tryz.func24, Tryz.ntmps24
  go_wp2
  go_loopw [4] (fun gv wr => ∃ g : Bool, gv = .bool g ∧ FoldRel s R w g wr) (fun _ wr => s.size - wr.iterPos (w.heap.size + 1))
  case atStart =>
    refine ⟨false, rfl, 0, s.size, [], (Lib.IsBuilderF.of (Lib.fresh_isBuilder 75 5 w)).alloc _, ?_, ((Below.refl _ w).alloc (Nat.le_refl _) _).alloc (by simp) _, HC.out, by omega, by simp, by omega⟩
    have := World.iter_heap (w.alloc (.cells #[.pointer none, .slice none 0 0] 75)) s 0
    simpa using this
  case round =>
    obtain ⟨g, rfl, pos, f, acc, hI, hit, hbw, hacc, hf, hal, hps⟩ := hrel
    have Hacc := Lib.hid hacc
    clear hacc
    have hsz : w.heap.size + 1 < wr.heap.size := (Array.getElem?_eq_some_iff.1 hit).1
    by_cases hp : pos < s.size
    · have hd := dec_bd s pos hp
      have hstep : Hid (foldP g acc (Utf8.decode s pos :: ptsFrom s (f - 1) (pos + (Utf8.decode s pos).2)) = R) := Lib.hid (by
        rw [← Hacc.out, ptsFrom_step s f pos hp hf])
      have hnx : ∀ ty, (Instr.next (.pointer (some ⟨w.heap.size + 1, 0, none⟩)) true ty).run Tryz.prog wr = _ := fun ty => Lib.run_next_any_at wr (w.heap.size + 1) s pos ty hit hp
      have hI2 := hI.iterAt hit (pos + (Utf8.decode s pos).2)
      have hit2 := Lib.hid (Lib.iterAt_heap wr (w.heap.size + 1) s pos (pos + (Utf8.decode s pos).2) hit)
      have hbw2 := Lib.below_iterAt hbw (k := w.heap.size + 1) (by omega) s (pos + (Utf8.decode s pos).2)
      have hsz2 : w.heap.size ≤ (wr.iterAt (w.heap.size + 1) s (pos + (Utf8.decode s pos).2)).heap.size := by rw [Lib.iterAt_size]; omega
      have hitk := Lib.hid hit
      clear hit
      generalize Utf8.decode s pos = D at *
      by_cases csp : spaceB D.1 = true
      · have dn : Hid (∀ (w1 : World), Lib.IsBuilderF 75 5 w.heap.size w.heap.size (Lib.byteCells acc) w1 → w1.heap[w.heap.size + 1]? = some (.stringIter s (pos + D.2)) → Below w.heap.size w w1 → FoldRel s R w true w1) := Lib.hid (by
          intro w1 h1 h2 h3
          refine ⟨pos + D.2, f - 1, acc, h1, h2, h3, ?_, by omega, by omega, by omega⟩
          rw [← hstep.out, foldP_space _ _ _ _ csp])
        go_wp2_with (go_at_call 69; refine (space_any _ _).mono ?_; rintro e w' ⟨rfl, rfl⟩)
        go_roundw
        case rel => exact ⟨true, rfl, dn.out _ hI2 hit2.out hbw2⟩
        case measure =>
          simp only [World.iterPos, hit2.out, hitk.out]
          omega
      · rw [Bool.not_eq_true] at csp
        have hlo := lowerZ_bd D.1 (by omega) (by omega)
        have hlen := encL_length (lowerZ D.1)
        have dn : Hid (∀ (acc' : List UInt8) (w1 : World), acc' = (if g && !acc.isEmpty then [32] else []) ++ encL (lowerZ D.1) → Lib.IsBuilderF 75 5 w.heap.size w.heap.size (Lib.byteCells (acc ++ acc')) w1 → w1.heap[w.heap.size + 1]? = some (.stringIter s (pos + D.2)) → Below w.heap.size w w1 → FoldRel s R w false w1) := Lib.hid (by
          intro acc' w1 e h1 h2 h3
          refine ⟨pos + D.2, f - 1, acc ++ acc', h1, h2, h3, ?_, by omega, ?_, by omega⟩
          · rw [e, ← hstep.out, foldP_other _ _ _ _ csp]
          · rw [e]; simp only [List.length_append]; split <;> simp <;> omega)
        clear hlen
        have HLow : Hid (∀ W, Calls Tryz.prog 73 #[.int .i64 D.1] W fun e w' => e = .returned (.int .i64 (lowerZ D.1)) ∧ W = w') := Lib.hid fun W => lower_any D.1 W
        generalize lowerZ D.1 = L at *
        by_cases hgap : g = true ∧ acc ≠ []
        · obtain ⟨rfl, hne⟩ := hgap
          have hpos : 0 < acc.length := List.length_pos_iff.2 hne
          have hpc : Hid ([32] ++ encL L = (if true && !acc.isEmpty then [32] else []) ++ encL L) := Lib.hid (by cases acc <;> simp_all)
          clear hne
          have hbl := Lib.hid (Lib.byteCells_length acc)
          have hpz : 0 < (Lib.byteCells acc).length := by rw [Lib.byteCells_length]; exact hpos
          go_wp2_with fail
          refine (space_any _ _).mono ?_
          rintro e w' ⟨rfl, rfl⟩
          go_wp2_with fail
          refine (Tryz.Builder_Len_f w.heap.size w.heap.size _ _ hI2).mono ?_
          rintro e w' ⟨rfl, rfl⟩
          go_wp2_with fail
          refine (writeByte_k w.heap.size w.heap.size _ 32 _ hI2 (by rw [Lib.byteCells_length]; omega) hsz2).mono ?_
          rintro e W1 ⟨rfl, h1, b1, k1⟩
          have hz1 := b1.size
          go_wp2_with fail
          refine (HLow.out _).mono ?_
          rintro e w' ⟨rfl, rfl⟩
          go_wp2_with fail
          refine (writeRune_k w.heap.size w.heap.size _ _ (by omega) (by omega) _ (Or.inr h1) (by rw [List.length_append, Lib.byteCells_length]; simp; omega) (by omega)).mono ?_
          rintro e W2 ⟨rfl, h2, b2, k2⟩
          go_wp2
          go_roundw
          case rel => exact ⟨false, rfl, dn.out ([32] ++ encL L) _ hpc.out (by rw [Lib.byteCells_append, Lib.byteCells_append, ← cells_enc, ← List.append_assoc]; exact Or.inr h2) (k2.iter (k1.iter hit2.out (by omega)) (by omega)) ((hbw2.trans b1).trans b2)⟩
          case measure =>
            simp only [World.iterPos, k2.iter (k1.iter hit2.out (by omega)) (by omega), hitk.out]
            omega
        · have hpc : Hid (encL L = (if g && !acc.isEmpty then [32] else []) ++ encL L) := Lib.hid (by cases acc <;> cases g <;> simp_all)
          by_cases hg : g = true
          · subst hg
            have hne : acc = [] := Classical.not_not.1 fun h => hgap ⟨rfl, h⟩
            subst hne
            clear hgap
            go_wp2_with fail
            refine (space_any _ _).mono ?_
            rintro e w' ⟨rfl, rfl⟩
            go_wp2_with fail
            refine (Tryz.Builder_Len_f w.heap.size w.heap.size _ _ hI2).mono ?_
            rintro e w' ⟨rfl, rfl⟩
            go_wp2_with fail
            refine (HLow.out _).mono ?_
            rintro e w' ⟨rfl, rfl⟩
            go_wp2_with fail
            refine (writeRune_k w.heap.size w.heap.size _ _ (by omega) (by omega) _ hI2 (by rw [Lib.byteCells_length]; omega) hsz2).mono ?_
            rintro e W2 ⟨rfl, h2, b2, k2⟩
            go_wp2
            go_roundw
            case rel => exact ⟨false, rfl, dn.out (encL L) _ hpc.out (by rw [Lib.byteCells_append, ← cells_enc]; exact Or.inr h2) (k2.iter hit2.out (by omega)) (hbw2.trans b2)⟩
            case measure =>
              simp only [World.iterPos, k2.iter hit2.out (by omega), hitk.out]
              omega
          · rw [Bool.not_eq_true] at hg
            subst hg
            clear hgap
            go_wp2_with fail
            refine (space_any _ _).mono ?_
            rintro e w' ⟨rfl, rfl⟩
            go_wp2_with fail
            refine (HLow.out _).mono ?_
            rintro e w' ⟨rfl, rfl⟩
            go_wp2_with fail
            refine (writeRune_k w.heap.size w.heap.size _ _ (by omega) (by omega) _ hI2 (by rw [Lib.byteCells_length]; omega) hsz2).mono ?_
            rintro e W2 ⟨rfl, h2, b2, k2⟩
            go_wp2
            go_roundw
            case rel => exact ⟨false, rfl, dn.out (encL L) _ hpc.out (by rw [Lib.byteCells_append, ← cells_enc]; exact Or.inr h2) (k2.iter hit2.out (by omega)) (hbw2.trans b2)⟩
            case measure =>
              simp only [World.iterPos, k2.iter hit2.out (by omega), hitk.out]
              omega
    · have hnx : ∀ ty, (Instr.next (.pointer (some ⟨w.heap.size + 1, 0, none⟩)) true ty).run Tryz.prog wr = _ := fun ty => Lib.run_next_end_at wr (w.heap.size + 1) s pos ty hit hp
      have hR : Hid (acc = R) := Lib.hid (by rw [← Hacc.out, ptsFrom_end s f pos hp]; simp [foldP])
      go_wp2_with (go_at_call 74; refine (Tryz.Builder_String_any_k w.heap.size w.heap.size acc _ hI (by omega)).mono ?_)
      rintro e W1 ⟨rfl, _, b1, _⟩
      go_wp2
      go_ret
      exact ⟨ret_str (by rw [hR.out]), hbw.trans b1⟩
end Go.Proofs.YthfienjmigidbaaGreatDoor
