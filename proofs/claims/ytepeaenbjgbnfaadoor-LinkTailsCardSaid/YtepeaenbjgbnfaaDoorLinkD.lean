/-
  link.Title, link.skip.
-/
import Derived.Test.YtepeaenbjgbnfaaDoorLinkC
set_option linter.unusedVariables false
set_option linter.unusedSimpArgs false
namespace Go.Pub
open Go.RowKit
theorem hpAlloc (w : World) (o : Obj) : (w.alloc o).heap.size = w.heap.size + 1 := by simp
theorem blw0 (w : World) (o : Obj) (n : Nat) : Below w.heap.size w ((w.alloc o).drewN n) := below_drewN ((Below.refl _ w).alloc (Nat.le_refl _) o) n
theorem blw00 (w : World) (o p : Obj) (n m : Nat) : Below w.heap.size w ((((w.alloc o).drewN n).alloc p).drewN m) :=
  below_drewN ((blw0 w o n).alloc (by show w.heap.size ≤ (w.alloc o).heap.size; simp) p) m
theorem blw1 {w : World} {o : Obj} {n : Nat} {w' : World} (b : Below ((w.alloc o).drewN n).heap.size ((w.alloc o).drewN n) w') : Below w.heap.size w w' :=
  (blw0 w o n).trans (b.mono (by show w.heap.size ≤ (w.alloc o).heap.size; simp))
theorem blw2 {w : World} {o p : Obj} {n m : Nat} {w' : World} (b : Below ((((w.alloc o).drewN n).alloc p).drewN m).heap.size ((((w.alloc o).drewN n).alloc p).drewN m) w') : Below w.heap.size w w' :=
  (blw00 w o p n m).trans (b.mono (by
    show w.heap.size ≤ (((w.alloc o).drewN n).alloc p).heap.size
    simp only [hpAlloc]
    show w.heap.size ≤ (w.alloc o).heap.size + 1
    simp only [hpAlloc]; omega))
end Go.Pub
namespace Go.Proofs.YtepeaenbjgbnfaaDoor
open Go.RowKit Go.Pub

set_option maxRecDepth 100000 in
set_option maxHeartbeats 1000000 in
theorem l_title_out (s : ByteArray) (i : Int) (w : World) (hs : s.size ≤ 1000000) (h : ¬ (0 ≤ i ∧ i < s.size)) :
    Calls Tryd.prog 9 #[.string s, .int .i64 i] w (PartPost (titleR s i) w) := by
  have HR : Hid (titleR s i = none) := Lib.hid (by unfold titleR; rw [if_neg h])
  generalize titleR s i = R at *
  by_cases h0 : i < 0
  all_goals
    go_enter Tryd.func9, Tryd.ntmps9
    go_wp2
    go_ret3
    exact part_none HR.out (Below.refl _ _)

set_option maxRecDepth 100000 in
set_option maxHeartbeats 1000000 in
theorem l_title_in (s : ByteArray) (i : Nat) (w : World) (hs : s.size ≤ 1000000) (hi : i < s.size) :
    Calls Tryd.prog 9 #[.string s, .int .i64 i] w (PartPost (titleR s i) w) := by
  have zi : decide ((i : Int) < 0) = false := by simp
  have zj : decide (s.size ≤ i) = false := by simp; omega
  have hlt2 : ((s[i].toNat : Nat) : Int) < 256 := by rw [get_bt s i hi]; have := bt_lt s i; omega
  have i0 : ∀ w, (Instr.index 39 (.agg #[.int .u8 34, .int .u8 34, .int .u8 39, .int .u8 39]) (.int .i64 0)).run Tryd.prog w = .ok (.agg #[.int .u8 34, .int .u8 34]) w := fun _ => by kernel_rfl
  have i1 : ∀ w, (Instr.index 39 (.agg #[.int .u8 34, .int .u8 34, .int .u8 39, .int .u8 39]) (.int .i64 1)).run Tryd.prog w = .ok (.agg #[.int .u8 39, .int .u8 39]) w := fun _ => by kernel_rfl
  have hR : titleR s i = if bt s i = 34 then betw s i 34 34 else if bt s i = 39 then betw s i 39 39 else none := by unfold titleR; rw [if_pos ⟨by omega, by omega⟩, Int.toNat_natCast]
  have HR := Lib.hid hR
  clear hR
  generalize titleR s i = R at *
  by_cases c1 : bt s i = 34
  · have HC : Hid (∀ W, Calls Tryd.prog 22 #[.string s, .int .i64 i, .int .u8 34] W (PartPost R W)) := Lib.hid fun W => by
      rw [HR.out, if_pos c1]; exact l_quoted s i 34 W hs hi (Or.inl rfl)
    have z1 : (((s[i].toNat : Nat) : Int) == 34) = true := by rw [get_bt s i hi, c1]; rfl
    clear c1 HR
    cases R
    all_goals
      go_enter Tryd.func9, Tryd.ntmps9
      go_wp2
      refine wp_loop_rounds 3 ?_
      rw [rounds_succ]
      go_wp2
      go_quiet (fail)
      go_wp2_with fail
      ((with_reducible refine (HC.out _).mono ?_))
      rintro e w' ⟨rfl, b1⟩
      go_wp2
      go_ret3
      first
      | exact part_none rfl (blw1 b1)
      | exact part_some rfl rfl (blw1 b1)
  · have z1 : (((s[i].toNat : Nat) : Int) == 34) = false := by rw [get_bt s i hi, beq_eq_false_iff_ne]; omega
    by_cases c2 : bt s i = 39
    · have HC : Hid (∀ W, Calls Tryd.prog 22 #[.string s, .int .i64 i, .int .u8 39] W (PartPost R W)) := Lib.hid fun W => by
        rw [HR.out, if_neg c1, if_pos c2]; exact l_quoted s i 39 W hs hi (Or.inr rfl)
      have z2 : (((s[i].toNat : Nat) : Int) == 39) = true := by rw [get_bt s i hi, c2]; rfl
      clear c1 c2 HR
      cases R
      all_goals
        go_enter Tryd.func9, Tryd.ntmps9
        go_wp2
        refine wp_loop_rounds 3 ?_
        rw [rounds_succ]
        go_wp2
        go_quiet (fail)
        go_wp2
        rw [rounds_succ]
        go_wp2
        go_quiet (fail)
        go_wp2_with fail
        ((with_reducible refine (HC.out _).mono ?_))
        rintro e w' ⟨rfl, b1⟩
        go_wp2
        go_ret3
        first
        | exact part_none rfl (blw2 b1)
        | exact part_some rfl rfl (blw2 b1)
    · have z2 : (((s[i].toNat : Nat) : Int) == 39) = false := by rw [get_bt s i hi, beq_eq_false_iff_ne]; omega
      have HN : Hid (R = none) := Lib.hid (by rw [HR.out, if_neg c1, if_neg c2])
      clear c1 c2 HR
      go_enter Tryd.func9, Tryd.ntmps9
      go_wp2
      refine wp_loop_rounds 3 ?_
      rw [rounds_succ]
      go_wp2
      go_quiet (fail)
      go_wp2
      rw [rounds_succ]
      go_wp2
      go_quiet (fail)
      go_wp2
      rw [rounds_succ]
      go_wp2
      go_ret3
      exact part_none HN.out (blw00 w _ _ _ _)

theorem l_title (s : ByteArray) (i : Int) (w : World) (hs : s.size ≤ 1000000) :
    Calls Tryd.prog 9 #[.string s, .int .i64 i] w (PartPost (titleR s i) w) := by
  by_cases h : 0 ≤ i ∧ i < s.size
  · obtain ⟨k, rfl⟩ := Int.eq_ofNat_of_zero_le h.1
    exact l_title_in s k w hs (by have := h.2; omega)
  · exact l_title_out s i w hs h

set_option maxRecDepth 100000 in
set_option maxHeartbeats 1000000 in
theorem l_skip (s : ByteArray) (i : Nat) (w : World) (hs : s.size ≤ 1000000) (hi : i ≤ s.size) :
    Calls Tryd.prog 26 #[.string s, .int .i64 i] w fun e w' => e = .returned (.int .i64 (skipA s i)) ∧ w = w' := by
  have HX : Hid (skipA s i = skipA s i) := Lib.hid rfl
  generalize hR : skipA s i = R at *
  have HR := Lib.hid hR
  clear hR HX
  go_enter Tryd.func26, Tryd.ntmps26
  go_wp2
  go_loop [1] (fun v => ∃ k : Nat, i ≤ k ∧ k ≤ s.size ∧ v = .int .i64 k ∧ Hid (skipA s k = R)) (fun v => s.size - (intOf v).toNat)
  case atStart => exact ⟨i, by omega, by omega, rfl, HR⟩
  case round =>
    obtain ⟨k, hk1, hk, rfl, Hk⟩ := hrel
    by_cases hlt : k < s.size
    · have hlt2 : ((s[k].toNat : Nat) : Int) < 256 := by rw [get_bt s k hlt]; have := bt_lt s k; omega
      have HC : Hid (∀ W, Calls Tryd.prog 44 #[.int .i64 ((s[k].toNat : Nat) : Int)] W fun e w' => e = .returned (.bool (spaceB (bt s k : Int))) ∧ W = w') := Lib.hid fun W => by
        rw [get_bt s k hlt]; exact space_any _ W
      cases hsp : spaceB (bt s k : Int)
      · have HF : Hid (k = R) := Lib.hid (by rw [← Hk.out, skipA_no s k hlt hsp])
        rw [hsp] at HC
        clear hsp
        go_wp2_with fail
        ((with_reducible refine (HC.out _).mono ?_))
        rintro e w' ⟨rfl, rfl⟩
        go_wp2
        go_ret
        exact ⟨ret_int (by rw [HF.out]), rfl⟩
      · have HF : Hid (skipA s (k + 1) = R) := Lib.hid (by rw [← Hk.out, skipA_yes s k hlt hsp])
        rw [hsp] at HC
        clear hsp
        go_wp2_with fail
        ((with_reducible refine (HC.out _).mono ?_))
        rintro e w' ⟨rfl, rfl⟩
        go_wp2
        go_round
        case rel => exact ⟨k + 1, by omega, by omega, by go_num, HF⟩
        case measure => simp [intOf]; omega
    · have HF : Hid (k = R) := Lib.hid (by rw [← Hk.out, skipA_end s k (by omega)])
      go_wp2
      go_ret
      exact ⟨ret_int (by rw [HF.out]), rfl⟩
end Go.Proofs.YtepeaenbjgbnfaaDoor
