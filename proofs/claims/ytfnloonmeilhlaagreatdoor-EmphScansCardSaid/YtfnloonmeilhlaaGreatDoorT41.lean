/-
  Texts of the proof, put together (what this law reaches): ScAK.
-/
import Derived.Test.YtfnloonmeilhlaaGreatDoorT38
import Derived.Deep.DeepCutAuto
import Derived.WalkMore
set_option linter.unusedVariables false
set_option linter.unusedSimpArgs false
namespace Go.Proofs.YtfnloonmeilhlaaGreatDoor
open Go.RowKit Go.Pub
set_option maxRecDepth 100000 in
set_option maxHeartbeats 4000000 in
theorem pc_sp (s : ByteArray) (i b1 b2 : Nat) (m : Int) (S : Nat → Prop) (w : World) (hs : s.size ≤ 1000000) (hi : i < s.size) (hb : bt s i = 32 ∨ bt s i = 10) (hW : RdrW w S s b1 b2) (hS : ∀ g, S g → g < w.heap.size) (hm : w.cell? ⟨0, 0, none⟩ = some (.int .i64 m)) :
    Calls Tryz.prog 17 #[rdrV s b1 b2, .int .i64 i] w (PcPost (noBg (pieceA s i).1) (pieceA s i).2 w) := by
  have hg := get_bt s i hi
  have h0w : 0 < w.heap.size := World.block_lt_of_cell? _ _ hm
  obtain ⟨R, hR⟩ : ∃ R, R = pieceA s i := ⟨_, rfl⟩
  rw [← hR]
  have hR2 := hR.trans (piece_32 hi hb)
  have HX := Lib.hid fun W => s_skip s i W hs
  have HY := Lib.hid fun W => s_skip s (spAt s i + 1) W hs
  rw [show ((spAt s i + 1 : Nat) : Int) = (spAt s i : Int) + 1 by omega] at HY
  have hE := spAt_bd' s i
  have hE2 := hE.2 (by omega)
  have hE3 := (spAt_bd' s (spAt s i + 1)).1
  have HL := Lib.hid fun W => s_literal s i (spAt s i) W hs (by omega) (by omega)
  clear hR hW hm
  generalize spAt s (spAt s i + 1) = E2 at *
  generalize spAt s i = E at *
  have HQ := Lib.hid hR2
  clear hR2
  by_cases hc : E < s.size ∧ bt s E = 10
  · have HQ2 : Hid (R = (pcI ({ kind := 2 }, E2) i, false)) := Lib.hid (by rw [HQ.out, if_pos hc])
    obtain ⟨hc1, hc2⟩ := hc
    have hgE := get_bt s E hc1
    rw [hc2] at hgE
    clear HQ HL hc2
    rcases hb with h | h
    all_goals
      rw [h] at hg
      clear h
      have Z0 := Lib.hid (PcSt.start s b1 b2 w)
      unfold rdrV
      go_enter Tryz.func17, Tryz.ntmps17
      go_wp2_with fail
      go_step3
      go_wp2_with fail
      go_step3
      go_upto_region 6 with fail
      generalize ((((w.alloc _).alloc _).alloc _).alloc _) = W0 at *
      go_wp2_with fail
      ((with_reducible refine (HX.out _).mono ?_))
      rintro e W1 ⟨rfl, rfl⟩
      go_wp2_with fail
      ((with_reducible refine (HY.out _).mono ?_))
      rintro e W1 ⟨rfl, rfl⟩
      have HFd := Lib.hid (pc_foundS Z0.out { kind := 2 } E2 none 0 none 0 (by omega))
      have HZB := Lib.hid Z0.out.2.2.2.1.lt
      have hxp : (0 : Int) < (E2 : Nat) := by omega
      go_wp2_with fail
      (refine HFd.out.mono ?_)
      rintro e W2 ⟨rfl, z2, hkeep⟩
      have ZW2 := Lib.hid z2
      have HKp := Lib.hid hkeep
      clear z2 HFd hkeep Z0
      obtain ⟨p0, p1, p2, p3, p4⟩ := ZW2.out
      have p1h := Lib.hid p1
      have p4h := Lib.hid p4
      obtain ⟨d0, d1, d2, d3, d4, d5, d6, d7, d8, d9, _⟩ := in_facts p2
      have e0 := p3.cell 0
      simp at e0
      clear p0 p1 p2 p3 p4 ZW2
      go_wp2_with (refine wpList_store_row rfl 34 (.tmp 4) _ rfl _ _ rfl rfl _ _ p1h.out pc_size (by rfl) (by simp [pcC, Value.oneCell']) ?_)
      rw [Exit.noGoto_ret]
      refine pc_ret Tryz.results17 (row_blk p1h.out _) rfl rfl rfl ?_
      rw [HQ2.out]
      exact pc_found (x := ({ kind := 2 }, E2)) p4h.out (InR.plain _ _ _ _ _ rfl rfl) HKp.out HZB.out rfl _
  · have HQ2 : Hid (R = (litP s i E, true)) := Lib.hid (by rw [HQ.out, if_neg hc])
    clear HQ
    by_cases hc1 : E < s.size
    · have hgE := get_bt s E hc1
      have n10 : ((bt s E : Int) != 10) = true := bne_iff_ne.2 fun e => hc ⟨hc1, by omega⟩
      clear hc
      generalize bt s E = bE at *
      rcases hb with h | h
      all_goals
        rw [h] at hg
        clear h
        have Z0 := Lib.hid (PcSt.start s b1 b2 w)
        unfold rdrV
        go_enter Tryz.func17, Tryz.ntmps17
        go_wp2_with fail
        go_step3
        go_wp2_with fail
        go_step3
        go_upto_region 6 with fail
        generalize ((((w.alloc _).alloc _).alloc _).alloc _) = W0 at *
        go_wp2_with fail
        ((with_reducible refine (HX.out _).mono ?_))
        rintro e W1 ⟨rfl, rfl⟩
        have z9 := Z0.out
        have hz9 := z9.1.lt
        clear Z0
        go_wp2_with fail
        ((with_reducible refine (HL.out _).mono ?_))
        rintro e W9 ⟨rfl, q9⟩
        have Z9 := z9.below q9
        obtain ⟨p0, p1, p2, p3, p4⟩ := Z9
        have p1h := Lib.hid p1
        have p4h := Lib.hid p4
        clear p0 p1 p2 p3 p4 q9 z9 
        go_wp2_with (refine wpList_store_row rfl 34 (.tmp 4) _ rfl _ _ rfl rfl _ _ p1h.out pc_size (by rfl) (by simp [pcC, Value.oneCell']) ?_)
        rw [Exit.noGoto_ret]
        refine pc_ret Tryz.results17 (row_blk p1h.out _) rfl rfl rfl ?_
        rw [HQ2.out]
        exact pc_plain (row_below p4h.out (by omega) _) rfl rfl rfl
    · clear hc
      rcases hb with h | h
      all_goals
        rw [h] at hg
        clear h
        have Z0 := Lib.hid (PcSt.start s b1 b2 w)
        unfold rdrV
        go_enter Tryz.func17, Tryz.ntmps17
        go_wp2_with fail
        go_step3
        go_wp2_with fail
        go_step3
        go_upto_region 6 with fail
        generalize ((((w.alloc _).alloc _).alloc _).alloc _) = W0 at *
        go_wp2_with fail
        ((with_reducible refine (HX.out _).mono ?_))
        rintro e W1 ⟨rfl, rfl⟩
        have z9 := Z0.out
        have hz9 := z9.1.lt
        clear Z0
        go_wp2_with fail
        ((with_reducible refine (HL.out _).mono ?_))
        rintro e W9 ⟨rfl, q9⟩
        have Z9 := z9.below q9
        obtain ⟨p0, p1, p2, p3, p4⟩ := Z9
        have p1h := Lib.hid p1
        have p4h := Lib.hid p4
        clear p0 p1 p2 p3 p4 q9 z9 
        go_wp2_with (refine wpList_store_row rfl 34 (.tmp 4) _ rfl _ _ rfl rfl _ _ p1h.out pc_size (by rfl) (by simp [pcC, Value.oneCell']) ?_)
        rw [Exit.noGoto_ret]
        refine pc_ret Tryz.results17 (row_blk p1h.out _) rfl rfl rfl ?_
        rw [HQ2.out]
        exact pc_plain (row_below p4h.out (by omega) _) rfl rfl rfl

set_option maxRecDepth 100000 in
set_option maxHeartbeats 4000000 in
theorem pc_excl (s : ByteArray) (i b1 b2 : Nat) (m : Int) (S : Nat → Prop) (w : World) (hs : s.size ≤ 1000000) (hi : i < s.size) (hb : bt s i = 33) (hW : RdrW w S s b1 b2) (hS : ∀ g, S g → g < w.heap.size) (hm : w.cell? ⟨0, 0, none⟩ = some (.int .i64 m)) :
    Calls Tryz.prog 17 #[rdrV s b1 b2, .int .i64 i] w (PcPost (noBg (pieceA s i).1) (pieceA s i).2 w) := by
  have hg := get_bt s i hi
  have h0w : 0 < w.heap.size := World.block_lt_of_cell? _ _ hm
  obtain ⟨R, hR⟩ : ∃ R, R = pieceA s i := ⟨_, rfl⟩
  rw [← hR]
  have hR2 := hR.trans (piece_33 hb)
  rw [hb] at hg
  have hD := dec_bd s i hi
  have HN : Hid (∀ W, Calls Tryz.prog 41 #[.string s, .int .i64 i] W (PairQuiet ((Utf8.decode s i).1 : Nat) ((Utf8.decode s i).2 : Nat) W)) := Lib.hid fun W => by
    have := next_any s (i : Int) W (by omega)
    rwa [nextAt_in s i hi] at this
  have HL : Hid (∀ W, Calls Tryz.prog 31 #[.string s, .int .i64 i, .int .i64 ((i : Int) + ((Utf8.decode s i).2 : Nat))] W fun r w' => r = .returned (.agg (pcC { inl := spn 1 (s.extract i (i + (Utf8.decode s i).2)), nd := i + (Utf8.decode s i).2 } none 0 none 0)) ∧ Below W.heap.size W w') := Lib.hid fun W => by
    have := s_literal s i (i + (Utf8.decode s i).2) W hs (by omega) (by omega)
    rwa [show ((i + (Utf8.decode s i).2 : Nat) : Int) = (i : Int) + ((Utf8.decode s i).2 : Nat) by omega] at this
  clear hR hW hm hb
  generalize Utf8.decode s i = D at *
  by_cases hc : i + 1 < s.size ∧ bt s (i + 1) = 91
  · have HQ2 : Hid (R = ({ kind := 2, img := true, bg := i, nd := i + 2 }, false)) := Lib.hid (by rw [hR2, if_pos hc])
    obtain ⟨hc1, hc2⟩ := hc
    have hgE := get_bt s (i + 1) hc1
    rw [hc2] at hgE
    clear hR2 HL HN hc2 hD
    have Z0 := Lib.hid (PcSt.start s b1 b2 w)
    unfold rdrV
    go_enter Tryz.func17, Tryz.ntmps17
    go_wp2_with fail
    go_step3
    go_wp2_with fail
    go_step3
    go_upto_region 6 with fail
    generalize ((((w.alloc _).alloc _).alloc _).alloc _) = W0 at *
    obtain ⟨p0, p1, p2, p3, p4⟩ := Z0.out
    have p1h := Lib.hid p1
    have p4h := Lib.hid p4
    clear p0 p1 p2 p3 p4 Z0
    go_wp2_with (refine wpList_store_row rfl 34 (.tmp 4) _ rfl _ _ rfl rfl _ _ p1h.out pc_size (by rfl) (by simp [pcC, Value.oneCell']) ?_)
    rw [Exit.noGoto_ret]
    refine pc_ret Tryz.results17 (row_blk p1h.out _) rfl rfl rfl ?_
    rw [HQ2.out]
    exact pc_plain (row_below p4h.out (by omega) _) rfl rfl rfl
  · have HQ2 : Hid (R = (litP s i (i + D.2), true)) := Lib.hid (by rw [hR2, if_neg hc])
    clear hR2
    by_cases hc1 : i + 1 < s.size
    · have hgE := get_bt s (i + 1) hc1
      have n91 : ((bt s (i + 1) : Int) == 91) = false := beq_eq_false_iff_ne.2 fun e => hc ⟨hc1, by omega⟩
      clear hc
      generalize bt s (i + 1) = bE at *
      have Z0 := Lib.hid (PcSt.start s b1 b2 w)
      unfold rdrV
      go_enter Tryz.func17, Tryz.ntmps17
      go_wp2_with fail
      go_step3
      go_wp2_with fail
      go_step3
      go_upto_region 6 with fail
      generalize ((((w.alloc _).alloc _).alloc _).alloc _) = W0 at *
      have z8 := Z0.out
      have e0 := z8.2.2.2.1.cell 0
      simp at e0
      clear Z0
      go_wp2_with fail
      ((with_reducible refine (HN.out _).mono ?_))
      rintro e W8 ⟨rfl, q8, rfl⟩
      have Z8 := Lib.hid (z8.below (below_drewN (Below.refl _ _) q8))
      clear e0 z8
      generalize Z8W : World.drewN _ q8 = W8 at *
      clear Z8W

      have z9 := Z8.out
      have hz9 := z9.1.lt
      clear Z8
      go_wp2_with fail
      ((with_reducible refine (HL.out _).mono ?_))
      rintro e W9 ⟨rfl, q9⟩
      have Z9 := z9.below q9
      obtain ⟨p0, p1, p2, p3, p4⟩ := Z9
      have p1h := Lib.hid p1
      have p4h := Lib.hid p4
      clear p0 p1 p2 p3 p4 q9 z9 
      go_wp2_with (refine wpList_store_row rfl 34 (.tmp 4) _ rfl _ _ rfl rfl _ _ p1h.out pc_size (by rfl) (by simp [pcC, Value.oneCell']) ?_)
      rw [Exit.noGoto_ret]
      refine pc_ret Tryz.results17 (row_blk p1h.out _) rfl rfl rfl ?_
      rw [HQ2.out]
      exact pc_plain (row_below p4h.out (by omega) _) rfl rfl rfl
    · clear hc
      have Z0 := Lib.hid (PcSt.start s b1 b2 w)
      unfold rdrV
      go_enter Tryz.func17, Tryz.ntmps17
      go_wp2_with fail
      go_step3
      go_wp2_with fail
      go_step3
      go_upto_region 6 with fail
      generalize ((((w.alloc _).alloc _).alloc _).alloc _) = W0 at *
      have z8 := Z0.out
      have e0 := z8.2.2.2.1.cell 0
      simp at e0
      clear Z0
      go_wp2_with fail
      ((with_reducible refine (HN.out _).mono ?_))
      rintro e W8 ⟨rfl, q8, rfl⟩
      have Z8 := Lib.hid (z8.below (below_drewN (Below.refl _ _) q8))
      clear e0 z8
      generalize Z8W : World.drewN _ q8 = W8 at *
      clear Z8W

      have z9 := Z8.out
      have hz9 := z9.1.lt
      clear Z8
      go_wp2_with fail
      ((with_reducible refine (HL.out _).mono ?_))
      rintro e W9 ⟨rfl, q9⟩
      have Z9 := z9.below q9
      obtain ⟨p0, p1, p2, p3, p4⟩ := Z9
      have p1h := Lib.hid p1
      have p4h := Lib.hid p4
      clear p0 p1 p2 p3 p4 q9 z9 
      go_wp2_with (refine wpList_store_row rfl 34 (.tmp 4) _ rfl _ _ rfl rfl _ _ p1h.out pc_size (by rfl) (by simp [pcC, Value.oneCell']) ?_)
      rw [Exit.noGoto_ret]
      refine pc_ret Tryz.results17 (row_blk p1h.out _) rfl rfl rfl ?_
      rw [HQ2.out]
      exact pc_plain (row_below p4h.out (by omega) _) rfl rfl rfl

set_option maxRecDepth 100000 in
set_option maxHeartbeats 4000000 in
theorem pc_close (s : ByteArray) (i b1 b2 : Nat) (m : Int) (S : Nat → Prop) (w : World) (hs : s.size ≤ 1000000) (hi : i < s.size) (hb : bt s i = 93) (hW : RdrW w S s b1 b2) (hS : ∀ g, S g → g < w.heap.size) (hm : w.cell? ⟨0, 0, none⟩ = some (.int .i64 m)) :
    Calls Tryz.prog 17 #[rdrV s b1 b2, .int .i64 i] w (PcPost (noBg (pieceA s i).1) (pieceA s i).2 w) := by
  have hg := get_bt s i hi
  have h0w : 0 < w.heap.size := World.block_lt_of_cell? _ _ hm
  obtain ⟨R, hR⟩ : ∃ R, R = pieceA s i := ⟨_, rfl⟩
  rw [← hR]
  have HQ2 := Lib.hid (hR.trans (piece_93 hb))
  rw [hb] at hg
  clear hR hW hm hb
  have Z0 := Lib.hid (PcSt.start s b1 b2 w)
  unfold rdrV
  go_enter Tryz.func17, Tryz.ntmps17
  go_wp2_with fail
  go_step3
  go_wp2_with fail
  go_step3
  go_upto_region 6 with fail
  generalize ((((w.alloc _).alloc _).alloc _).alloc _) = W0 at *
  obtain ⟨p0, p1, p2, p3, p4⟩ := Z0.out
  have p1h := Lib.hid p1
  have p4h := Lib.hid p4
  clear p0 p1 p2 p3 p4 Z0
  go_wp2_with (refine wpList_store_row rfl 34 (.tmp 4) _ rfl _ _ rfl rfl _ _ p1h.out pc_size (by rfl) (by simp [pcC, Value.oneCell']) ?_)
  rw [Exit.noGoto_ret]
  refine pc_ret Tryz.results17 (row_blk p1h.out _) rfl rfl rfl ?_
  rw [HQ2.out]
  exact pc_plain (row_below p4h.out (by omega) _) rfl rfl rfl

set_option maxRecDepth 100000 in
set_option maxHeartbeats 4000000 in
theorem pc_els (s : ByteArray) (i b1 b2 : Nat) (m : Int) (S : Nat → Prop) (w : World) (hs : s.size ≤ 1000000) (hi : i < s.size) (hb : kindB (bt s i) = false) (hW : RdrW w S s b1 b2) (hS : ∀ g, S g → g < w.heap.size) (hm : w.cell? ⟨0, 0, none⟩ = some (.int .i64 m)) :
    Calls Tryz.prog 17 #[rdrV s b1 b2, .int .i64 i] w (PcPost (noBg (pieceA s i).1) (pieceA s i).2 w) := by
  have hg := get_bt s i hi
  have h0w : 0 < w.heap.size := World.block_lt_of_cell? _ _ hm
  obtain ⟨R, hR⟩ : ∃ R, R = pieceA s i := ⟨_, rfl⟩
  rw [← hR]
  have HQ2 := Lib.hid (hR.trans (piece_els hb))
  unfold kindB at hb
  simp at hb
  obtain ⟨n92, n32, n10, n38, n36, n96, n60, n123, n91, n33, n93, n42, n95, n126⟩ := hb
  replace n92 : ((bt s i : Int) == 92) = false := beq_eq_false_iff_ne.2 (by omega)
  replace n32 : ((bt s i : Int) == 32) = false := beq_eq_false_iff_ne.2 (by omega)
  replace n10 : ((bt s i : Int) == 10) = false := beq_eq_false_iff_ne.2 (by omega)
  replace n38 : ((bt s i : Int) == 38) = false := beq_eq_false_iff_ne.2 (by omega)
  replace n36 : ((bt s i : Int) == 36) = false := beq_eq_false_iff_ne.2 (by omega)
  replace n96 : ((bt s i : Int) == 96) = false := beq_eq_false_iff_ne.2 (by omega)
  replace n60 : ((bt s i : Int) == 60) = false := beq_eq_false_iff_ne.2 (by omega)
  replace n123 : ((bt s i : Int) == 123) = false := beq_eq_false_iff_ne.2 (by omega)
  replace n91 : ((bt s i : Int) == 91) = false := beq_eq_false_iff_ne.2 (by omega)
  replace n33 : ((bt s i : Int) == 33) = false := beq_eq_false_iff_ne.2 (by omega)
  replace n93 : ((bt s i : Int) == 93) = false := beq_eq_false_iff_ne.2 (by omega)
  replace n42 : ((bt s i : Int) == 42) = false := beq_eq_false_iff_ne.2 (by omega)
  replace n95 : ((bt s i : Int) == 95) = false := beq_eq_false_iff_ne.2 (by omega)
  replace n126 : ((bt s i : Int) == 126) = false := beq_eq_false_iff_ne.2 (by omega)
  have hD := dec_bd s i hi
  have HN : Hid (∀ W, Calls Tryz.prog 41 #[.string s, .int .i64 i] W (PairQuiet ((Utf8.decode s i).1 : Nat) ((Utf8.decode s i).2 : Nat) W)) := Lib.hid fun W => by
    have := next_any s (i : Int) W (by omega)
    rwa [nextAt_in s i hi] at this
  have HL : Hid (∀ W, Calls Tryz.prog 31 #[.string s, .int .i64 i, .int .i64 ((i : Int) + ((Utf8.decode s i).2 : Nat))] W fun r w' => r = .returned (.agg (pcC { inl := spn 1 (s.extract i (i + (Utf8.decode s i).2)), nd := i + (Utf8.decode s i).2 } none 0 none 0)) ∧ Below W.heap.size W w') := Lib.hid fun W => by
    have := s_literal s i (i + (Utf8.decode s i).2) W hs (by omega) (by omega)
    rwa [show ((i + (Utf8.decode s i).2 : Nat) : Int) = (i : Int) + ((Utf8.decode s i).2 : Nat) by omega] at this
  clear hR hW hm
  generalize Utf8.decode s i = D at *
  generalize bt s i = b at *
  have Z0 := Lib.hid (PcSt.start s b1 b2 w)
  unfold rdrV
  go_enter Tryz.func17, Tryz.ntmps17
  go_wp2_with fail
  go_step3
  go_wp2_with fail
  go_step3
  go_upto_region 6 with fail
  generalize ((((w.alloc _).alloc _).alloc _).alloc _) = W0 at *
  have z8 := Z0.out
  have e0 := z8.2.2.2.1.cell 0
  simp at e0
  clear Z0
  go_wp2_with fail
  ((with_reducible refine (HN.out _).mono ?_))
  rintro e W8 ⟨rfl, q8, rfl⟩
  have Z8 := Lib.hid (z8.below (below_drewN (Below.refl _ _) q8))
  clear e0 z8
  generalize Z8W : World.drewN _ q8 = W8 at *
  clear Z8W

  have z9 := Z8.out
  have hz9 := z9.1.lt
  clear Z8
  go_wp2_with fail
  ((with_reducible refine (HL.out _).mono ?_))
  rintro e W9 ⟨rfl, q9⟩
  have Z9 := z9.below q9
  obtain ⟨p0, p1, p2, p3, p4⟩ := Z9
  have p1h := Lib.hid p1
  have p4h := Lib.hid p4
  clear p0 p1 p2 p3 p4 q9 z9 
  go_wp2_with (refine wpList_store_row rfl 34 (.tmp 4) _ rfl _ _ rfl rfl _ _ p1h.out pc_size (by rfl) (by simp [pcC, Value.oneCell']) ?_)
  rw [Exit.noGoto_ret]
  refine pc_ret Tryz.results17 (row_blk p1h.out _) rfl rfl rfl ?_
  rw [HQ2.out]
  exact pc_plain (row_below p4h.out (by omega) _) rfl rfl rfl

set_option maxRecDepth 100000 in
set_option maxHeartbeats 4000000 in
theorem pc_runs (s : ByteArray) (i b1 b2 : Nat) (m : Int) (S : Nat → Prop) (w : World) (hs : s.size ≤ 1000000) (hi : i < s.size) (hb : bt s i = 42 ∨ bt s i = 95 ∨ bt s i = 126) (hW : RdrW w S s b1 b2) (hS : ∀ g, S g → g < w.heap.size) (hm : w.cell? ⟨0, 0, none⟩ = some (.int .i64 m)) :
    Calls Tryz.prog 17 #[rdrV s b1 b2, .int .i64 i] w (PcPost (noBg (pieceA s i).1) (pieceA s i).2 w) := by
  have hg := get_bt s i hi
  have h0w : 0 < w.heap.size := World.block_lt_of_cell? _ _ hm
  obtain ⟨R, hR⟩ : ∃ R, R = pieceA s i := ⟨_, rfl⟩
  rw [← hR]
  have HX := Lib.hid fun W => s_run s i b1 b2 W hs hi hb
  unfold rdrV at HX
  rw [← hR] at HX
  clear hR hW hm
  rcases hb with h | h | h
  all_goals
    rw [h] at hg
    clear h
    have Z0 := Lib.hid (PcSt.start s b1 b2 w)
    unfold rdrV
    go_enter Tryz.func17, Tryz.ntmps17
    go_wp2_with fail
    go_step3
    go_wp2_with fail
    go_step3
    go_upto_region 6 with fail
    generalize ((((w.alloc _).alloc _).alloc _).alloc _) = W0 at *
    have hc0 := Z0.out.1.cell 0
    have hc1 := Z0.out.1.cell 1
    have hc2 := Z0.out.1.cell 2
    simp at hc0 hc1 hc2
    go_wp2_with fail
    ((with_reducible refine (HX.out _).mono ?_))
    rintro e W1 ⟨q, A1, c1, A2, c2, rfl, hir⟩
    have ZW1 := Lib.hid (Z0.out.below q)
    have HZB := Lib.hid Z0.out.2.2.2.1.lt
    have HIR := Lib.hid hir
    obtain ⟨p0, p1, p2, p3, p4⟩ := ZW1.out
    have p1h := Lib.hid p1
    have p4h := Lib.hid p4

    clear p0 p1 p2 p3 p4 ZW1 q hir Z0 hc0 hc1 hc2 HX
    go_wp2_with (refine wpList_store_row rfl 34 (.tmp 4) _ rfl _ _ rfl rfl _ _ p1h.out pc_size (by rfl) (by simp [pcC, Value.oneCell']) ?_)
    rw [Exit.noGoto_ret]
    refine pc_ret Tryz.results17 (row_blk p1h.out _) rfl rfl rfl ?_
    exact pc_again p4h.out HIR.out HZB.out rfl _

end Go.Proofs.YtfnloonmeilhlaaGreatDoor
