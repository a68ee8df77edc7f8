/-
  Texts of the proof, put together (what this law reaches): ScAI.
-/
import Derived.Test.YtfnloonmeilhlaaGreatDoorT38
import Derived.Deep.DeepCutAuto
import Derived.WalkMore
set_option linter.unusedVariables false
set_option linter.unusedSimpArgs false
namespace Go.Proofs.YtfnloonmeilhlaaGreatDoor
open Go.RowKit Go.Pub
set_option maxRecDepth 100000 in
set_option maxHeartbeats 4000000 in
theorem pc_esc (s : ByteArray) (i b1 b2 : Nat) (m : Int) (S : Nat → Prop) (w : World) (hs : s.size ≤ 1000000) (hi : i < s.size) (hb : bt s i = 92) (hW : RdrW w S s b1 b2) (hS : ∀ g, S g → g < w.heap.size) (hm : w.cell? ⟨0, 0, none⟩ = some (.int .i64 m)) :
    Calls Tryz.prog 17 #[rdrV s b1 b2, .int .i64 i] w (PcPost (noBg (pieceA s i).1) (pieceA s i).2 w) := by
  have hg := get_bt s i hi
  have h0w : 0 < w.heap.size := World.block_lt_of_cell? _ _ hm
  obtain ⟨R, hR⟩ : ∃ R, R = pieceA s i := ⟨_, rfl⟩
  rw [← hR]
  have hR2 := hR.trans (piece_92 hb)
  have hpos : ∀ x, escI s i = some x → 0 < x.2 := fun x hx => Nat.lt_of_le_of_lt (Nat.zero_le i) (escI_bd hx).1
  have HX := Lib.hid fun W => s_back s i W hs hi
  rw [hb] at hg
  have hD := dec_bd s i hi
  have HN : Hid (∀ W, Calls Tryz.prog 41 #[.string s, .int .i64 i] W (PairQuiet ((Utf8.decode s i).1 : Nat) ((Utf8.decode s i).2 : Nat) W)) := Lib.hid fun W => by
    have := next_any s (i : Int) W (by omega)
    rwa [nextAt_in s i hi] at this
  have HL : Hid (∀ W, Calls Tryz.prog 31 #[.string s, .int .i64 i, .int .i64 ((i : Int) + ((Utf8.decode s i).2 : Nat))] W fun r w' => r = .returned (.agg (pcC { inl := spn 1 (s.extract i (i + (Utf8.decode s i).2)), nd := i + (Utf8.decode s i).2 } none 0 none 0)) ∧ Below W.heap.size W w') := Lib.hid fun W => by
    have := s_literal s i (i + (Utf8.decode s i).2) W hs (by omega) (by omega)
    rwa [show ((i + (Utf8.decode s i).2 : Nat) : Int) = (i : Int) + ((Utf8.decode s i).2 : Nat) by omega] at this
  clear hR hW hm hb
  generalize escI s i = O at *
  generalize Utf8.decode s i = D at *
  have HQ := Lib.hid hR2
  clear hR2
  have Z0 := Lib.hid (PcSt.start s b1 b2 w)
  unfold rdrV
  go_enter Tryz.func17, Tryz.ntmps17
  go_wp2_with fail
  go_step3
  go_wp2_with fail
  go_step3
  go_upto_region 6 with fail
  generalize ((((w.alloc _).alloc _).alloc _).alloc _) = W0 at *
  go_wp2_with fail
  ((with_reducible refine (HX.out _).mono ?_))
  rintro e W1 hp
  obtain ⟨q, hp⟩ := hp
  have ZW1 := Lib.hid (Z0.out.below q)
  have HZBW1 := Lib.hid Z0.out.2.2.2.1.lt
  clear q Z0
  clear HX
  cases O with
  | none =>
    have HQ2 : Hid (R = (litP s i (i + D.2), true)) := Lib.hid HQ.out
    clear HQ hpos HZBW1
    obtain rfl := hp
    have HFd := Lib.hid (pc_foundN ZW1.out)
    clear ZW1
    go_wp2_with fail
    ((with_reducible refine HFd.out.mono ?_))
    rintro e W2 ⟨rfl, z2⟩
    have ZW2 := Lib.hid z2
    clear z2 HFd
    have z8 := ZW2.out
    have e0 := z8.2.2.2.1.cell 0
    simp at e0
    clear ZW2
    go_wp2_with fail
    ((with_reducible refine (HN.out _).mono ?_))
    rintro e W8 ⟨rfl, q8, rfl⟩
    have Z8 := Lib.hid (z8.below (below_drewN (Below.refl _ _) q8))
    clear e0 z8
    generalize Z8W : World.drewN _ q8 = W8 at *
    clear Z8W

    have z9 := Z8.out
    have hz9 := z9.1.lt
    clear Z8
    go_wp2_with fail
    ((with_reducible refine (HL.out _).mono ?_))
    rintro e W9 ⟨rfl, q9⟩
    have Z9 := z9.below q9
    obtain ⟨p0, p1, p2, p3, p4⟩ := Z9
    have p1h := Lib.hid p1
    have p4h := Lib.hid p4
    clear p0 p1 p2 p3 p4 q9 z9 
    go_wp2_with (refine wpList_store_row rfl 34 (.tmp 4) _ rfl _ _ rfl rfl _ _ p1h.out pc_size (by rfl) (by simp [pcC, Value.oneCell']) ?_)
    rw [Exit.noGoto_ret]
    refine pc_ret Tryz.results17 (row_blk p1h.out _) rfl rfl rfl ?_
    rw [HQ2.out]
    exact pc_plain (row_below p4h.out (by omega) _) rfl rfl rfl
  | some x =>
    have HQ2 : Hid (R = (pcI x i, false)) := Lib.hid HQ.out
    clear HQ HN HL hD
    have HZB := HZBW1
    obtain ⟨A1, c1, A2, c2, rfl, hir⟩ := hp
    have HFd := Lib.hid (pc_foundS ZW1.out x.1 x.2 A1 c1 A2 c2 (hpos x rfl))
    have HIR := Lib.hid hir
    have hxp : (0 : Int) < (x.2 : Nat) := by have := hpos x rfl; omega
    clear hir
    go_wp2_with fail
    ((with_reducible refine HFd.out.mono ?_))
    rintro e W2 ⟨rfl, z2, hkeep⟩
    have ZW2 := Lib.hid z2
    have HKp := Lib.hid hkeep
    clear z2 HFd hkeep ZW1
    obtain ⟨p0, p1, p2, p3, p4⟩ := ZW2.out
    have p1h := Lib.hid p1
    have p4h := Lib.hid p4
    obtain ⟨d0, d1, d2, d3, d4, d5, d6, d7, d8, d9, _⟩ := in_facts p2
    have e0 := p3.cell 0
    simp at e0
    clear p0 p1 p2 p3 p4 ZW2
    go_wp2_with (refine wpList_store_row rfl 34 (.tmp 4) _ rfl _ _ rfl rfl _ _ p1h.out pc_size (by rfl) (by simp [pcC, Value.oneCell']) ?_)
    rw [Exit.noGoto_ret]
    refine pc_ret Tryz.results17 (row_blk p1h.out _) rfl rfl rfl ?_
    rw [HQ2.out]
    exact pc_found p4h.out HIR.out HKp.out HZB.out rfl _

set_option maxRecDepth 100000 in
set_option maxHeartbeats 4000000 in
theorem pc_amp (s : ByteArray) (i b1 b2 : Nat) (m : Int) (S : Nat → Prop) (w : World) (hs : s.size ≤ 1000000) (hi : i < s.size) (hb : bt s i = 38) (hW : RdrW w S s b1 b2) (hS : ∀ g, S g → g < w.heap.size) (hm : w.cell? ⟨0, 0, none⟩ = some (.int .i64 m)) :
    Calls Tryz.prog 17 #[rdrV s b1 b2, .int .i64 i] w (PcPost (noBg (pieceA s i).1) (pieceA s i).2 w) := by
  have hg := get_bt s i hi
  have h0w : 0 < w.heap.size := World.block_lt_of_cell? _ _ hm
  obtain ⟨R, hR⟩ : ∃ R, R = pieceA s i := ⟨_, rfl⟩
  rw [← hR]
  have hR2 := hR.trans (piece_38 hb)
  have hpos : ∀ x, entI s i = some x → 0 < x.2 := fun x hx => Nat.lt_of_le_of_lt (Nat.zero_le i) (entI_bd hx).1
  have HX := Lib.hid fun W => s_reference s i W hs hi
  rw [hb] at hg
  have hD := dec_bd s i hi
  have HN : Hid (∀ W, Calls Tryz.prog 41 #[.string s, .int .i64 i] W (PairQuiet ((Utf8.decode s i).1 : Nat) ((Utf8.decode s i).2 : Nat) W)) := Lib.hid fun W => by
    have := next_any s (i : Int) W (by omega)
    rwa [nextAt_in s i hi] at this
  have HL : Hid (∀ W, Calls Tryz.prog 31 #[.string s, .int .i64 i, .int .i64 ((i : Int) + ((Utf8.decode s i).2 : Nat))] W fun r w' => r = .returned (.agg (pcC { inl := spn 1 (s.extract i (i + (Utf8.decode s i).2)), nd := i + (Utf8.decode s i).2 } none 0 none 0)) ∧ Below W.heap.size W w') := Lib.hid fun W => by
    have := s_literal s i (i + (Utf8.decode s i).2) W hs (by omega) (by omega)
    rwa [show ((i + (Utf8.decode s i).2 : Nat) : Int) = (i : Int) + ((Utf8.decode s i).2 : Nat) by omega] at this
  clear hR hW hm hb
  generalize entI s i = O at *
  generalize Utf8.decode s i = D at *
  have HQ := Lib.hid hR2
  clear hR2
  have Z0 := Lib.hid (PcSt.start s b1 b2 w)
  unfold rdrV
  go_enter Tryz.func17, Tryz.ntmps17
  go_wp2_with fail
  go_step3
  go_wp2_with fail
  go_step3
  go_upto_region 6 with fail
  generalize ((((w.alloc _).alloc _).alloc _).alloc _) = W0 at *
  go_wp2_with fail
  ((with_reducible refine (HX.out _).mono ?_))
  rintro e W1 hp
  obtain ⟨q, hp⟩ := hp
  have ZW1 := Lib.hid (Z0.out.below q)
  have HZBW1 := Lib.hid Z0.out.2.2.2.1.lt
  clear q Z0
  clear HX
  cases O with
  | none =>
    have HQ2 : Hid (R = (litP s i (i + D.2), true)) := Lib.hid HQ.out
    clear HQ hpos HZBW1
    obtain rfl := hp
    have HFd := Lib.hid (pc_foundN ZW1.out)
    clear ZW1
    go_wp2_with fail
    ((with_reducible refine HFd.out.mono ?_))
    rintro e W2 ⟨rfl, z2⟩
    have ZW2 := Lib.hid z2
    clear z2 HFd
    have z8 := ZW2.out
    have e0 := z8.2.2.2.1.cell 0
    simp at e0
    clear ZW2
    go_wp2_with fail
    ((with_reducible refine (HN.out _).mono ?_))
    rintro e W8 ⟨rfl, q8, rfl⟩
    have Z8 := Lib.hid (z8.below (below_drewN (Below.refl _ _) q8))
    clear e0 z8
    generalize Z8W : World.drewN _ q8 = W8 at *
    clear Z8W

    have z9 := Z8.out
    have hz9 := z9.1.lt
    clear Z8
    go_wp2_with fail
    ((with_reducible refine (HL.out _).mono ?_))
    rintro e W9 ⟨rfl, q9⟩
    have Z9 := z9.below q9
    obtain ⟨p0, p1, p2, p3, p4⟩ := Z9
    have p1h := Lib.hid p1
    have p4h := Lib.hid p4
    clear p0 p1 p2 p3 p4 q9 z9 
    go_wp2_with (refine wpList_store_row rfl 34 (.tmp 4) _ rfl _ _ rfl rfl _ _ p1h.out pc_size (by rfl) (by simp [pcC, Value.oneCell']) ?_)
    rw [Exit.noGoto_ret]
    refine pc_ret Tryz.results17 (row_blk p1h.out _) rfl rfl rfl ?_
    rw [HQ2.out]
    exact pc_plain (row_below p4h.out (by omega) _) rfl rfl rfl
  | some x =>
    have HQ2 : Hid (R = (pcI x i, false)) := Lib.hid HQ.out
    clear HQ HN HL hD
    have HZB := HZBW1
    obtain ⟨A1, c1, A2, c2, rfl, hir⟩ := hp
    have HFd := Lib.hid (pc_foundS ZW1.out x.1 x.2 A1 c1 A2 c2 (hpos x rfl))
    have HIR := Lib.hid hir
    have hxp : (0 : Int) < (x.2 : Nat) := by have := hpos x rfl; omega
    clear hir
    go_wp2_with fail
    ((with_reducible refine HFd.out.mono ?_))
    rintro e W2 ⟨rfl, z2, hkeep⟩
    have ZW2 := Lib.hid z2
    have HKp := Lib.hid hkeep
    clear z2 HFd hkeep ZW1
    obtain ⟨p0, p1, p2, p3, p4⟩ := ZW2.out
    have p1h := Lib.hid p1
    have p4h := Lib.hid p4
    obtain ⟨d0, d1, d2, d3, d4, d5, d6, d7, d8, d9, _⟩ := in_facts p2
    have e0 := p3.cell 0
    simp at e0
    clear p0 p1 p2 p3 p4 ZW2
    go_wp2_with (refine wpList_store_row rfl 34 (.tmp 4) _ rfl _ _ rfl rfl _ _ p1h.out pc_size (by rfl) (by simp [pcC, Value.oneCell']) ?_)
    rw [Exit.noGoto_ret]
    refine pc_ret Tryz.results17 (row_blk p1h.out _) rfl rfl rfl ?_
    rw [HQ2.out]
    exact pc_found p4h.out HIR.out HKp.out HZB.out rfl _

set_option maxRecDepth 100000 in
set_option maxHeartbeats 4000000 in
theorem pc_lt (s : ByteArray) (i b1 b2 : Nat) (m : Int) (S : Nat → Prop) (w : World) (hs : s.size ≤ 1000000) (hi : i < s.size) (hb : bt s i = 60) (hW : RdrW w S s b1 b2) (hS : ∀ g, S g → g < w.heap.size) (hm : w.cell? ⟨0, 0, none⟩ = some (.int .i64 m)) :
    Calls Tryz.prog 17 #[rdrV s b1 b2, .int .i64 i] w (PcPost (noBg (pieceA s i).1) (pieceA s i).2 w) := by
  have hg := get_bt s i hi
  have h0w : 0 < w.heap.size := World.block_lt_of_cell? _ _ hm
  obtain ⟨R, hR⟩ : ∃ R, R = pieceA s i := ⟨_, rfl⟩
  rw [← hR]
  have hR2 := hR.trans (piece_60 hb)
  have hpos : ∀ x, autI s i = some x → 0 < x.2 := fun x hx => Nat.lt_of_le_of_lt (Nat.zero_le i) (autI_bd hi hx).1
  have HX := Lib.hid fun W => s_auto s i W hs hi
  rw [hb] at hg
  have hD := dec_bd s i hi
  have HN : Hid (∀ W, Calls Tryz.prog 41 #[.string s, .int .i64 i] W (PairQuiet ((Utf8.decode s i).1 : Nat) ((Utf8.decode s i).2 : Nat) W)) := Lib.hid fun W => by
    have := next_any s (i : Int) W (by omega)
    rwa [nextAt_in s i hi] at this
  have HL : Hid (∀ W, Calls Tryz.prog 31 #[.string s, .int .i64 i, .int .i64 ((i : Int) + ((Utf8.decode s i).2 : Nat))] W fun r w' => r = .returned (.agg (pcC { inl := spn 1 (s.extract i (i + (Utf8.decode s i).2)), nd := i + (Utf8.decode s i).2 } none 0 none 0)) ∧ Below W.heap.size W w') := Lib.hid fun W => by
    have := s_literal s i (i + (Utf8.decode s i).2) W hs (by omega) (by omega)
    rwa [show ((i + (Utf8.decode s i).2 : Nat) : Int) = (i : Int) + ((Utf8.decode s i).2 : Nat) by omega] at this
  clear hR hW hm hb
  generalize autI s i = O at *
  generalize Utf8.decode s i = D at *
  have HQ := Lib.hid hR2
  clear hR2
  have Z0 := Lib.hid (PcSt.start s b1 b2 w)
  unfold rdrV
  go_enter Tryz.func17, Tryz.ntmps17
  go_wp2_with fail
  go_step3
  go_wp2_with fail
  go_step3
  go_upto_region 6 with fail
  generalize ((((w.alloc _).alloc _).alloc _).alloc _) = W0 at *
  go_wp2_with fail
  ((with_reducible refine (HX.out _).mono ?_))
  rintro e W1 hp
  obtain ⟨q, hp⟩ := hp
  have ZW1 := Lib.hid (Z0.out.below q)
  have HZBW1 := Lib.hid Z0.out.2.2.2.1.lt
  clear q Z0
  clear HX
  cases O with
  | none =>
    have HQ2 : Hid (R = (litP s i (i + D.2), true)) := Lib.hid HQ.out
    clear HQ hpos HZBW1
    obtain rfl := hp
    have HFd := Lib.hid (pc_foundN ZW1.out)
    clear ZW1
    go_wp2_with fail
    ((with_reducible refine HFd.out.mono ?_))
    rintro e W2 ⟨rfl, z2⟩
    have ZW2 := Lib.hid z2
    clear z2 HFd
    have z8 := ZW2.out
    have e0 := z8.2.2.2.1.cell 0
    simp at e0
    clear ZW2
    go_wp2_with fail
    ((with_reducible refine (HN.out _).mono ?_))
    rintro e W8 ⟨rfl, q8, rfl⟩
    have Z8 := Lib.hid (z8.below (below_drewN (Below.refl _ _) q8))
    clear e0 z8
    generalize Z8W : World.drewN _ q8 = W8 at *
    clear Z8W

    have z9 := Z8.out
    have hz9 := z9.1.lt
    clear Z8
    go_wp2_with fail
    ((with_reducible refine (HL.out _).mono ?_))
    rintro e W9 ⟨rfl, q9⟩
    have Z9 := z9.below q9
    obtain ⟨p0, p1, p2, p3, p4⟩ := Z9
    have p1h := Lib.hid p1
    have p4h := Lib.hid p4
    clear p0 p1 p2 p3 p4 q9 z9 
    go_wp2_with (refine wpList_store_row rfl 34 (.tmp 4) _ rfl _ _ rfl rfl _ _ p1h.out pc_size (by rfl) (by simp [pcC, Value.oneCell']) ?_)
    rw [Exit.noGoto_ret]
    refine pc_ret Tryz.results17 (row_blk p1h.out _) rfl rfl rfl ?_
    rw [HQ2.out]
    exact pc_plain (row_below p4h.out (by omega) _) rfl rfl rfl
  | some x =>
    have HQ2 : Hid (R = (pcI x i, false)) := Lib.hid HQ.out
    clear HQ HN HL hD
    have HZB := HZBW1
    obtain ⟨A1, c1, A2, c2, rfl, hir⟩ := hp
    have HFd := Lib.hid (pc_foundS ZW1.out x.1 x.2 A1 c1 A2 c2 (hpos x rfl))
    have HIR := Lib.hid hir
    have hxp : (0 : Int) < (x.2 : Nat) := by have := hpos x rfl; omega
    clear hir
    go_wp2_with fail
    ((with_reducible refine HFd.out.mono ?_))
    rintro e W2 ⟨rfl, z2, hkeep⟩
    have ZW2 := Lib.hid z2
    have HKp := Lib.hid hkeep
    clear z2 HFd hkeep ZW1
    obtain ⟨p0, p1, p2, p3, p4⟩ := ZW2.out
    have p1h := Lib.hid p1
    have p4h := Lib.hid p4
    obtain ⟨d0, d1, d2, d3, d4, d5, d6, d7, d8, d9, _⟩ := in_facts p2
    have e0 := p3.cell 0
    simp at e0
    clear p0 p1 p2 p3 p4 ZW2
    go_wp2_with (refine wpList_store_row rfl 34 (.tmp 4) _ rfl _ _ rfl rfl _ _ p1h.out pc_size (by rfl) (by simp [pcC, Value.oneCell']) ?_)
    rw [Exit.noGoto_ret]
    refine pc_ret Tryz.results17 (row_blk p1h.out _) rfl rfl rfl ?_
    rw [HQ2.out]
    exact pc_found p4h.out HIR.out HKp.out HZB.out rfl _

set_option maxRecDepth 100000 in
set_option maxHeartbeats 4000000 in
theorem pc_brace (s : ByteArray) (i b1 b2 : Nat) (m : Int) (S : Nat → Prop) (w : World) (hs : s.size ≤ 1000000) (hi : i < s.size) (hb : bt s i = 123) (hW : RdrW w S s b1 b2) (hS : ∀ g, S g → g < w.heap.size) (hm : w.cell? ⟨0, 0, none⟩ = some (.int .i64 m)) :
    Calls Tryz.prog 17 #[rdrV s b1 b2, .int .i64 i] w (PcPost (noBg (pieceA s i).1) (pieceA s i).2 w) := by
  have hg := get_bt s i hi
  have h0w : 0 < w.heap.size := World.block_lt_of_cell? _ _ hm
  obtain ⟨R, hR⟩ : ∃ R, R = pieceA s i := ⟨_, rfl⟩
  rw [← hR]
  have hR2 := hR.trans (piece_123 hb)
  have hpos : ∀ x, useI s i = some x → 0 < x.2 := fun x hx => Nat.lt_of_le_of_lt (Nat.zero_le i) (useI_bd hx).1
  have HX := Lib.hid fun W => s_use s i W hs hi
  rw [hb] at hg
  have hD := dec_bd s i hi
  have HN : Hid (∀ W, Calls Tryz.prog 41 #[.string s, .int .i64 i] W (PairQuiet ((Utf8.decode s i).1 : Nat) ((Utf8.decode s i).2 : Nat) W)) := Lib.hid fun W => by
    have := next_any s (i : Int) W (by omega)
    rwa [nextAt_in s i hi] at this
  have HL : Hid (∀ W, Calls Tryz.prog 31 #[.string s, .int .i64 i, .int .i64 ((i : Int) + ((Utf8.decode s i).2 : Nat))] W fun r w' => r = .returned (.agg (pcC { inl := spn 1 (s.extract i (i + (Utf8.decode s i).2)), nd := i + (Utf8.decode s i).2 } none 0 none 0)) ∧ Below W.heap.size W w') := Lib.hid fun W => by
    have := s_literal s i (i + (Utf8.decode s i).2) W hs (by omega) (by omega)
    rwa [show ((i + (Utf8.decode s i).2 : Nat) : Int) = (i : Int) + ((Utf8.decode s i).2 : Nat) by omega] at this
  clear hR hW hm hb
  generalize useI s i = O at *
  generalize Utf8.decode s i = D at *
  have HQ := Lib.hid hR2
  clear hR2
  have Z0 := Lib.hid (PcSt.start s b1 b2 w)
  unfold rdrV
  go_enter Tryz.func17, Tryz.ntmps17
  go_wp2_with fail
  go_step3
  go_wp2_with fail
  go_step3
  go_upto_region 6 with fail
  generalize ((((w.alloc _).alloc _).alloc _).alloc _) = W0 at *
  go_wp2_with fail
  ((with_reducible refine (HX.out _).mono ?_))
  rintro e W1 hp
  obtain ⟨q, hp⟩ := hp
  have ZW1 := Lib.hid (Z0.out.below q)
  have HZBW1 := Lib.hid Z0.out.2.2.2.1.lt
  clear q Z0
  clear HX
  cases O with
  | none =>
    have HQ2 : Hid (R = (litP s i (i + D.2), true)) := Lib.hid HQ.out
    clear HQ hpos HZBW1
    obtain rfl := hp
    have HFd := Lib.hid (pc_foundN ZW1.out)
    clear ZW1
    go_wp2_with fail
    ((with_reducible refine HFd.out.mono ?_))
    rintro e W2 ⟨rfl, z2⟩
    have ZW2 := Lib.hid z2
    clear z2 HFd
    have z8 := ZW2.out
    have e0 := z8.2.2.2.1.cell 0
    simp at e0
    clear ZW2
    go_wp2_with fail
    ((with_reducible refine (HN.out _).mono ?_))
    rintro e W8 ⟨rfl, q8, rfl⟩
    have Z8 := Lib.hid (z8.below (below_drewN (Below.refl _ _) q8))
    clear e0 z8
    generalize Z8W : World.drewN _ q8 = W8 at *
    clear Z8W

    have z9 := Z8.out
    have hz9 := z9.1.lt
    clear Z8
    go_wp2_with fail
    ((with_reducible refine (HL.out _).mono ?_))
    rintro e W9 ⟨rfl, q9⟩
    have Z9 := z9.below q9
    obtain ⟨p0, p1, p2, p3, p4⟩ := Z9
    have p1h := Lib.hid p1
    have p4h := Lib.hid p4
    clear p0 p1 p2 p3 p4 q9 z9 
    go_wp2_with (refine wpList_store_row rfl 34 (.tmp 4) _ rfl _ _ rfl rfl _ _ p1h.out pc_size (by rfl) (by simp [pcC, Value.oneCell']) ?_)
    rw [Exit.noGoto_ret]
    refine pc_ret Tryz.results17 (row_blk p1h.out _) rfl rfl rfl ?_
    rw [HQ2.out]
    exact pc_plain (row_below p4h.out (by omega) _) rfl rfl rfl
  | some x =>
    have HQ2 : Hid (R = (pcI x i, false)) := Lib.hid HQ.out
    clear HQ HN HL hD
    have HZB := HZBW1
    obtain ⟨A1, c1, A2, c2, rfl, hir⟩ := hp
    have HFd := Lib.hid (pc_foundS ZW1.out x.1 x.2 A1 c1 A2 c2 (hpos x rfl))
    have HIR := Lib.hid hir
    have hxp : (0 : Int) < (x.2 : Nat) := by have := hpos x rfl; omega
    clear hir
    go_wp2_with fail
    ((with_reducible refine HFd.out.mono ?_))
    rintro e W2 ⟨rfl, z2, hkeep⟩
    have ZW2 := Lib.hid z2
    have HKp := Lib.hid hkeep
    clear z2 HFd hkeep ZW1
    obtain ⟨p0, p1, p2, p3, p4⟩ := ZW2.out
    have p1h := Lib.hid p1
    have p4h := Lib.hid p4
    obtain ⟨d0, d1, d2, d3, d4, d5, d6, d7, d8, d9, _⟩ := in_facts p2
    have e0 := p3.cell 0
    simp at e0
    clear p0 p1 p2 p3 p4 ZW2
    go_wp2_with (refine wpList_store_row rfl 34 (.tmp 4) _ rfl _ _ rfl rfl _ _ p1h.out pc_size (by rfl) (by simp [pcC, Value.oneCell']) ?_)
    rw [Exit.noGoto_ret]
    refine pc_ret Tryz.results17 (row_blk p1h.out _) rfl rfl rfl ?_
    rw [HQ2.out]
    exact pc_found p4h.out HIR.out HKp.out HZB.out rfl _

end Go.Proofs.YtfnloonmeilhlaaGreatDoor
