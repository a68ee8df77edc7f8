/-
  Texts of the proof, put together (what this law reaches): ScX.
-/
import Derived.Test.YtcjkgmfidkgamaaGreatDoorE10
set_option linter.unusedVariables false
set_option linter.unusedSimpArgs false
namespace Go.Pub
/-- The beginnings of the runs of n backticks. -/
def tickL (s : ByteArray) (d : Bool) (n : Nat) : List Nat := posL n (runsD s d (runsL s))
theorem tickL_len (s : ByteArray) (d : Bool) (n : Nat) : (tickL s d n).length ≤ s.size := by
  unfold tickL posL runsD
  have h1 := runsF_len s s.size 0
  rw [List.length_map]
  refine Nat.le_trans (List.length_filter_le _ _) (Nat.le_trans (List.length_filter_le _ _) ?_)
  exact h1
theorem laterV_eq (s : ByteArray) (d : Bool) (n i : Nat) (hb : bnd s i) : laterV (tickL s d n) i = match laterA s i n d with | some k => (k : Int) | none => -1 := by
  rw [later_pos s n d i hb]; rfl
end Go.Pub
namespace Go.Proofs.YtcjkgmfidkgamaaGreatDoor
open Go.RowKit Go.Pub
/-- A reader of pieces: its string, and its two maps. -/
structure RdrW (w : World) (S : Nat → Prop) (s : ByteArray) (b1 b2 : Nat) : Prop where
  all : TickM Tryz.prog w S 74 b1 (tickL s false)
  dol : TickM Tryz.prog w S 74 b2 (tickL s true)
def rdrV (s : ByteArray) (b1 b2 : Nat) : Value := .agg #[.string s, .map (some b1), .map (some b2)]
theorem RdrW.keep {w w' : World} {S S' : Nat → Prop} {s : ByteArray} {b1 b2 : Nat} (h : RdrW w S s b1 b2) (hk : ∀ g, S g → w'.heap[g]? = w.heap[g]?) (hS : ∀ g, S g → S' g) : RdrW w' S' s b1 b2 := ⟨h.all.keep hk hS, h.dol.keep hk hS⟩
set_option maxRecDepth 100000 in
set_option maxHeartbeats 4000000 in
theorem s_code (s : ByteArray) (i b1 b2 : Nat) (m : Int) (S : Nat → Prop) (w : World) (hs : s.size ≤ 1000000) (hi : i < s.size) (h96 : bt s i = 96) (hW : RdrW w S s b1 b2) (hS : ∀ g, S g → g < w.heap.size) (hm : w.cell? ⟨0, 0, none⟩ = some (.int .i64 m)) :
    Calls Tryz.prog 79 #[rdrV s b1 b2, .int .i64 i] w (InPost (codeI s i) w) := by
  have h0w : 0 < w.heap.size := World.block_lt_of_cell? _ _ hm
  have HR := Lib.hid fun W => s_runEnd s i W hs hi
  have hre := runE_tick h96
  have hbn := bnd_runE h96
  rw [hre] at HR hbn
  have hle := runF_le s i tick
  have hL := laterV_eq s false (runF s i tick) (i + runF s i tick) hbn
  have hLb : ∀ k, laterA s (i + runF s i tick) (runF s i tick) false = some k → i + runF s i tick ≤ k ∧ k < s.size := fun k h => ⟨(laterA_spec h).1, (laterA_spec h).2.1⟩
  have HT : Hid (∀ W : World, (∀ g, S g → W.heap[g]? = w.heap[g]?) → ∃ A c, (Instr.lookup 74 (.map (some b1)) (.int .i64 (runF s i tick : Nat)) false).run Tryz.prog W = .ok (.slice A (tickL s false (runF s i tick)).length c) W ∧ Calls Tryz.prog 121 #[.slice A (tickL s false (runF s i tick)).length c, .int .i64 (i + runF s i tick : Nat)] W fun e w' => e = .returned (.int .i64 (laterV (tickL s false (runF s i tick)) (i + runF s i tick))) ∧ Below W.heap.size W w') := Lib.hid fun W hWg => by
    obtain ⟨A, c, h1, h2⟩ := hW.all W hWg (runF s i tick) (by omega)
    exact ⟨A, c, h1, s_later W S A c _ _ h2 (Nat.le_trans (tickL_len _ _ _) hs) (posL_asc s _ _)⟩
  rw [hL] at HT
  have hbx : ∀ W0 : World, Below (w.heap.size + 2) ((w.alloc (.cells #[.string s, .map (some b1), .map (some b2)] 79)).alloc (.cells zIn 34)) W0 → Blk W0 w.heap.size 79 #[.string s, .map (some b1), .map (some b2)] ∧ Blk W0 (w.heap.size + 1) 34 zIn ∧ Below w.heap.size w W0 ∧ (∀ g, S g → W0.heap[g]? = w.heap[g]?) ∧ W0.cell? ⟨0, 0, none⟩ = some (.int .i64 m) := fun W0 hb => by
    have hw0 : Below w.heap.size w W0 := (((Below.refl _ _).alloc (Nat.le_refl _) _).alloc (by simp) _).trans (hb.mono (by omega))
    refine ⟨((Blk.new w _ _).alloc _).below hb (by omega), ?_, hw0, fun g hg => hw0.block g (hS g hg), (hw0.cell (p := ⟨0, 0, none⟩) h0w).trans hm⟩
    have := Blk.new (w.alloc (.cells #[.string s, .map (some b1), .map (some b2)] 79)) 34 zIn
    rw [World.size_alloc] at this
    exact this.below hb (by omega)
  have HBX := Lib.hid hbx
  have HC : Hid (∀ (k : Nat) (W : World), W.cell? ⟨0, 0, none⟩ = some (.int .i64 m) → Calls Tryz.prog 122 #[.string (s.extract (i + runF s i tick) k)] W fun e w' => e = .returned (.string (mk (codeT (sub s (i + runF s i tick) k)))) ∧ Below W.heap.size W w') := Lib.hid fun k W hmW => by
    have := s_content (s.extract (i + runF s i tick) k) m W (by rw [ByteArray.size_extract]; omega) hmW
    rwa [bytesL_sub] at this
  obtain ⟨R, hR⟩ : ∃ R, R = codeI s i := ⟨_, rfl⟩
  rw [← hR]
  unfold codeI at hR
  have HQ := Lib.hid hR
  have hnz : runF s i tick ≤ 1000000 := by omega
  clear hR hbn hL hbx hre hW hm hS
  generalize laterA s (i + runF s i tick) (runF s i tick) false = la at *
  generalize hLL : (tickL s false (runF s i tick)).length = LL at *
  clear hLL
  generalize runF s i tick = n at *
  have e1 : (i : Int) + (n : Int) - (i : Int) = (n : Int) := by omega
  unfold rdrV
  go_enter Tryz.func79, Tryz.ntmps79
  go_wp2_with fail
  ((with_reducible refine (HR.out _).mono ?_))
  rintro e W1 ⟨rfl, q1⟩
  simp only [World.size_alloc] at q1
  obtain ⟨x1, x2, x3, x4, x5⟩ := HBX.out W1 q1
  obtain ⟨A, c, hlk, hcl⟩ := HT.out W1 x4
  have HCl := Lib.hid hcl
  have r0 : W1.cell? ⟨w.heap.size, 0, none⟩ = some (.string s) := x1.cell 0
  have r1 : W1.cell? ⟨w.heap.size, 1, none⟩ = some (.map (some b1)) := x1.cell 1
  have X1 := Lib.hid q1
  have hz1 := x2.lt
  clear hcl x1 x2 x3 x4 x5 q1
  go_wp2_with fail
  (refine HCl.out.mono ?_)
  rintro e W2 ⟨rfl, q2⟩
  have X2 := Lib.hid (X1.out.trans (q2.mono (by omega)))
  clear r0 r1 hlk HCl X1 q2
  obtain ⟨x1, x2, x3, x4, x5⟩ := HBX.out W2 X2.out
  have hz2 := x2.lt
  have HB2 := Lib.hid x2
  have HW2 := Lib.hid x3
  cases la with
  | none =>
    have HF : Hid (R = none) := Lib.hid HQ.out
    obtain ⟨c0, c1, c2, c3, c4, c5, c6, c7, c8, c9, f0, f1, f2, f3, f4, f5, f6, f7, f8, f9⟩ := in_facts x2
    clear HQ HC HT HBX x1 x2 x3 x4 x5
    go_wp2_with fail
    exact in_ret Tryz.results79 (blk10 HB2.out _ _ _ _ _ _ _ _ _ _) rfl rfl rfl (in_none HF.out (below10 HW2.out (by omega) _ _ _ _ _ _ _ _ _ _))
  | some k =>
    obtain ⟨hk1, hk2⟩ := hLb k rfl
    have HF : Hid (R = some (spn 4 (mk (codeT (sub s (i + n) k))), k + n)) := Lib.hid HQ.out
    have HCk := Lib.hid (HC.out k W2 x5)
    have r0 : W2.cell? ⟨w.heap.size, 0, none⟩ = some (.string s) := x1.cell 0
    generalize mk (codeT (sub s (i + n) k)) = Y at *
    have hkn : (0 : Int) ≤ (k : Int) := by omega
    clear HQ HC HT x1 x2 x3 x4 x5
    go_wp2_with fail
    (refine HCk.out.mono ?_)
    rintro e W3 ⟨rfl, q3⟩
    have X3 := Lib.hid (X2.out.trans (q3.mono (by omega)))
    obtain ⟨x1, x2, x3, x4, x5⟩ := HBX.out W3 X3.out
    have HB3 := Lib.hid x2
    have HW3 := Lib.hid x3
    obtain ⟨c0, c1, c2, c3, c4, c5, c6, c7, c8, c9, f0, f1, f2, f3, f4, f5, f6, f7, f8, f9⟩ := in_facts x2
    clear r0 HBX x1 x2 x3 x4 x5 q3 HCk
    go_wp2_with fail
    exact in_ret Tryz.results79 (blk10 HB3.out _ _ _ _ _ _ _ _ _ _) rfl rfl rfl (in_some HF.out rfl rfl (below10 HW3.out (by omega) _ _ _ _ _ _ _ _ _ _) rfl (by omega))

set_option maxRecDepth 100000 in
set_option maxHeartbeats 4000000 in
theorem s_math (s : ByteArray) (i b1 b2 : Nat) (m : Int) (S : Nat → Prop) (w : World) (hs : s.size ≤ 1000000) (hi : i < s.size) (hW : RdrW w S s b1 b2) (hS : ∀ g, S g → g < w.heap.size) (hm : w.cell? ⟨0, 0, none⟩ = some (.int .i64 m)) :
    Calls Tryz.prog 77 #[rdrV s b1 b2, .int .i64 i] w (InPost (mathI s i) w) := by
  by_cases hc : i + 1 < s.size ∧ bt s (i + 1) = 96
  · obtain ⟨hi1, h96⟩ := hc
    have h0w : 0 < w.heap.size := World.block_lt_of_cell? _ _ hm
    have HR := Lib.hid fun W => s_runEnd s (i + 1) W hs hi1
    have hre := runE_tick h96
    have hbn := bnd_runE h96
    rw [hre] at HR hbn
    have hle := runF_le s (i + 1) tick
    have hL := laterV_eq s true (runF s (i + 1) tick) (i + 1 + runF s (i + 1) tick) hbn
    have hLb : ∀ k, laterA s (i + 1 + runF s (i + 1) tick) (runF s (i + 1) tick) true = some k → i + 1 + runF s (i + 1) tick ≤ k ∧ k < s.size := fun k h => ⟨(laterA_spec h).1, (laterA_spec h).2.1⟩
    have HT : Hid (∀ W : World, (∀ g, S g → W.heap[g]? = w.heap[g]?) → ∃ A c, (Instr.lookup 74 (.map (some b2)) (.int .i64 (runF s (i + 1) tick : Nat)) false).run Tryz.prog W = .ok (.slice A (tickL s true (runF s (i + 1) tick)).length c) W ∧ Calls Tryz.prog 121 #[.slice A (tickL s true (runF s (i + 1) tick)).length c, .int .i64 (i + 1 + runF s (i + 1) tick : Nat)] W fun e w' => e = .returned (.int .i64 (laterV (tickL s true (runF s (i + 1) tick)) (i + 1 + runF s (i + 1) tick))) ∧ Below W.heap.size W w') := Lib.hid fun W hWg => by
      obtain ⟨A, c, h1, h2⟩ := hW.dol W hWg (runF s (i + 1) tick) (by omega)
      exact ⟨A, c, h1, s_later W S A c _ _ h2 (Nat.le_trans (tickL_len _ _ _) hs) (posL_asc s _ _)⟩
    rw [hL] at HT
    have hbx : ∀ W0 : World, Below (w.heap.size + 2) ((w.alloc (.cells #[.string s, .map (some b1), .map (some b2)] 79)).alloc (.cells zIn 34)) W0 → Blk W0 w.heap.size 79 #[.string s, .map (some b1), .map (some b2)] ∧ Blk W0 (w.heap.size + 1) 34 zIn ∧ Below w.heap.size w W0 ∧ (∀ g, S g → W0.heap[g]? = w.heap[g]?) ∧ W0.cell? ⟨0, 0, none⟩ = some (.int .i64 m) := fun W0 hb => by
      have hw0 : Below w.heap.size w W0 := (((Below.refl _ _).alloc (Nat.le_refl _) _).alloc (by simp) _).trans (hb.mono (by omega))
      refine ⟨((Blk.new w _ _).alloc _).below hb (by omega), ?_, hw0, fun g hg => hw0.block g (hS g hg), (hw0.cell (p := ⟨0, 0, none⟩) h0w).trans hm⟩
      have := Blk.new (w.alloc (.cells #[.string s, .map (some b1), .map (some b2)] 79)) 34 zIn
      rw [World.size_alloc] at this
      exact this.below hb (by omega)
    have HBX := Lib.hid hbx
    have HC : Hid (∀ (k : Nat) (W : World), W.cell? ⟨0, 0, none⟩ = some (.int .i64 m) → Calls Tryz.prog 122 #[.string (s.extract (i + 1 + runF s (i + 1) tick) k)] W fun e w' => e = .returned (.string (mk (codeT (sub s (i + 1 + runF s (i + 1) tick) k)))) ∧ Below W.heap.size W w') := Lib.hid fun k W hmW => by
      have := s_content (s.extract (i + 1 + runF s (i + 1) tick) k) m W (by rw [ByteArray.size_extract]; omega) hmW
      rwa [bytesL_sub] at this
    obtain ⟨R, hR⟩ : ∃ R, R = mathI s i := ⟨_, rfl⟩
    rw [← hR]
    unfold mathI at hR
    rw [if_pos ⟨hi1, h96⟩] at hR
    have HQ := Lib.hid hR
    have hnz : runF s (i + 1) tick ≤ 1000000 := by omega
    clear hR hbn hL hbx hre hW hm hS
    generalize laterA s (i + 1 + runF s (i + 1) tick) (runF s (i + 1) tick) true = la at *
    generalize hLL : (tickL s true (runF s (i + 1) tick)).length = LL at *
    clear hLL
    generalize runF s (i + 1) tick = n at *
    have e1 : (i : Int) + 1 + (n : Int) - (i : Int) = (n : Int) + 1 := by omega
    have e2 : (n : Int) + 1 - 1 = (n : Int) := by omega
    have hg96 := get_bt s (i + 1) hi1
    rw [h96] at hg96
    unfold rdrV
    go_enter Tryz.func77, Tryz.ntmps77
    go_wp2_with fail
    (refine (HR.out _).mono ?_)
    rintro e W1 ⟨rfl, q1⟩
    simp only [World.size_alloc] at q1
    obtain ⟨x1, x2, x3, x4, x5⟩ := HBX.out W1 q1
    obtain ⟨A, c, hlk, hcl⟩ := HT.out W1 x4
    have HCl := Lib.hid hcl
    have r0 : W1.cell? ⟨w.heap.size, 0, none⟩ = some (.string s) := x1.cell 0
    have r1 : W1.cell? ⟨w.heap.size, 2, none⟩ = some (.map (some b2)) := x1.cell 2
    have X1 := Lib.hid q1
    have hz1 := x2.lt
    clear hcl x1 x2 x3 x4 x5 q1
    go_wp2_with fail
    (refine HCl.out.mono ?_)
    rintro e W2 ⟨rfl, q2⟩
    have X2 := Lib.hid (X1.out.trans (q2.mono (by omega)))
    clear r0 r1 hlk HCl X1 q2
    obtain ⟨x1, x2, x3, x4, x5⟩ := HBX.out W2 X2.out
    have hz2 := x2.lt
    have HB2 := Lib.hid x2
    have HW2 := Lib.hid x3
    cases la with
    | none =>
      have HF : Hid (R = none) := Lib.hid HQ.out
      obtain ⟨c0, c1, c2, c3, c4, c5, c6, c7, c8, c9, f0, f1, f2, f3, f4, f5, f6, f7, f8, f9⟩ := in_facts x2
      clear HQ HC HT HBX x1 x2 x3 x4 x5
      go_wp2_with fail
      exact in_ret Tryz.results77 (blk10 HB2.out _ _ _ _ _ _ _ _ _ _) rfl rfl rfl (in_none HF.out (below10 HW2.out (by omega) _ _ _ _ _ _ _ _ _ _))
    | some k =>
      obtain ⟨hk1, hk2⟩ := hLb k rfl
      have HF : Hid (R = some (spn 5 (mk (codeT (sub s (i + 1 + n) k))), k + n + 1)) := Lib.hid HQ.out
      have HCk := Lib.hid (HC.out k W2 x5)
      have r0 : W2.cell? ⟨w.heap.size, 0, none⟩ = some (.string s) := x1.cell 0
      generalize mk (codeT (sub s (i + 1 + n) k)) = Y at *
      have hkn : (0 : Int) ≤ (k : Int) := by omega
      clear HQ HC HT x1 x2 x3 x4 x5
      go_wp2_with fail
      (refine HCk.out.mono ?_)
      rintro e W3 ⟨rfl, q3⟩
      have X3 := Lib.hid (X2.out.trans (q3.mono (by omega)))
      obtain ⟨x1, x2, x3, x4, x5⟩ := HBX.out W3 X3.out
      have HB3 := Lib.hid x2
      have HW3 := Lib.hid x3
      obtain ⟨c0, c1, c2, c3, c4, c5, c6, c7, c8, c9, f0, f1, f2, f3, f4, f5, f6, f7, f8, f9⟩ := in_facts x2
      clear r0 HBX x1 x2 x3 x4 x5 q3 HCk
      go_wp2_with fail
      exact in_ret Tryz.results77 (blk10 HB3.out _ _ _ _ _ _ _ _ _ _) rfl rfl rfl (in_some HF.out rfl rfl (below10 HW3.out (by omega) _ _ _ _ _ _ _ _ _ _) rfl (by omega))
  · have HF : Hid (mathI s i = none) := Lib.hid (by unfold mathI; rw [if_neg hc])
    generalize mathI s i = R at *
    unfold rdrV
    by_cases hi1 : i + 1 < s.size
    · have hg := get_bt s (i + 1) hi1
      have n1 : ((bt s (i + 1) : Int) != 96) = true := bne_iff_ne.2 (fun e => hc ⟨hi1, by omega⟩)
      clear hc hW hm
      generalize bt s (i + 1) = b at *
      go_enter Tryz.func77, Tryz.ntmps77
      go_wp2_with fail
      refine in_ret Tryz.results77 ?_ rfl rfl rfl (in_none HF.out (((Below.refl _ w).alloc (Nat.le_refl _) _).alloc (by simp) _))
      have := Blk.new (w.alloc (.cells #[.string s, .map (some b1), .map (some b2)] 79)) 34 zIn
      rw [World.size_alloc] at this
      exact this
    · clear hc hW hm
      go_enter Tryz.func77, Tryz.ntmps77
      go_wp2_with fail
      refine in_ret Tryz.results77 ?_ rfl rfl rfl (in_none HF.out (((Below.refl _ w).alloc (Nat.le_refl _) _).alloc (by simp) _))
      have := Blk.new (w.alloc (.cells #[.string s, .map (some b1), .map (some b2)] 79)) 34 zIn
      rw [World.size_alloc] at this
      exact this

end Go.Proofs.YtcjkgmfidkgamaaGreatDoor
