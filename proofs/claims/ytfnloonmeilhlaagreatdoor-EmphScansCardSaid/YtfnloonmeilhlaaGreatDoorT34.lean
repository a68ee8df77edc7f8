/-
  Texts of the proof, put together (what this law reaches): ScX, ScH.
-/
import Derived.Test.YtfnloonmeilhlaaGreatDoorT33
import Derived.Test.YtfnloonmeilhlaaGreatDoorT27
import Derived.Deep.DeepCutAuto
set_option linter.unusedVariables false
set_option linter.unusedSimpArgs false
namespace Go.Pub
/-- The beginnings of the runs of n backticks. -/
def tickL (s : ByteArray) (d : Bool) (n : Nat) : List Nat := posL n (runsD s d (runsL s))
theorem tickL_len (s : ByteArray) (d : Bool) (n : Nat) : (tickL s d n).length ≤ s.size := by
  unfold tickL posL runsD
  have h1 := runsF_len s s.size 0
  rw [List.length_map]
  refine Nat.le_trans (List.length_filter_le _ _) (Nat.le_trans (List.length_filter_le _ _) ?_)
  exact h1
theorem laterV_eq (s : ByteArray) (d : Bool) (n i : Nat) (hb : bnd s i) : laterV (tickL s d n) i = match laterA s i n d with | some k => (k : Int) | none => -1 := by
  rw [later_pos s n d i hb]; rfl
end Go.Pub
namespace Go.Proofs.YtfnloonmeilhlaaGreatDoor
open Go.RowKit Go.Pub
/-- A reader of pieces: its string, and its two maps. -/
structure RdrW (w : World) (S : Nat → Prop) (s : ByteArray) (b1 b2 : Nat) : Prop where
  all : TickM Tryz.prog w S 58 b1 (tickL s false)
  dol : TickM Tryz.prog w S 58 b2 (tickL s true)
def rdrV (s : ByteArray) (b1 b2 : Nat) : Value := .agg #[.string s, .map (some b1), .map (some b2)]
theorem RdrW.keep {w w' : World} {S S' : Nat → Prop} {s : ByteArray} {b1 b2 : Nat} (h : RdrW w S s b1 b2) (hk : ∀ g, S g → w'.heap[g]? = w.heap[g]?) (hS : ∀ g, S g → S' g) : RdrW w' S' s b1 b2 := ⟨h.all.keep hk hS, h.dol.keep hk hS⟩
set_option maxRecDepth 100000 in
set_option maxHeartbeats 4000000 in
theorem s_code (s : ByteArray) (i b1 b2 : Nat) (m : Int) (S : Nat → Prop) (w : World) (hs : s.size ≤ 1000000) (hi : i < s.size) (h96 : bt s i = 96) (hW : RdrW w S s b1 b2) (hS : ∀ g, S g → g < w.heap.size) (hm : w.cell? ⟨0, 0, none⟩ = some (.int .i64 m)) :
    Calls Tryz.prog 35 #[rdrV s b1 b2, .int .i64 i] w (InPost (codeI s i) w) := by
  have h0w : 0 < w.heap.size := World.block_lt_of_cell? _ _ hm
  have HR := Lib.hid fun W => s_runEnd s i W hs hi
  have hre := runE_tick h96
  have hbn := bnd_runE h96
  rw [hre] at HR hbn
  have hle := runF_le s i tick
  have hL := laterV_eq s false (runF s i tick) (i + runF s i tick) hbn
  have hLb : ∀ k, laterA s (i + runF s i tick) (runF s i tick) false = some k → i + runF s i tick ≤ k ∧ k < s.size := fun k h => ⟨(laterA_spec h).1, (laterA_spec h).2.1⟩
  have HT : Hid (∀ W : World, (∀ g, S g → W.heap[g]? = w.heap[g]?) → ∃ A c, (Instr.lookup 58 (.map (some b1)) (.int .i64 (runF s i tick : Nat)) false).run Tryz.prog W = .ok (.slice A (tickL s false (runF s i tick)).length c) W ∧ Calls Tryz.prog 56 #[.slice A (tickL s false (runF s i tick)).length c, .int .i64 (i + runF s i tick : Nat)] W fun e w' => e = .returned (.int .i64 (laterV (tickL s false (runF s i tick)) (i + runF s i tick))) ∧ Below W.heap.size W w') := Lib.hid fun W hWg => by
    obtain ⟨A, c, h1, h2⟩ := hW.all W hWg (runF s i tick) (by omega)
    exact ⟨A, c, h1, s_later W S A c _ _ h2 (Nat.le_trans (tickL_len _ _ _) hs) (posL_asc s _ _)⟩
  rw [hL] at HT
  have hbx : ∀ W0 : World, Below (w.heap.size + 2) ((w.alloc (.cells #[.string s, .map (some b1), .map (some b2)] 63)).alloc (.cells zIn 32)) W0 → Blk W0 w.heap.size 63 #[.string s, .map (some b1), .map (some b2)] ∧ Blk W0 (w.heap.size + 1) 32 zIn ∧ Below w.heap.size w W0 ∧ (∀ g, S g → W0.heap[g]? = w.heap[g]?) ∧ W0.cell? ⟨0, 0, none⟩ = some (.int .i64 m) := fun W0 hb => by
    have hw0 : Below w.heap.size w W0 := (((Below.refl _ _).alloc (Nat.le_refl _) _).alloc (by simp) _).trans (hb.mono (by omega))
    refine ⟨((Blk.new w _ _).alloc _).below hb (by omega), ?_, hw0, fun g hg => hw0.block g (hS g hg), (hw0.cell (p := ⟨0, 0, none⟩) h0w).trans hm⟩
    have := Blk.new (w.alloc (.cells #[.string s, .map (some b1), .map (some b2)] 63)) 32 zIn
    rw [World.size_alloc] at this
    exact this.below hb (by omega)
  have HBX := Lib.hid hbx
  have HC : Hid (∀ (k : Nat) (W : World), W.cell? ⟨0, 0, none⟩ = some (.int .i64 m) → Calls Tryz.prog 57 #[.string (s.extract (i + runF s i tick) k)] W fun e w' => e = .returned (.string (mk (codeT (sub s (i + runF s i tick) k)))) ∧ Below W.heap.size W w') := Lib.hid fun k W hmW => by
    have := s_content (s.extract (i + runF s i tick) k) m W (by rw [ByteArray.size_extract]; omega) hmW
    rwa [bytesL_sub] at this
  obtain ⟨R, hR⟩ : ∃ R, R = codeI s i := ⟨_, rfl⟩
  rw [← hR]
  unfold codeI at hR
  have HQ := Lib.hid hR
  have hnz : runF s i tick ≤ 1000000 := by omega
  clear hR hbn hL hbx hre hW hm hS
  generalize laterA s (i + runF s i tick) (runF s i tick) false = la at *
  generalize hLL : (tickL s false (runF s i tick)).length = LL at *
  clear hLL
  generalize runF s i tick = n at *
  have e1 : (i : Int) + (n : Int) - (i : Int) = (n : Int) := by omega
  unfold rdrV
  go_enter Tryz.func35, Tryz.ntmps35
  go_wp2_with fail
  ((with_reducible refine (HR.out _).mono ?_))
  rintro e W1 ⟨rfl, q1⟩
  simp only [World.size_alloc] at q1
  obtain ⟨x1, x2, x3, x4, x5⟩ := HBX.out W1 q1
  obtain ⟨A, c, hlk, hcl⟩ := HT.out W1 x4
  have HCl := Lib.hid hcl
  have r0 : W1.cell? ⟨w.heap.size, 0, none⟩ = some (.string s) := x1.cell 0
  have r1 : W1.cell? ⟨w.heap.size, 1, none⟩ = some (.map (some b1)) := x1.cell 1
  have X1 := Lib.hid q1
  have hz1 := x2.lt
  clear hcl x1 x2 x3 x4 x5 q1
  go_wp2_with fail
  (refine HCl.out.mono ?_)
  rintro e W2 ⟨rfl, q2⟩
  have X2 := Lib.hid (X1.out.trans (q2.mono (by omega)))
  clear r0 r1 hlk HCl X1 q2
  obtain ⟨x1, x2, x3, x4, x5⟩ := HBX.out W2 X2.out
  have hz2 := x2.lt
  have HB2 := Lib.hid x2
  have HW2 := Lib.hid x3
  cases la with
  | none =>
    have HF : Hid (R = none) := Lib.hid HQ.out
    obtain ⟨c0, c1, c2, c3, c4, c5, c6, c7, c8, c9, f0, f1, f2, f3, f4, f5, f6, f7, f8, f9⟩ := in_facts x2
    clear HQ HC HT HBX x1 x2 x3 x4 x5
    go_wp2_with fail
    exact in_ret Tryz.results35 (blk10 HB2.out _ _ _ _ _ _ _ _ _ _) rfl rfl rfl (in_none HF.out (below10 HW2.out (by omega) _ _ _ _ _ _ _ _ _ _))
  | some k =>
    obtain ⟨hk1, hk2⟩ := hLb k rfl
    have HF : Hid (R = some (spn 4 (mk (codeT (sub s (i + n) k))), k + n)) := Lib.hid HQ.out
    have HCk := Lib.hid (HC.out k W2 x5)
    have r0 : W2.cell? ⟨w.heap.size, 0, none⟩ = some (.string s) := x1.cell 0
    generalize mk (codeT (sub s (i + n) k)) = Y at *
    have hkn : (0 : Int) ≤ (k : Int) := by omega
    clear HQ HC HT x1 x2 x3 x4 x5
    go_wp2_with fail
    (refine HCk.out.mono ?_)
    rintro e W3 ⟨rfl, q3⟩
    have X3 := Lib.hid (X2.out.trans (q3.mono (by omega)))
    obtain ⟨x1, x2, x3, x4, x5⟩ := HBX.out W3 X3.out
    have HB3 := Lib.hid x2
    have HW3 := Lib.hid x3
    obtain ⟨c0, c1, c2, c3, c4, c5, c6, c7, c8, c9, f0, f1, f2, f3, f4, f5, f6, f7, f8, f9⟩ := in_facts x2
    clear r0 HBX x1 x2 x3 x4 x5 q3 HCk
    go_wp2_with fail
    exact in_ret Tryz.results35 (blk10 HB3.out _ _ _ _ _ _ _ _ _ _) rfl rfl rfl (in_some HF.out rfl rfl (below10 HW3.out (by omega) _ _ _ _ _ _ _ _ _ _) rfl (by omega))

set_option maxRecDepth 100000 in
set_option maxHeartbeats 4000000 in
theorem s_math (s : ByteArray) (i b1 b2 : Nat) (m : Int) (S : Nat → Prop) (w : World) (hs : s.size ≤ 1000000) (hi : i < s.size) (hW : RdrW w S s b1 b2) (hS : ∀ g, S g → g < w.heap.size) (hm : w.cell? ⟨0, 0, none⟩ = some (.int .i64 m)) :
    Calls Tryz.prog 33 #[rdrV s b1 b2, .int .i64 i] w (InPost (mathI s i) w) := by
  by_cases hc : i + 1 < s.size ∧ bt s (i + 1) = 96
  · obtain ⟨hi1, h96⟩ := hc
    have h0w : 0 < w.heap.size := World.block_lt_of_cell? _ _ hm
    have HR := Lib.hid fun W => s_runEnd s (i + 1) W hs hi1
    have hre := runE_tick h96
    have hbn := bnd_runE h96
    rw [hre] at HR hbn
    have hle := runF_le s (i + 1) tick
    have hL := laterV_eq s true (runF s (i + 1) tick) (i + 1 + runF s (i + 1) tick) hbn
    have hLb : ∀ k, laterA s (i + 1 + runF s (i + 1) tick) (runF s (i + 1) tick) true = some k → i + 1 + runF s (i + 1) tick ≤ k ∧ k < s.size := fun k h => ⟨(laterA_spec h).1, (laterA_spec h).2.1⟩
    have HT : Hid (∀ W : World, (∀ g, S g → W.heap[g]? = w.heap[g]?) → ∃ A c, (Instr.lookup 58 (.map (some b2)) (.int .i64 (runF s (i + 1) tick : Nat)) false).run Tryz.prog W = .ok (.slice A (tickL s true (runF s (i + 1) tick)).length c) W ∧ Calls Tryz.prog 56 #[.slice A (tickL s true (runF s (i + 1) tick)).length c, .int .i64 (i + 1 + runF s (i + 1) tick : Nat)] W fun e w' => e = .returned (.int .i64 (laterV (tickL s true (runF s (i + 1) tick)) (i + 1 + runF s (i + 1) tick))) ∧ Below W.heap.size W w') := Lib.hid fun W hWg => by
      obtain ⟨A, c, h1, h2⟩ := hW.dol W hWg (runF s (i + 1) tick) (by omega)
      exact ⟨A, c, h1, s_later W S A c _ _ h2 (Nat.le_trans (tickL_len _ _ _) hs) (posL_asc s _ _)⟩
    rw [hL] at HT
    have hbx : ∀ W0 : World, Below (w.heap.size + 2) ((w.alloc (.cells #[.string s, .map (some b1), .map (some b2)] 63)).alloc (.cells zIn 32)) W0 → Blk W0 w.heap.size 63 #[.string s, .map (some b1), .map (some b2)] ∧ Blk W0 (w.heap.size + 1) 32 zIn ∧ Below w.heap.size w W0 ∧ (∀ g, S g → W0.heap[g]? = w.heap[g]?) ∧ W0.cell? ⟨0, 0, none⟩ = some (.int .i64 m) := fun W0 hb => by
      have hw0 : Below w.heap.size w W0 := (((Below.refl _ _).alloc (Nat.le_refl _) _).alloc (by simp) _).trans (hb.mono (by omega))
      refine ⟨((Blk.new w _ _).alloc _).below hb (by omega), ?_, hw0, fun g hg => hw0.block g (hS g hg), (hw0.cell (p := ⟨0, 0, none⟩) h0w).trans hm⟩
      have := Blk.new (w.alloc (.cells #[.string s, .map (some b1), .map (some b2)] 63)) 32 zIn
      rw [World.size_alloc] at this
      exact this.below hb (by omega)
    have HBX := Lib.hid hbx
    have HC : Hid (∀ (k : Nat) (W : World), W.cell? ⟨0, 0, none⟩ = some (.int .i64 m) → Calls Tryz.prog 57 #[.string (s.extract (i + 1 + runF s (i + 1) tick) k)] W fun e w' => e = .returned (.string (mk (codeT (sub s (i + 1 + runF s (i + 1) tick) k)))) ∧ Below W.heap.size W w') := Lib.hid fun k W hmW => by
      have := s_content (s.extract (i + 1 + runF s (i + 1) tick) k) m W (by rw [ByteArray.size_extract]; omega) hmW
      rwa [bytesL_sub] at this
    obtain ⟨R, hR⟩ : ∃ R, R = mathI s i := ⟨_, rfl⟩
    rw [← hR]
    unfold mathI at hR
    rw [if_pos ⟨hi1, h96⟩] at hR
    have HQ := Lib.hid hR
    have hnz : runF s (i + 1) tick ≤ 1000000 := by omega
    clear hR hbn hL hbx hre hW hm hS
    generalize laterA s (i + 1 + runF s (i + 1) tick) (runF s (i + 1) tick) true = la at *
    generalize hLL : (tickL s true (runF s (i + 1) tick)).length = LL at *
    clear hLL
    generalize runF s (i + 1) tick = n at *
    have e1 : (i : Int) + 1 + (n : Int) - (i : Int) = (n : Int) + 1 := by omega
    have e2 : (n : Int) + 1 - 1 = (n : Int) := by omega
    have hg96 := get_bt s (i + 1) hi1
    rw [h96] at hg96
    unfold rdrV
    go_enter Tryz.func33, Tryz.ntmps33
    go_wp2_with fail
    (refine (HR.out _).mono ?_)
    rintro e W1 ⟨rfl, q1⟩
    simp only [World.size_alloc] at q1
    obtain ⟨x1, x2, x3, x4, x5⟩ := HBX.out W1 q1
    obtain ⟨A, c, hlk, hcl⟩ := HT.out W1 x4
    have HCl := Lib.hid hcl
    have r0 : W1.cell? ⟨w.heap.size, 0, none⟩ = some (.string s) := x1.cell 0
    have r1 : W1.cell? ⟨w.heap.size, 2, none⟩ = some (.map (some b2)) := x1.cell 2
    have X1 := Lib.hid q1
    have hz1 := x2.lt
    clear hcl x1 x2 x3 x4 x5 q1
    go_wp2_with fail
    (refine HCl.out.mono ?_)
    rintro e W2 ⟨rfl, q2⟩
    have X2 := Lib.hid (X1.out.trans (q2.mono (by omega)))
    clear r0 r1 hlk HCl X1 q2
    obtain ⟨x1, x2, x3, x4, x5⟩ := HBX.out W2 X2.out
    have hz2 := x2.lt
    have HB2 := Lib.hid x2
    have HW2 := Lib.hid x3
    cases la with
    | none =>
      have HF : Hid (R = none) := Lib.hid HQ.out
      obtain ⟨c0, c1, c2, c3, c4, c5, c6, c7, c8, c9, f0, f1, f2, f3, f4, f5, f6, f7, f8, f9⟩ := in_facts x2
      clear HQ HC HT HBX x1 x2 x3 x4 x5
      go_wp2_with fail
      exact in_ret Tryz.results33 (blk10 HB2.out _ _ _ _ _ _ _ _ _ _) rfl rfl rfl (in_none HF.out (below10 HW2.out (by omega) _ _ _ _ _ _ _ _ _ _))
    | some k =>
      obtain ⟨hk1, hk2⟩ := hLb k rfl
      have HF : Hid (R = some (spn 5 (mk (codeT (sub s (i + 1 + n) k))), k + n + 1)) := Lib.hid HQ.out
      have HCk := Lib.hid (HC.out k W2 x5)
      have r0 : W2.cell? ⟨w.heap.size, 0, none⟩ = some (.string s) := x1.cell 0
      generalize mk (codeT (sub s (i + 1 + n) k)) = Y at *
      have hkn : (0 : Int) ≤ (k : Int) := by omega
      clear HQ HC HT x1 x2 x3 x4 x5
      go_wp2_with fail
      (refine HCk.out.mono ?_)
      rintro e W3 ⟨rfl, q3⟩
      have X3 := Lib.hid (X2.out.trans (q3.mono (by omega)))
      obtain ⟨x1, x2, x3, x4, x5⟩ := HBX.out W3 X3.out
      have HB3 := Lib.hid x2
      have HW3 := Lib.hid x3
      obtain ⟨c0, c1, c2, c3, c4, c5, c6, c7, c8, c9, f0, f1, f2, f3, f4, f5, f6, f7, f8, f9⟩ := in_facts x2
      clear r0 HBX x1 x2 x3 x4 x5 q3 HCk
      go_wp2_with fail
      exact in_ret Tryz.results33 (blk10 HB3.out _ _ _ _ _ _ _ _ _ _) rfl rfl rfl (in_some HF.out rfl rfl (below10 HW3.out (by omega) _ _ _ _ _ _ _ _ _ _) rfl (by omega))
  · have HF : Hid (mathI s i = none) := Lib.hid (by unfold mathI; rw [if_neg hc])
    generalize mathI s i = R at *
    unfold rdrV
    by_cases hi1 : i + 1 < s.size
    · have hg := get_bt s (i + 1) hi1
      have n1 : ((bt s (i + 1) : Int) != 96) = true := bne_iff_ne.2 (fun e => hc ⟨hi1, by omega⟩)
      clear hc hW hm
      generalize bt s (i + 1) = b at *
      go_enter Tryz.func33, Tryz.ntmps33
      go_wp2_with fail
      refine in_ret Tryz.results33 ?_ rfl rfl rfl (in_none HF.out (((Below.refl _ w).alloc (Nat.le_refl _) _).alloc (by simp) _))
      have := Blk.new (w.alloc (.cells #[.string s, .map (some b1), .map (some b2)] 63)) 32 zIn
      rw [World.size_alloc] at this
      exact this
    · clear hc hW hm
      go_enter Tryz.func33, Tryz.ntmps33
      go_wp2_with fail
      refine in_ret Tryz.results33 ?_ rfl rfl rfl (in_none HF.out (((Below.refl _ w).alloc (Nat.le_refl _) _).alloc (by simp) _))
      have := Blk.new (w.alloc (.cells #[.string s, .map (some b1), .map (some b2)] 63)) 32 zIn
      rw [World.size_alloc] at this
      exact this

end Go.Proofs.YtfnloonmeilhlaaGreatDoor
namespace Go.Pub
/-- The code point that ends at i and has at most n bytes. -/
def befF (s : ByteArray) (i : Nat) : Nat → Int
  | 0 => if bt s (i - 1) < 128 then bt s (i - 1) else 65533
  | 1 => if bt s (i - 1) < 128 then bt s (i - 1) else 65533
  | n + 2 => if n + 2 ≤ i ∧ (Utf8.decode s (i - (n + 2))).2 = n + 2 then (Utf8.decode s (i - (n + 2))).1 else befF s i (n + 1)
theorem befC_F (s : ByteArray) (i : Nat) (h : i ≠ 0) : befC s i = befF s i 4 := by
  unfold befC
  rw [if_neg h]
  unfold befF befF befF befF
  rfl
theorem dec_alone (s : ByteArray) (h : s.size = 1) : nextAt s 0 = (if bt s 0 < 128 then (bt s 0 : Int) else 65533, 1) := by
  have h0 : 0 < s.size := by omega
  have e : nextAt s ((0 : Nat) : Int) = _ := nextAt_in s 0 h0
  rw [show (0 : Int) = ((0 : Nat) : Int) from rfl, e]
  by_cases hb : bt s 0 < 128
  · rw [dec_one s 0 hb, if_pos hb]; rfl
  · rw [if_neg hb]
    have hd := dec_bd s 0 h0
    have hc := decodeN_cases ((bytesL s).drop 0).length (atL ((bytesL s).drop 0) 0) (atL ((bytesL s).drop 0) 1) (atL ((bytesL s).drop 0) 2) (atL ((bytesL s).drop 0) 3)
    have hdd : Utf8.decode s 0 = decL ((bytesL s).drop 0) := decode_decL s 0
    have h1 : bt s 0 = atL ((bytesL s).drop 0) 0 := bt_atL s 0 0
    unfold decL at hdd
    rw [h1] at hb
    rcases hc with c | ⟨c0, c⟩ | ⟨c0, c⟩ | ⟨c0, c⟩ | ⟨c0, c⟩
    · rw [hdd, c]; rfl
    · omega
    · rw [hdd, c] at hd; simp only [] at hd; omega
    · rw [hdd, c] at hd; simp only [] at hd; omega
    · rw [hdd, c] at hd; simp only [] at hd; omega
theorem extract_bt (s : ByteArray) (i k : Nat) (h : k ≤ s.size) (j : Nat) (hj : i + j < k) : bt (s.extract i k) j = bt s (i + j) := by
  have hs : j < (s.extract i k).size := by rw [ByteArray.size_extract]; omega
  rw [← get_bt _ j hs, ← get_bt s (i + j) (by omega), ByteArray.getElem_extract]
end Go.Pub
namespace Go.Proofs.YtfnloonmeilhlaaGreatDoor
open Go.RowKit Go.Pub
set_option maxRecDepth 100000 in
set_option maxHeartbeats 1000000 in
theorem s_before (s : ByteArray) (i : Nat) (w : World) (hs : s.size ≤ 1000000) (hi : i ≤ s.size) : Calls Tryz.prog 63 #[.string s, .int .i64 i] w fun e w' => e = .returned (.int .i64 (befC s i)) ∧ Below w.heap.size w w' := by
  by_cases h0 : i = 0
  · subst h0
    go_enter Tryz.func63, Tryz.ntmps63
    go_wp2_with fail
    go_ret
    exact ⟨rfl, Below.refl _ _⟩
  · have HB := Lib.hid (befC_F s i h0)
    have HN := Lib.hid fun (k : Nat) (hk : k < s.size) W => by
      have := next_any s (k : Int) W (by omega)
      rwa [nextAt_in s k hk] at this
    have hz : (s.extract (i - 1) i).size = 1 := by rw [ByteArray.size_extract]; omega
    have HL : Hid (∀ W, Calls Tryz.prog 41 #[.string (s.extract (i - 1) i), .int .i64 0] W (PairQuiet (befF s i 1) 1 W)) := Lib.hid fun W => by
      have := next_any (s.extract (i - 1) i) 0 W (by omega)
      rw [dec_alone _ hz, extract_bt s (i - 1) i hi 0 (by omega), Nat.add_zero] at this
      exact this
    have HS : Hid (∀ n, befF s i (n + 2) = if n + 2 ≤ i ∧ (Utf8.decode s (i - (n + 2))).2 = n + 2 then ((Utf8.decode s (i - (n + 2))).1 : Int) else befF s i (n + 1)) := Lib.hid fun n => rfl
    generalize befC s i = R at *
    have z0 : ((i : Int) == 0) = false := beq_eq_false_iff_ne.2 (by omega)
    have hi0 : 0 < i := by omega
    clear h0
    go_enter Tryz.func63, Tryz.ntmps63
    go_wp2_with fail
    go_loopw [5] (fun v wr => ∃ n : Nat, v = .int .i64 n ∧ 1 ≤ n ∧ n ≤ 4 ∧ Hid (R = befF s i n) ∧ Below w.heap.size w wr) (fun v _ => (intOf v).toNat)
    case atStart => exact ⟨4, rfl, by omega, by omega, HB, Below.refl _ _⟩
    case round =>
      obtain ⟨n, rfl, hn1, hn4, HR, hbw⟩ := hrel
      by_cases h1 : n = 1
      · subst h1
        have e1 : (i : Int) - 1 = ((i - 1 : Nat) : Int) := by omega
        have hsl : i - 1 ≤ i := by omega
        go_wp2_with fail
        (refine (HL.out _).mono ?_)
        rintro e w1 ⟨rfl, q, rfl⟩
        go_wp2_with fail
        go_ret
        exact ⟨ret_int (by rw [HR.out]), below_drewN hbw _⟩
      · obtain ⟨m, rfl⟩ : ∃ m, n = m + 2 := ⟨n - 2, by omega⟩
        have HSm := Lib.hid (HS.out m)
        by_cases hl : i < m + 2
        · have HR2 : Hid (R = befF s i (m + 1)) := Lib.hid (by rw [HR.out, HSm.out, if_neg (by omega)])
          go_wp2_with fail
          go_roundw
          case rel => exact ⟨m + 1, by go_num, by omega, by omega, HR2, hbw⟩
          case measure => simp [intOf]; omega
        · have e1 : (i : Int) - ((m + 2 : Nat) : Int) = ((i - (m + 2) : Nat) : Int) := by omega
          have HNm := Lib.hid (HN.out (i - (m + 2)) (by omega))
          rw [← e1] at HNm
          generalize Utf8.decode s (i - (m + 2)) = D at *
          by_cases hd : D.2 = m + 2
          · have z1 : ((D.2 : Int) == ((m + 2 : Nat) : Int)) = true := beq_iff_eq.2 (by omega)
            have HR2 : Hid (R = (D.1 : Int)) := Lib.hid (by rw [HR.out, HSm.out, if_pos ⟨by omega, hd⟩])
            clear hd
            go_wp2_with fail
            (refine (HNm.out _).mono ?_)
            rintro e w1 ⟨rfl, q, rfl⟩
            go_wp2_with fail
            go_ret
            exact ⟨ret_int (by rw [HR2.out]), below_drewN hbw _⟩
          · have z1 : ((D.2 : Int) == ((m + 2 : Nat) : Int)) = false := beq_eq_false_iff_ne.2 (by omega)
            have HR2 : Hid (R = befF s i (m + 1)) := Lib.hid (by rw [HR.out, HSm.out, if_neg (fun c => hd c.2)])
            clear hd
            go_wp2_with fail
            (refine (HNm.out _).mono ?_)
            rintro e w1 ⟨rfl, q, rfl⟩
            have hb2 := Lib.hid (below_drewN hbw q)
            generalize wr.drewN q = W2 at *
            go_wp2_with fail
            go_roundw
            case rel => exact ⟨m + 1, by go_num, by omega, by omega, HR2, hb2.out⟩
            case measure => simp [intOf]; omega

set_option maxRecDepth 100000 in
set_option maxHeartbeats 4000000 in
theorem s_flank (ch : ByteArray) (b a : Int) (w : World) : Calls Tryz.prog 62 #[.string ch, .int .i64 b, .int .i64 a] w fun e w' => e = .returned (.tuple #[.bool (flankL ch b a).1, .bool (flankL ch b a).2]) ∧ w = w' := by
  have HSb := Lib.hid fun W => space_any b W
  have HSa := Lib.hid fun W => space_any a W
  have HPb := Lib.hid fun W => punct_any b W
  have HPa := Lib.hid fun W => punct_any a W
  have HF : Hid (flankL ch b a = (
    let sb := decide (b < 0) || spaceB b
    let sa := decide (a < 0) || spaceB a
    let l := !sa && (!inB a punctL || sb || inB b punctL)
    let r := !sb && (!inB b punctL || sa || inB a punctL)
    if ch.toList = [42] ∨ ch.toList = [126] then (l, r)
    else if ch.toList = [95] then (l && (!r || inB b punctL), r && (!l || inB a punctL))
    else (false, false))) := Lib.hid rfl
  generalize flankL ch b a = F at *
  generalize inB b punctL = pb at *
  generalize inB a punctL = pa at *
  obtain ⟨sb, hsb⟩ : ∃ q, q = (decide (b < 0) || spaceB b) := ⟨_, rfl⟩
  obtain ⟨sa, hsa⟩ : ∃ q, q = (decide (a < 0) || spaceB a) := ⟨_, rfl⟩
  rw [← hsb, ← hsa] at HF
  have HSB := Lib.hid hsb
  have HSA := Lib.hid hsa
  clear hsb hsa
  generalize spaceB b = tb at *
  generalize spaceB a = ta at *
  go_enter Tryz.func62, Tryz.ntmps62
  go_upto_region 1 with fail
  go_cut [8] (fun s8 wx => s8 = .bool sb ∧ w = wx)
  case first =>
    by_cases h1 : b < 0
    · go_wp2_with fail
      go_meet
      case rel => exact ⟨by rw [HSB.out, decide_eq_true h1]; rfl, rfl⟩
    · go_wp2_with fail
      ((with_reducible refine (HSb.out _).mono ?_))
      rintro e w1 ⟨rfl, rfl⟩
      go_wp2_with fail
      go_meet
      case rel => exact ⟨by rw [HSB.out, decide_eq_false (by omega)]; rfl, rfl⟩
  case rest =>
  obtain ⟨rfl, rfl⟩ := hcut
  go_upto_region 2 with fail
  go_cut [9] (fun s9 wx => s9 = .bool sa ∧ w = wx)
  case first =>
    by_cases h1 : a < 0
    · go_wp2_with fail
      go_meet
      case rel => exact ⟨by rw [HSA.out, decide_eq_true h1]; rfl, rfl⟩
    · go_wp2_with fail
      ((with_reducible refine (HSa.out _).mono ?_))
      rintro e w1 ⟨rfl, rfl⟩
      go_wp2_with fail
      go_meet
      case rel => exact ⟨by rw [HSA.out, decide_eq_false (by omega)]; rfl, rfl⟩
  case rest =>
  obtain ⟨rfl, rfl⟩ := hcut
  clear HSB HSA HSb HSa
  obtain ⟨l, hl⟩ : ∃ q, q = (!sa && (!pa || sb || pb)) := ⟨_, rfl⟩
  obtain ⟨r, hr⟩ : ∃ q, q = (!sb && (!pb || sa || pa)) := ⟨_, rfl⟩
  simp only [← hl, ← hr] at HF
  go_upto_region 3 with fail
  go_cut [10] (fun s10 wx => s10 = .bool l ∧ w = wx)
  case first =>
    clear hr HF
    cases sb <;> cases sa <;> cases pb <;> cases pa <;> simp at hl <;> subst hl
    all_goals
      go_wp2_with (go_at_call 53; (first | with_reducible refine (HPa.out _).mono ?_ | with_reducible refine (HPb.out _).mono ?_); rintro e w1 ⟨rfl, rfl⟩)
      go_meet
      case rel => exact ⟨rfl, rfl⟩
  case rest =>
  obtain ⟨rfl, rfl⟩ := hcut
  clear hl
  go_upto_region 4 with fail
  go_cut [11] (fun s11 wx => s11 = .bool r ∧ w = wx)
  case first =>
    clear HF
    cases sb <;> cases sa <;> cases pb <;> cases pa <;> simp at hr <;> subst hr
    all_goals
      go_wp2_with (go_at_call 53; (first | with_reducible refine (HPa.out _).mono ?_ | with_reducible refine (HPb.out _).mono ?_); rintro e w1 ⟨rfl, rfl⟩)
      go_meet
      case rel => exact ⟨rfl, rfl⟩
  case rest =>
      obtain ⟨rfl, rfl⟩ := hcut
      clear hr
      by_cases c1 : ch.toList = [42]
      · have HG : Hid (F = (l, r)) := Lib.hid (by rw [HF.out, if_pos (.inl c1)])
        have z1 : (ch.toList == ([42] : List UInt8)) = true := beq_iff_eq.2 c1
        clear c1 HF
        go_wp2_with fail
        go_ret2
        exact ⟨by rw [HG.out]; rfl, rfl⟩
      · have z1 : (ch.toList == ([42] : List UInt8)) = false := beq_eq_false_iff_ne.2 c1
        by_cases c2 : ch.toList = [126]
        · have HG : Hid (F = (l, r)) := Lib.hid (by rw [HF.out, if_pos (.inr c2)])
          have z2 : (ch.toList == ([126] : List UInt8)) = true := beq_iff_eq.2 c2
          clear c1 c2 HF
          go_wp2_with fail
          go_ret2
          exact ⟨by rw [HG.out]; rfl, rfl⟩
        · have z2 : (ch.toList == ([126] : List UInt8)) = false := beq_eq_false_iff_ne.2 c2
          by_cases c3 : ch.toList = [95]
          · have HG : Hid (F = (l && (!r || pb), r && (!l || pa))) := Lib.hid (by rw [HF.out, if_neg (by simp [c1, c2]), if_pos c3])
            have z3 : (ch.toList == ([95] : List UInt8)) = true := beq_iff_eq.2 c3
            clear c1 c2 c3 HF
            cases l <;> cases r
            all_goals
              go_wp2_with (go_at_call 53; (first | with_reducible refine (HPa.out _).mono ?_ | with_reducible refine (HPb.out _).mono ?_); rintro e w1 ⟨rfl, rfl⟩)
              go_ret2
              exact ⟨by rw [HG.out]; simp, rfl⟩
          · have HG : Hid (F = (false, false)) := Lib.hid (by rw [HF.out, if_neg (by simp [c1, c2]), if_neg c3])
            have z3 : (ch.toList == ([95] : List UInt8)) = false := beq_eq_false_iff_ne.2 c3
            clear c1 c2 c3 HF
            go_wp2_with fail
            go_ret2
            exact ⟨by rw [HG.out]; rfl, rfl⟩

end Go.Proofs.YtfnloonmeilhlaaGreatDoor
