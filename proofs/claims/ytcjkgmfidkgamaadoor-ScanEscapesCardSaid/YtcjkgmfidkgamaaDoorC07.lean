/-
  Texts of the proof, put together (what this law reaches): ScW, ScX, ScH, ScAC, ScAG.
-/
import Derived.Test.YtcjkgmfidkgamaaDoorC06
import Derived.Test.YtcjkgmfidkgamaaDoorC04
import Derived.Deep.DeepCutAuto
import Derived.Laws.Rows
import Derived.Test.YtcjkgmfidkgamaaDoorC03
import Derived.Laws.Tables
set_option linter.unusedVariables false
set_option linter.unusedSimpArgs false
namespace Go.Pub
/-- The first of ascending numbers that is at least x, or -1. -/
def laterV (l : List Nat) (x : Nat) : Int := match l[l.countP fun y => !decide (x ≤ y)]? with
  | some y => y
  | none => -1
end Go.Pub
namespace Go.Proofs.YtcjkgmfidkgamaaDoor
open Go.RowKit Go.Pub
theorem search_any (w : World) (S : Nat → Prop) (A : Option Addr) (c : Nat) (l : List Nat) (x : Nat) (hr : ReadsS w S 1 A l.length (numsV l)) (hl : l.length ≤ 1000000) (ha : l.Pairwise (· < ·)) :
    Calls Tryd.prog 81 #[.slice A l.length c, .int .i64 x] w fun e w' => e = .returned (.int .i64 (l.countP fun y => !decide (x ≤ y) : Nat)) ∧ Below w.heap.size w w' := by
  rcases Nat.eq_zero_or_pos l.length with h0 | h0
  · have hn : l = [] := List.length_eq_zero_iff.1 h0
    subst hn
    exact Any.sort_SearchInts_none Tryd.searchInts A c x w
  · obtain ⟨b, off, rfl, hS, hc⟩ := hr.row h0 (by decide)
    have hsz : (l.map fun y : Nat => (y : Int)).toArray.size = l.length := by simp
    have hb : b < w.heap.size := World.block_lt_of_cell? _ _ (hc 0 (.int .i64 (l[0] : Nat)) (by unfold numsV; rw [List.getElem?_map, List.getElem?_eq_getElem h0]; rfl))
    have hg : ∀ i, (h : i < l.length) → (l.map fun y : Nat => (y : Int)).toArray[i]! = (l[i] : Int) := fun i h => by
      rw [getElem!_pos _ i (by rw [hsz]; exact h)]; simp
    have h := Any.sort_SearchInts Tryd.searchInts b off c (l.map fun y : Nat => (y : Int)).toArray x w (fun i hi => by
        rw [hsz] at hi
        rw [hg i hi]
        exact hc i _ (by unfold numsV; rw [List.getElem?_map, List.getElem?_eq_getElem hi]; rfl)) hb (by rw [hsz]; omega) (fun p q hpq hq hx => by
        rw [hsz] at hq
        rw [hg q hq]
        rw [hg p (by omega)] at hx
        have hx' := of_decide_eq_true hx
        apply decide_eq_true
        rcases Nat.lt_or_ge p q with h | h
        · have := List.pairwise_iff_getElem.1 ha p q (by omega) hq h
          omega
        · have : p = q := by omega
          subst this; exact hx')
    rw [hsz] at h
    have e1 : (l.map fun y : Nat => (y : Int)).toArray.toList.countP (fun y => !decide ((x : Int) ≤ y)) = l.countP fun y => !decide (x ≤ y) := by
      rw [List.countP_map]
      congr 1
      funext y
      simp
    rw [e1] at h
    exact h
set_option maxRecDepth 100000 in
set_option maxHeartbeats 1000000 in
theorem s_later (w : World) (S : Nat → Prop) (A : Option Addr) (c : Nat) (l : List Nat) (x : Nat) (hr : ReadsS w S 1 A l.length (numsV l)) (hl : l.length ≤ 1000000) (ha : l.Pairwise (· < ·)) :
    Calls Tryd.prog 65 #[.slice A l.length c, .int .i64 x] w fun e w' => e = .returned (.int .i64 (laterV l x)) ∧ Below w.heap.size w w' := by
  have HS := Lib.hid (search_any w S A c l x hr hl ha)
  have HV : Hid (laterV l x = match l[l.countP fun y => !decide (x ≤ y)]? with | some y => (y : Int) | none => -1) := Lib.hid rfl
  generalize laterV l x = V at *
  generalize (l.countP fun y => !decide (x ≤ y)) = k at *
  by_cases hk : k < l.length
  · obtain ⟨b, off, rfl, hSb, hc⟩ := hr.row (by omega) (by decide)
    have hck := hc k (.int .i64 (l[k] : Nat)) (by unfold numsV; rw [List.getElem?_map, List.getElem?_eq_getElem hk]; rfl)
    have hb := World.block_lt_of_cell? _ _ hck
    have HF : Hid (V = (l[k] : Int)) := Lib.hid (by rw [HV.out, List.getElem?_eq_getElem hk])
    have Hck := Lib.hid hck
    generalize l[k] = y at *
    clear hc hck hr HV
    go_enter Tryd.func65, Tryd.ntmps65
    go_wp2_with fail
    ((with_reducible refine HS.out.mono ?_))
    rintro e w1 ⟨rfl, b1⟩
    have hc1 : w1.cell? ⟨b, off + k, none⟩ = some (.int .i64 y) := (b1.cell (p := ⟨b, off + k, none⟩) hb).trans Hck.out
    go_wp2_with fail
    go_ret
    exact ⟨ret_int HF.out.symm, b1⟩
  · have HF : Hid (V = -1) := Lib.hid (by rw [HV.out, List.getElem?_eq_none (by omega)])
    clear hr HV
    go_enter Tryd.func65, Tryd.ntmps65
    go_wp2_with fail
    ((with_reducible refine HS.out.mono ?_))
    rintro e w1 ⟨rfl, b1⟩
    go_wp2_with fail
    go_ret
    exact ⟨ret_int HF.out.symm, b1⟩

end Go.Proofs.YtcjkgmfidkgamaaDoor
namespace Go.Pub
/-- The beginnings of the runs of n backticks. -/
def tickL (s : ByteArray) (d : Bool) (n : Nat) : List Nat := posL n (runsD s d (runsL s))
theorem tickL_len (s : ByteArray) (d : Bool) (n : Nat) : (tickL s d n).length ≤ s.size := by
  unfold tickL posL runsD
  have h1 := runsF_len s s.size 0
  rw [List.length_map]
  refine Nat.le_trans (List.length_filter_le _ _) (Nat.le_trans (List.length_filter_le _ _) ?_)
  exact h1
theorem laterV_eq (s : ByteArray) (d : Bool) (n i : Nat) (hb : bnd s i) : laterV (tickL s d n) i = match laterA s i n d with | some k => (k : Int) | none => -1 := by
  rw [later_pos s n d i hb]; rfl
end Go.Pub
namespace Go.Proofs.YtcjkgmfidkgamaaDoor
open Go.RowKit Go.Pub
/-- A reader of pieces: its string, and its two maps. -/
structure RdrW (w : World) (S : Nat → Prop) (s : ByteArray) (b1 b2 : Nat) : Prop where
  all : TickM Tryd.prog w S 59 b1 (tickL s false)
  dol : TickM Tryd.prog w S 59 b2 (tickL s true)
def rdrV (s : ByteArray) (b1 b2 : Nat) : Value := .agg #[.string s, .map (some b1), .map (some b2)]
theorem RdrW.keep {w w' : World} {S S' : Nat → Prop} {s : ByteArray} {b1 b2 : Nat} (h : RdrW w S s b1 b2) (hk : ∀ g, S g → w'.heap[g]? = w.heap[g]?) (hS : ∀ g, S g → S' g) : RdrW w' S' s b1 b2 := ⟨h.all.keep hk hS, h.dol.keep hk hS⟩
set_option maxRecDepth 100000 in
set_option maxHeartbeats 4000000 in
theorem s_code (s : ByteArray) (i b1 b2 : Nat) (m : Int) (S : Nat → Prop) (w : World) (hs : s.size ≤ 1000000) (hi : i < s.size) (h96 : bt s i = 96) (hW : RdrW w S s b1 b2) (hS : ∀ g, S g → g < w.heap.size) (hm : w.cell? ⟨0, 0, none⟩ = some (.int .i64 m)) :
    Calls Tryd.prog 39 #[rdrV s b1 b2, .int .i64 i] w (InPost (codeI s i) w) := by
  have h0w : 0 < w.heap.size := World.block_lt_of_cell? _ _ hm
  have HR := Lib.hid fun W => s_runEnd s i W hs hi
  have hre := runE_tick h96
  have hbn := bnd_runE h96
  rw [hre] at HR hbn
  have hle := runF_le s i tick
  have hL := laterV_eq s false (runF s i tick) (i + runF s i tick) hbn
  have hLb : ∀ k, laterA s (i + runF s i tick) (runF s i tick) false = some k → i + runF s i tick ≤ k ∧ k < s.size := fun k h => ⟨(laterA_spec h).1, (laterA_spec h).2.1⟩
  have HT : Hid (∀ W : World, (∀ g, S g → W.heap[g]? = w.heap[g]?) → ∃ A c, (Instr.lookup 59 (.map (some b1)) (.int .i64 (runF s i tick : Nat)) false).run Tryd.prog W = .ok (.slice A (tickL s false (runF s i tick)).length c) W ∧ Calls Tryd.prog 65 #[.slice A (tickL s false (runF s i tick)).length c, .int .i64 (i + runF s i tick : Nat)] W fun e w' => e = .returned (.int .i64 (laterV (tickL s false (runF s i tick)) (i + runF s i tick))) ∧ Below W.heap.size W w') := Lib.hid fun W hWg => by
    obtain ⟨A, c, h1, h2⟩ := hW.all W hWg (runF s i tick) (by omega)
    exact ⟨A, c, h1, s_later W S A c _ _ h2 (Nat.le_trans (tickL_len _ _ _) hs) (posL_asc s _ _)⟩
  rw [hL] at HT
  have hbx : ∀ W0 : World, Below (w.heap.size + 2) ((w.alloc (.cells #[.string s, .map (some b1), .map (some b2)] 64)).alloc (.cells zIn 33)) W0 → Blk W0 w.heap.size 64 #[.string s, .map (some b1), .map (some b2)] ∧ Blk W0 (w.heap.size + 1) 33 zIn ∧ Below w.heap.size w W0 ∧ (∀ g, S g → W0.heap[g]? = w.heap[g]?) ∧ W0.cell? ⟨0, 0, none⟩ = some (.int .i64 m) := fun W0 hb => by
    have hw0 : Below w.heap.size w W0 := (((Below.refl _ _).alloc (Nat.le_refl _) _).alloc (by simp) _).trans (hb.mono (by omega))
    refine ⟨((Blk.new w _ _).alloc _).below hb (by omega), ?_, hw0, fun g hg => hw0.block g (hS g hg), (hw0.cell (p := ⟨0, 0, none⟩) h0w).trans hm⟩
    have := Blk.new (w.alloc (.cells #[.string s, .map (some b1), .map (some b2)] 64)) 33 zIn
    rw [World.size_alloc] at this
    exact this.below hb (by omega)
  have HBX := Lib.hid hbx
  have HC : Hid (∀ (k : Nat) (W : World), W.cell? ⟨0, 0, none⟩ = some (.int .i64 m) → Calls Tryd.prog 66 #[.string (s.extract (i + runF s i tick) k)] W fun e w' => e = .returned (.string (mk (codeT (sub s (i + runF s i tick) k)))) ∧ Below W.heap.size W w') := Lib.hid fun k W hmW => by
    have := s_content (s.extract (i + runF s i tick) k) m W (by rw [ByteArray.size_extract]; omega) hmW
    rwa [bytesL_sub] at this
  obtain ⟨R, hR⟩ : ∃ R, R = codeI s i := ⟨_, rfl⟩
  rw [← hR]
  unfold codeI at hR
  have HQ := Lib.hid hR
  have hnz : runF s i tick ≤ 1000000 := by omega
  clear hR hbn hL hbx hre hW hm hS
  generalize laterA s (i + runF s i tick) (runF s i tick) false = la at *
  generalize hLL : (tickL s false (runF s i tick)).length = LL at *
  clear hLL
  generalize runF s i tick = n at *
  have e1 : (i : Int) + (n : Int) - (i : Int) = (n : Int) := by omega
  unfold rdrV
  go_enter Tryd.func39, Tryd.ntmps39
  go_wp2_with fail
  ((with_reducible refine (HR.out _).mono ?_))
  rintro e W1 ⟨rfl, q1⟩
  simp only [World.size_alloc] at q1
  obtain ⟨x1, x2, x3, x4, x5⟩ := HBX.out W1 q1
  obtain ⟨A, c, hlk, hcl⟩ := HT.out W1 x4
  have HCl := Lib.hid hcl
  have r0 : W1.cell? ⟨w.heap.size, 0, none⟩ = some (.string s) := x1.cell 0
  have r1 : W1.cell? ⟨w.heap.size, 1, none⟩ = some (.map (some b1)) := x1.cell 1
  have X1 := Lib.hid q1
  have hz1 := x2.lt
  clear hcl x1 x2 x3 x4 x5 q1
  go_wp2_with fail
  (refine HCl.out.mono ?_)
  rintro e W2 ⟨rfl, q2⟩
  have X2 := Lib.hid (X1.out.trans (q2.mono (by omega)))
  clear r0 r1 hlk HCl X1 q2
  obtain ⟨x1, x2, x3, x4, x5⟩ := HBX.out W2 X2.out
  have hz2 := x2.lt
  have HB2 := Lib.hid x2
  have HW2 := Lib.hid x3
  cases la with
  | none =>
    have HF : Hid (R = none) := Lib.hid HQ.out
    obtain ⟨c0, c1, c2, c3, c4, c5, c6, c7, c8, c9, f0, f1, f2, f3, f4, f5, f6, f7, f8, f9⟩ := in_facts x2
    clear HQ HC HT HBX x1 x2 x3 x4 x5
    go_wp2_with fail
    exact in_ret Tryd.results39 (blk10 HB2.out _ _ _ _ _ _ _ _ _ _) rfl rfl rfl (in_none HF.out (below10 HW2.out (by omega) _ _ _ _ _ _ _ _ _ _))
  | some k =>
    obtain ⟨hk1, hk2⟩ := hLb k rfl
    have HF : Hid (R = some (spn 4 (mk (codeT (sub s (i + n) k))), k + n)) := Lib.hid HQ.out
    have HCk := Lib.hid (HC.out k W2 x5)
    have r0 : W2.cell? ⟨w.heap.size, 0, none⟩ = some (.string s) := x1.cell 0
    generalize mk (codeT (sub s (i + n) k)) = Y at *
    have hkn : (0 : Int) ≤ (k : Int) := by omega
    clear HQ HC HT x1 x2 x3 x4 x5
    go_wp2_with fail
    (refine HCk.out.mono ?_)
    rintro e W3 ⟨rfl, q3⟩
    have X3 := Lib.hid (X2.out.trans (q3.mono (by omega)))
    obtain ⟨x1, x2, x3, x4, x5⟩ := HBX.out W3 X3.out
    have HB3 := Lib.hid x2
    have HW3 := Lib.hid x3
    obtain ⟨c0, c1, c2, c3, c4, c5, c6, c7, c8, c9, f0, f1, f2, f3, f4, f5, f6, f7, f8, f9⟩ := in_facts x2
    clear r0 HBX x1 x2 x3 x4 x5 q3 HCk
    go_wp2_with fail
    exact in_ret Tryd.results39 (blk10 HB3.out _ _ _ _ _ _ _ _ _ _) rfl rfl rfl (in_some HF.out rfl rfl (below10 HW3.out (by omega) _ _ _ _ _ _ _ _ _ _) rfl (by omega))

set_option maxRecDepth 100000 in
set_option maxHeartbeats 4000000 in
theorem s_math (s : ByteArray) (i b1 b2 : Nat) (m : Int) (S : Nat → Prop) (w : World) (hs : s.size ≤ 1000000) (hi : i < s.size) (hW : RdrW w S s b1 b2) (hS : ∀ g, S g → g < w.heap.size) (hm : w.cell? ⟨0, 0, none⟩ = some (.int .i64 m)) :
    Calls Tryd.prog 37 #[rdrV s b1 b2, .int .i64 i] w (InPost (mathI s i) w) := by
  by_cases hc : i + 1 < s.size ∧ bt s (i + 1) = 96
  · obtain ⟨hi1, h96⟩ := hc
    have h0w : 0 < w.heap.size := World.block_lt_of_cell? _ _ hm
    have HR := Lib.hid fun W => s_runEnd s (i + 1) W hs hi1
    have hre := runE_tick h96
    have hbn := bnd_runE h96
    rw [hre] at HR hbn
    have hle := runF_le s (i + 1) tick
    have hL := laterV_eq s true (runF s (i + 1) tick) (i + 1 + runF s (i + 1) tick) hbn
    have hLb : ∀ k, laterA s (i + 1 + runF s (i + 1) tick) (runF s (i + 1) tick) true = some k → i + 1 + runF s (i + 1) tick ≤ k ∧ k < s.size := fun k h => ⟨(laterA_spec h).1, (laterA_spec h).2.1⟩
    have HT : Hid (∀ W : World, (∀ g, S g → W.heap[g]? = w.heap[g]?) → ∃ A c, (Instr.lookup 59 (.map (some b2)) (.int .i64 (runF s (i + 1) tick : Nat)) false).run Tryd.prog W = .ok (.slice A (tickL s true (runF s (i + 1) tick)).length c) W ∧ Calls Tryd.prog 65 #[.slice A (tickL s true (runF s (i + 1) tick)).length c, .int .i64 (i + 1 + runF s (i + 1) tick : Nat)] W fun e w' => e = .returned (.int .i64 (laterV (tickL s true (runF s (i + 1) tick)) (i + 1 + runF s (i + 1) tick))) ∧ Below W.heap.size W w') := Lib.hid fun W hWg => by
      obtain ⟨A, c, h1, h2⟩ := hW.dol W hWg (runF s (i + 1) tick) (by omega)
      exact ⟨A, c, h1, s_later W S A c _ _ h2 (Nat.le_trans (tickL_len _ _ _) hs) (posL_asc s _ _)⟩
    rw [hL] at HT
    have hbx : ∀ W0 : World, Below (w.heap.size + 2) ((w.alloc (.cells #[.string s, .map (some b1), .map (some b2)] 64)).alloc (.cells zIn 33)) W0 → Blk W0 w.heap.size 64 #[.string s, .map (some b1), .map (some b2)] ∧ Blk W0 (w.heap.size + 1) 33 zIn ∧ Below w.heap.size w W0 ∧ (∀ g, S g → W0.heap[g]? = w.heap[g]?) ∧ W0.cell? ⟨0, 0, none⟩ = some (.int .i64 m) := fun W0 hb => by
      have hw0 : Below w.heap.size w W0 := (((Below.refl _ _).alloc (Nat.le_refl _) _).alloc (by simp) _).trans (hb.mono (by omega))
      refine ⟨((Blk.new w _ _).alloc _).below hb (by omega), ?_, hw0, fun g hg => hw0.block g (hS g hg), (hw0.cell (p := ⟨0, 0, none⟩) h0w).trans hm⟩
      have := Blk.new (w.alloc (.cells #[.string s, .map (some b1), .map (some b2)] 64)) 33 zIn
      rw [World.size_alloc] at this
      exact this.below hb (by omega)
    have HBX := Lib.hid hbx
    have HC : Hid (∀ (k : Nat) (W : World), W.cell? ⟨0, 0, none⟩ = some (.int .i64 m) → Calls Tryd.prog 66 #[.string (s.extract (i + 1 + runF s (i + 1) tick) k)] W fun e w' => e = .returned (.string (mk (codeT (sub s (i + 1 + runF s (i + 1) tick) k)))) ∧ Below W.heap.size W w') := Lib.hid fun k W hmW => by
      have := s_content (s.extract (i + 1 + runF s (i + 1) tick) k) m W (by rw [ByteArray.size_extract]; omega) hmW
      rwa [bytesL_sub] at this
    obtain ⟨R, hR⟩ : ∃ R, R = mathI s i := ⟨_, rfl⟩
    rw [← hR]
    unfold mathI at hR
    rw [if_pos ⟨hi1, h96⟩] at hR
    have HQ := Lib.hid hR
    have hnz : runF s (i + 1) tick ≤ 1000000 := by omega
    clear hR hbn hL hbx hre hW hm hS
    generalize laterA s (i + 1 + runF s (i + 1) tick) (runF s (i + 1) tick) true = la at *
    generalize hLL : (tickL s true (runF s (i + 1) tick)).length = LL at *
    clear hLL
    generalize runF s (i + 1) tick = n at *
    have e1 : (i : Int) + 1 + (n : Int) - (i : Int) = (n : Int) + 1 := by omega
    have e2 : (n : Int) + 1 - 1 = (n : Int) := by omega
    have hg96 := get_bt s (i + 1) hi1
    rw [h96] at hg96
    unfold rdrV
    go_enter Tryd.func37, Tryd.ntmps37
    go_wp2_with fail
    (refine (HR.out _).mono ?_)
    rintro e W1 ⟨rfl, q1⟩
    simp only [World.size_alloc] at q1
    obtain ⟨x1, x2, x3, x4, x5⟩ := HBX.out W1 q1
    obtain ⟨A, c, hlk, hcl⟩ := HT.out W1 x4
    have HCl := Lib.hid hcl
    have r0 : W1.cell? ⟨w.heap.size, 0, none⟩ = some (.string s) := x1.cell 0
    have r1 : W1.cell? ⟨w.heap.size, 2, none⟩ = some (.map (some b2)) := x1.cell 2
    have X1 := Lib.hid q1
    have hz1 := x2.lt
    clear hcl x1 x2 x3 x4 x5 q1
    go_wp2_with fail
    (refine HCl.out.mono ?_)
    rintro e W2 ⟨rfl, q2⟩
    have X2 := Lib.hid (X1.out.trans (q2.mono (by omega)))
    clear r0 r1 hlk HCl X1 q2
    obtain ⟨x1, x2, x3, x4, x5⟩ := HBX.out W2 X2.out
    have hz2 := x2.lt
    have HB2 := Lib.hid x2
    have HW2 := Lib.hid x3
    cases la with
    | none =>
      have HF : Hid (R = none) := Lib.hid HQ.out
      obtain ⟨c0, c1, c2, c3, c4, c5, c6, c7, c8, c9, f0, f1, f2, f3, f4, f5, f6, f7, f8, f9⟩ := in_facts x2
      clear HQ HC HT HBX x1 x2 x3 x4 x5
      go_wp2_with fail
      exact in_ret Tryd.results37 (blk10 HB2.out _ _ _ _ _ _ _ _ _ _) rfl rfl rfl (in_none HF.out (below10 HW2.out (by omega) _ _ _ _ _ _ _ _ _ _))
    | some k =>
      obtain ⟨hk1, hk2⟩ := hLb k rfl
      have HF : Hid (R = some (spn 5 (mk (codeT (sub s (i + 1 + n) k))), k + n + 1)) := Lib.hid HQ.out
      have HCk := Lib.hid (HC.out k W2 x5)
      have r0 : W2.cell? ⟨w.heap.size, 0, none⟩ = some (.string s) := x1.cell 0
      generalize mk (codeT (sub s (i + 1 + n) k)) = Y at *
      have hkn : (0 : Int) ≤ (k : Int) := by omega
      clear HQ HC HT x1 x2 x3 x4 x5
      go_wp2_with fail
      (refine HCk.out.mono ?_)
      rintro e W3 ⟨rfl, q3⟩
      have X3 := Lib.hid (X2.out.trans (q3.mono (by omega)))
      obtain ⟨x1, x2, x3, x4, x5⟩ := HBX.out W3 X3.out
      have HB3 := Lib.hid x2
      have HW3 := Lib.hid x3
      obtain ⟨c0, c1, c2, c3, c4, c5, c6, c7, c8, c9, f0, f1, f2, f3, f4, f5, f6, f7, f8, f9⟩ := in_facts x2
      clear r0 HBX x1 x2 x3 x4 x5 q3 HCk
      go_wp2_with fail
      exact in_ret Tryd.results37 (blk10 HB3.out _ _ _ _ _ _ _ _ _ _) rfl rfl rfl (in_some HF.out rfl rfl (below10 HW3.out (by omega) _ _ _ _ _ _ _ _ _ _) rfl (by omega))
  · have HF : Hid (mathI s i = none) := Lib.hid (by unfold mathI; rw [if_neg hc])
    generalize mathI s i = R at *
    unfold rdrV
    by_cases hi1 : i + 1 < s.size
    · have hg := get_bt s (i + 1) hi1
      have n1 : ((bt s (i + 1) : Int) != 96) = true := bne_iff_ne.2 (fun e => hc ⟨hi1, by omega⟩)
      clear hc hW hm
      generalize bt s (i + 1) = b at *
      go_enter Tryd.func37, Tryd.ntmps37
      go_wp2_with fail
      refine in_ret Tryd.results37 ?_ rfl rfl rfl (in_none HF.out (((Below.refl _ w).alloc (Nat.le_refl _) _).alloc (by simp) _))
      have := Blk.new (w.alloc (.cells #[.string s, .map (some b1), .map (some b2)] 64)) 33 zIn
      rw [World.size_alloc] at this
      exact this
    · clear hc hW hm
      go_enter Tryd.func37, Tryd.ntmps37
      go_wp2_with fail
      refine in_ret Tryd.results37 ?_ rfl rfl rfl (in_none HF.out (((Below.refl _ w).alloc (Nat.le_refl _) _).alloc (by simp) _))
      have := Blk.new (w.alloc (.cells #[.string s, .map (some b1), .map (some b2)] 64)) 33 zIn
      rw [World.size_alloc] at this
      exact this

end Go.Proofs.YtcjkgmfidkgamaaDoor
namespace Go.Pub
/-- The code point that ends at i and has at most n bytes. -/
def befF (s : ByteArray) (i : Nat) : Nat → Int
  | 0 => if bt s (i - 1) < 128 then bt s (i - 1) else 65533
  | 1 => if bt s (i - 1) < 128 then bt s (i - 1) else 65533
  | n + 2 => if n + 2 ≤ i ∧ (Utf8.decode s (i - (n + 2))).2 = n + 2 then (Utf8.decode s (i - (n + 2))).1 else befF s i (n + 1)
theorem befC_F (s : ByteArray) (i : Nat) (h : i ≠ 0) : befC s i = befF s i 4 := by
  unfold befC
  rw [if_neg h]
  unfold befF befF befF befF
  rfl
theorem dec_alone (s : ByteArray) (h : s.size = 1) : nextAt s 0 = (if bt s 0 < 128 then (bt s 0 : Int) else 65533, 1) := by
  have h0 : 0 < s.size := by omega
  have e : nextAt s ((0 : Nat) : Int) = _ := nextAt_in s 0 h0
  rw [show (0 : Int) = ((0 : Nat) : Int) from rfl, e]
  by_cases hb : bt s 0 < 128
  · rw [dec_one s 0 hb, if_pos hb]; rfl
  · rw [if_neg hb]
    have hd := dec_bd s 0 h0
    have hc := decodeN_cases ((bytesL s).drop 0).length (atL ((bytesL s).drop 0) 0) (atL ((bytesL s).drop 0) 1) (atL ((bytesL s).drop 0) 2) (atL ((bytesL s).drop 0) 3)
    have hdd : Utf8.decode s 0 = decL ((bytesL s).drop 0) := decode_decL s 0
    have h1 : bt s 0 = atL ((bytesL s).drop 0) 0 := bt_atL s 0 0
    unfold decL at hdd
    rw [h1] at hb
    rcases hc with c | ⟨c0, c⟩ | ⟨c0, c⟩ | ⟨c0, c⟩ | ⟨c0, c⟩
    · rw [hdd, c]; rfl
    · omega
    · rw [hdd, c] at hd; simp only [] at hd; omega
    · rw [hdd, c] at hd; simp only [] at hd; omega
    · rw [hdd, c] at hd; simp only [] at hd; omega
theorem extract_bt (s : ByteArray) (i k : Nat) (h : k ≤ s.size) (j : Nat) (hj : i + j < k) : bt (s.extract i k) j = bt s (i + j) := by
  have hs : j < (s.extract i k).size := by rw [ByteArray.size_extract]; omega
  rw [← get_bt _ j hs, ← get_bt s (i + j) (by omega), ByteArray.getElem_extract]
end Go.Pub
namespace Go.Proofs.YtcjkgmfidkgamaaDoor
open Go.RowKit Go.Pub
set_option maxRecDepth 100000 in
set_option maxHeartbeats 1000000 in
theorem s_before (s : ByteArray) (i : Nat) (w : World) (hs : s.size ≤ 1000000) (hi : i ≤ s.size) : Calls Tryd.prog 67 #[.string s, .int .i64 i] w fun e w' => e = .returned (.int .i64 (befC s i)) ∧ Below w.heap.size w w' := by
  by_cases h0 : i = 0
  · subst h0
    go_enter Tryd.func67, Tryd.ntmps67
    go_wp2_with fail
    go_ret
    exact ⟨rfl, Below.refl _ _⟩
  · have HB := Lib.hid (befC_F s i h0)
    have HN := Lib.hid fun (k : Nat) (hk : k < s.size) W => by
      have := next_any s (k : Int) W (by omega)
      rwa [nextAt_in s k hk] at this
    have hz : (s.extract (i - 1) i).size = 1 := by rw [ByteArray.size_extract]; omega
    have HL : Hid (∀ W, Calls Tryd.prog 45 #[.string (s.extract (i - 1) i), .int .i64 0] W (PairQuiet (befF s i 1) 1 W)) := Lib.hid fun W => by
      have := next_any (s.extract (i - 1) i) 0 W (by omega)
      rw [dec_alone _ hz, extract_bt s (i - 1) i hi 0 (by omega), Nat.add_zero] at this
      exact this
    have HS : Hid (∀ n, befF s i (n + 2) = if n + 2 ≤ i ∧ (Utf8.decode s (i - (n + 2))).2 = n + 2 then ((Utf8.decode s (i - (n + 2))).1 : Int) else befF s i (n + 1)) := Lib.hid fun n => rfl
    generalize befC s i = R at *
    have z0 : ((i : Int) == 0) = false := beq_eq_false_iff_ne.2 (by omega)
    have hi0 : 0 < i := by omega
    clear h0
    go_enter Tryd.func67, Tryd.ntmps67
    go_wp2_with fail
    go_loopw [5] (fun v wr => ∃ n : Nat, v = .int .i64 n ∧ 1 ≤ n ∧ n ≤ 4 ∧ Hid (R = befF s i n) ∧ Below w.heap.size w wr) (fun v _ => (intOf v).toNat)
    case atStart => exact ⟨4, rfl, by omega, by omega, HB, Below.refl _ _⟩
    case round =>
      obtain ⟨n, rfl, hn1, hn4, HR, hbw⟩ := hrel
      by_cases h1 : n = 1
      · subst h1
        have e1 : (i : Int) - 1 = ((i - 1 : Nat) : Int) := by omega
        have hsl : i - 1 ≤ i := by omega
        go_wp2_with fail
        (refine (HL.out _).mono ?_)
        rintro e w1 ⟨rfl, q, rfl⟩
        go_wp2_with fail
        go_ret
        exact ⟨ret_int (by rw [HR.out]), below_drewN hbw _⟩
      · obtain ⟨m, rfl⟩ : ∃ m, n = m + 2 := ⟨n - 2, by omega⟩
        have HSm := Lib.hid (HS.out m)
        by_cases hl : i < m + 2
        · have HR2 : Hid (R = befF s i (m + 1)) := Lib.hid (by rw [HR.out, HSm.out, if_neg (by omega)])
          go_wp2_with fail
          go_roundw
          case rel => exact ⟨m + 1, by go_num, by omega, by omega, HR2, hbw⟩
          case measure => simp [intOf]; omega
        · have e1 : (i : Int) - ((m + 2 : Nat) : Int) = ((i - (m + 2) : Nat) : Int) := by omega
          have HNm := Lib.hid (HN.out (i - (m + 2)) (by omega))
          rw [← e1] at HNm
          generalize Utf8.decode s (i - (m + 2)) = D at *
          by_cases hd : D.2 = m + 2
          · have z1 : ((D.2 : Int) == ((m + 2 : Nat) : Int)) = true := beq_iff_eq.2 (by omega)
            have HR2 : Hid (R = (D.1 : Int)) := Lib.hid (by rw [HR.out, HSm.out, if_pos ⟨by omega, hd⟩])
            clear hd
            go_wp2_with fail
            (refine (HNm.out _).mono ?_)
            rintro e w1 ⟨rfl, q, rfl⟩
            go_wp2_with fail
            go_ret
            exact ⟨ret_int (by rw [HR2.out]), below_drewN hbw _⟩
          · have z1 : ((D.2 : Int) == ((m + 2 : Nat) : Int)) = false := beq_eq_false_iff_ne.2 (by omega)
            have HR2 : Hid (R = befF s i (m + 1)) := Lib.hid (by rw [HR.out, HSm.out, if_neg (fun c => hd c.2)])
            clear hd
            go_wp2_with fail
            (refine (HNm.out _).mono ?_)
            rintro e w1 ⟨rfl, q, rfl⟩
            have hb2 := Lib.hid (below_drewN hbw q)
            generalize wr.drewN q = W2 at *
            go_wp2_with fail
            go_roundw
            case rel => exact ⟨m + 1, by go_num, by omega, by omega, HR2, hb2.out⟩
            case measure => simp [intOf]; omega

set_option maxRecDepth 100000 in
set_option maxHeartbeats 4000000 in
theorem s_flank (ch : ByteArray) (b a : Int) (w : World) : Calls Tryd.prog 10 #[.string ch, .int .i64 b, .int .i64 a] w fun e w' => e = .returned (.tuple #[.bool (flankL ch b a).1, .bool (flankL ch b a).2]) ∧ w = w' := by
  have HSb := Lib.hid fun W => space_any b W
  have HSa := Lib.hid fun W => space_any a W
  have HPb := Lib.hid fun W => punct_any b W
  have HPa := Lib.hid fun W => punct_any a W
  have HF : Hid (flankL ch b a = (
    let sb := decide (b < 0) || spaceB b
    let sa := decide (a < 0) || spaceB a
    let l := !sa && (!inB a punctL || sb || inB b punctL)
    let r := !sb && (!inB b punctL || sa || inB a punctL)
    if ch.toList = [42] ∨ ch.toList = [126] then (l, r)
    else if ch.toList = [95] then (l && (!r || inB b punctL), r && (!l || inB a punctL))
    else (false, false))) := Lib.hid rfl
  generalize flankL ch b a = F at *
  generalize inB b punctL = pb at *
  generalize inB a punctL = pa at *
  obtain ⟨sb, hsb⟩ : ∃ q, q = (decide (b < 0) || spaceB b) := ⟨_, rfl⟩
  obtain ⟨sa, hsa⟩ : ∃ q, q = (decide (a < 0) || spaceB a) := ⟨_, rfl⟩
  rw [← hsb, ← hsa] at HF
  have HSB := Lib.hid hsb
  have HSA := Lib.hid hsa
  clear hsb hsa
  generalize spaceB b = tb at *
  generalize spaceB a = ta at *
  go_enter Tryd.func10, Tryd.ntmps10
  go_upto_region 1 with fail
  go_cut [8] (fun s8 wx => s8 = .bool sb ∧ w = wx)
  case first =>
    by_cases h1 : b < 0
    · go_wp2_with fail
      go_meet
      case rel => exact ⟨by rw [HSB.out, decide_eq_true h1]; rfl, rfl⟩
    · go_wp2_with fail
      ((with_reducible refine (HSb.out _).mono ?_))
      rintro e w1 ⟨rfl, rfl⟩
      go_wp2_with fail
      go_meet
      case rel => exact ⟨by rw [HSB.out, decide_eq_false (by omega)]; rfl, rfl⟩
  case rest =>
  obtain ⟨rfl, rfl⟩ := hcut
  go_upto_region 2 with fail
  go_cut [9] (fun s9 wx => s9 = .bool sa ∧ w = wx)
  case first =>
    by_cases h1 : a < 0
    · go_wp2_with fail
      go_meet
      case rel => exact ⟨by rw [HSA.out, decide_eq_true h1]; rfl, rfl⟩
    · go_wp2_with fail
      ((with_reducible refine (HSa.out _).mono ?_))
      rintro e w1 ⟨rfl, rfl⟩
      go_wp2_with fail
      go_meet
      case rel => exact ⟨by rw [HSA.out, decide_eq_false (by omega)]; rfl, rfl⟩
  case rest =>
  obtain ⟨rfl, rfl⟩ := hcut
  clear HSB HSA HSb HSa
  obtain ⟨l, hl⟩ : ∃ q, q = (!sa && (!pa || sb || pb)) := ⟨_, rfl⟩
  obtain ⟨r, hr⟩ : ∃ q, q = (!sb && (!pb || sa || pa)) := ⟨_, rfl⟩
  simp only [← hl, ← hr] at HF
  go_upto_region 3 with fail
  go_cut [10] (fun s10 wx => s10 = .bool l ∧ w = wx)
  case first =>
    clear hr HF
    cases sb <;> cases sa <;> cases pb <;> cases pa <;> simp at hl <;> subst hl
    all_goals
      go_wp2_with (go_at_call 17; (first | with_reducible refine (HPa.out _).mono ?_ | with_reducible refine (HPb.out _).mono ?_); rintro e w1 ⟨rfl, rfl⟩)
      go_meet
      case rel => exact ⟨rfl, rfl⟩
  case rest =>
  obtain ⟨rfl, rfl⟩ := hcut
  clear hl
  go_upto_region 4 with fail
  go_cut [11] (fun s11 wx => s11 = .bool r ∧ w = wx)
  case first =>
    clear HF
    cases sb <;> cases sa <;> cases pb <;> cases pa <;> simp at hr <;> subst hr
    all_goals
      go_wp2_with (go_at_call 17; (first | with_reducible refine (HPa.out _).mono ?_ | with_reducible refine (HPb.out _).mono ?_); rintro e w1 ⟨rfl, rfl⟩)
      go_meet
      case rel => exact ⟨rfl, rfl⟩
  case rest =>
      obtain ⟨rfl, rfl⟩ := hcut
      clear hr
      by_cases c1 : ch.toList = [42]
      · have HG : Hid (F = (l, r)) := Lib.hid (by rw [HF.out, if_pos (.inl c1)])
        have z1 : (ch.toList == ([42] : List UInt8)) = true := beq_iff_eq.2 c1
        clear c1 HF
        go_wp2_with fail
        go_ret2
        exact ⟨by rw [HG.out]; rfl, rfl⟩
      · have z1 : (ch.toList == ([42] : List UInt8)) = false := beq_eq_false_iff_ne.2 c1
        by_cases c2 : ch.toList = [126]
        · have HG : Hid (F = (l, r)) := Lib.hid (by rw [HF.out, if_pos (.inr c2)])
          have z2 : (ch.toList == ([126] : List UInt8)) = true := beq_iff_eq.2 c2
          clear c1 c2 HF
          go_wp2_with fail
          go_ret2
          exact ⟨by rw [HG.out]; rfl, rfl⟩
        · have z2 : (ch.toList == ([126] : List UInt8)) = false := beq_eq_false_iff_ne.2 c2
          by_cases c3 : ch.toList = [95]
          · have HG : Hid (F = (l && (!r || pb), r && (!l || pa))) := Lib.hid (by rw [HF.out, if_neg (by simp [c1, c2]), if_pos c3])
            have z3 : (ch.toList == ([95] : List UInt8)) = true := beq_iff_eq.2 c3
            clear c1 c2 c3 HF
            cases l <;> cases r
            all_goals
              go_wp2_with (go_at_call 17; (first | with_reducible refine (HPa.out _).mono ?_ | with_reducible refine (HPb.out _).mono ?_); rintro e w1 ⟨rfl, rfl⟩)
              go_ret2
              exact ⟨by rw [HG.out]; simp, rfl⟩
          · have HG : Hid (F = (false, false)) := Lib.hid (by rw [HF.out, if_neg (by simp [c1, c2]), if_neg c3])
            have z3 : (ch.toList == ([95] : List UInt8)) = false := beq_eq_false_iff_ne.2 c3
            clear c1 c2 c3 HF
            go_wp2_with fail
            go_ret2
            exact ⟨by rw [HG.out]; rfl, rfl⟩

end Go.Proofs.YtcjkgmfidkgamaaDoor
namespace Go.Proofs.YtcjkgmfidkgamaaDoor
open Go.RowKit Go.Pub
/-- The cells of a piece. -/
def pcC (p : PcL) (A1 : Option Addr) (c1 : Nat) (A2 : Option Addr) (c2 : Nat) : Array Value :=
  #[.int .i64 p.kind, .int .i64 p.inl.kind, .string p.inl.text, .string p.inl.dest, .string p.inl.title, .string ⟨#[]⟩, .slice none 0 0, .slice none 0 0, .slice A1 p.inl.args.length c1, .slice A2 p.inl.cites.length c2, .slice none 0 0, .string p.ch, .int .i64 p.n, .bool p.opn, .bool p.clo, .bool p.img, .int .i64 p.bg, .int .i64 p.nd]
def zPc : Array Value := #[.int .i64 0, .int .i64 0, .string ⟨#[]⟩, .string ⟨#[]⟩, .string ⟨#[]⟩, .string ⟨#[]⟩, .slice none 0 0, .slice none 0 0, .slice none 0 0, .slice none 0 0, .slice none 0 0, .string ⟨#[]⟩, .int .i64 0, .bool false, .bool false, .bool false, .int .i64 0, .int .i64 0]
theorem pc_facts {W : World} {g : Nat} {T : TypeId} {x0 x1 x2 x3 x4 x5 x6 x7 x8 x9 x10 x11 x12 x13 x14 x15 x16 x17 : Value} (h : Blk W g T #[x0, x1, x2, x3, x4, x5, x6, x7, x8, x9, x10, x11, x12, x13, x14, x15, x16, x17]) : W.cell? ⟨g, 0, none⟩ = some x0 ∧ W.cell? ⟨g, 1, none⟩ = some x1 ∧ W.cell? ⟨g, 2, none⟩ = some x2 ∧ W.cell? ⟨g, 3, none⟩ = some x3 ∧ W.cell? ⟨g, 4, none⟩ = some x4 ∧ W.cell? ⟨g, 5, none⟩ = some x5 ∧ W.cell? ⟨g, 6, none⟩ = some x6 ∧ W.cell? ⟨g, 7, none⟩ = some x7 ∧ W.cell? ⟨g, 8, none⟩ = some x8 ∧ W.cell? ⟨g, 9, none⟩ = some x9 ∧ W.cell? ⟨g, 10, none⟩ = some x10 ∧ W.cell? ⟨g, 11, none⟩ = some x11 ∧ W.cell? ⟨g, 12, none⟩ = some x12 ∧ W.cell? ⟨g, 13, none⟩ = some x13 ∧ W.cell? ⟨g, 14, none⟩ = some x14 ∧ W.cell? ⟨g, 15, none⟩ = some x15 ∧ W.cell? ⟨g, 16, none⟩ = some x16 ∧ W.cell? ⟨g, 17, none⟩ = some x17 ∧ W.frozen? ⟨g, 0, none⟩ = false ∧ W.frozen? ⟨g, 1, none⟩ = false ∧ W.frozen? ⟨g, 2, none⟩ = false ∧ W.frozen? ⟨g, 3, none⟩ = false ∧ W.frozen? ⟨g, 4, none⟩ = false ∧ W.frozen? ⟨g, 5, none⟩ = false ∧ W.frozen? ⟨g, 6, none⟩ = false ∧ W.frozen? ⟨g, 7, none⟩ = false ∧ W.frozen? ⟨g, 8, none⟩ = false ∧ W.frozen? ⟨g, 9, none⟩ = false ∧ W.frozen? ⟨g, 10, none⟩ = false ∧ W.frozen? ⟨g, 11, none⟩ = false ∧ W.frozen? ⟨g, 12, none⟩ = false ∧ W.frozen? ⟨g, 13, none⟩ = false ∧ W.frozen? ⟨g, 14, none⟩ = false ∧ W.frozen? ⟨g, 15, none⟩ = false ∧ W.frozen? ⟨g, 16, none⟩ = false ∧ W.frozen? ⟨g, 17, none⟩ = false :=
  ⟨h.cell 0, h.cell 1, h.cell 2, h.cell 3, h.cell 4, h.cell 5, h.cell 6, h.cell 7, h.cell 8, h.cell 9, h.cell 10, h.cell 11, h.cell 12, h.cell 13, h.cell 14, h.cell 15, h.cell 16, h.cell 17, h.frozen 0, h.frozen 1, h.frozen 2, h.frozen 3, h.frozen 4, h.frozen 5, h.frozen 6, h.frozen 7, h.frozen 8, h.frozen 9, h.frozen 10, h.frozen 11, h.frozen 12, h.frozen 13, h.frozen 14, h.frozen 15, h.frozen 16, h.frozen 17⟩
theorem pc_size : (Tryd.prog.info? 35).map (·.size) = some 18 := by kernel_rfl
theorem pc_ret {F : Func} {a b : Nat} {W : World} {g : Nat} {x0 x1 x2 x3 x4 x5 x6 x7 x8 x9 x10 x11 x12 x13 x14 x15 x16 x17 : Value} {u : Value} {P : Ending → World → Prop} {act : Act} (hF : F.results = #[ResultVar.cell a 35, ResultVar.tmp b]) (hr : Blk W g 35 #[x0, x1, x2, x3, x4, x5, x6, x7, x8, x9, x10, x11, x12, x13, x14, x15, x16, x17]) (h4 : act.tmps.getD a undef = .pointer (some ⟨g, 0, none⟩)) (h5 : act.tmps.getD b undef = u) (hd : act.defers = []) (hP : P (.returned (.tuple #[.agg #[x0, x1, x2, x3, x4, x5, x6, x7, x8, x9, x10, x11, x12, x13, x14, x15, x16, x17], u])) W) : bodyPost Tryd.prog F P Exit.ret act W := by
  refine bodyPost_ret (v := .tuple #[.agg #[x0, x1, x2, x3, x4, x5, x6, x7, x8, x9, x10, x11, x12, x13, x14, x15, x16, x17], u]) ?_ hd hP
  have hl := run_loadVar_row (P := Tryd.prog) W g 35 35 #[x0, x1, x2, x3, x4, x5, x6, x7, x8, x9, x10, x11, x12, x13, x14, x15, x16, x17] (0, 0) _ hr Tryd.underlying35 rfl pc_size
  rw [Array.getD_eq_getD_getElem?] at h4 h5
  simp [results, hF, h4, h5, asAddr, hl]
theorem pc_ret1 {F : Func} {a : Nat} {W : World} {g : Nat} {x0 x1 x2 x3 x4 x5 x6 x7 x8 x9 x10 x11 x12 x13 x14 x15 x16 x17 : Value} {P : Ending → World → Prop} {act : Act} (hF : F.results = #[ResultVar.cell a 35]) (hr : Blk W g 35 #[x0, x1, x2, x3, x4, x5, x6, x7, x8, x9, x10, x11, x12, x13, x14, x15, x16, x17]) (h4 : act.tmps.getD a undef = .pointer (some ⟨g, 0, none⟩)) (hd : act.defers = []) (hP : P (.returned (.agg #[x0, x1, x2, x3, x4, x5, x6, x7, x8, x9, x10, x11, x12, x13, x14, x15, x16, x17])) W) : bodyPost Tryd.prog F P Exit.ret act W := by
  refine bodyPost_ret (v := .agg #[x0, x1, x2, x3, x4, x5, x6, x7, x8, x9, x10, x11, x12, x13, x14, x15, x16, x17]) ?_ hd hP
  have hl := run_loadVar_row (P := Tryd.prog) W g 35 35 #[x0, x1, x2, x3, x4, x5, x6, x7, x8, x9, x10, x11, x12, x13, x14, x15, x16, x17] (0, 0) _ hr Tryd.underlying35 rfl pc_size
  rw [Array.getD_eq_getD_getElem?] at h4
  simp [results, hF, h4, asAddr, hl]
set_option maxRecDepth 100000 in
set_option maxHeartbeats 1000000 in
theorem s_literal (s : ByteArray) (i e : Nat) (w : World) (hs : s.size ≤ 1000000) (hie : i ≤ e) (he : e ≤ s.size) : Calls Tryd.prog 35 #[.string s, .int .i64 i, .int .i64 e] w fun r w' => r = .returned (.agg (pcC { inl := spn 1 (s.extract i e), nd := e } none 0 none 0)) ∧ Below w.heap.size w w' := by
  go_enter Tryd.func35, Tryd.ntmps35
  go_wp2_with fail
  exact pc_ret1 Tryd.results35 (Blk.new w _ _) rfl rfl ⟨rfl, (Below.refl _ w).alloc (Nat.le_refl _) _⟩

end Go.Proofs.YtcjkgmfidkgamaaDoor
namespace Go.Pub
theorem piece_run {s : ByteArray} {i : Nat} (h : bt s i = 42 ∨ bt s i = 95 ∨ bt s i = 126) : pieceA s i = if bt s i = 126 ∧ runE s i - i ≠ 2 then (litP s i (runE s i), true) else (runI s i, false) := by
  rcases h with h | h | h
  · have : spec s i = some (runI s i) := by unfold spec; simp [h]
    unfold pieceA
    rw [this, if_neg (by omega)]
  · have : spec s i = some (runI s i) := by unfold spec; simp [h]
    unfold pieceA
    rw [this, if_neg (by omega)]
  · by_cases h2 : runE s i - i = 2
    · have : spec s i = some (runI s i) := by unfold spec; simp [h, h2]
      unfold pieceA
      rw [this, if_neg (by omega)]
    · have : spec s i = none := by unfold spec; simp [h, h2]
      unfold pieceA
      rw [this, if_pos ⟨h, h2⟩]
      unfold litE
      rw [if_pos (.inr (.inr h))]
def noBg (p : PcL) : PcL := { p with bg := 0 }
end Go.Pub
namespace Go.Proofs.YtcjkgmfidkgamaaDoor
open Go.RowKit Go.Pub
theorem in_size : (Tryd.prog.info? 33).map (·.size) = some 10 := by kernel_rfl
theorem row_blk {W : World} {g : Nat} {T : TypeId} {old : Array Value} (h : Blk W g T old) (cs : Array Value) : Blk (W.setRow g cs) g T cs := setRow_heap W g old cs T _ h
theorem row_far (W : World) (g : Nat) (cs : Array Value) (k : Nat) (h : k ≠ g) : (W.setRow g cs).heap[k]? = W.heap[k]? := by
  unfold World.setRow
  simp only [Array.getElem?_modify]
  rw [if_neg (Ne.symm h)]
theorem row_size (W : World) (g : Nat) (cs : Array Value) : (W.setRow g cs).heap.size = W.heap.size := by unfold World.setRow; simp
theorem row_below {B : Nat} {w W : World} (h : Below B w W) {g : Nat} (hg : B ≤ g) (cs : Array Value) : Below B w (W.setRow g cs) :=
  ⟨h.os, h.tape, h.output, by rw [row_size]; exact h.size, fun k hk => (row_far W g cs k (by omega)).trans (h.block k hk)⟩
/-- A piece and whether its bytes stand for themselves. -/
def PcPost (p : PcL) (pl : Bool) (w : World) (e : Ending) (w' : World) : Prop :=
  Below w.heap.size w w' ∧ ∃ A1 c1 A2 c2, e = .returned (.tuple #[.agg (pcC p A1 c1 A2 c2), .bool pl]) ∧ InR w' (Rg w.heap.size w') p.inl A1 A2
theorem pc_plain {p : PcL} {pl : Bool} {w w' : World} {v : Value} (hb : Below w.heap.size w w') (hv : v = .agg (pcC p none 0 none 0)) (h1 : p.inl.args = []) (h2 : p.inl.cites = []) : PcPost p pl w (.returned (.tuple #[v, .bool pl])) w' := by
  subst hv
  exact ⟨hb, none, 0, none, 0, rfl, InR.plain _ _ _ _ _ h1 h2⟩
set_option maxRecDepth 100000 in
set_option maxHeartbeats 4000000 in
theorem s_run (s : ByteArray) (i b1 b2 : Nat) (w : World) (hs : s.size ≤ 1000000) (hi : i < s.size) (hb : bt s i = 42 ∨ bt s i = 95 ∨ bt s i = 126) :
    Calls Tryd.prog 44 #[rdrV s b1 b2, .int .i64 i] w (PcPost (noBg (pieceA s i).1) (pieceA s i).2 w) := by
  obtain ⟨hE1, hE2⟩ := runE_bd s i hi
  have HR := Lib.hid fun W => s_runEnd s i W hs hi
  have HL := Lib.hid fun W => s_literal s i (runE s i) W hs (by omega) hE2
  have HN := Lib.hid fun W => next_any s ((runE s i : Nat) : Int) W (by omega)
  have HB := Lib.hid fun W => s_before s i W hs (by omega)
  have HF := Lib.hid fun W => s_flank (s.extract i (i + 1)) (befC s i) (nextAt s (runE s i)).1 W
  have hg := get_bt s i hi
  obtain ⟨R, hR⟩ : ∃ R, R = pieceA s i := ⟨_, rfl⟩
  rw [← hR]
  rw [piece_run hb] at hR
  have HQ1 : Hid (bt s i = 126 → runE s i - i ≠ 2 → R = (litP s i (runE s i), true)) := Lib.hid fun h1 h2 => by rw [hR, if_pos ⟨h1, h2⟩]
  have HQ2 : Hid (¬ (bt s i = 126 ∧ runE s i - i ≠ 2) → R = (runI s i, false)) := Lib.hid fun h => by rw [hR, if_neg h]
  have HI : Hid (runI s i = { kind := 1, ch := s.extract i (i + 1), n := runE s i - i, opn := (flankL (s.extract i (i + 1)) (befC s i) (nextAt s (runE s i)).1).1, clo := (flankL (s.extract i (i + 1)) (befC s i) (nextAt s (runE s i)).1).2, bg := i, nd := runE s i }) := Lib.hid rfl
  have hbx : ∀ W0 : World, Below (w.heap.size + 2) ((w.alloc (.cells #[.string s, .map (some b1), .map (some b2)] 64)).alloc (.cells zPc 35)) W0 → Blk W0 w.heap.size 64 #[.string s, .map (some b1), .map (some b2)] ∧ Blk W0 (w.heap.size + 1) 35 zPc ∧ Below w.heap.size w W0 := fun W0 hb => by
    have hw0 : Below w.heap.size w W0 := (((Below.refl _ _).alloc (Nat.le_refl _) _).alloc (by simp) _).trans (hb.mono (by omega))
    refine ⟨((Blk.new w _ _).alloc _).below hb (by omega), ?_, hw0⟩
    have := Blk.new (w.alloc (.cells #[.string s, .map (some b1), .map (some b2)] 64)) 35 zPc
    rw [World.size_alloc] at this
    exact this.below hb (by omega)
  have HBX := Lib.hid hbx
  clear hR hbx
  generalize runI s i = RI at *
  generalize runE s i = E at *
  generalize flankL (s.extract i (i + 1)) (befC s i) (nextAt s E).1 = F at *
  generalize befC s i = bc at *
  generalize nextAt s E = X at *
  unfold rdrV
  by_cases hlit : bt s i = 126 ∧ E - i ≠ 2
  · have HQ := Lib.hid (HQ1.out hlit.1 hlit.2)
    have z1 : ((E : Int) - (i : Int) != 2) = true := bne_iff_ne.2 (by omega)
    rw [hlit.1] at hg
    clear HQ1 HQ2 hlit hb HN HB HF
    go_enter Tryd.func44, Tryd.ntmps44
    go_wp2_with fail
    ((with_reducible refine (HR.out _).mono ?_))
    rintro e W1 ⟨rfl, q1⟩
    simp only [World.size_alloc] at q1
    have X1 := Lib.hid q1
    obtain ⟨x1, x2, x3⟩ := HBX.out W1 q1
    have r0 : W1.cell? ⟨w.heap.size, 0, none⟩ = some (.string s) := x1.cell 0
    have hz1 := x2.lt
    clear x1 x2 x3 q1
    go_wp2_with fail
    ((with_reducible refine (HL.out _).mono ?_))
    rintro e W2 ⟨rfl, q2⟩
    have X2 := Lib.hid (X1.out.trans (q2.mono (by omega)))
    obtain ⟨x1, x2, x3⟩ := HBX.out W2 X2.out
    have HB2 := Lib.hid x2
    have HW2 := Lib.hid x3
    clear x1 x2 x3 q2 r0 X1 HBX HR HL
    go_wp2_with (refine wpList_store_row rfl 35 (.tmp 4) _ rfl _ _ rfl rfl _ _ HB2.out pc_size (by rfl) (by simp [pcC, Value.oneCell']) ?_)
    refine pc_ret Tryd.results44 (row_blk HB2.out _) rfl rfl rfl ?_
    rw [HQ.out]
    exact pc_plain (row_below HW2.out (by omega) _) rfl rfl rfl
  · have HQ := Lib.hid ((HQ2.out hlit).trans (by rw [HI.out]))
    have hen : E - i = 2 ∨ bt s i = 42 ∨ bt s i = 95 := by omega
    have hei : ((E - i : Nat) : Int) = (E : Int) - (i : Int) := by omega
    have hz2 : bt s i = 126 → ((E : Int) - (i : Int) != 2) = false := fun h => by rw [show (E : Int) - (i : Int) = 2 by omega]; rfl
    have hsl : i ≤ i + 1 := by omega
    clear HQ1 HQ2 hlit HL HI
    rcases hb with h | h | h
    all_goals
      rw [h] at hg
      have hz3 := hz2
      rw [h] at hz3
      have z1 := hz3
      clear hz3 hz2 hen h
      try (have z2 := z1 rfl)
      clear z1
      go_enter Tryd.func44, Tryd.ntmps44
      go_wp2_with fail
      ((with_reducible refine (HR.out _).mono ?_))
      rintro e W1 ⟨rfl, q1⟩
      simp only [World.size_alloc] at q1
      have X1 := Lib.hid q1
      obtain ⟨x1, x2, x3⟩ := HBX.out W1 q1
      have r0 : W1.cell? ⟨w.heap.size, 0, none⟩ = some (.string s) := x1.cell 0
      have hz1 := x2.lt
      clear x1 x2 x3 q1
      go_wp2_with fail
      ((with_reducible refine (HN.out _).mono ?_))
      rintro e W2 ⟨rfl, q, rfl⟩
      have X2 := Lib.hid (below_drewN X1.out q)
      have hz2 : W1.heap.size = (W1.drewN q).heap.size := rfl
      rw [hz2] at hz1
      clear hz2 r0 X1
      generalize W1.drewN q = W2 at *
      obtain ⟨x1, x2, x3⟩ := HBX.out W2 X2.out
      have r0 : W2.cell? ⟨w.heap.size, 0, none⟩ = some (.string s) := x1.cell 0
      clear x1 x2 x3
      go_wp2_with fail
      ((with_reducible refine (HB.out _).mono ?_))
      rintro e W3 ⟨rfl, q3⟩
      have X3 := Lib.hid (X2.out.trans (q3.mono (by omega)))
      clear r0 q3 X2
      go_wp2_with fail
      ((with_reducible refine (HF.out _).mono ?_))
      rintro e W4 ⟨rfl, rfl⟩
      obtain ⟨x1, x2, x3⟩ := HBX.out W3 X3.out
      have HB2 := Lib.hid x2
      have HW2 := Lib.hid x3
      clear x1 x2 x3 HBX HR HN HB HF
      go_wp2_with (refine wpList_store_row rfl 35 (.tmp 4) _ rfl _ _ rfl rfl _ _ HB2.out pc_size (by rfl) (by simp [pcC, Value.oneCell']) ?_)
      refine pc_ret Tryd.results44 (row_blk HB2.out _) rfl rfl rfl ?_
      rw [HQ.out]
      exact pc_plain (row_below HW2.out (by omega) _) (by unfold pcC noBg; simp only [hei]; rfl) rfl rfl

/-- The closure writes an inline and its end into two blocks. -/
def FndPost (gi gt : Nat) (vs : Array Value) (n : Int) (w : World) (e : Ending) (w' : World) : Prop :=
  e = .returned (.bool (decide (0 < n))) ∧ Blk w' gi 33 vs ∧ Blk w' gt 3 #[.int .i64 n] ∧ (∀ B, B ≤ gi → B ≤ gt → B ≤ w.heap.size → Below B w w') ∧ ∀ k, k < w.heap.size → k ≠ gi → k ≠ gt → w'.heap[k]? = w.heap[k]?
set_option maxRecDepth 100000 in
set_option maxHeartbeats 4000000 in
theorem s_found (gi gt : Nat) (n m : Int) (k : Int) (t d ti : ByteArray) (A1' : Option Addr) (n1 c1' : Nat) (A2' : Option Addr) (n2 c2' : Nat) (x0 x1 x2 x3 x4 x5 x6 x7 x8 x9 : Value) (w : World) (h1 : Blk w gi 33 #[x0, x1, x2, x3, x4, x5, x6, x7, x8, x9]) (h2 : Blk w gt 3 #[.int .i64 m]) (hne : gi ≠ gt) :
    Calls Tryd.prog 32 #[.agg #[.int .i64 k, .string t, .string d, .string ti, .string ⟨#[]⟩, .slice none 0 0, .slice none 0 0, .slice A1' n1 c1', .slice A2' n2 c2', .slice none 0 0], .int .i64 n, .pointer (some ⟨gi, 0, none⟩), .pointer (some ⟨gt, 0, none⟩)] w (FndPost gi gt #[.int .i64 k, .string t, .string d, .string ti, .string ⟨#[]⟩, .slice none 0 0, .slice none 0 0, .slice A1' n1 c1', .slice A2' n2 c2', .slice none 0 0] n w) := by
  have A0 : Blk (w.alloc (.cells #[.int .i64 k, .string t, .string d, .string ti, .string ⟨#[]⟩, .slice none 0 0, .slice none 0 0, .slice A1' n1 c1', .slice A2' n2 c2', .slice none 0 0] 33)) w.heap.size 33 #[.int .i64 k, .string t, .string d, .string ti, .string ⟨#[]⟩, .slice none 0 0, .slice none 0 0, .slice A1' n1 c1', .slice A2' n2 c2', .slice none 0 0] := Blk.new w _ _
  have A1 := h1.alloc (.cells #[.int .i64 k, .string t, .string d, .string ti, .string ⟨#[]⟩, .slice none 0 0, .slice none 0 0, .slice A1' n1 c1', .slice A2' n2 c2', .slice none 0 0] 33)
  have A2 := h2.alloc (.cells #[.int .i64 k, .string t, .string d, .string ti, .string ⟨#[]⟩, .slice none 0 0, .slice none 0 0, .slice A1' n1 c1', .slice A2' n2 c2', .slice none 0 0] 33)
  have AB : Hid (∀ B, B ≤ w.heap.size → Below B w (w.alloc (.cells #[.int .i64 k, .string t, .string d, .string ti, .string ⟨#[]⟩, .slice none 0 0, .slice none 0 0, .slice A1' n1 c1', .slice A2' n2 c2', .slice none 0 0] 33))) := Lib.hid fun B hB => (Below.refl B w).alloc hB _
  have AK : Hid (∀ q, q < w.heap.size → (w.alloc (.cells #[.int .i64 k, .string t, .string d, .string ti, .string ⟨#[]⟩, .slice none 0 0, .slice none 0 0, .slice A1' n1 c1', .slice A2' n2 c2', .slice none 0 0] 33)).heap[q]? = w.heap[q]?) := Lib.hid fun q hk => Below.heap_alloc w _ q hk
  have hl1 := h1.lt
  have hl2 := h2.lt
  clear h1 h2
  go_enter Tryd.func32, Tryd.ntmps32
  go_upto_region 1 with fail
  obtain ⟨gb, hgb⟩ : ∃ g, g = w.heap.size := ⟨_, rfl⟩
  rw [← hgb] at A0 hl1 hl2 AB AK ⊢
  have HGB := Lib.hid hgb
  clear hgb
  generalize w.alloc (.cells #[.int .i64 k, .string t, .string d, .string ti, .string ⟨#[]⟩, .slice none 0 0, .slice none 0 0, .slice A1' n1 c1', .slice A2' n2 c2', .slice none 0 0] 33) = W at *
  have h1 := Lib.hid A1
  have h2 := Lib.hid A2
  obtain ⟨d0, d1, d2, d3, d4, d5, d6, d7, d8, d9, _⟩ := in_facts A0
  have R1 := Lib.hid (row_blk A1 #[.int .i64 k, .string t, .string d, .string ti, .string ⟨#[]⟩, .slice none 0 0, .slice none 0 0, .slice A1' n1 c1', .slice A2' n2 c2', .slice none 0 0])
  clear A0 A1 A2
  go_wp2_with (refine wpList_store_row rfl 33 (.tmp 2) _ rfl _ _ rfl rfl _ _ h1.out in_size (by rfl) (by simp [Value.oneCell']) ?_; have e0 := (show Blk _ gt 3 #[.int .i64 m] from (row_far W gi #[.int .i64 k, .string t, .string d, .string ti, .string ⟨#[]⟩, .slice none 0 0, .slice none 0 0, .slice A1' n1 c1', .slice A2' n2 c2', .slice none 0 0] gt hne.symm).trans h2.out).cell 0; have e1 := (show Blk _ gt 3 #[.int .i64 m] from (row_far W gi #[.int .i64 k, .string t, .string d, .string ti, .string ⟨#[]⟩, .slice none 0 0, .slice none 0 0, .slice A1' n1 c1', .slice A2' n2 c2', .slice none 0 0] gt hne.symm).trans h2.out).frozen 0; simp at e0)
  go_ret
  refine ⟨rfl, ?_, ?_, fun B hB1 hB2 hB => ?_, fun q hk h3 h4 => ?_⟩
  · exact R1.out.far (p := ⟨gt, 0, none⟩) hne _
  · have := (show Blk _ gt 3 #[.int .i64 m] from (row_far W gi #[.int .i64 k, .string t, .string d, .string ti, .string ⟨#[]⟩, .slice none 0 0, .slice none 0 0, .slice A1' n1 c1', .slice A2' n2 c2', .slice none 0 0] gt hne.symm).trans h2.out).set_ 0 (.int .i64 n)
    simpa using this
  · exact (row_below (AB.out B (by have := HGB.out; omega)) hB1 _).setCell (p := ⟨gt, 0, none⟩) hB2 _
  · exact (Below.heap_setCell _ ⟨gt, 0, none⟩ _ q h4).trans ((row_far W gi _ q h3).trans (AK.out q (by have := HGB.out; omega)))

end Go.Proofs.YtcjkgmfidkgamaaDoor
