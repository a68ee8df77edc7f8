/-
  Texts of the proof, put together (what this law reaches): ScAG, ScS, ScQ, ScAH, ScAI, ScAJ, ScAK.
-/
import Derived.Test.YtcjkgmfidkgamaaGreatDoorC07
import Derived.Test.YtcjkgmfidkgamaaGreatDoorC04
import Derived.Laws.Tables
import Derived.Test.YtcjkgmfidkgamaaGreatDoorC05
import Derived.Test.YtcjkgmfidkgamaaGreatDoorC02
import Derived.WalkKit
import Derived.WalkSpells
import Derived.Lib.Builder
import Derived.Lib.OthersKept
import Derived.Lib.FrozenHead2
import Derived.Lib.RuneBytes
import Derived.Test.YtcjkgmfidkgamaaGreatDoorC01
import Derived.Test.YtcjkgmfidkgamaaGreatDoorC03
import Derived.Deep.AppendLies
import Derived.Test.YtcjkgmfidkgamaaGreatDoorC06
import Derived.Deep.DeepCutAuto
import Derived.WalkMore
set_option linter.unusedVariables false
set_option linter.unusedSimpArgs false
namespace Go.Pub
theorem piece_run {s : ByteArray} {i : Nat} (h : bt s i = 42 ∨ bt s i = 95 ∨ bt s i = 126) : pieceA s i = if bt s i = 126 ∧ runE s i - i ≠ 2 then (litP s i (runE s i), true) else (runI s i, false) := by
  rcases h with h | h | h
  · have : spec s i = some (runI s i) := by unfold spec; simp [h]
    unfold pieceA
    rw [this, if_neg (by omega)]
  · have : spec s i = some (runI s i) := by unfold spec; simp [h]
    unfold pieceA
    rw [this, if_neg (by omega)]
  · by_cases h2 : runE s i - i = 2
    · have : spec s i = some (runI s i) := by unfold spec; simp [h, h2]
      unfold pieceA
      rw [this, if_neg (by omega)]
    · have : spec s i = none := by unfold spec; simp [h, h2]
      unfold pieceA
      rw [this, if_pos ⟨h, h2⟩]
      unfold litE
      rw [if_pos (.inr (.inr h))]
def noBg (p : PcL) : PcL := { p with bg := 0 }
end Go.Pub
namespace Go.Proofs.YtcjkgmfidkgamaaGreatDoor
open Go.RowKit Go.Pub
theorem in_size : (Tryz.prog.info? 34).map (·.size) = some 10 := by kernel_rfl
theorem row_blk {W : World} {g : Nat} {T : TypeId} {old : Array Value} (h : Blk W g T old) (cs : Array Value) : Blk (W.setRow g cs) g T cs := setRow_heap W g old cs T _ h
theorem row_far (W : World) (g : Nat) (cs : Array Value) (k : Nat) (h : k ≠ g) : (W.setRow g cs).heap[k]? = W.heap[k]? := by
  unfold World.setRow
  simp only [Array.getElem?_modify]
  rw [if_neg (Ne.symm h)]
theorem row_size (W : World) (g : Nat) (cs : Array Value) : (W.setRow g cs).heap.size = W.heap.size := by unfold World.setRow; simp
theorem row_below {B : Nat} {w W : World} (h : Below B w W) {g : Nat} (hg : B ≤ g) (cs : Array Value) : Below B w (W.setRow g cs) :=
  ⟨h.os, h.tape, h.output, by rw [row_size]; exact h.size, fun k hk => (row_far W g cs k (by omega)).trans (h.block k hk)⟩
/-- A piece and whether its bytes stand for themselves. -/
def PcPost (p : PcL) (pl : Bool) (w : World) (e : Ending) (w' : World) : Prop :=
  Below w.heap.size w w' ∧ ∃ A1 c1 A2 c2, e = .returned (.tuple #[.agg (pcC p A1 c1 A2 c2), .bool pl]) ∧ InR w' (Rg w.heap.size w') p.inl A1 A2
theorem pc_plain {p : PcL} {pl : Bool} {w w' : World} {v : Value} (hb : Below w.heap.size w w') (hv : v = .agg (pcC p none 0 none 0)) (h1 : p.inl.args = []) (h2 : p.inl.cites = []) : PcPost p pl w (.returned (.tuple #[v, .bool pl])) w' := by
  subst hv
  exact ⟨hb, none, 0, none, 0, rfl, InR.plain _ _ _ _ _ h1 h2⟩
set_option maxRecDepth 100000 in
set_option maxHeartbeats 4000000 in
theorem s_run (s : ByteArray) (i b1 b2 : Nat) (w : World) (hs : s.size ≤ 1000000) (hi : i < s.size) (hb : bt s i = 42 ∨ bt s i = 95 ∨ bt s i = 126) :
    Calls Tryz.prog 84 #[rdrV s b1 b2, .int .i64 i] w (PcPost (noBg (pieceA s i).1) (pieceA s i).2 w) := by
  obtain ⟨hE1, hE2⟩ := runE_bd s i hi
  have HR := Lib.hid fun W => s_runEnd s i W hs hi
  have HL := Lib.hid fun W => s_literal s i (runE s i) W hs (by omega) hE2
  have HN := Lib.hid fun W => next_any s ((runE s i : Nat) : Int) W (by omega)
  have HB := Lib.hid fun W => s_before s i W hs (by omega)
  have HF := Lib.hid fun W => s_flank (s.extract i (i + 1)) (befC s i) (nextAt s (runE s i)).1 W
  have hg := get_bt s i hi
  obtain ⟨R, hR⟩ : ∃ R, R = pieceA s i := ⟨_, rfl⟩
  rw [← hR]
  rw [piece_run hb] at hR
  have HQ1 : Hid (bt s i = 126 → runE s i - i ≠ 2 → R = (litP s i (runE s i), true)) := Lib.hid fun h1 h2 => by rw [hR, if_pos ⟨h1, h2⟩]
  have HQ2 : Hid (¬ (bt s i = 126 ∧ runE s i - i ≠ 2) → R = (runI s i, false)) := Lib.hid fun h => by rw [hR, if_neg h]
  have HI : Hid (runI s i = { kind := 1, ch := s.extract i (i + 1), n := runE s i - i, opn := (flankL (s.extract i (i + 1)) (befC s i) (nextAt s (runE s i)).1).1, clo := (flankL (s.extract i (i + 1)) (befC s i) (nextAt s (runE s i)).1).2, bg := i, nd := runE s i }) := Lib.hid rfl
  have hbx : ∀ W0 : World, Below (w.heap.size + 2) ((w.alloc (.cells #[.string s, .map (some b1), .map (some b2)] 79)).alloc (.cells zPc 36)) W0 → Blk W0 w.heap.size 79 #[.string s, .map (some b1), .map (some b2)] ∧ Blk W0 (w.heap.size + 1) 36 zPc ∧ Below w.heap.size w W0 := fun W0 hb => by
    have hw0 : Below w.heap.size w W0 := (((Below.refl _ _).alloc (Nat.le_refl _) _).alloc (by simp) _).trans (hb.mono (by omega))
    refine ⟨((Blk.new w _ _).alloc _).below hb (by omega), ?_, hw0⟩
    have := Blk.new (w.alloc (.cells #[.string s, .map (some b1), .map (some b2)] 79)) 36 zPc
    rw [World.size_alloc] at this
    exact this.below hb (by omega)
  have HBX := Lib.hid hbx
  clear hR hbx
  generalize runI s i = RI at *
  generalize runE s i = E at *
  generalize flankL (s.extract i (i + 1)) (befC s i) (nextAt s E).1 = F at *
  generalize befC s i = bc at *
  generalize nextAt s E = X at *
  unfold rdrV
  by_cases hlit : bt s i = 126 ∧ E - i ≠ 2
  · have HQ := Lib.hid (HQ1.out hlit.1 hlit.2)
    have z1 : ((E : Int) - (i : Int) != 2) = true := bne_iff_ne.2 (by omega)
    rw [hlit.1] at hg
    clear HQ1 HQ2 hlit hb HN HB HF
    go_enter Tryz.func84, Tryz.ntmps84
    go_wp2_with fail
    ((with_reducible refine (HR.out _).mono ?_))
    rintro e W1 ⟨rfl, q1⟩
    simp only [World.size_alloc] at q1
    have X1 := Lib.hid q1
    obtain ⟨x1, x2, x3⟩ := HBX.out W1 q1
    have r0 : W1.cell? ⟨w.heap.size, 0, none⟩ = some (.string s) := x1.cell 0
    have hz1 := x2.lt
    clear x1 x2 x3 q1
    go_wp2_with fail
    ((with_reducible refine (HL.out _).mono ?_))
    rintro e W2 ⟨rfl, q2⟩
    have X2 := Lib.hid (X1.out.trans (q2.mono (by omega)))
    obtain ⟨x1, x2, x3⟩ := HBX.out W2 X2.out
    have HB2 := Lib.hid x2
    have HW2 := Lib.hid x3
    clear x1 x2 x3 q2 r0 X1 HBX HR HL
    go_wp2_with (refine wpList_store_row rfl 36 (.tmp 4) _ rfl _ _ rfl rfl _ _ HB2.out pc_size (by rfl) (by simp [pcC, Value.oneCell']) ?_)
    refine pc_ret Tryz.results84 (row_blk HB2.out _) rfl rfl rfl ?_
    rw [HQ.out]
    exact pc_plain (row_below HW2.out (by omega) _) rfl rfl rfl
  · have HQ := Lib.hid ((HQ2.out hlit).trans (by rw [HI.out]))
    have hen : E - i = 2 ∨ bt s i = 42 ∨ bt s i = 95 := by omega
    have hei : ((E - i : Nat) : Int) = (E : Int) - (i : Int) := by omega
    have hz2 : bt s i = 126 → ((E : Int) - (i : Int) != 2) = false := fun h => by rw [show (E : Int) - (i : Int) = 2 by omega]; rfl
    have hsl : i ≤ i + 1 := by omega
    clear HQ1 HQ2 hlit HL HI
    rcases hb with h | h | h
    all_goals
      rw [h] at hg
      have hz3 := hz2
      rw [h] at hz3
      have z1 := hz3
      clear hz3 hz2 hen h
      try (have z2 := z1 rfl)
      clear z1
      go_enter Tryz.func84, Tryz.ntmps84
      go_wp2_with fail
      ((with_reducible refine (HR.out _).mono ?_))
      rintro e W1 ⟨rfl, q1⟩
      simp only [World.size_alloc] at q1
      have X1 := Lib.hid q1
      obtain ⟨x1, x2, x3⟩ := HBX.out W1 q1
      have r0 : W1.cell? ⟨w.heap.size, 0, none⟩ = some (.string s) := x1.cell 0
      have hz1 := x2.lt
      clear x1 x2 x3 q1
      go_wp2_with fail
      ((with_reducible refine (HN.out _).mono ?_))
      rintro e W2 ⟨rfl, q, rfl⟩
      have X2 := Lib.hid (below_drewN X1.out q)
      have hz2 : W1.heap.size = (W1.drewN q).heap.size := rfl
      rw [hz2] at hz1
      clear hz2 r0 X1
      generalize W1.drewN q = W2 at *
      obtain ⟨x1, x2, x3⟩ := HBX.out W2 X2.out
      have r0 : W2.cell? ⟨w.heap.size, 0, none⟩ = some (.string s) := x1.cell 0
      clear x1 x2 x3
      go_wp2_with fail
      ((with_reducible refine (HB.out _).mono ?_))
      rintro e W3 ⟨rfl, q3⟩
      have X3 := Lib.hid (X2.out.trans (q3.mono (by omega)))
      clear r0 q3 X2
      go_wp2_with fail
      ((with_reducible refine (HF.out _).mono ?_))
      rintro e W4 ⟨rfl, rfl⟩
      obtain ⟨x1, x2, x3⟩ := HBX.out W3 X3.out
      have HB2 := Lib.hid x2
      have HW2 := Lib.hid x3
      clear x1 x2 x3 HBX HR HN HB HF
      go_wp2_with (refine wpList_store_row rfl 36 (.tmp 4) _ rfl _ _ rfl rfl _ _ HB2.out pc_size (by rfl) (by simp [pcC, Value.oneCell']) ?_)
      refine pc_ret Tryz.results84 (row_blk HB2.out _) rfl rfl rfl ?_
      rw [HQ.out]
      exact pc_plain (row_below HW2.out (by omega) _) (by unfold pcC noBg; simp only [hei]; rfl) rfl rfl

/-- The closure writes an inline and its end into two blocks. -/
def FndPost (gi gt : Nat) (vs : Array Value) (n : Int) (w : World) (e : Ending) (w' : World) : Prop :=
  e = .returned (.bool (decide (0 < n))) ∧ Blk w' gi 34 vs ∧ Blk w' gt 3 #[.int .i64 n] ∧ (∀ B, B ≤ gi → B ≤ gt → B ≤ w.heap.size → Below B w w') ∧ ∀ k, k < w.heap.size → k ≠ gi → k ≠ gt → w'.heap[k]? = w.heap[k]?
set_option maxRecDepth 100000 in
set_option maxHeartbeats 4000000 in
theorem s_found (gi gt : Nat) (n m : Int) (k : Int) (t d ti : ByteArray) (A1' : Option Addr) (n1 c1' : Nat) (A2' : Option Addr) (n2 c2' : Nat) (x0 x1 x2 x3 x4 x5 x6 x7 x8 x9 : Value) (w : World) (h1 : Blk w gi 34 #[x0, x1, x2, x3, x4, x5, x6, x7, x8, x9]) (h2 : Blk w gt 3 #[.int .i64 m]) (hne : gi ≠ gt) :
    Calls Tryz.prog 72 #[.agg #[.int .i64 k, .string t, .string d, .string ti, .string ⟨#[]⟩, .slice none 0 0, .slice none 0 0, .slice A1' n1 c1', .slice A2' n2 c2', .slice none 0 0], .int .i64 n, .pointer (some ⟨gi, 0, none⟩), .pointer (some ⟨gt, 0, none⟩)] w (FndPost gi gt #[.int .i64 k, .string t, .string d, .string ti, .string ⟨#[]⟩, .slice none 0 0, .slice none 0 0, .slice A1' n1 c1', .slice A2' n2 c2', .slice none 0 0] n w) := by
  have A0 : Blk (w.alloc (.cells #[.int .i64 k, .string t, .string d, .string ti, .string ⟨#[]⟩, .slice none 0 0, .slice none 0 0, .slice A1' n1 c1', .slice A2' n2 c2', .slice none 0 0] 34)) w.heap.size 34 #[.int .i64 k, .string t, .string d, .string ti, .string ⟨#[]⟩, .slice none 0 0, .slice none 0 0, .slice A1' n1 c1', .slice A2' n2 c2', .slice none 0 0] := Blk.new w _ _
  have A1 := h1.alloc (.cells #[.int .i64 k, .string t, .string d, .string ti, .string ⟨#[]⟩, .slice none 0 0, .slice none 0 0, .slice A1' n1 c1', .slice A2' n2 c2', .slice none 0 0] 34)
  have A2 := h2.alloc (.cells #[.int .i64 k, .string t, .string d, .string ti, .string ⟨#[]⟩, .slice none 0 0, .slice none 0 0, .slice A1' n1 c1', .slice A2' n2 c2', .slice none 0 0] 34)
  have AB : Hid (∀ B, B ≤ w.heap.size → Below B w (w.alloc (.cells #[.int .i64 k, .string t, .string d, .string ti, .string ⟨#[]⟩, .slice none 0 0, .slice none 0 0, .slice A1' n1 c1', .slice A2' n2 c2', .slice none 0 0] 34))) := Lib.hid fun B hB => (Below.refl B w).alloc hB _
  have AK : Hid (∀ q, q < w.heap.size → (w.alloc (.cells #[.int .i64 k, .string t, .string d, .string ti, .string ⟨#[]⟩, .slice none 0 0, .slice none 0 0, .slice A1' n1 c1', .slice A2' n2 c2', .slice none 0 0] 34)).heap[q]? = w.heap[q]?) := Lib.hid fun q hk => Below.heap_alloc w _ q hk
  have hl1 := h1.lt
  have hl2 := h2.lt
  clear h1 h2
  go_enter Tryz.func72, Tryz.ntmps72
  go_upto_region 1 with fail
  obtain ⟨gb, hgb⟩ : ∃ g, g = w.heap.size := ⟨_, rfl⟩
  rw [← hgb] at A0 hl1 hl2 AB AK ⊢
  have HGB := Lib.hid hgb
  clear hgb
  generalize w.alloc (.cells #[.int .i64 k, .string t, .string d, .string ti, .string ⟨#[]⟩, .slice none 0 0, .slice none 0 0, .slice A1' n1 c1', .slice A2' n2 c2', .slice none 0 0] 34) = W at *
  have h1 := Lib.hid A1
  have h2 := Lib.hid A2
  obtain ⟨d0, d1, d2, d3, d4, d5, d6, d7, d8, d9, _⟩ := in_facts A0
  have R1 := Lib.hid (row_blk A1 #[.int .i64 k, .string t, .string d, .string ti, .string ⟨#[]⟩, .slice none 0 0, .slice none 0 0, .slice A1' n1 c1', .slice A2' n2 c2', .slice none 0 0])
  clear A0 A1 A2
  go_wp2_with (refine wpList_store_row rfl 34 (.tmp 2) _ rfl _ _ rfl rfl _ _ h1.out in_size (by rfl) (by simp [Value.oneCell']) ?_; have e0 := (show Blk _ gt 3 #[.int .i64 m] from (row_far W gi #[.int .i64 k, .string t, .string d, .string ti, .string ⟨#[]⟩, .slice none 0 0, .slice none 0 0, .slice A1' n1 c1', .slice A2' n2 c2', .slice none 0 0] gt hne.symm).trans h2.out).cell 0; have e1 := (show Blk _ gt 3 #[.int .i64 m] from (row_far W gi #[.int .i64 k, .string t, .string d, .string ti, .string ⟨#[]⟩, .slice none 0 0, .slice none 0 0, .slice A1' n1 c1', .slice A2' n2 c2', .slice none 0 0] gt hne.symm).trans h2.out).frozen 0; simp at e0)
  go_ret
  refine ⟨rfl, ?_, ?_, fun B hB1 hB2 hB => ?_, fun q hk h3 h4 => ?_⟩
  · exact R1.out.far (p := ⟨gt, 0, none⟩) hne _
  · have := (show Blk _ gt 3 #[.int .i64 m] from (row_far W gi #[.int .i64 k, .string t, .string d, .string ti, .string ⟨#[]⟩, .slice none 0 0, .slice none 0 0, .slice A1' n1 c1', .slice A2' n2 c2', .slice none 0 0] gt hne.symm).trans h2.out).set_ 0 (.int .i64 n)
    simpa using this
  · exact (row_below (AB.out B (by have := HGB.out; omega)) hB1 _).setCell (p := ⟨gt, 0, none⟩) hB2 _
  · exact (Below.heap_setCell _ ⟨gt, 0, none⟩ _ q h4).trans ((row_far W gi _ q h3).trans (AK.out q (by have := HGB.out; omega)))

end Go.Proofs.YtcjkgmfidkgamaaGreatDoor
namespace Go.Pub
theorem suffix_bt (s : ByteArray) (i k : Nat) (h : i + k < s.size) : bt (s.extract i s.size) k = bt s (i + k) := extract_bt s i s.size (Nat.le_refl _) k h
theorem goodC_ways (n : Nat) : (goodC n = true ∧ 32 ≤ n ∧ n ≠ 127 ∧ n ≤ 1114111 ∧ (n < 55296 ∨ (55296 ≤ n ∧ 57343 < n))) ∨ (goodC n = false ∧ (n < 32 ∨ (32 ≤ n ∧ n = 127) ∨ (32 ≤ n ∧ n ≠ 127 ∧ 1114111 < n) ∨ (32 ≤ n ∧ n ≠ 127 ∧ n ≤ 1114111 ∧ 55296 ≤ n ∧ n ≤ 57343))) := by
  cases h : goodC n
  · refine .inr ⟨rfl, ?_⟩; unfold goodC at h; simp at h; omega
  · refine .inl ⟨rfl, ?_⟩; unfold goodC at h; simp at h; omega
theorem dgN_ways (b : Nat) : (dgN b = true ∧ 48 ≤ b ∧ b ≤ 57) ∨ (dgN b = false ∧ (b < 48 ∨ 57 < b)) := by
  cases h : dgN b
  · refine .inr ⟨rfl, ?_⟩; unfold dgN at h; simp at h; omega
  · refine .inl ⟨rfl, ?_⟩; unfold dgN at h; simpa using h
end Go.Pub
namespace Go.Proofs.YtcjkgmfidkgamaaGreatDoor
open Go.RowKit Go.Pub
set_option maxRecDepth 100000 in
set_option maxHeartbeats 8000000 in
theorem s_reference (s : ByteArray) (i : Nat) (w : World) (hs : s.size ≤ 1000000) (hi : i < s.size) : Calls Tryz.prog 76 #[.string s, .int .i64 i] w (InPost (entI s i) w) := by
  have HP0 := Lib.hid fun W => pre_any s i ⟨#[38, 97, 109, 112, 59]⟩ W
  rw [show bytesL (⟨#[38, 97, 109, 112, 59]⟩ : ByteArray) = [38, 97, 109, 112, 59] from rfl] at HP0
  have HP1 := Lib.hid fun W => pre_any s i ⟨#[38, 108, 116, 59]⟩ W
  rw [show bytesL (⟨#[38, 108, 116, 59]⟩ : ByteArray) = [38, 108, 116, 59] from rfl] at HP1
  have HP2 := Lib.hid fun W => pre_any s i ⟨#[38, 103, 116, 59]⟩ W
  rw [show bytesL (⟨#[38, 103, 116, 59]⟩ : ByteArray) = [38, 103, 116, 59] from rfl] at HP2
  have HP3 := Lib.hid fun W => pre_any s i ⟨#[38, 113, 117, 111, 116, 59]⟩ W
  rw [show bytesL (⟨#[38, 113, 117, 111, 116, 59]⟩ : ByteArray) = [38, 113, 117, 111, 116, 59] from rfl] at HP3
  have HP4 := Lib.hid fun W => pre_any s i ⟨#[38, 35]⟩ W
  rw [show bytesL (⟨#[38, 35]⟩ : ByteArray) = [38, 35] from rfl] at HP4
  have HL : Hid (begB s i [38, 35] = true → i + 2 ≤ s.size) := Lib.hid fun h => begB_len h (by simp)
  have HDG := Lib.hid fun (c : Int) W => digit_any c W
  have HG : Hid (∀ b : Nat, digitB (b : Int) = dgN b) := Lib.hid fun b => by unfold digitB dgN; rw [Bool.eq_iff_iff]; simp; omega
  have HAP : Hid (∀ (n : Nat) W, Calls Tryz.prog 120 #[.string ⟨#[]⟩, .int .i64 n] W fun e w' => e = .returned (.string (Utf8.encode (n : Int))) ∧ W = w') := Lib.hid fun n W => by
    have h := append_any ⟨#[]⟩ (n : Int) W (by decide)
    rwa [show (⟨#[]⟩ : ByteArray) ++ Utf8.encode (n : Int) = Utf8.encode (n : Int) from ByteArray.empty_append] at h
  have HDK := Lib.hid fun k h1 h2 h3 h4 h5 => digK_eq s i k h1 h2 h3 h4 h5
  have HSB : Hid (∀ k, i + k < s.size → bt (s.extract i s.size) k = bt s (i + k)) := Lib.hid fun k h => suffix_bt s i k h
  have hsz : (s.extract i s.size).size = s.size - i := by rw [ByteArray.size_extract]; omega
  obtain ⟨R, hR⟩ : ∃ R, R = entI s i := ⟨_, rfl⟩
  rw [← hR]
  unfold entI at hR
  have HR := Lib.hid hR
  clear hR
  generalize begB s i [38, 97, 109, 112, 59] = q0 at *
  generalize begB s i [38, 108, 116, 59] = q1 at *
  generalize begB s i [38, 103, 116, 59] = q2 at *
  generalize begB s i [38, 113, 117, 111, 116, 59] = q3 at *
  generalize begB s i [38, 35] = q4 at *
  have hIL : i ≤ s.size := by omega
  generalize digK s i = DK at *
  have ix0 : ∀ w, (Instr.index 114 (.agg #[.string ⟨#[38, 97, 109, 112, 59]⟩, .string ⟨#[38]⟩, .string ⟨#[38, 108, 116, 59]⟩, .string ⟨#[60]⟩, .string ⟨#[38, 103, 116, 59]⟩, .string ⟨#[62]⟩, .string ⟨#[38, 113, 117, 111, 116, 59]⟩, .string ⟨#[34]⟩]) (.int .i64 0)).run Tryz.prog w = .ok (.agg #[.string ⟨#[38, 97, 109, 112, 59]⟩, .string ⟨#[38]⟩]) w := fun _ => by kernel_rfl
  have ix1 : ∀ w, (Instr.index 114 (.agg #[.string ⟨#[38, 97, 109, 112, 59]⟩, .string ⟨#[38]⟩, .string ⟨#[38, 108, 116, 59]⟩, .string ⟨#[60]⟩, .string ⟨#[38, 103, 116, 59]⟩, .string ⟨#[62]⟩, .string ⟨#[38, 113, 117, 111, 116, 59]⟩, .string ⟨#[34]⟩]) (.int .i64 1)).run Tryz.prog w = .ok (.agg #[.string ⟨#[38, 108, 116, 59]⟩, .string ⟨#[60]⟩]) w := fun _ => by kernel_rfl
  have ix2 : ∀ w, (Instr.index 114 (.agg #[.string ⟨#[38, 97, 109, 112, 59]⟩, .string ⟨#[38]⟩, .string ⟨#[38, 108, 116, 59]⟩, .string ⟨#[60]⟩, .string ⟨#[38, 103, 116, 59]⟩, .string ⟨#[62]⟩, .string ⟨#[38, 113, 117, 111, 116, 59]⟩, .string ⟨#[34]⟩]) (.int .i64 2)).run Tryz.prog w = .ok (.agg #[.string ⟨#[38, 103, 116, 59]⟩, .string ⟨#[62]⟩]) w := fun _ => by kernel_rfl
  have ix3 : ∀ w, (Instr.index 114 (.agg #[.string ⟨#[38, 97, 109, 112, 59]⟩, .string ⟨#[38]⟩, .string ⟨#[38, 108, 116, 59]⟩, .string ⟨#[60]⟩, .string ⟨#[38, 103, 116, 59]⟩, .string ⟨#[62]⟩, .string ⟨#[38, 113, 117, 111, 116, 59]⟩, .string ⟨#[34]⟩]) (.int .i64 3)).run Tryz.prog w = .ok (.agg #[.string ⟨#[38, 113, 117, 111, 116, 59]⟩, .string ⟨#[34]⟩]) w := fun _ => by kernel_rfl
  go_enter Tryz.func76, Tryz.ntmps76
  go_wp2_with fail
  generalize s.extract i s.size = T at *
  refine wp_loop_rounds 5 ?_
  rw [rounds_succ]
  go_wp2_with fail
  ((with_reducible refine (HP0.out _).mono ?_))
  rintro e w1 ⟨rfl, rfl⟩
  cases q0
  · have HR1 := Lib.hid (HR.out.trans (if_neg (by simp)))
    clear HR
    go_wp2_with fail
    rw [rounds_succ]
    go_wp2_with fail
    ((with_reducible refine (HP1.out _).mono ?_))
    rintro e w1 ⟨rfl, rfl⟩
    cases q1
    · have HR2 := Lib.hid (HR1.out.trans (if_neg (by simp)))
      clear HR1
      go_wp2_with fail
      rw [rounds_succ]
      go_wp2_with fail
      ((with_reducible refine (HP2.out _).mono ?_))
      rintro e w1 ⟨rfl, rfl⟩
      cases q2
      · have HR3 := Lib.hid (HR2.out.trans (if_neg (by simp)))
        clear HR2
        go_wp2_with fail
        rw [rounds_succ]
        go_wp2_with fail
        ((with_reducible refine (HP3.out _).mono ?_))
        rintro e w1 ⟨rfl, rfl⟩
        cases q3
        · have HR4 := Lib.hid (HR3.out.trans (if_neg (by simp)))
          clear HR3
          go_wp2_with fail
          rw [rounds_succ]
          go_wp2_with fail
          ((with_reducible refine (HP4.out _).mono ?_))
          rintro e w1 ⟨rfl, rfl⟩
          cases q4
          · have HF : Hid (R = none) := Lib.hid (HR4.out.trans (if_neg (by simp)))
            clear HR4 HDK HSB HAP HDG HG HL
            go_wp2_with fail
            exact in_ret Tryz.results76 (Blk.alloc (Blk.alloc (Blk.alloc (Blk.alloc (Blk.new w _ _) _) _) _) _) rfl rfl rfl (in_none HF.out (((((Below.refl _ w).alloc (Nat.le_refl _) _).alloc (by simp) _).alloc (by simp <;> omega) _).alloc (by simp <;> omega) _ |>.alloc (by simp <;> omega) _))
          · have HQ := Lib.hid (HR4.out.trans (if_pos rfl))
            have hl2 := HL.out rfl
            have HZ0 : Hid (Blk ((((( w.alloc (.cells #[.int .i64 0, .string ⟨#[]⟩, .string ⟨#[]⟩, .string ⟨#[]⟩, .string ⟨#[]⟩, .slice none 0 0, .slice none 0 0, .slice none 0 0, .slice none 0 0, .slice none 0 0] 34)).alloc (.cells #[.string ⟨#[38, 97, 109, 112, 59]⟩, .string ⟨#[38]⟩] 113)).alloc (.cells #[.string ⟨#[38, 108, 116, 59]⟩, .string ⟨#[60]⟩] 113)).alloc (.cells #[.string ⟨#[38, 103, 116, 59]⟩, .string ⟨#[62]⟩] 113)).alloc (.cells #[.string ⟨#[38, 113, 117, 111, 116, 59]⟩, .string ⟨#[34]⟩] 113)) w.heap.size 34 zIn) := Lib.hid (Blk.alloc (Blk.alloc (Blk.alloc (Blk.alloc (Blk.new w _ _) _) _) _) _)
            have HZw : Hid (Below w.heap.size w ((((( w.alloc (.cells #[.int .i64 0, .string ⟨#[]⟩, .string ⟨#[]⟩, .string ⟨#[]⟩, .string ⟨#[]⟩, .slice none 0 0, .slice none 0 0, .slice none 0 0, .slice none 0 0, .slice none 0 0] 34)).alloc (.cells #[.string ⟨#[38, 97, 109, 112, 59]⟩, .string ⟨#[38]⟩] 113)).alloc (.cells #[.string ⟨#[38, 108, 116, 59]⟩, .string ⟨#[60]⟩] 113)).alloc (.cells #[.string ⟨#[38, 103, 116, 59]⟩, .string ⟨#[62]⟩] 113)).alloc (.cells #[.string ⟨#[38, 113, 117, 111, 116, 59]⟩, .string ⟨#[34]⟩] 113))) := Lib.hid (((((Below.refl _ w).alloc (Nat.le_refl _) _).alloc (by simp) _).alloc (by simp <;> omega) _).alloc (by simp <;> omega) _ |>.alloc (by simp <;> omega) _)
            clear HR4 HL
            go_wp2_with fail
            generalize ((((( w.alloc (.cells #[.int .i64 0, .string ⟨#[]⟩, .string ⟨#[]⟩, .string ⟨#[]⟩, .string ⟨#[]⟩, .slice none 0 0, .slice none 0 0, .slice none 0 0, .slice none 0 0, .slice none 0 0] 34)).alloc (.cells #[.string ⟨#[38, 97, 109, 112, 59]⟩, .string ⟨#[38]⟩] 113)).alloc (.cells #[.string ⟨#[38, 108, 116, 59]⟩, .string ⟨#[60]⟩] 113)).alloc (.cells #[.string ⟨#[38, 103, 116, 59]⟩, .string ⟨#[62]⟩] 113)).alloc (.cells #[.string ⟨#[38, 113, 117, 111, 116, 59]⟩, .string ⟨#[34]⟩] 113)) = W0 at *
            go_loop [9, 10] (fun v9 v10 => ∃ n k : Nat, v9 = .int .i64 n ∧ v10 = .int .i64 k ∧ 2 ≤ k ∧ k ≤ 9 ∧ i + k ≤ s.size ∧ Hid (n = numV (sub s (i + 2) (i + k))) ∧ n < 10 ^ (k - 2) ∧ Hid (∀ j, i + 2 ≤ j → j < i + k → dgN (bt s j) = true)) (fun _ v => 9 - (intOf v).toNat)
            case atStart => exact ⟨0, 2, rfl, rfl, Nat.le_refl _, by omega, hl2, Lib.hid (by unfold sub; simp [numV]), by decide, Lib.hid fun j h1 h2 => by omega⟩
            case round =>
              obtain ⟨n, k, rfl, rfl, hk2, hk9, hik, HN, hnb, HD⟩ := hrel
              obtain ⟨q, hq⟩ : ∃ q, q = (decide (k < T.size) && decide (k < 9) && dgN (bt T k)) := ⟨_, rfl⟩
              have HQq := Lib.hid hq
              clear hq
              go_upto_region 11 with fail
              go_cut [53] from 39 to 63 (fun s53 wx => s53 = .bool q ∧ W0 = wx)
              case first =>
                clear HQ HDK HAP HD HN hnb HZ0 HZw
                by_cases hl : k < T.size
                · by_cases h9 : k < 9
                  · have hg := get_bt T k hl
                    have hb := bt_lt T k
                    have HDGk : Hid (∀ W, Calls Tryz.prog 109 #[.int .i64 (bt T k)] W fun e w' => e = .returned (.bool (dgN (bt T k))) ∧ W = w') := Lib.hid fun W => by rw [← HG.out]; exact HDG.out _ W
                    have HQ2 : Hid (q = dgN (bt T k)) := Lib.hid (by rw [HQq.out, decide_eq_true hl, decide_eq_true h9]; simp)
                    clear HQq HG HDG HSB
                    generalize dgN (bt T k) = d at *
                    generalize bt T k = b at *
                    go_wp2_with fail
                    ((with_reducible refine (HDGk.out _).mono ?_))
                    rintro e w1 ⟨rfl, rfl⟩
                    go_wp2_with fail
                    go_meet
                    case rel => exact ⟨by rw [HQ2.out], rfl⟩
                  · have HQ2 : Hid (q = false) := Lib.hid (by rw [HQq.out, decide_eq_false h9]; simp)
                    clear HQq HG HDG HSB
                    go_wp2_with fail
                    go_meet
                    case rel => exact ⟨by rw [HQ2.out], rfl⟩
                · have HQ2 : Hid (q = false) := Lib.hid (by rw [HQq.out, decide_eq_false hl]; simp)
                  clear HQq HG HDG HSB
                  go_wp2_with fail
                  go_meet
                  case rel => exact ⟨by rw [HQ2.out], rfl⟩
              case rest =>
              obtain ⟨rfl, rfl⟩ := hcut
              have hn7 : n < 10000000 := by
                have h1 : 10 ^ (k - 2) ≤ 10 ^ 7 := Nat.pow_le_pow_right (by omega) (by omega)
                have h2 : (10 : Nat) ^ 7 = 10000000 := by decide
                omega
              cases q
              · have HK : Hid (DK = k - 2) := Lib.hid (HDK.out k hk2 hk9 hik HD.out fun h h9 => by
                  have h1 := HQq.out
                  rw [decide_eq_true (show k < T.size by omega), decide_eq_true h9, HSB.out k h] at h1
                  simpa using h1.symm)
                have HQ2 : Hid (R = if k ≠ 2 ∧ i + k < s.size ∧ bt T k = 59 ∧ goodC n = true then some (spn 1 (Utf8.encode (n : Int)), i + k + 1) else none) := Lib.hid (by
                  rw [HQ.out, HK.out, show i + 2 + (k - 2) = i + k by omega, ← HN.out]
                  by_cases h : k ≠ 2 ∧ i + k < s.size ∧ bt T k = 59 ∧ goodC n = true
                  · rw [if_pos h, if_pos ⟨by omega, h.2.1, by rw [← HSB.out k h.2.1]; exact h.2.2.1, h.2.2.2⟩]
                  · rw [if_neg h, if_neg fun c => h ⟨by omega, c.2.1, by rw [HSB.out k c.2.1]; exact c.2.2.1, c.2.2.2⟩])
                clear HQ HK HDK HN HD HQq HSB HDG HG hnb
                obtain ⟨c0, c1, c2, c3, c4, c5, c6, c7, c8, c9, f0, f1, f2, f3, f4, f5, f6, f7, f8, f9⟩ := in_facts HZ0.out
                by_cases x1 : k = 2
                · have HF : Hid (R = none) := Lib.hid (HQ2.out.trans (if_neg fun c => c.1 x1))
                  subst x1
                  clear HQ2
                  go_wp2_with fail
                  exact in_ret Tryz.results76 (blk10 HZ0.out _ _ _ _ _ _ _ _ _ _) rfl rfl rfl (in_none HF.out (below10 HZw.out (Nat.le_refl _) _ _ _ _ _ _ _ _ _ _))
                · have z2 : ((k : Int) == 2) = false := beq_eq_false_iff_ne.2 (by omega)
                  by_cases x2 : k < T.size
                  · have hg := get_bt T k x2
                    by_cases x3 : bt T k = 59
                    · rw [x3] at hg
                      have hw := goodC_ways n
                      rcases hw with ⟨hgc, y1, y2, y3, y4 | ⟨y4, y5⟩⟩ | ⟨hgc, y⟩
                      · have HF : Hid (R = some (spn 1 (Utf8.encode (n : Int)), i + k + 1)) := Lib.hid (HQ2.out.trans (if_pos ⟨x1, by omega, x3, hgc⟩))
                        have HAPn := Lib.hid fun W => HAP.out n W
                        have z127 : ((n : Int) == 127) = false := beq_eq_false_iff_ne.2 (by omega)
                        clear HQ2 hgc x3 HAP
                        generalize Utf8.encode (n : Int) = Y at *
                        go_wp2_with fail
                        ((with_reducible refine (HAPn.out _).mono ?_))
                        rintro e w1 ⟨rfl, rfl⟩
                        go_wp2_with fail
                        exact in_ret Tryz.results76 (blk10 HZ0.out _ _ _ _ _ _ _ _ _ _) rfl rfl rfl (in_some HF.out rfl rfl (below10 HZw.out (Nat.le_refl _) _ _ _ _ _ _ _ _ _ _) rfl (by omega))
                      · have HF : Hid (R = some (spn 1 (Utf8.encode (n : Int)), i + k + 1)) := Lib.hid (HQ2.out.trans (if_pos ⟨x1, by omega, x3, hgc⟩))
                        have HAPn := Lib.hid fun W => HAP.out n W
                        have z127 : ((n : Int) == 127) = false := beq_eq_false_iff_ne.2 (by omega)
                        clear HQ2 hgc x3 HAP
                        generalize Utf8.encode (n : Int) = Y at *
                        go_wp2_with fail
                        ((with_reducible refine (HAPn.out _).mono ?_))
                        rintro e w1 ⟨rfl, rfl⟩
                        go_wp2_with fail
                        exact in_ret Tryz.results76 (blk10 HZ0.out _ _ _ _ _ _ _ _ _ _) rfl rfl rfl (in_some HF.out rfl rfl (below10 HZw.out (Nat.le_refl _) _ _ _ _ _ _ _ _ _ _) rfl (by omega))
                      · have HF : Hid (R = none) := Lib.hid (HQ2.out.trans (if_neg fun c => by have := c.2.2.2; rw [hgc] at this; cases this))
                        clear HQ2 hgc x3 HAP
                        rcases y with y | ⟨y1, rfl⟩ | ⟨y1, y2, y3⟩ | ⟨y1, y2, y3, y4, y5⟩
                        all_goals
                          try have z127 : ((n : Int) == 127) = false := beq_eq_false_iff_ne.2 (by omega)
                          go_wp2_with fail
                          exact in_ret Tryz.results76 (blk10 HZ0.out _ _ _ _ _ _ _ _ _ _) rfl rfl rfl (in_none HF.out (below10 HZw.out (Nat.le_refl _) _ _ _ _ _ _ _ _ _ _))
                    · have HF : Hid (R = none) := Lib.hid (HQ2.out.trans (if_neg fun c => x3 c.2.2.1))
                      have n1 : ((bt T k : Int) != 59) = true := bne_iff_ne.2 (by omega)
                      clear HQ2 x3 HAP
                      generalize bt T k = b at *
                      go_wp2_with fail
                      exact in_ret Tryz.results76 (blk10 HZ0.out _ _ _ _ _ _ _ _ _ _) rfl rfl rfl (in_none HF.out (below10 HZw.out (Nat.le_refl _) _ _ _ _ _ _ _ _ _ _))
                  · have HF : Hid (R = none) := Lib.hid (HQ2.out.trans (if_neg fun c => by omega))
                    clear HQ2 HAP
                    go_wp2_with fail
                    exact in_ret Tryz.results76 (blk10 HZ0.out _ _ _ _ _ _ _ _ _ _) rfl rfl rfl (in_none HF.out (below10 HZw.out (Nat.le_refl _) _ _ _ _ _ _ _ _ _ _))
              · have hl : k < T.size ∧ k < 9 ∧ dgN (bt T k) = true := by have := HQq.out; simp [and_assoc] at this; exact this
                obtain ⟨hl1, hl2', hl3⟩ := hl
                have hlt : i + k < s.size := by omega
                have hw := dgN_ways (bt T k)
                rw [hl3] at hw
                have h57 : 48 ≤ bt T k ∧ bt T k ≤ 57 := hw.elim (fun h => h.2) (fun h => by cases h.1)
                obtain ⟨h48, h57⟩ := h57
                have hg := get_bt T k hl1
                have HN2 : Hid (10 * n + (bt T k - 48) = numV (sub s (i + 2) (i + (k + 1)))) := Lib.hid (by
                  rw [show i + (k + 1) = i + k + 1 by omega, numV_step s (i + 2) (i + k) (by omega) hlt, ← HN.out, HSB.out k hlt])
                have HD2 : Hid (∀ j, i + 2 ≤ j → j < i + (k + 1) → dgN (bt s j) = true) := Lib.hid fun j h1 h2 => by
                  by_cases e : j = i + k
                  · rw [e, ← HSB.out k hlt]; exact hl3
                  · exact HD.out j h1 (by omega)
                have hnb2 : 10 * n + (bt T k - 48) < 10 ^ (k + 1 - 2) := by
                  rw [show k + 1 - 2 = (k - 2) + 1 by omega, Nat.pow_succ]; omega
                clear hw hl3 HD HN HQq HSB HQ HDK HAP HDG HG hnb
                generalize bt T k = b at *
                go_wp2_with fail
                go_round
                case rel => exact ⟨10 * n + (b - 48), k + 1, by go_num, by go_num, by omega, by omega, by omega, HN2, hnb2, HD2⟩
                case measure => simp [intOf]; omega
        · have HF : Hid (R = some (spn 1 ⟨#[34]⟩, i + 6)) := Lib.hid (HR3.out.trans (if_pos rfl))
          clear HR3 HDK HSB HAP HDG HG HL HP0 HP1 HP2 HP3 HP4
          go_wp2_with fail
          go_region
          all_goals
            go_wp2_with fail
            exact in_ret Tryz.results76 (Blk.drewN (Blk.alloc (Blk.alloc (Blk.alloc (Blk.alloc (Blk.new w _ _) _) _) _) _) 1) rfl rfl rfl (in_some HF.out rfl rfl (below_drewN (Below.alloc (Below.alloc (Below.alloc (Below.alloc ((Below.refl _ w).alloc (Nat.le_refl _) _) (by simp <;> omega) _) (by simp <;> omega) _) (by simp <;> omega) _) (by simp <;> omega) _) 1) rfl (by omega))
      · have HF : Hid (R = some (spn 1 ⟨#[62]⟩, i + 4)) := Lib.hid (HR2.out.trans (if_pos rfl))
        clear HR2 HDK HSB HAP HDG HG HL HP0 HP1 HP2 HP3 HP4
        go_wp2_with fail
        go_region
        all_goals
          go_wp2_with fail
          exact in_ret Tryz.results76 (Blk.drewN (Blk.alloc (Blk.alloc (Blk.alloc (Blk.new w _ _) _) _) _) 1) rfl rfl rfl (in_some HF.out rfl rfl (below_drewN (Below.alloc (Below.alloc (Below.alloc ((Below.refl _ w).alloc (Nat.le_refl _) _) (by simp <;> omega) _) (by simp <;> omega) _) (by simp <;> omega) _) 1) rfl (by omega))
    · have HF : Hid (R = some (spn 1 ⟨#[60]⟩, i + 4)) := Lib.hid (HR1.out.trans (if_pos rfl))
      clear HR1 HDK HSB HAP HDG HG HL HP0 HP1 HP2 HP3 HP4
      go_wp2_with fail
      go_region
      all_goals
        go_wp2_with fail
        exact in_ret Tryz.results76 (Blk.drewN (Blk.alloc (Blk.alloc (Blk.new w _ _) _) _) 1) rfl rfl rfl (in_some HF.out rfl rfl (below_drewN (Below.alloc (Below.alloc ((Below.refl _ w).alloc (Nat.le_refl _) _) (by simp <;> omega) _) (by simp <;> omega) _) 1) rfl (by omega))
  · have HF : Hid (R = some (spn 1 ⟨#[38]⟩, i + 5)) := Lib.hid (HR.out.trans (if_pos rfl))
    clear HR HDK HSB HAP HDG HG HL HP0 HP1 HP2 HP3 HP4
    go_wp2_with fail
    go_region
    all_goals
      go_wp2_with fail
      exact in_ret Tryz.results76 (Blk.drewN (Blk.alloc (Blk.new w _ _) _) 1) rfl rfl rfl (in_some HF.out rfl rfl (below_drewN (Below.alloc ((Below.refl _ w).alloc (Nat.le_refl _) _) (by simp <;> omega) _) 1) rfl (by omega))

end Go.Proofs.YtcjkgmfidkgamaaGreatDoor
namespace Go.Proofs.YtcjkgmfidkgamaaGreatDoor
open Go.RowKit Go.Pub
def useC (t : ByteArray) (A : Option Addr) (n c : Nat) : Array Value := #[.int .i64 15, .string t, .string ⟨#[]⟩, .string ⟨#[]⟩, .string ⟨#[]⟩, .slice none 0 0, .slice none 0 0, .slice A n c, .slice none 0 0, .slice none 0 0]
/-- The memory of a use that is being read. -/
structure UseW (w : World) (t : ByteArray) (xs : List ByteArray) (A : Option Addr) (c : Nat) (wr : World) : Prop where
  res : Blk wr w.heap.size 34 zIn
  inl : Blk wr (w.heap.size + 1) 34 (useC t A xs.length c)
  own : wr.ownsRow (w.heap.size + 2) 9 1 (.slice A xs.length c) xs.length (strs xs)
  bel : Below w.heap.size w wr
theorem UseW.start (w : World) (t : ByteArray) : UseW w t [] none 0 ((w.alloc (.cells zIn 34)).alloc (.cells (useC t none 0 0) 34)) := by
  refine ⟨(Blk.new w _ _).alloc _, ?_, World.ownsRow_nil _ _ _ _, ((Below.refl _ _).alloc (Nat.le_refl _) _).alloc (by simp) _⟩
  have := Blk.new (w.alloc (.cells zIn 34)) 34 (useC t none 0 0)
  simpa using this
theorem UseW.size {w : World} {t : ByteArray} {xs : List ByteArray} {A : Option Addr} {c : Nat} {wr : World} (h : UseW w t xs A c wr) : w.heap.size + 2 ≤ wr.heap.size := by have := h.inl.lt; omega
theorem UseW.drewN {w : World} {t : ByteArray} {xs : List ByteArray} {A : Option Addr} {c : Nat} {wr : World} (h : UseW w t xs A c wr) (n : Nat) : UseW w t xs A c (wr.drewN n) :=
  ⟨h.res.drewN n, h.inl.drewN n, h.own.kept (grown_of_below (below_drewN (Below.refl _ _) n) none) (by cases (Value.slice A xs.length c).ownBlock <;> simp), below_drewN h.bel n⟩
/-- Behind an argument that is appended. -/
theorem UseW.put {w wd w1 w2 : World} {t : ByteArray} {xs : List ByteArray} {A : Option Addr} {c : Nat} {y : ByteArray} {g cap : Nat} (h : UseW w t xs A c wd) (h1 : w1 = wd.alloc (.cells #[.string y] 9))
    (ho : w2.ownsRow (w.heap.size + 2) 9 1 (.slice (some ⟨g, 0, none⟩) (xs.length + 1) cap) (xs.length + 1) (strs xs ++ [.string y])) (hg : w1.grownBy w2 (Value.slice A xs.length c).ownBlock) :
    UseW w t (xs ++ [y]) (some ⟨g, 0, none⟩) cap (w2.setCell ⟨w.heap.size + 1, 7, none⟩ (.slice (some ⟨g, 0, none⟩) (xs.length + 1) cap)) := by
  subst h1
  have hz := h.size
  have hne : ∀ k, k < w.heap.size + 2 → some k ≠ (Value.slice A xs.length c).ownBlock := fun k hk e => by have := (h.own.lt k e.symm).1; omega
  have e1 : strs (xs ++ [y]) = strs xs ++ [.string y] := by unfold strs; rw [List.map_append]; rfl
  have e2 : (xs ++ [y]).length = xs.length + 1 := by simp
  refine ⟨?_, ?_, ?_, ?_⟩
  · exact ((h.res.alloc _).grown hg (hne _ (by omega))).far (by simp) _
  · rw [e2]
    exact ((h.inl.alloc _).grown hg (hne _ (by omega))).set_ 7 _
  · rw [e1, e2]
    exact ownsRow_setCell_below ho (by simp) _
  · exact ((h.bel.alloc (by omega) _).grown hg (by simp; omega) (fun k hk => by have := (h.own.lt k hk).1; omega)).setCell (by simp) _
theorem in_use {R : Option (InL × Nat)} {w wr : World} {t : ByteArray} {xs : List ByteArray} {A : Option Addr} {c k : Nat} (hR : R = some ({ kind := 15, text := t, args := xs }, k)) (h : UseW w t xs A c wr) (y0 y1 y2 y3 y4 y5 y6 y7 y8 y9 : Value) {n : Int} (hn : n = k) :
    InPost R w (.returned (.tuple #[.agg (useC t A xs.length c), .int .i64 n])) ((((((((((wr.setCell ⟨w.heap.size, 0, none⟩ y0).setCell ⟨w.heap.size, 1, none⟩ y1).setCell ⟨w.heap.size, 2, none⟩ y2).setCell ⟨w.heap.size, 3, none⟩ y3).setCell ⟨w.heap.size, 4, none⟩ y4).setCell ⟨w.heap.size, 5, none⟩ y5).setCell ⟨w.heap.size, 6, none⟩ y6).setCell ⟨w.heap.size, 7, none⟩ y7).setCell ⟨w.heap.size, 8, none⟩ y8).setCell ⟨w.heap.size, 9, none⟩ y9) := by
  subst hR; subst hn
  refine ⟨below10 h.bel (Nat.le_refl _) _ _ _ _ _ _ _ _ _ _, A, c, none, 0, rfl, ?_, ReadsS.none_⟩
  have h2 : ∀ q : Nat, (⟨w.heap.size, q, none⟩ : Addr).block < w.heap.size + 2 := fun q => by show w.heap.size < w.heap.size + 2; omega
  have ho := ownsRow_setCell_below (ownsRow_setCell_below (ownsRow_setCell_below (ownsRow_setCell_below (ownsRow_setCell_below (ownsRow_setCell_below (ownsRow_setCell_below (ownsRow_setCell_below (ownsRow_setCell_below (ownsRow_setCell_below h.own (h2 0) y0) (h2 1) y1) (h2 2) y2) (h2 3) y3) (h2 4) y4) (h2 5) y5) (h2 6) y6) (h2 7) y7) (h2 8) y8) (h2 9) y9
  exact (ReadsS.of_own ho).keep (fun _ _ => rfl) fun g hg => ⟨by have := hg.1; omega, hg.2⟩
end Go.Proofs.YtcjkgmfidkgamaaGreatDoor
namespace Go.Proofs.YtcjkgmfidkgamaaGreatDoor
open Go.RowKit Go.Pub
set_option maxRecDepth 100000 in
set_option maxHeartbeats 8000000 in
theorem s_use (s : ByteArray) (i : Nat) (w : World) (hs : s.size ≤ 1000000) (hi : i < s.size) : Calls Tryz.prog 81 #[.string s, .int .i64 i] w (InPost (useI s i) w) := by
  have HN := Lib.hid fun W => s_nameEnd s (i + 2) W hs
  have HA := Lib.hid fun W => name_any (s.extract (i + 2) (wordAt s (i + 2))) W (by rw [ByteArray.size_extract]; omega)
  have HP1 := Lib.hid fun W => pre_any s i ⟨#[123, 123]⟩ W
  rw [show bytesL (⟨#[123, 123]⟩ : ByteArray) = [123, 123] from rfl] at HP1
  have HP2 := Lib.hid fun (k : Nat) W => pre_any s k ⟨#[125, 125]⟩ W
  rw [show bytesL (⟨#[125, 125]⟩ : ByteArray) = [125, 125] from rfl] at HP2
  obtain ⟨i0, hi0, hz0, hz1, hz2⟩ := info_parts str_info
  obtain ⟨R, hR⟩ : ∃ R, R = useI s i := ⟨_, rfl⟩
  rw [← hR]
  rw [useI_eq] at hR
  by_cases hq : begB s i [123, 123] = true
  · have hl := begB_len hq (by simp)
    rw [if_pos hq] at hR
    rw [hq] at HP1
    have hk1 := (wordAt_bd s (i + 2)).1
    have hk2 := (wordAt_bd s (i + 2)).2 hl
    clear hq hl
    generalize wordAt s (i + 2) = K at *
    generalize hnm : nameB (s.extract (i + 2) K) = nm at *
    cases nm
    · have HF : Hid (R = none) := Lib.hid (by rw [hR, if_neg (by simp)])
      clear hR hnm HP2
      go_enter Tryz.func81, Tryz.ntmps81
      go_wp2_with fail
      ((with_reducible refine (HP1.out _).mono ?_))
      rintro e w1 ⟨rfl, rfl⟩
      go_wp2_with fail
      (refine (HN.out _).mono ?_)
      rintro e w1 ⟨rfl, rfl⟩
      go_wp2_with fail
      ((with_reducible refine (HA.out _).mono ?_))
      rintro e w1 ⟨rfl, rfl⟩
      go_wp2_with fail
      exact in_ret Tryz.results81 ((Blk.new w _ _).alloc _) rfl rfl rfl (in_none HF.out (((Below.refl _ w).alloc (Nat.le_refl _) _).alloc (by simp) _))
    · clear hnm
      rw [if_pos rfl] at hR
      have HR := Lib.hid hR
      obtain ⟨AA, hAA⟩ : ∃ AA, AA = argsF s 8 K := ⟨_, rfl⟩
      rw [← hAA] at HR
      have HAA : Hid (AA = ([] ++ (argsF s (8 - ([] : List ByteArray).length) K).1, (argsF s (8 - ([] : List ByteArray).length) K).2)) := Lib.hid (by rw [hAA]; rfl)
      clear hR hAA
      have HZ := Lib.hid (UseW.start w (s.extract (i + 2) K))
      have HT : Hid (s.extract (i + 2) K = s.extract (i + 2) K) := Lib.hid rfl
      go_enter Tryz.func81, Tryz.ntmps81
      go_wp2_with fail
      ((with_reducible refine (HP1.out _).mono ?_))
      rintro e w1 ⟨rfl, rfl⟩
      go_wp2_with fail
      (refine (HN.out _).mono ?_)
      rintro e w1 ⟨rfl, rfl⟩
      go_wp2_with fail
      ((with_reducible refine (HA.out _).mono ?_))
      rintro e w1 ⟨rfl, rfl⟩
      go_wp2_with fail
      go_loopw [6, 7] (fun _ v7 wr => ∃ (k : Nat) (xs : List ByteArray) (A : Option Addr) (c : Nat), v7 = .int .i64 k ∧ K ≤ k ∧ k ≤ s.size ∧ xs.length ≤ 8 ∧ Hid (AA = (xs ++ (argsF s (8 - xs.length) k).1, (argsF s (8 - xs.length) k).2)) ∧ Hid (UseW w (s.extract (i + 2) K) xs A c wr)) (fun _ v7 _ => s.size - (intOf v7).toNat)
      case atStart => exact ⟨K, [], none, 0, rfl, Nat.le_refl _, hk2, Nat.zero_le _, HAA, HZ⟩
      case round =>
        clear HAA HZ HP1 HN HA
        obtain ⟨k, xs, A, c, rfl, hKk, hk, hx8, HX, HU⟩ := hrel
        have HT := Lib.hid (show ∃ T, T = s.extract (i + 2) K from ⟨_, rfl⟩)
        generalize s.extract (i + 2) K = T at *
        by_cases hg : k < s.size ∧ bt s k = 124
        · obtain ⟨hl, h124⟩ := hg
          have hgk := get_bt s k hl
          rw [h124] at hgk
          have c7 : wr.cell? ⟨w.heap.size + 1, 7, none⟩ = some (.slice A xs.length c) := HU.out.inl.cell 7
          have f7 : wr.frozen? ⟨w.heap.size + 1, 7, none⟩ = false := HU.out.inl.frozen 7
          by_cases h8 : xs.length = 8
          · have HF : Hid (R = none) := Lib.hid (by
              have e1 := args_full s AA xs k h8 HX.out
              rw [HR.out, e1]
              have hbb : begB s k [125, 125] = false := by
                cases hb : begB s k [125, 125] with
                | false => rfl
                | true =>
                  have h2 : bt s k = 125 := begB_at hb
                  omega
              show (if begB s k [125, 125] = true then _ else _) = none
              rw [hbb]; rfl)
            rw [h8] at c7
            clear h124 HX HR HP2
            obtain ⟨r0, r1, r2, r3, r4, r5, r6, r7, r8, r9, p0, p1, p2, p3, p4, p5, p6, p7, p8, p9⟩ := in_facts HU.out.res
            go_wp2_with fail
            exact in_ret Tryz.results81 (blk10 HU.out.res _ _ _ _ _ _ _ _ _ _) rfl rfl rfl (in_none HF.out (below10 HU.out.bel (Nat.le_refl _) _ _ _ _ _ _ _ _ _ _))
          · have e8 : ((xs.length : Int) == 8) = false := beq_eq_false_iff_ne.2 (by omega)
            have hx7 : xs.length < 8 := by omega
            have HE := Lib.hid fun e h1 h2 h3 h4 => argE_eq s k e h1 h2 h3 h4
            have HST := Lib.hid fun e he => args_step s AA xs k e hx7 hl h124 he HX.out
            clear h124 HX HR HP2 h8
            go_wp2_with fail
            go_loop [7] (fun v => ∃ e : Nat, v = .int .i64 e ∧ k + 1 ≤ e ∧ e ≤ s.size ∧ Hid (∀ j, k + 1 ≤ j → j < e → bt s j ≠ 124 ∧ bt s j ≠ 123 ∧ bt s j ≠ 125 ∧ bt s j ≠ 10)) (fun v => s.size - (intOf v).toNat)
            case atStart => exact ⟨k + 1, by go_num, Nat.le_refl _, hl, Lib.hid fun j h1 h2 => by omega⟩
            case round =>
              clear hgk
              obtain ⟨e, rfl, hke, he, HJ⟩ := hrel
              obtain ⟨q, hq⟩ : ∃ q, q = (decide (e < s.size) && !(bt s e == 124 || bt s e == 123 || bt s e == 125 || bt s e == 10)) := ⟨_, rfl⟩
              have HQ := Lib.hid hq
              clear hq
              go_upto_region 13 with fail
              go_cut [75] from 48 to 77 (fun s75 wx => s75 = .bool q ∧ wr = wx)
              case first =>
                clear c7 f7 e8
                by_cases hl2 : e < s.size
                · have hg := get_bt s e hl2
                  by_cases hb : bt s e = 124 ∨ bt s e = 123 ∨ bt s e = 125 ∨ bt s e = 10
                  · have HQ2 : Hid (q = false) := Lib.hid (by rw [HQ.out]; rcases hb with h | h | h | h <;> rw [h] <;> simp)
                    clear HQ
                    rcases hb with h | h | h | h
                    all_goals
                      rw [h] at hg
                      clear h
                      go_wp2_with fail
                      go_meet
                      case rel => exact ⟨by rw [HQ2.out], rfl⟩
                  · have HQ2 : Hid (q = true) := Lib.hid (by
                      rw [HQ.out, decide_eq_true hl2]
                      have n1 : (bt s e == 124) = false := beq_eq_false_iff_ne.2 fun x => hb (.inl x)
                      have n2 : (bt s e == 123) = false := beq_eq_false_iff_ne.2 fun x => hb (.inr (.inl x))
                      have n3 : (bt s e == 125) = false := beq_eq_false_iff_ne.2 fun x => hb (.inr (.inr (.inl x)))
                      have n4 : (bt s e == 10) = false := beq_eq_false_iff_ne.2 fun x => hb (.inr (.inr (.inr x)))
                      rw [n1, n2, n3, n4]; rfl)
                    have n1 : ((bt s e : Int) != 124) = true := bne_iff_ne.2 (by omega)
                    have n2 : ((bt s e : Int) != 123) = true := bne_iff_ne.2 (by omega)
                    have n3 : ((bt s e : Int) != 125) = true := bne_iff_ne.2 (by omega)
                    have n4 : ((bt s e : Int) != 10) = true := bne_iff_ne.2 (by omega)
                    clear HQ hb
                    generalize bt s e = b at *
                    go_wp2_with fail
                    go_meet
                    case rel => exact ⟨by rw [HQ2.out], rfl⟩
                · have HQ2 : Hid (q = false) := Lib.hid (by rw [HQ.out, decide_eq_false hl2]; rfl)
                  clear HQ
                  go_wp2_with fail
                  go_meet
                  case rel => exact ⟨by rw [HQ2.out], rfl⟩
              case rest =>
              obtain ⟨rfl, rfl⟩ := hcut
              cases q
              · have HEe : Hid (argE s k = e) := Lib.hid (HE.out e hke he HJ.out fun h => by
                  have := HQ.out
                  rw [decide_eq_true h, Bool.true_and] at this
                  simp at this
                  omega)
                have HNX := Lib.hid (HST.out e HEe.out)
                have hsl : k + 1 ≤ e := hke
                have HY := Lib.hid (show ∃ Y, Y = s.extract (k + 1) e from ⟨_, rfl⟩)
                clear HQ HE HST HEe HJ
                go_wp2_with fail
                refine wp_region_held_drew (S := fun _ => True) (by kernel_rfl) trivial (fun hHeld => ?_)
                refine tk 0 (.pointer (some ⟨w.heap.size + 1, 7, none⟩)) rfl hHeld (fun W' hSw => ?_) ?_
                · go_simp
                refine tk 2 (.string s) rfl hHeld (fun W' hSw => ?_) ?_
                · go_simp
                refine tk 3 (.int .i64 ((k : Int) + 1)) rfl hHeld (fun W' hSw => ?_) ?_
                · go_simp
                refine tk 4 (.int .i64 e) rfl hHeld (fun W' hSw => ?_) ?_
                · go_simp
                refine tk 5 (.string (s.extract (k + 1) e)) rfl hHeld (fun W' hSw => ?_) ?_
                · go_simp
                  intro h
                  exfalso
                  have := h (by omega)
                  omega
                have hz := HU.out.size
                have HUd := Lib.hid (HU.out.drewN 1)
                change Hid (UseW w T xs A c wr.drew) at HUd
                have c7d : wr.drew.cell? ⟨w.heap.size + 1, 7, none⟩ = some (.slice A xs.length c) := c7
                have c7a := HUd.out.inl.alloc (.cells #[.string (s.extract (k + 1) e)] 9)
                have c7b : (wr.drew.alloc (.cells #[.string (s.extract (k + 1) e)] 9)).cell? ⟨w.heap.size + 1, 7, none⟩ = some (.slice A xs.length c) := c7a.cell 7
                have c7e : (wr.alloc (.cells #[.string (s.extract (k + 1) e)] 9)).drew.cell? ⟨w.heap.size + 1, 7, none⟩ = some (.slice A xs.length c) := c7b
                have hzd : wr.drew.heap.size = wr.heap.size := rfl
                generalize s.extract (k + 1) e = y at *
                refine wpAnyH_ready (rs := [1, 6]) (by kernel_rfl) (by simp) (AllReadyH.cons rfl (fun K hK => ?_) (AllReadyH.cons rfl (fun K hK => ?_) AllReadyH.nil))
                · go_simp
                  refine hK.out _ _ trivial (fun hHeld => ?_)
                  clear hK K
                  refine rd1 6 rfl (fun K hK => ?_)
                  go_simp
                  refine hK.out _ _ trivial (fun hHeld => ?_)
                  clear hK K
                  refine rd1 7 rfl (fun K hK => ?_)
                  refine step_append_lies _ rfl (.tmp 79) (.tmp 84) 27 rfl (w.heap.size + 2) 9 i0 _ 1 16 Tryz.underlying27 hi0 hz0 hz1 hz2 rfl (by decide) _ _ _ rfl (HUd.out.own.alloc _) ⟨wr.drew.heap.size, 0, none⟩ 1 1 [.string y] rfl rfl ?c1 ?c2 (by decide) ?c3 ?c4 ?c5 (wr.heap.size + 1) ?c6 ?_
                  case c1 => exact World.news_of_block (t := 9) (fr := (0, 0)) (cs := #[.string y]) (heap_alloc_new wr.drew _)
                  case c2 => intro u hu; simp at hu; subst hu; rfl
                  case c3 => unfold maxLen; omega
                  case c4 => omega
                  case c5 => simp; omega
                  case c6 => simp
                  intro g7 cap7 w2 hown3 hgrow hlies hlt3
                  have HP := Lib.hid (HUd.out.put rfl hown3 hgrow)
                  have hne : some (w.heap.size + 1) ≠ (Value.slice A xs.length c).ownBlock := fun e => by have := (HUd.out.own.lt _ e.symm).1; omega
                  have f9 : w2.frozen? ⟨w.heap.size + 1, 7, none⟩ = false := (c7a.grown hgrow hne).frozen 7
                  have c9 : w2.cell? ⟨w.heap.size + 1, 7, none⟩ = some (.slice A xs.length c) := (c7a.grown hgrow hne).cell 7
                  clear hlies hown3 hgrow
                  go_simp
                  refine hK.out _ _ trivial (fun hHeld => ?_)
                  clear hK K
                  refine rd1 8 rfl (fun K hK => ?_)
                  go_simp
                  refine hK.out _ _ trivial (fun hHeld => ?_)
                  clear hK K
                  refine rd1 9 rfl (fun K hK => ?_)
                  go_simp
                  refine hK.out _ _ trivial (fun hHeld => ?_)
                  clear hK K
                  refine wpAnyH_done (by kernel_rfl) ?_ _
                  go_wp2_with fail
                  go_roundw
                  case rel => exact ⟨e, xs ++ [y], some ⟨g7, 0, none⟩, cap7, rfl, by omega, he, by simp; omega, HNX, HP⟩
                  case measure => simp [intOf]; omega
                · go_simp
                  refine hK.out _ _ trivial (fun hHeld => ?_)
                  clear hK K
                  refine rd1 1 rfl (fun K hK => ?_)
                  go_simp
                  refine hK.out _ _ trivial (fun hHeld => ?_)
                  clear hK K
                  refine rd1 7 rfl (fun K hK => ?_)
                  refine step_append_lies _ rfl (.tmp 79) (.tmp 84) 27 rfl (w.heap.size + 2) 9 i0 _ 1 16 Tryz.underlying27 hi0 hz0 hz1 hz2 rfl (by decide) _ _ _ rfl (HUd.out.own.alloc _) ⟨wr.drew.heap.size, 0, none⟩ 1 1 [.string y] rfl rfl ?d1 ?d2 (by decide) ?d3 ?d4 ?d5 (wr.heap.size + 1) ?d6 ?_
                  case d1 => exact World.news_of_block (t := 9) (fr := (0, 0)) (cs := #[.string y]) (heap_alloc_new wr.drew _)
                  case d2 => intro u hu; simp at hu; subst hu; rfl
                  case d3 => unfold maxLen; omega
                  case d4 => omega
                  case d5 => simp; omega
                  case d6 => simp
                  intro g7 cap7 w2 hown3 hgrow hlies hlt3
                  have HP := Lib.hid (HUd.out.put rfl hown3 hgrow)
                  have hne : some (w.heap.size + 1) ≠ (Value.slice A xs.length c).ownBlock := fun e => by have := (HUd.out.own.lt _ e.symm).1; omega
                  have f9 : w2.frozen? ⟨w.heap.size + 1, 7, none⟩ = false := (c7a.grown hgrow hne).frozen 7
                  have c9 : w2.cell? ⟨w.heap.size + 1, 7, none⟩ = some (.slice A xs.length c) := (c7a.grown hgrow hne).cell 7
                  clear hlies hown3 hgrow
                  go_simp
                  refine hK.out _ _ trivial (fun hHeld => ?_)
                  clear hK K
                  refine rd1 8 rfl (fun K hK => ?_)
                  go_simp
                  refine hK.out _ _ trivial (fun hHeld => ?_)
                  clear hK K
                  refine rd1 9 rfl (fun K hK => ?_)
                  go_simp
                  refine hK.out _ _ trivial (fun hHeld => ?_)
                  clear hK K
                  refine wpAnyH_done (by kernel_rfl) ?_ _
                  go_wp2_with fail
                  go_roundw
                  case rel => exact ⟨e, xs ++ [y], some ⟨g7, 0, none⟩, cap7, rfl, by omega, he, by simp; omega, HNX, HP⟩
                  case measure => simp [intOf]; omega
              · have hl2 : e < s.size ∧ (bt s e ≠ 124 ∧ bt s e ≠ 123 ∧ bt s e ≠ 125 ∧ bt s e ≠ 10) := by
                  have := HQ.out
                  simp at this
                  exact ⟨this.1, by omega⟩
                have HJ2 : Hid (∀ j, k + 1 ≤ j → j < e + 1 → bt s j ≠ 124 ∧ bt s j ≠ 123 ∧ bt s j ≠ 125 ∧ bt s j ≠ 10) := Lib.hid fun j h1 h2 => by
                  by_cases x : j = e
                  · subst x; exact hl2.2
                  · exact HJ.out j h1 (by omega)
                have hl3 := hl2.1
                clear hl2 HQ
                go_wp2_with fail
                go_round
                case rel => exact ⟨e + 1, by go_num, by omega, by omega, HJ2⟩
                case measure => simp [intOf]; omega
        · have HAX := Lib.hid (args_stop s AA xs _ k hg HX.out)
          have HPk := Lib.hid fun W => HP2.out k W
          have HQ2 : Hid (R = if begB s k [125, 125] = true then some ({ kind := 15, text := T, args := xs }, k + 2) else none) := Lib.hid (by rw [HR.out, HAX.out])
          obtain ⟨r0, r1, r2, r3, r4, r5, r6, r7, r8, r9, p0, p1, p2, p3, p4, p5, p6, p7, p8, p9⟩ := in_facts HU.out.res
          obtain ⟨u0', u1', u2', u3', u4', u5', u6', u7', u8', u9', z0, z1, z2, z3, z4, z5, z6, z7, z8, z9⟩ := in_facts (show Blk wr (w.heap.size + 1) 34 #[.int .i64 15, .string T, .string ⟨#[]⟩, .string ⟨#[]⟩, .string ⟨#[]⟩, .slice none 0 0, .slice none 0 0, .slice A xs.length c, .slice none 0 0, .slice none 0 0] from HU.out.inl)
          clear HX HR HP2 HAX
          generalize begB s k [125, 125] = q at *
          have hgg : ¬ k < s.size ∨ (k < s.size ∧ bt s k ≠ 124) := by
            by_cases h : k < s.size
            · exact .inr ⟨h, fun x => hg ⟨h, x⟩⟩
            · exact .inl h
          clear hg
          rcases hgg with hl | ⟨hl, hb⟩
          · cases q
            · have HF : Hid (R = none) := Lib.hid (by rw [HQ2.out, if_neg (by simp)])
              clear HQ2
              go_wp2_with fail
              ((with_reducible refine (HPk.out _).mono ?_))
              rintro e w1 ⟨rfl, rfl⟩
              go_wp2_with fail
              exact in_ret Tryz.results81 (blk10 HU.out.res _ _ _ _ _ _ _ _ _ _) rfl rfl rfl (in_none HF.out (below10 HU.out.bel (Nat.le_refl _) _ _ _ _ _ _ _ _ _ _))
            · have HF : Hid (R = some ({ kind := 15, text := T, args := xs }, k + 2)) := Lib.hid (by rw [HQ2.out, if_pos rfl])
              clear HQ2
              go_wp2_with fail
              ((with_reducible refine (HPk.out _).mono ?_))
              rintro e w1 ⟨rfl, rfl⟩
              go_wp2_with fail
              exact in_ret Tryz.results81 (blk10 HU.out.res _ _ _ _ _ _ _ _ _ _) rfl rfl rfl (in_use HF.out HU.out _ _ _ _ _ _ _ _ _ _ (by omega))
          · have hgk := get_bt s k hl
            have n1 : ((bt s k : Int) == 124) = false := beq_eq_false_iff_ne.2 (by omega)
            clear hb
            generalize bt s k = b at *
            cases q
            · have HF : Hid (R = none) := Lib.hid (by rw [HQ2.out, if_neg (by simp)])
              clear HQ2
              go_wp2_with fail
              ((with_reducible refine (HPk.out _).mono ?_))
              rintro e w1 ⟨rfl, rfl⟩
              go_wp2_with fail
              exact in_ret Tryz.results81 (blk10 HU.out.res _ _ _ _ _ _ _ _ _ _) rfl rfl rfl (in_none HF.out (below10 HU.out.bel (Nat.le_refl _) _ _ _ _ _ _ _ _ _ _))
            · have HF : Hid (R = some ({ kind := 15, text := T, args := xs }, k + 2)) := Lib.hid (by rw [HQ2.out, if_pos rfl])
              clear HQ2
              go_wp2_with fail
              ((with_reducible refine (HPk.out _).mono ?_))
              rintro e w1 ⟨rfl, rfl⟩
              go_wp2_with fail
              exact in_ret Tryz.results81 (blk10 HU.out.res _ _ _ _ _ _ _ _ _ _) rfl rfl rfl (in_use HF.out HU.out _ _ _ _ _ _ _ _ _ _ (by omega))
  · have hqf : begB s i [123, 123] = false := by simpa using hq
    rw [if_neg hq] at hR
    rw [hqf] at HP1
    have HF := Lib.hid hR
    clear hR HN HA HP2 hq hqf
    go_enter Tryz.func81, Tryz.ntmps81
    go_wp2_with fail
    ((with_reducible refine (HP1.out _).mono ?_))
    rintro e w1 ⟨rfl, rfl⟩
    go_wp2_with fail
    exact in_ret Tryz.results81 (Blk.new w _ _) rfl rfl rfl (in_none HF.out ((Below.refl _ w).alloc (Nat.le_refl _) _))

end Go.Proofs.YtcjkgmfidkgamaaGreatDoor
namespace Go.Pub
theorem spAt_runE {s : ByteArray} {i : Nat} (hi : i < s.size) (h : bt s i = 32) : runE s i = spAt s i := by
  obtain ⟨h1, h2⟩ := spAt_spec s i
  obtain ⟨h3, h4⟩ := spAt_bd' s i
  have h5 := h4 (by omega)
  unfold runE
  have : runF s i (fun b => b == bt s i) = spAt s i - i := runF_eq s _ i _ (by omega) (fun j h6 h7 => by rw [h1 j h6 (by omega), h]; rfl) fun h6 => by
    rw [show i + (spAt s i - i) = spAt s i by omega] at h6 ⊢
    rw [h]
    exact beq_eq_false_iff_ne.2 fun e => h2 ⟨h6, e⟩
  omega
theorem spAt_stay {s : ByteArray} {i : Nat} (h : bt s i ≠ 32) : spAt s i = i := by unfold spAt; exact spEnd_stop s _ i fun c => h c.2
theorem piece_of {s : ByteArray} {i : Nat} {p : PcL} (h : spec s i = some p) : pieceA s i = (p, false) := by unfold pieceA; rw [h]
theorem piece_lit {s : ByteArray} {i : Nat} (h : spec s i = none) : pieceA s i = (litP s i (litE s i), true) := by unfold pieceA; rw [h]
theorem piece_opt {s : ByteArray} {i e : Nat} {o : Option (InL × Nat)} (h : spec s i = o.map (pcI · i)) (he : litE s i = e) : pieceA s i = match (motive := Option (InL × Nat) → PcL × Bool) o with | some x => (pcI x i, false) | none => (litP s i e, true) := by
  cases o with
  | none => rw [piece_lit (by rw [h]; rfl), he]
  | some x => exact piece_of (by rw [h]; rfl)
theorem litE_next {s : ByteArray} {i : Nat} (h : bt s i ≠ 32 ∧ bt s i ≠ 96 ∧ bt s i ≠ 126) : litE s i = i + (Utf8.decode s i).2 := by
  unfold litE; rw [if_neg (by omega)]
theorem piece_92 {s : ByteArray} {i : Nat} (h : bt s i = 92) : pieceA s i = match (motive := Option (InL × Nat) → PcL × Bool) escI s i with | some x => (pcI x i, false) | none => (litP s i (i + (Utf8.decode s i).2), true) := piece_opt (by unfold spec; simp [h]) (litE_next (by omega))
theorem piece_38 {s : ByteArray} {i : Nat} (h : bt s i = 38) : pieceA s i = match (motive := Option (InL × Nat) → PcL × Bool) entI s i with | some x => (pcI x i, false) | none => (litP s i (i + (Utf8.decode s i).2), true) := piece_opt (by unfold spec; simp [h]) (litE_next (by omega))
theorem piece_60 {s : ByteArray} {i : Nat} (h : bt s i = 60) : pieceA s i = match (motive := Option (InL × Nat) → PcL × Bool) autI s i with | some x => (pcI x i, false) | none => (litP s i (i + (Utf8.decode s i).2), true) := piece_opt (by unfold spec; simp [h]) (litE_next (by omega))
theorem piece_123 {s : ByteArray} {i : Nat} (h : bt s i = 123) : pieceA s i = match (motive := Option (InL × Nat) → PcL × Bool) useI s i with | some x => (pcI x i, false) | none => (litP s i (i + (Utf8.decode s i).2), true) := piece_opt (by unfold spec; simp [h]) (litE_next (by omega))
theorem piece_36 {s : ByteArray} {i : Nat} (h : bt s i = 36) : pieceA s i = match (motive := Option (InL × Nat) → PcL × Bool) (mathI s i).or (dolI s i) with | some x => (pcI x i, false) | none => (litP s i (i + (Utf8.decode s i).2), true) := piece_opt (by unfold spec; simp [h]) (litE_next (by omega))
theorem piece_96 {s : ByteArray} {i : Nat} (h : bt s i = 96) : pieceA s i = match (motive := Option (InL × Nat) → PcL × Bool) codeI s i with | some x => (pcI x i, false) | none => (litP s i (runE s i), true) := piece_opt (by unfold spec; simp [h]) (by unfold litE; rw [if_pos (.inr (.inl h))])
theorem piece_32 {s : ByteArray} {i : Nat} (hi : i < s.size) (h : bt s i = 32 ∨ bt s i = 10) : pieceA s i = if spAt s i < s.size ∧ bt s (spAt s i) = 10 then (pcI ({ kind := 2 }, spAt s (spAt s i + 1)) i, false) else (litP s i (spAt s i), true) := by
  have hs : spec s i = if spAt s i < s.size ∧ bt s (spAt s i) = 10 then some (pcI ({ kind := 2 }, spAt s (spAt s i + 1)) i) else none := by
    unfold spec; rcases h with h | h <;> simp [h]
  by_cases c : spAt s i < s.size ∧ bt s (spAt s i) = 10
  · rw [if_pos c] at hs ⊢; exact piece_of hs
  · rw [if_neg c] at hs ⊢
    rcases h with h | h
    · rw [piece_lit hs]; unfold litE; rw [if_pos (.inl h), spAt_runE hi h]
    · exact absurd ⟨by rw [spAt_stay (by omega)]; exact hi, by rw [spAt_stay (by omega)]; exact h⟩ c
theorem piece_91 {s : ByteArray} {i : Nat} (h : bt s i = 91) : pieceA s i = (match (motive := Option (InL × Nat) → PcL) (namI s i).or (citI s i) with | some r => pcI r i | none => { kind := 2, bg := i, nd := i + 1 }, false) := piece_of (by unfold spec; simp [h]; cases (namI s i).or (citI s i) <;> rfl)
theorem piece_33 {s : ByteArray} {i : Nat} (h : bt s i = 33) : pieceA s i = if i + 1 < s.size ∧ bt s (i + 1) = 91 then ({ kind := 2, img := true, bg := i, nd := i + 2 }, false) else (litP s i (i + (Utf8.decode s i).2), true) := by
  have hs : spec s i = if i + 1 < s.size ∧ bt s (i + 1) = 91 then some { kind := 2, img := true, bg := i, nd := i + 2 } else none := by unfold spec; simp [h]
  by_cases c : i + 1 < s.size ∧ bt s (i + 1) = 91
  · rw [if_pos c] at hs ⊢; exact piece_of hs
  · rw [if_neg c] at hs ⊢; rw [piece_lit hs, litE_next (by omega)]
theorem piece_93 {s : ByteArray} {i : Nat} (h : bt s i = 93) : pieceA s i = ({ kind := 3, bg := i, nd := i + 1 }, false) := piece_of (by unfold spec; simp [h])
def kindB (b : Nat) : Bool := [92, 32, 10, 38, 36, 96, 60, 123, 91, 33, 93, 42, 95, 126].contains b
theorem piece_els {s : ByteArray} {i : Nat} (h : kindB (bt s i) = false) : pieceA s i = (litP s i (i + (Utf8.decode s i).2), true) := by
  unfold kindB at h
  simp at h
  rw [piece_lit (by unfold spec; simp [h]), litE_next (by omega)]
end Go.Pub
namespace Go.Proofs.YtcjkgmfidkgamaaGreatDoor
open Go.RowKit Go.Pub
/-- The memory of piece: its reader, its result, the inline, the end. -/
def PcSt (s : ByteArray) (b1 b2 : Nat) (vs : Array Value) (t : Int) (w W : World) : Prop :=
  Blk W w.heap.size 79 #[.string s, .map (some b1), .map (some b2)] ∧ Blk W (w.heap.size + 1) 36 zPc ∧ Blk W (w.heap.size + 1 + 1) 34 vs ∧ Blk W (w.heap.size + 1 + 1 + 1) 3 #[.int .i64 t] ∧ Below w.heap.size w W
theorem PcSt.start (s : ByteArray) (b1 b2 : Nat) (w : World) : PcSt s b1 b2 zIn 0 w ((((w.alloc (.cells #[.string s, .map (some b1), .map (some b2)] 79)).alloc (.cells #[.int .i64 0, .int .i64 0, .string ⟨#[]⟩, .string ⟨#[]⟩, .string ⟨#[]⟩, .string ⟨#[]⟩, .slice none 0 0, .slice none 0 0, .slice none 0 0, .slice none 0 0, .slice none 0 0, .string ⟨#[]⟩, .int .i64 0, .bool false, .bool false, .bool false, .int .i64 0, .int .i64 0] 36)).alloc (.cells #[.int .i64 0, .string ⟨#[]⟩, .string ⟨#[]⟩, .string ⟨#[]⟩, .string ⟨#[]⟩, .slice none 0 0, .slice none 0 0, .slice none 0 0, .slice none 0 0, .slice none 0 0] 34)).alloc (.cells #[.int .i64 0] 3)) := by
  refine ⟨(((Blk.new w _ _).alloc _).alloc _).alloc _, ?_, ?_, ?_, ((((Below.refl _ _).alloc (Nat.le_refl _) _).alloc (by simp) _).alloc (by simp; omega) _).alloc (by simp; omega) _⟩
  · have := (Blk.new (w.alloc (.cells #[.string s, .map (some b1), .map (some b2)] 79)) 36 zPc)
    rw [World.size_alloc] at this
    exact (this.alloc _).alloc _
  · have := (Blk.new ((w.alloc (.cells #[.string s, .map (some b1), .map (some b2)] 79)).alloc (.cells zPc 36)) 34 zIn)
    simp only [World.size_alloc] at this
    exact this.alloc _
  · have := (Blk.new (((w.alloc (.cells #[.string s, .map (some b1), .map (some b2)] 79)).alloc (.cells zPc 36)).alloc (.cells zIn 34)) 3 #[.int .i64 0])
    simp only [World.size_alloc] at this
    exact this
theorem PcSt.below {s : ByteArray} {b1 b2 : Nat} {vs : Array Value} {t : Int} {w W W' : World} (h : PcSt s b1 b2 vs t w W) (hb : Below W.heap.size W W') : PcSt s b1 b2 vs t w W' := by
  obtain ⟨h1, h2, h3, h4, h5⟩ := h
  have := h1.lt
  exact ⟨h1.below hb h1.lt, h2.below hb h2.lt, h3.below hb h3.lt, h4.below hb h4.lt, h5.trans (hb.mono (by omega))⟩
theorem pc_foundN {s : ByteArray} {b1 b2 : Nat} {w W : World} (h : PcSt s b1 b2 zIn 0 w W) :
    Calls Tryz.prog 72 #[.agg zIn, .int .i64 0, .pointer (some ⟨w.heap.size + 1 + 1, 0, none⟩), .pointer (some ⟨w.heap.size + 1 + 1 + 1, 0, none⟩)] W fun e W' => e = .returned (.bool false) ∧ PcSt s b1 b2 zIn 0 w W' := by
  obtain ⟨h1, h2, h3, h4, h5⟩ := h
  refine (s_found (w.heap.size + 1 + 1) (w.heap.size + 1 + 1 + 1) 0 0 0 ⟨#[]⟩ ⟨#[]⟩ ⟨#[]⟩ none 0 0 none 0 0 _ _ _ _ _ _ _ _ _ _ W h3 h4 (by omega)).mono ?_
  rintro e W' ⟨rfl, g1, g2, g3, _⟩
  have hz := h4.lt
  have g4 := g3 (w.heap.size + 1 + 1) (by omega) (by omega) (by omega)
  exact ⟨rfl, h1.below g4 (by omega), h2.below g4 (by omega), g1, g2, h5.trans (g4.mono (by omega))⟩
theorem pc_foundS {s : ByteArray} {b1 b2 : Nat} {w W : World} (h : PcSt s b1 b2 zIn 0 w W) (x : InL) (k : Nat) (A1 : Option Addr) (c1 : Nat) (A2 : Option Addr) (c2 : Nat) (hk : 0 < k) :
    Calls Tryz.prog 72 #[.agg (inC x A1 c1 A2 c2), .int .i64 k, .pointer (some ⟨w.heap.size + 1 + 1, 0, none⟩), .pointer (some ⟨w.heap.size + 1 + 1 + 1, 0, none⟩)] W fun e W' => e = .returned (.bool true) ∧ PcSt s b1 b2 (inC x A1 c1 A2 c2) k w W' ∧ (∀ g, g < W.heap.size → g ≠ w.heap.size + 1 + 1 → g ≠ w.heap.size + 1 + 1 + 1 → W'.heap[g]? = W.heap[g]?) ∧ W.heap.size ≤ W'.heap.size := by
  obtain ⟨h1, h2, h3, h4, h5⟩ := h
  refine (s_found (w.heap.size + 1 + 1) (w.heap.size + 1 + 1 + 1) k 0 x.kind x.text x.dest x.title A1 x.args.length c1 A2 x.cites.length c2 _ _ _ _ _ _ _ _ _ _ W h3 h4 (by omega)).mono ?_
  rintro e W' ⟨rfl, g1, g2, g3, g5⟩
  have hz := h4.lt
  have g4 := g3 (w.heap.size + 1 + 1) (by omega) (by omega) (by omega)
  exact ⟨by rw [decide_eq_true (by omega)], ⟨h1.below g4 (by omega), h2.below g4 (by omega), g1, g2, h5.trans (g4.mono (by omega))⟩, g5, g4.size⟩
/-- What is handed back, an inline was found. -/
theorem pc_found {w V W : World} {x : InL × Nat} {i : Nat} {A1 A2 : Option Addr} {c1 c2 : Nat} {v : Value} {B : Nat} (hb : Below w.heap.size w W) (hir : InR V (Rg B V) x.1 A1 A2) (hk : (∀ g, g < V.heap.size → g ≠ w.heap.size + 1 + 1 → g ≠ w.heap.size + 1 + 1 + 1 → W.heap[g]? = V.heap[g]?) ∧ V.heap.size ≤ W.heap.size) (hB : w.heap.size + 1 + 1 + 1 < B)
    (hv : v = .agg (pcC (noBg (pcI x i)) A1 c1 A2 c2)) (cs : Array Value) :
    PcPost (noBg (pcI x i)) false w (.returned (.tuple #[v, .bool false])) (W.setRow (w.heap.size + 1) cs) := by
  subst hv
  refine ⟨row_below hb (by omega) _, A1, c1, A2, c2, rfl, ?_⟩
  refine InR.keep (x := x.1) hir (fun g hg => ?_) fun g hg => ⟨by have := hg.1; omega, by rw [row_size]; have := hg.2; omega⟩
  rw [row_far _ _ _ _ (by have := hg.1; omega)]
  exact hk.1 g hg.2 (by have := hg.1; omega) (by have := hg.1; omega)
/-- What another function has read is handed back. -/
theorem pc_again {w W : World} {p : PcL} {pl : Bool} {A1 A2 : Option Addr} {c1 c2 : Nat} {v : Value} {B : Nat} (hb : Below w.heap.size w W) (hir : InR W (Rg B W) p.inl A1 A2) (hB : w.heap.size + 1 + 1 + 1 < B) (hv : v = .agg (pcC p A1 c1 A2 c2)) (cs : Array Value) :
    PcPost p pl w (.returned (.tuple #[v, .bool pl])) (W.setRow (w.heap.size + 1) cs) := by
  subst hv
  refine ⟨row_below hb (by omega) _, A1, c1, A2, c2, rfl, ?_⟩
  exact InR.keep hir (fun g hg => row_far _ _ _ _ (by have := hg.1; omega)) fun g hg => ⟨by have := hg.1; omega, by rw [row_size]; have := hg.2; omega⟩
end Go.Proofs.YtcjkgmfidkgamaaGreatDoor
namespace Go.Proofs.YtcjkgmfidkgamaaGreatDoor
open Go.RowKit Go.Pub
set_option maxRecDepth 100000 in
set_option maxHeartbeats 4000000 in
theorem pc_esc (s : ByteArray) (i b1 b2 : Nat) (m : Int) (S : Nat → Prop) (w : World) (hs : s.size ≤ 1000000) (hi : i < s.size) (hb : bt s i = 92) (hW : RdrW w S s b1 b2) (hS : ∀ g, S g → g < w.heap.size) (hm : w.cell? ⟨0, 0, none⟩ = some (.int .i64 m)) :
    Calls Tryz.prog 45 #[rdrV s b1 b2, .int .i64 i] w (PcPost (noBg (pieceA s i).1) (pieceA s i).2 w) := by
  have hg := get_bt s i hi
  have h0w : 0 < w.heap.size := World.block_lt_of_cell? _ _ hm
  obtain ⟨R, hR⟩ : ∃ R, R = pieceA s i := ⟨_, rfl⟩
  rw [← hR]
  have hR2 := hR.trans (piece_92 hb)
  have hpos : ∀ x, escI s i = some x → 0 < x.2 := fun x hx => Nat.lt_of_le_of_lt (Nat.zero_le i) (escI_bd hx).1
  have HX := Lib.hid fun W => s_back s i W hs hi
  rw [hb] at hg
  have hD := dec_bd s i hi
  have HN : Hid (∀ W, Calls Tryz.prog 85 #[.string s, .int .i64 i] W (PairQuiet ((Utf8.decode s i).1 : Nat) ((Utf8.decode s i).2 : Nat) W)) := Lib.hid fun W => by
    have := next_any s (i : Int) W (by omega)
    rwa [nextAt_in s i hi] at this
  have HL : Hid (∀ W, Calls Tryz.prog 75 #[.string s, .int .i64 i, .int .i64 ((i : Int) + ((Utf8.decode s i).2 : Nat))] W fun r w' => r = .returned (.agg (pcC { inl := spn 1 (s.extract i (i + (Utf8.decode s i).2)), nd := i + (Utf8.decode s i).2 } none 0 none 0)) ∧ Below W.heap.size W w') := Lib.hid fun W => by
    have := s_literal s i (i + (Utf8.decode s i).2) W hs (by omega) (by omega)
    rwa [show ((i + (Utf8.decode s i).2 : Nat) : Int) = (i : Int) + ((Utf8.decode s i).2 : Nat) by omega] at this
  clear hR hW hm hb
  generalize escI s i = O at *
  generalize Utf8.decode s i = D at *
  have HQ := Lib.hid hR2
  clear hR2
  have Z0 := Lib.hid (PcSt.start s b1 b2 w)
  unfold rdrV
  go_enter Tryz.func45, Tryz.ntmps45
  go_wp2_with fail
  go_step3
  go_wp2_with fail
  go_step3
  go_upto_region 6 with fail
  generalize ((((w.alloc _).alloc _).alloc _).alloc _) = W0 at *
  go_wp2_with fail
  ((with_reducible refine (HX.out _).mono ?_))
  rintro e W1 hp
  obtain ⟨q, hp⟩ := hp
  have ZW1 := Lib.hid (Z0.out.below q)
  have HZBW1 := Lib.hid Z0.out.2.2.2.1.lt
  clear q Z0
  clear HX
  cases O with
  | none =>
    have HQ2 : Hid (R = (litP s i (i + D.2), true)) := Lib.hid HQ.out
    clear HQ hpos HZBW1
    obtain rfl := hp
    have HFd := Lib.hid (pc_foundN ZW1.out)
    clear ZW1
    go_wp2_with fail
    ((with_reducible refine HFd.out.mono ?_))
    rintro e W2 ⟨rfl, z2⟩
    have ZW2 := Lib.hid z2
    clear z2 HFd
    have z8 := ZW2.out
    have e0 := z8.2.2.2.1.cell 0
    simp at e0
    clear ZW2
    go_wp2_with fail
    ((with_reducible refine (HN.out _).mono ?_))
    rintro e W8 ⟨rfl, q8, rfl⟩
    have Z8 := Lib.hid (z8.below (below_drewN (Below.refl _ _) q8))
    clear e0 z8
    generalize Z8W : World.drewN _ q8 = W8 at *
    clear Z8W

    have z9 := Z8.out
    have hz9 := z9.1.lt
    clear Z8
    go_wp2_with fail
    ((with_reducible refine (HL.out _).mono ?_))
    rintro e W9 ⟨rfl, q9⟩
    have Z9 := z9.below q9
    obtain ⟨p0, p1, p2, p3, p4⟩ := Z9
    have p1h := Lib.hid p1
    have p4h := Lib.hid p4
    clear p0 p1 p2 p3 p4 q9 z9 
    go_wp2_with (refine wpList_store_row rfl 36 (.tmp 4) _ rfl _ _ rfl rfl _ _ p1h.out pc_size (by rfl) (by simp [pcC, Value.oneCell']) ?_)
    rw [Exit.noGoto_ret]
    refine pc_ret Tryz.results45 (row_blk p1h.out _) rfl rfl rfl ?_
    rw [HQ2.out]
    exact pc_plain (row_below p4h.out (by omega) _) rfl rfl rfl
  | some x =>
    have HQ2 : Hid (R = (pcI x i, false)) := Lib.hid HQ.out
    clear HQ HN HL hD
    have HZB := HZBW1
    obtain ⟨A1, c1, A2, c2, rfl, hir⟩ := hp
    have HFd := Lib.hid (pc_foundS ZW1.out x.1 x.2 A1 c1 A2 c2 (hpos x rfl))
    have HIR := Lib.hid hir
    have hxp : (0 : Int) < (x.2 : Nat) := by have := hpos x rfl; omega
    clear hir
    go_wp2_with fail
    ((with_reducible refine HFd.out.mono ?_))
    rintro e W2 ⟨rfl, z2, hkeep⟩
    have ZW2 := Lib.hid z2
    have HKp := Lib.hid hkeep
    clear z2 HFd hkeep ZW1
    obtain ⟨p0, p1, p2, p3, p4⟩ := ZW2.out
    have p1h := Lib.hid p1
    have p4h := Lib.hid p4
    obtain ⟨d0, d1, d2, d3, d4, d5, d6, d7, d8, d9, _⟩ := in_facts p2
    have e0 := p3.cell 0
    simp at e0
    clear p0 p1 p2 p3 p4 ZW2
    go_wp2_with (refine wpList_store_row rfl 36 (.tmp 4) _ rfl _ _ rfl rfl _ _ p1h.out pc_size (by rfl) (by simp [pcC, Value.oneCell']) ?_)
    rw [Exit.noGoto_ret]
    refine pc_ret Tryz.results45 (row_blk p1h.out _) rfl rfl rfl ?_
    rw [HQ2.out]
    exact pc_found p4h.out HIR.out HKp.out HZB.out rfl _

set_option maxRecDepth 100000 in
set_option maxHeartbeats 4000000 in
theorem pc_amp (s : ByteArray) (i b1 b2 : Nat) (m : Int) (S : Nat → Prop) (w : World) (hs : s.size ≤ 1000000) (hi : i < s.size) (hb : bt s i = 38) (hW : RdrW w S s b1 b2) (hS : ∀ g, S g → g < w.heap.size) (hm : w.cell? ⟨0, 0, none⟩ = some (.int .i64 m)) :
    Calls Tryz.prog 45 #[rdrV s b1 b2, .int .i64 i] w (PcPost (noBg (pieceA s i).1) (pieceA s i).2 w) := by
  have hg := get_bt s i hi
  have h0w : 0 < w.heap.size := World.block_lt_of_cell? _ _ hm
  obtain ⟨R, hR⟩ : ∃ R, R = pieceA s i := ⟨_, rfl⟩
  rw [← hR]
  have hR2 := hR.trans (piece_38 hb)
  have hpos : ∀ x, entI s i = some x → 0 < x.2 := fun x hx => Nat.lt_of_le_of_lt (Nat.zero_le i) (entI_bd hx).1
  have HX := Lib.hid fun W => s_reference s i W hs hi
  rw [hb] at hg
  have hD := dec_bd s i hi
  have HN : Hid (∀ W, Calls Tryz.prog 85 #[.string s, .int .i64 i] W (PairQuiet ((Utf8.decode s i).1 : Nat) ((Utf8.decode s i).2 : Nat) W)) := Lib.hid fun W => by
    have := next_any s (i : Int) W (by omega)
    rwa [nextAt_in s i hi] at this
  have HL : Hid (∀ W, Calls Tryz.prog 75 #[.string s, .int .i64 i, .int .i64 ((i : Int) + ((Utf8.decode s i).2 : Nat))] W fun r w' => r = .returned (.agg (pcC { inl := spn 1 (s.extract i (i + (Utf8.decode s i).2)), nd := i + (Utf8.decode s i).2 } none 0 none 0)) ∧ Below W.heap.size W w') := Lib.hid fun W => by
    have := s_literal s i (i + (Utf8.decode s i).2) W hs (by omega) (by omega)
    rwa [show ((i + (Utf8.decode s i).2 : Nat) : Int) = (i : Int) + ((Utf8.decode s i).2 : Nat) by omega] at this
  clear hR hW hm hb
  generalize entI s i = O at *
  generalize Utf8.decode s i = D at *
  have HQ := Lib.hid hR2
  clear hR2
  have Z0 := Lib.hid (PcSt.start s b1 b2 w)
  unfold rdrV
  go_enter Tryz.func45, Tryz.ntmps45
  go_wp2_with fail
  go_step3
  go_wp2_with fail
  go_step3
  go_upto_region 6 with fail
  generalize ((((w.alloc _).alloc _).alloc _).alloc _) = W0 at *
  go_wp2_with fail
  ((with_reducible refine (HX.out _).mono ?_))
  rintro e W1 hp
  obtain ⟨q, hp⟩ := hp
  have ZW1 := Lib.hid (Z0.out.below q)
  have HZBW1 := Lib.hid Z0.out.2.2.2.1.lt
  clear q Z0
  clear HX
  cases O with
  | none =>
    have HQ2 : Hid (R = (litP s i (i + D.2), true)) := Lib.hid HQ.out
    clear HQ hpos HZBW1
    obtain rfl := hp
    have HFd := Lib.hid (pc_foundN ZW1.out)
    clear ZW1
    go_wp2_with fail
    ((with_reducible refine HFd.out.mono ?_))
    rintro e W2 ⟨rfl, z2⟩
    have ZW2 := Lib.hid z2
    clear z2 HFd
    have z8 := ZW2.out
    have e0 := z8.2.2.2.1.cell 0
    simp at e0
    clear ZW2
    go_wp2_with fail
    ((with_reducible refine (HN.out _).mono ?_))
    rintro e W8 ⟨rfl, q8, rfl⟩
    have Z8 := Lib.hid (z8.below (below_drewN (Below.refl _ _) q8))
    clear e0 z8
    generalize Z8W : World.drewN _ q8 = W8 at *
    clear Z8W

    have z9 := Z8.out
    have hz9 := z9.1.lt
    clear Z8
    go_wp2_with fail
    ((with_reducible refine (HL.out _).mono ?_))
    rintro e W9 ⟨rfl, q9⟩
    have Z9 := z9.below q9
    obtain ⟨p0, p1, p2, p3, p4⟩ := Z9
    have p1h := Lib.hid p1
    have p4h := Lib.hid p4
    clear p0 p1 p2 p3 p4 q9 z9 
    go_wp2_with (refine wpList_store_row rfl 36 (.tmp 4) _ rfl _ _ rfl rfl _ _ p1h.out pc_size (by rfl) (by simp [pcC, Value.oneCell']) ?_)
    rw [Exit.noGoto_ret]
    refine pc_ret Tryz.results45 (row_blk p1h.out _) rfl rfl rfl ?_
    rw [HQ2.out]
    exact pc_plain (row_below p4h.out (by omega) _) rfl rfl rfl
  | some x =>
    have HQ2 : Hid (R = (pcI x i, false)) := Lib.hid HQ.out
    clear HQ HN HL hD
    have HZB := HZBW1
    obtain ⟨A1, c1, A2, c2, rfl, hir⟩ := hp
    have HFd := Lib.hid (pc_foundS ZW1.out x.1 x.2 A1 c1 A2 c2 (hpos x rfl))
    have HIR := Lib.hid hir
    have hxp : (0 : Int) < (x.2 : Nat) := by have := hpos x rfl; omega
    clear hir
    go_wp2_with fail
    ((with_reducible refine HFd.out.mono ?_))
    rintro e W2 ⟨rfl, z2, hkeep⟩
    have ZW2 := Lib.hid z2
    have HKp := Lib.hid hkeep
    clear z2 HFd hkeep ZW1
    obtain ⟨p0, p1, p2, p3, p4⟩ := ZW2.out
    have p1h := Lib.hid p1
    have p4h := Lib.hid p4
    obtain ⟨d0, d1, d2, d3, d4, d5, d6, d7, d8, d9, _⟩ := in_facts p2
    have e0 := p3.cell 0
    simp at e0
    clear p0 p1 p2 p3 p4 ZW2
    go_wp2_with (refine wpList_store_row rfl 36 (.tmp 4) _ rfl _ _ rfl rfl _ _ p1h.out pc_size (by rfl) (by simp [pcC, Value.oneCell']) ?_)
    rw [Exit.noGoto_ret]
    refine pc_ret Tryz.results45 (row_blk p1h.out _) rfl rfl rfl ?_
    rw [HQ2.out]
    exact pc_found p4h.out HIR.out HKp.out HZB.out rfl _

set_option maxRecDepth 100000 in
set_option maxHeartbeats 4000000 in
theorem pc_lt (s : ByteArray) (i b1 b2 : Nat) (m : Int) (S : Nat → Prop) (w : World) (hs : s.size ≤ 1000000) (hi : i < s.size) (hb : bt s i = 60) (hW : RdrW w S s b1 b2) (hS : ∀ g, S g → g < w.heap.size) (hm : w.cell? ⟨0, 0, none⟩ = some (.int .i64 m)) :
    Calls Tryz.prog 45 #[rdrV s b1 b2, .int .i64 i] w (PcPost (noBg (pieceA s i).1) (pieceA s i).2 w) := by
  have hg := get_bt s i hi
  have h0w : 0 < w.heap.size := World.block_lt_of_cell? _ _ hm
  obtain ⟨R, hR⟩ : ∃ R, R = pieceA s i := ⟨_, rfl⟩
  rw [← hR]
  have hR2 := hR.trans (piece_60 hb)
  have hpos : ∀ x, autI s i = some x → 0 < x.2 := fun x hx => Nat.lt_of_le_of_lt (Nat.zero_le i) (autI_bd hi hx).1
  have HX := Lib.hid fun W => s_auto s i W hs hi
  rw [hb] at hg
  have hD := dec_bd s i hi
  have HN : Hid (∀ W, Calls Tryz.prog 85 #[.string s, .int .i64 i] W (PairQuiet ((Utf8.decode s i).1 : Nat) ((Utf8.decode s i).2 : Nat) W)) := Lib.hid fun W => by
    have := next_any s (i : Int) W (by omega)
    rwa [nextAt_in s i hi] at this
  have HL : Hid (∀ W, Calls Tryz.prog 75 #[.string s, .int .i64 i, .int .i64 ((i : Int) + ((Utf8.decode s i).2 : Nat))] W fun r w' => r = .returned (.agg (pcC { inl := spn 1 (s.extract i (i + (Utf8.decode s i).2)), nd := i + (Utf8.decode s i).2 } none 0 none 0)) ∧ Below W.heap.size W w') := Lib.hid fun W => by
    have := s_literal s i (i + (Utf8.decode s i).2) W hs (by omega) (by omega)
    rwa [show ((i + (Utf8.decode s i).2 : Nat) : Int) = (i : Int) + ((Utf8.decode s i).2 : Nat) by omega] at this
  clear hR hW hm hb
  generalize autI s i = O at *
  generalize Utf8.decode s i = D at *
  have HQ := Lib.hid hR2
  clear hR2
  have Z0 := Lib.hid (PcSt.start s b1 b2 w)
  unfold rdrV
  go_enter Tryz.func45, Tryz.ntmps45
  go_wp2_with fail
  go_step3
  go_wp2_with fail
  go_step3
  go_upto_region 6 with fail
  generalize ((((w.alloc _).alloc _).alloc _).alloc _) = W0 at *
  go_wp2_with fail
  ((with_reducible refine (HX.out _).mono ?_))
  rintro e W1 hp
  obtain ⟨q, hp⟩ := hp
  have ZW1 := Lib.hid (Z0.out.below q)
  have HZBW1 := Lib.hid Z0.out.2.2.2.1.lt
  clear q Z0
  clear HX
  cases O with
  | none =>
    have HQ2 : Hid (R = (litP s i (i + D.2), true)) := Lib.hid HQ.out
    clear HQ hpos HZBW1
    obtain rfl := hp
    have HFd := Lib.hid (pc_foundN ZW1.out)
    clear ZW1
    go_wp2_with fail
    ((with_reducible refine HFd.out.mono ?_))
    rintro e W2 ⟨rfl, z2⟩
    have ZW2 := Lib.hid z2
    clear z2 HFd
    have z8 := ZW2.out
    have e0 := z8.2.2.2.1.cell 0
    simp at e0
    clear ZW2
    go_wp2_with fail
    ((with_reducible refine (HN.out _).mono ?_))
    rintro e W8 ⟨rfl, q8, rfl⟩
    have Z8 := Lib.hid (z8.below (below_drewN (Below.refl _ _) q8))
    clear e0 z8
    generalize Z8W : World.drewN _ q8 = W8 at *
    clear Z8W

    have z9 := Z8.out
    have hz9 := z9.1.lt
    clear Z8
    go_wp2_with fail
    ((with_reducible refine (HL.out _).mono ?_))
    rintro e W9 ⟨rfl, q9⟩
    have Z9 := z9.below q9
    obtain ⟨p0, p1, p2, p3, p4⟩ := Z9
    have p1h := Lib.hid p1
    have p4h := Lib.hid p4
    clear p0 p1 p2 p3 p4 q9 z9 
    go_wp2_with (refine wpList_store_row rfl 36 (.tmp 4) _ rfl _ _ rfl rfl _ _ p1h.out pc_size (by rfl) (by simp [pcC, Value.oneCell']) ?_)
    rw [Exit.noGoto_ret]
    refine pc_ret Tryz.results45 (row_blk p1h.out _) rfl rfl rfl ?_
    rw [HQ2.out]
    exact pc_plain (row_below p4h.out (by omega) _) rfl rfl rfl
  | some x =>
    have HQ2 : Hid (R = (pcI x i, false)) := Lib.hid HQ.out
    clear HQ HN HL hD
    have HZB := HZBW1
    obtain ⟨A1, c1, A2, c2, rfl, hir⟩ := hp
    have HFd := Lib.hid (pc_foundS ZW1.out x.1 x.2 A1 c1 A2 c2 (hpos x rfl))
    have HIR := Lib.hid hir
    have hxp : (0 : Int) < (x.2 : Nat) := by have := hpos x rfl; omega
    clear hir
    go_wp2_with fail
    ((with_reducible refine HFd.out.mono ?_))
    rintro e W2 ⟨rfl, z2, hkeep⟩
    have ZW2 := Lib.hid z2
    have HKp := Lib.hid hkeep
    clear z2 HFd hkeep ZW1
    obtain ⟨p0, p1, p2, p3, p4⟩ := ZW2.out
    have p1h := Lib.hid p1
    have p4h := Lib.hid p4
    obtain ⟨d0, d1, d2, d3, d4, d5, d6, d7, d8, d9, _⟩ := in_facts p2
    have e0 := p3.cell 0
    simp at e0
    clear p0 p1 p2 p3 p4 ZW2
    go_wp2_with (refine wpList_store_row rfl 36 (.tmp 4) _ rfl _ _ rfl rfl _ _ p1h.out pc_size (by rfl) (by simp [pcC, Value.oneCell']) ?_)
    rw [Exit.noGoto_ret]
    refine pc_ret Tryz.results45 (row_blk p1h.out _) rfl rfl rfl ?_
    rw [HQ2.out]
    exact pc_found p4h.out HIR.out HKp.out HZB.out rfl _

set_option maxRecDepth 100000 in
set_option maxHeartbeats 4000000 in
theorem pc_brace (s : ByteArray) (i b1 b2 : Nat) (m : Int) (S : Nat → Prop) (w : World) (hs : s.size ≤ 1000000) (hi : i < s.size) (hb : bt s i = 123) (hW : RdrW w S s b1 b2) (hS : ∀ g, S g → g < w.heap.size) (hm : w.cell? ⟨0, 0, none⟩ = some (.int .i64 m)) :
    Calls Tryz.prog 45 #[rdrV s b1 b2, .int .i64 i] w (PcPost (noBg (pieceA s i).1) (pieceA s i).2 w) := by
  have hg := get_bt s i hi
  have h0w : 0 < w.heap.size := World.block_lt_of_cell? _ _ hm
  obtain ⟨R, hR⟩ : ∃ R, R = pieceA s i := ⟨_, rfl⟩
  rw [← hR]
  have hR2 := hR.trans (piece_123 hb)
  have hpos : ∀ x, useI s i = some x → 0 < x.2 := fun x hx => Nat.lt_of_le_of_lt (Nat.zero_le i) (useI_bd hx).1
  have HX := Lib.hid fun W => s_use s i W hs hi
  rw [hb] at hg
  have hD := dec_bd s i hi
  have HN : Hid (∀ W, Calls Tryz.prog 85 #[.string s, .int .i64 i] W (PairQuiet ((Utf8.decode s i).1 : Nat) ((Utf8.decode s i).2 : Nat) W)) := Lib.hid fun W => by
    have := next_any s (i : Int) W (by omega)
    rwa [nextAt_in s i hi] at this
  have HL : Hid (∀ W, Calls Tryz.prog 75 #[.string s, .int .i64 i, .int .i64 ((i : Int) + ((Utf8.decode s i).2 : Nat))] W fun r w' => r = .returned (.agg (pcC { inl := spn 1 (s.extract i (i + (Utf8.decode s i).2)), nd := i + (Utf8.decode s i).2 } none 0 none 0)) ∧ Below W.heap.size W w') := Lib.hid fun W => by
    have := s_literal s i (i + (Utf8.decode s i).2) W hs (by omega) (by omega)
    rwa [show ((i + (Utf8.decode s i).2 : Nat) : Int) = (i : Int) + ((Utf8.decode s i).2 : Nat) by omega] at this
  clear hR hW hm hb
  generalize useI s i = O at *
  generalize Utf8.decode s i = D at *
  have HQ := Lib.hid hR2
  clear hR2
  have Z0 := Lib.hid (PcSt.start s b1 b2 w)
  unfold rdrV
  go_enter Tryz.func45, Tryz.ntmps45
  go_wp2_with fail
  go_step3
  go_wp2_with fail
  go_step3
  go_upto_region 6 with fail
  generalize ((((w.alloc _).alloc _).alloc _).alloc _) = W0 at *
  go_wp2_with fail
  ((with_reducible refine (HX.out _).mono ?_))
  rintro e W1 hp
  obtain ⟨q, hp⟩ := hp
  have ZW1 := Lib.hid (Z0.out.below q)
  have HZBW1 := Lib.hid Z0.out.2.2.2.1.lt
  clear q Z0
  clear HX
  cases O with
  | none =>
    have HQ2 : Hid (R = (litP s i (i + D.2), true)) := Lib.hid HQ.out
    clear HQ hpos HZBW1
    obtain rfl := hp
    have HFd := Lib.hid (pc_foundN ZW1.out)
    clear ZW1
    go_wp2_with fail
    ((with_reducible refine HFd.out.mono ?_))
    rintro e W2 ⟨rfl, z2⟩
    have ZW2 := Lib.hid z2
    clear z2 HFd
    have z8 := ZW2.out
    have e0 := z8.2.2.2.1.cell 0
    simp at e0
    clear ZW2
    go_wp2_with fail
    ((with_reducible refine (HN.out _).mono ?_))
    rintro e W8 ⟨rfl, q8, rfl⟩
    have Z8 := Lib.hid (z8.below (below_drewN (Below.refl _ _) q8))
    clear e0 z8
    generalize Z8W : World.drewN _ q8 = W8 at *
    clear Z8W

    have z9 := Z8.out
    have hz9 := z9.1.lt
    clear Z8
    go_wp2_with fail
    ((with_reducible refine (HL.out _).mono ?_))
    rintro e W9 ⟨rfl, q9⟩
    have Z9 := z9.below q9
    obtain ⟨p0, p1, p2, p3, p4⟩ := Z9
    have p1h := Lib.hid p1
    have p4h := Lib.hid p4
    clear p0 p1 p2 p3 p4 q9 z9 
    go_wp2_with (refine wpList_store_row rfl 36 (.tmp 4) _ rfl _ _ rfl rfl _ _ p1h.out pc_size (by rfl) (by simp [pcC, Value.oneCell']) ?_)
    rw [Exit.noGoto_ret]
    refine pc_ret Tryz.results45 (row_blk p1h.out _) rfl rfl rfl ?_
    rw [HQ2.out]
    exact pc_plain (row_below p4h.out (by omega) _) rfl rfl rfl
  | some x =>
    have HQ2 : Hid (R = (pcI x i, false)) := Lib.hid HQ.out
    clear HQ HN HL hD
    have HZB := HZBW1
    obtain ⟨A1, c1, A2, c2, rfl, hir⟩ := hp
    have HFd := Lib.hid (pc_foundS ZW1.out x.1 x.2 A1 c1 A2 c2 (hpos x rfl))
    have HIR := Lib.hid hir
    have hxp : (0 : Int) < (x.2 : Nat) := by have := hpos x rfl; omega
    clear hir
    go_wp2_with fail
    ((with_reducible refine HFd.out.mono ?_))
    rintro e W2 ⟨rfl, z2, hkeep⟩
    have ZW2 := Lib.hid z2
    have HKp := Lib.hid hkeep
    clear z2 HFd hkeep ZW1
    obtain ⟨p0, p1, p2, p3, p4⟩ := ZW2.out
    have p1h := Lib.hid p1
    have p4h := Lib.hid p4
    obtain ⟨d0, d1, d2, d3, d4, d5, d6, d7, d8, d9, _⟩ := in_facts p2
    have e0 := p3.cell 0
    simp at e0
    clear p0 p1 p2 p3 p4 ZW2
    go_wp2_with (refine wpList_store_row rfl 36 (.tmp 4) _ rfl _ _ rfl rfl _ _ p1h.out pc_size (by rfl) (by simp [pcC, Value.oneCell']) ?_)
    rw [Exit.noGoto_ret]
    refine pc_ret Tryz.results45 (row_blk p1h.out _) rfl rfl rfl ?_
    rw [HQ2.out]
    exact pc_found p4h.out HIR.out HKp.out HZB.out rfl _

end Go.Proofs.YtcjkgmfidkgamaaGreatDoor
namespace Go.Proofs.YtcjkgmfidkgamaaGreatDoor
open Go.RowKit Go.Pub
set_option maxRecDepth 100000 in
set_option maxHeartbeats 4000000 in
theorem pc_dol (s : ByteArray) (i b1 b2 : Nat) (m : Int) (S : Nat → Prop) (w : World) (hs : s.size ≤ 1000000) (hi : i < s.size) (hb : bt s i = 36) (hW : RdrW w S s b1 b2) (hS : ∀ g, S g → g < w.heap.size) (hm : w.cell? ⟨0, 0, none⟩ = some (.int .i64 m)) :
    Calls Tryz.prog 45 #[rdrV s b1 b2, .int .i64 i] w (PcPost (noBg (pieceA s i).1) (pieceA s i).2 w) := by
  have hg := get_bt s i hi
  have h0w : 0 < w.heap.size := World.block_lt_of_cell? _ _ hm
  obtain ⟨R, hR⟩ : ∃ R, R = pieceA s i := ⟨_, rfl⟩
  rw [← hR]
  have hR2 := hR.trans (piece_36 hb)
  have hpos1 : ∀ x, mathI s i = some x → 0 < x.2 := fun x hx => Nat.lt_of_le_of_lt (Nat.zero_le i) (mathI_bd hx).1
  have hpos2 : ∀ x, dolI s i = some x → 0 < x.2 := fun x hx => Nat.lt_of_le_of_lt (Nat.zero_le i) (dolI_bd hi hx).1
  have HX : Hid (∀ W, Below w.heap.size w W → Calls Tryz.prog 77 #[.agg #[.string s, .map (some b1), .map (some b2)], .int .i64 i] W (InPost (mathI s i) W)) := Lib.hid fun W hbW => s_math s i b1 b2 m S W hs hi (hW.keep (fun g hg => hbW.block g (hS g hg)) fun g hg => hg) (fun g hg => Nat.lt_of_lt_of_le (hS g hg) hbW.size) ((hbW.cell (p := ⟨0, 0, none⟩) h0w).trans hm)
  have HY := Lib.hid fun W => s_dollars s i W hs hi
  rw [hb] at hg
  have hD := dec_bd s i hi
  have HN : Hid (∀ W, Calls Tryz.prog 85 #[.string s, .int .i64 i] W (PairQuiet ((Utf8.decode s i).1 : Nat) ((Utf8.decode s i).2 : Nat) W)) := Lib.hid fun W => by
    have := next_any s (i : Int) W (by omega)
    rwa [nextAt_in s i hi] at this
  have HL : Hid (∀ W, Calls Tryz.prog 75 #[.string s, .int .i64 i, .int .i64 ((i : Int) + ((Utf8.decode s i).2 : Nat))] W fun r w' => r = .returned (.agg (pcC { inl := spn 1 (s.extract i (i + (Utf8.decode s i).2)), nd := i + (Utf8.decode s i).2 } none 0 none 0)) ∧ Below W.heap.size W w') := Lib.hid fun W => by
    have := s_literal s i (i + (Utf8.decode s i).2) W hs (by omega) (by omega)
    rwa [show ((i + (Utf8.decode s i).2 : Nat) : Int) = (i : Int) + ((Utf8.decode s i).2 : Nat) by omega] at this
  clear hR hW hm hb
  generalize mathI s i = O at *
  generalize dolI s i = O2 at *
  generalize Utf8.decode s i = D at *
  have HQ := Lib.hid hR2
  clear hR2
  have Z0 := Lib.hid (PcSt.start s b1 b2 w)
  unfold rdrV
  go_enter Tryz.func45, Tryz.ntmps45
  go_wp2_with fail
  go_step3
  go_wp2_with fail
  go_step3
  go_upto_region 6 with fail
  generalize ((((w.alloc _).alloc _).alloc _).alloc _) = W0 at *
  have hc0 := Z0.out.1.cell 0
  have hc1 := Z0.out.1.cell 1
  have hc2 := Z0.out.1.cell 2
  simp at hc0 hc1 hc2
  have HXW := Lib.hid (HX.out W0 Z0.out.2.2.2.2)
  clear HX
  go_wp2_with fail
  ((with_reducible refine (HXW.out).mono ?_))
  rintro e W1 hp
  obtain ⟨q, hp⟩ := hp
  have ZW1 := Lib.hid (Z0.out.below q)
  have HZBW1 := Lib.hid Z0.out.2.2.2.1.lt
  clear q Z0
  clear HXW hc0 hc1 hc2
  cases O with
  | none =>
    have HQ1 : Hid (R = match (motive := Option (InL × Nat) → PcL × Bool) O2 with | some x => (pcI x i, false) | none => (litP s i (i + D.2), true)) := Lib.hid HQ.out
    clear HQ hpos1 HZBW1
    obtain rfl := hp
    have HFd := Lib.hid (pc_foundN ZW1.out)
    clear ZW1
    go_wp2_with fail
    ((with_reducible refine HFd.out.mono ?_))
    rintro e W2 ⟨rfl, z2⟩
    have ZW2 := Lib.hid z2
    clear z2 HFd
    have hpos := hpos2
    clear hpos2
    go_wp2_with fail
    ((with_reducible refine (HY.out _).mono ?_))
    rintro e W3 hp
    obtain ⟨q, hp⟩ := hp
    have ZW3 := Lib.hid (ZW2.out.below q)
    have HZBW3 := Lib.hid ZW2.out.2.2.2.1.lt
    clear q ZW2
    clear HY
    cases O2 with
    | none =>
      have HQ2 : Hid (R = (litP s i (i + D.2), true)) := Lib.hid HQ1.out
      clear HQ1 hpos HZBW3
      obtain rfl := hp
      have HFd := Lib.hid (pc_foundN ZW3.out)
      clear ZW3
      go_wp2_with fail
      ((with_reducible refine HFd.out.mono ?_))
      rintro e W4 ⟨rfl, z2⟩
      have ZW4 := Lib.hid z2
      clear z2 HFd
      have z8 := ZW4.out
      have e0 := z8.2.2.2.1.cell 0
      simp at e0
      clear ZW4
      go_wp2_with fail
      ((with_reducible refine (HN.out _).mono ?_))
      rintro e W8 ⟨rfl, q8, rfl⟩
      have Z8 := Lib.hid (z8.below (below_drewN (Below.refl _ _) q8))
      clear e0 z8
      generalize Z8W : World.drewN _ q8 = W8 at *
      clear Z8W

      have z9 := Z8.out
      have hz9 := z9.1.lt
      clear Z8
      go_wp2_with fail
      ((with_reducible refine (HL.out _).mono ?_))
      rintro e W9 ⟨rfl, q9⟩
      have Z9 := z9.below q9
      obtain ⟨p0, p1, p2, p3, p4⟩ := Z9
      have p1h := Lib.hid p1
      have p4h := Lib.hid p4
      clear p0 p1 p2 p3 p4 q9 z9 
      go_wp2_with (refine wpList_store_row rfl 36 (.tmp 4) _ rfl _ _ rfl rfl _ _ p1h.out pc_size (by rfl) (by simp [pcC, Value.oneCell']) ?_)
      rw [Exit.noGoto_ret]
      refine pc_ret Tryz.results45 (row_blk p1h.out _) rfl rfl rfl ?_
      rw [HQ2.out]
      exact pc_plain (row_below p4h.out (by omega) _) rfl rfl rfl
    | some x =>
      have HQ2 : Hid (R = (pcI x i, false)) := Lib.hid HQ1.out
      clear HQ1 HN HL hD
      have HZB := HZBW3
      obtain ⟨A1, c1, A2, c2, rfl, hir⟩ := hp
      have HFd := Lib.hid (pc_foundS ZW3.out x.1 x.2 A1 c1 A2 c2 (hpos x rfl))
      have HIR := Lib.hid hir
      have hxp : (0 : Int) < (x.2 : Nat) := by have := hpos x rfl; omega
      clear hir
      go_wp2_with fail
      ((with_reducible refine HFd.out.mono ?_))
      rintro e W4 ⟨rfl, z2, hkeep⟩
      have ZW4 := Lib.hid z2
      have HKp := Lib.hid hkeep
      clear z2 HFd hkeep ZW3
      obtain ⟨p0, p1, p2, p3, p4⟩ := ZW4.out
      have p1h := Lib.hid p1
      have p4h := Lib.hid p4
      obtain ⟨d0, d1, d2, d3, d4, d5, d6, d7, d8, d9, _⟩ := in_facts p2
      have e0 := p3.cell 0
      simp at e0
      clear p0 p1 p2 p3 p4 ZW4
      go_wp2_with (refine wpList_store_row rfl 36 (.tmp 4) _ rfl _ _ rfl rfl _ _ p1h.out pc_size (by rfl) (by simp [pcC, Value.oneCell']) ?_)
      rw [Exit.noGoto_ret]
      refine pc_ret Tryz.results45 (row_blk p1h.out _) rfl rfl rfl ?_
      rw [HQ2.out]
      exact pc_found p4h.out HIR.out HKp.out HZB.out rfl _
  | some x =>
    have hpos := hpos1
    clear hpos1 hpos2
    have HQ2 : Hid (R = (pcI x i, false)) := Lib.hid HQ.out
    clear HQ HN HL hD HY
    have HZB := HZBW1
    obtain ⟨A1, c1, A2, c2, rfl, hir⟩ := hp
    have HFd := Lib.hid (pc_foundS ZW1.out x.1 x.2 A1 c1 A2 c2 (hpos x rfl))
    have HIR := Lib.hid hir
    have hxp : (0 : Int) < (x.2 : Nat) := by have := hpos x rfl; omega
    clear hir
    go_wp2_with fail
    ((with_reducible refine HFd.out.mono ?_))
    rintro e W2 ⟨rfl, z2, hkeep⟩
    have ZW2 := Lib.hid z2
    have HKp := Lib.hid hkeep
    clear z2 HFd hkeep ZW1
    obtain ⟨p0, p1, p2, p3, p4⟩ := ZW2.out
    have p1h := Lib.hid p1
    have p4h := Lib.hid p4
    obtain ⟨d0, d1, d2, d3, d4, d5, d6, d7, d8, d9, _⟩ := in_facts p2
    have e0 := p3.cell 0
    simp at e0
    clear p0 p1 p2 p3 p4 ZW2
    go_wp2_with (refine wpList_store_row rfl 36 (.tmp 4) _ rfl _ _ rfl rfl _ _ p1h.out pc_size (by rfl) (by simp [pcC, Value.oneCell']) ?_)
    rw [Exit.noGoto_ret]
    refine pc_ret Tryz.results45 (row_blk p1h.out _) rfl rfl rfl ?_
    rw [HQ2.out]
    exact pc_found p4h.out HIR.out HKp.out HZB.out rfl _

set_option maxRecDepth 100000 in
set_option maxHeartbeats 4000000 in
theorem pc_tick (s : ByteArray) (i b1 b2 : Nat) (m : Int) (S : Nat → Prop) (w : World) (hs : s.size ≤ 1000000) (hi : i < s.size) (hb : bt s i = 96) (hW : RdrW w S s b1 b2) (hS : ∀ g, S g → g < w.heap.size) (hm : w.cell? ⟨0, 0, none⟩ = some (.int .i64 m)) :
    Calls Tryz.prog 45 #[rdrV s b1 b2, .int .i64 i] w (PcPost (noBg (pieceA s i).1) (pieceA s i).2 w) := by
  have hg := get_bt s i hi
  have h0w : 0 < w.heap.size := World.block_lt_of_cell? _ _ hm
  obtain ⟨R, hR⟩ : ∃ R, R = pieceA s i := ⟨_, rfl⟩
  rw [← hR]
  have hR2 := hR.trans (piece_96 hb)
  have hpos : ∀ x, codeI s i = some x → 0 < x.2 := fun x hx => Nat.lt_of_le_of_lt (Nat.zero_le i) (codeI_bd hi hb hx).1
  have HX : Hid (∀ W, Below w.heap.size w W → Calls Tryz.prog 79 #[.agg #[.string s, .map (some b1), .map (some b2)], .int .i64 i] W (InPost (codeI s i) W)) := Lib.hid fun W hbW => s_code s i b1 b2 m S W hs hi hb (hW.keep (fun g hg => hbW.block g (hS g hg)) fun g hg => hg) (fun g hg => Nat.lt_of_lt_of_le (hS g hg) hbW.size) ((hbW.cell (p := ⟨0, 0, none⟩) h0w).trans hm)
  have HE := Lib.hid fun W => s_runEnd s i W hs hi
  have hD := runE_bd s i hi
  have HL := Lib.hid fun W => s_literal s i (runE s i) W hs (by omega) (by omega)
  rw [hb] at hg
  clear hR hW hm hb
  generalize codeI s i = O at *
  generalize runE s i = E at *
  have HQ := Lib.hid hR2
  clear hR2
  have Z0 := Lib.hid (PcSt.start s b1 b2 w)
  unfold rdrV
  go_enter Tryz.func45, Tryz.ntmps45
  go_wp2_with fail
  go_step3
  go_wp2_with fail
  go_step3
  go_upto_region 6 with fail
  generalize ((((w.alloc _).alloc _).alloc _).alloc _) = W0 at *
  have hc0 := Z0.out.1.cell 0
  have hc1 := Z0.out.1.cell 1
  have hc2 := Z0.out.1.cell 2
  simp at hc0 hc1 hc2
  have HXW := Lib.hid (HX.out W0 Z0.out.2.2.2.2)
  clear HX
  go_wp2_with fail
  ((with_reducible refine (HXW.out).mono ?_))
  rintro e W1 hp
  obtain ⟨q, hp⟩ := hp
  have ZW1 := Lib.hid (Z0.out.below q)
  have HZBW1 := Lib.hid Z0.out.2.2.2.1.lt
  clear q Z0
  clear HXW hc0 hc1 hc2
  cases O with
  | none =>
    have HQ2 : Hid (R = (litP s i E, true)) := Lib.hid HQ.out
    clear HQ hpos HZBW1
    obtain rfl := hp
    have HFd := Lib.hid (pc_foundN ZW1.out)
    clear ZW1
    go_wp2_with fail
    ((with_reducible refine HFd.out.mono ?_))
    rintro e W2 ⟨rfl, z2⟩
    have ZW2 := Lib.hid z2
    clear z2 HFd
    go_wp2_with fail
    ((with_reducible refine (HE.out _).mono ?_))
    rintro e W3 ⟨rfl, q⟩
    have ZW3 := Lib.hid (ZW2.out.below q)
    clear q ZW2 HE
    have z9 := ZW3.out
    have hz9 := z9.1.lt
    clear ZW3
    go_wp2_with fail
    ((with_reducible refine (HL.out _).mono ?_))
    rintro e W9 ⟨rfl, q9⟩
    have Z9 := z9.below q9
    obtain ⟨p0, p1, p2, p3, p4⟩ := Z9
    have p1h := Lib.hid p1
    have p4h := Lib.hid p4
    clear p0 p1 p2 p3 p4 q9 z9 
    go_wp2_with (refine wpList_store_row rfl 36 (.tmp 4) _ rfl _ _ rfl rfl _ _ p1h.out pc_size (by rfl) (by simp [pcC, Value.oneCell']) ?_)
    rw [Exit.noGoto_ret]
    refine pc_ret Tryz.results45 (row_blk p1h.out _) rfl rfl rfl ?_
    rw [HQ2.out]
    exact pc_plain (row_below p4h.out (by omega) _) rfl rfl rfl
  | some x =>
    have HQ2 : Hid (R = (pcI x i, false)) := Lib.hid HQ.out
    clear HQ HL hD HE
    have HZB := HZBW1
    obtain ⟨A1, c1, A2, c2, rfl, hir⟩ := hp
    have HFd := Lib.hid (pc_foundS ZW1.out x.1 x.2 A1 c1 A2 c2 (hpos x rfl))
    have HIR := Lib.hid hir
    have hxp : (0 : Int) < (x.2 : Nat) := by have := hpos x rfl; omega
    clear hir
    go_wp2_with fail
    ((with_reducible refine HFd.out.mono ?_))
    rintro e W2 ⟨rfl, z2, hkeep⟩
    have ZW2 := Lib.hid z2
    have HKp := Lib.hid hkeep
    clear z2 HFd hkeep ZW1
    obtain ⟨p0, p1, p2, p3, p4⟩ := ZW2.out
    have p1h := Lib.hid p1
    have p4h := Lib.hid p4
    obtain ⟨d0, d1, d2, d3, d4, d5, d6, d7, d8, d9, _⟩ := in_facts p2
    have e0 := p3.cell 0
    simp at e0
    clear p0 p1 p2 p3 p4 ZW2
    go_wp2_with (refine wpList_store_row rfl 36 (.tmp 4) _ rfl _ _ rfl rfl _ _ p1h.out pc_size (by rfl) (by simp [pcC, Value.oneCell']) ?_)
    rw [Exit.noGoto_ret]
    refine pc_ret Tryz.results45 (row_blk p1h.out _) rfl rfl rfl ?_
    rw [HQ2.out]
    exact pc_found p4h.out HIR.out HKp.out HZB.out rfl _

set_option maxRecDepth 100000 in
set_option maxHeartbeats 4000000 in
theorem pc_brk (s : ByteArray) (i b1 b2 : Nat) (m : Int) (S : Nat → Prop) (w : World) (hs : s.size ≤ 1000000) (hi : i < s.size) (hb : bt s i = 91) (hW : RdrW w S s b1 b2) (hS : ∀ g, S g → g < w.heap.size) (hm : w.cell? ⟨0, 0, none⟩ = some (.int .i64 m)) :
    Calls Tryz.prog 45 #[rdrV s b1 b2, .int .i64 i] w (PcPost (noBg (pieceA s i).1) (pieceA s i).2 w) := by
  have hg := get_bt s i hi
  have h0w : 0 < w.heap.size := World.block_lt_of_cell? _ _ hm
  obtain ⟨R, hR⟩ : ∃ R, R = pieceA s i := ⟨_, rfl⟩
  rw [← hR]
  have hR2 := hR.trans (piece_91 hb)
  have hpos1 : ∀ x, namI s i = some x → 0 < x.2 := fun x hx => Nat.lt_of_le_of_lt (Nat.zero_le i) (namI_bd hx).1
  have hpos2 : ∀ x, citI s i = some x → 0 < x.2 := fun x hx => Nat.lt_of_le_of_lt (Nat.zero_le i) (citI_bd hi hx).1
  have HX := Lib.hid fun W => s_named s i W hs hi
  have HY := Lib.hid fun W => s_cite s i W hs hi
  rw [hb] at hg
  clear hR hW hm hb
  generalize namI s i = O at *
  generalize citI s i = O2 at *
  have HQ := Lib.hid hR2
  clear hR2
  have Z0 := Lib.hid (PcSt.start s b1 b2 w)
  unfold rdrV
  go_enter Tryz.func45, Tryz.ntmps45
  go_wp2_with fail
  go_step3
  go_wp2_with fail
  go_step3
  go_upto_region 6 with fail
  generalize ((((w.alloc _).alloc _).alloc _).alloc _) = W0 at *
  go_wp2_with fail
  ((with_reducible refine (HX.out _).mono ?_))
  rintro e W1 hp
  obtain ⟨q, hp⟩ := hp
  have ZW1 := Lib.hid (Z0.out.below q)
  have HZBW1 := Lib.hid Z0.out.2.2.2.1.lt
  clear q Z0
  clear HX
  cases O with
  | none =>
    have HQ1 : Hid (R = (match (motive := Option (InL × Nat) → PcL) O2 with | some r => pcI r i | none => { kind := 2, bg := i, nd := i + 1 }, false)) := Lib.hid HQ.out
    clear HQ hpos1 HZBW1
    obtain rfl := hp
    have HFd := Lib.hid (pc_foundN ZW1.out)
    clear ZW1
    go_wp2_with fail
    ((with_reducible refine HFd.out.mono ?_))
    rintro e W2 ⟨rfl, z2⟩
    have ZW2 := Lib.hid z2
    clear z2 HFd
    have hpos := hpos2
    clear hpos2
    go_wp2_with fail
    ((with_reducible refine (HY.out _).mono ?_))
    rintro e W3 hp
    obtain ⟨q, hp⟩ := hp
    have ZW3 := Lib.hid (ZW2.out.below q)
    have HZBW3 := Lib.hid ZW2.out.2.2.2.1.lt
    clear q ZW2
    clear HY
    cases O2 with
    | none =>
      have HQ2 : Hid (R = ({ kind := 2, bg := i, nd := i + 1 }, false)) := Lib.hid HQ1.out
      clear HQ1 hpos HZBW3
      obtain rfl := hp
      have HFd := Lib.hid (pc_foundN ZW3.out)
      clear ZW3
      go_wp2_with fail
      ((with_reducible refine HFd.out.mono ?_))
      rintro e W4 ⟨rfl, z2⟩
      have ZW4 := Lib.hid z2
      clear z2 HFd
      obtain ⟨p0, p1, p2, p3, p4⟩ := ZW4.out
      have p1h := Lib.hid p1
      have p4h := Lib.hid p4
      clear p0 p1 p2 p3 p4 ZW4
      go_wp2_with (refine wpList_store_row rfl 36 (.tmp 4) _ rfl _ _ rfl rfl _ _ p1h.out pc_size (by rfl) (by simp [pcC, Value.oneCell']) ?_)
      rw [Exit.noGoto_ret]
      refine pc_ret Tryz.results45 (row_blk p1h.out _) rfl rfl rfl ?_
      rw [HQ2.out]
      exact pc_plain (row_below p4h.out (by omega) _) rfl rfl rfl
    | some x =>
      have HQ2 : Hid (R = (pcI x i, false)) := Lib.hid HQ1.out
      clear HQ1
      have HZB := HZBW3
      obtain ⟨A1, c1, A2, c2, rfl, hir⟩ := hp
      have HFd := Lib.hid (pc_foundS ZW3.out x.1 x.2 A1 c1 A2 c2 (hpos x rfl))
      have HIR := Lib.hid hir
      have hxp : (0 : Int) < (x.2 : Nat) := by have := hpos x rfl; omega
      clear hir
      go_wp2_with fail
      ((with_reducible refine HFd.out.mono ?_))
      rintro e W4 ⟨rfl, z2, hkeep⟩
      have ZW4 := Lib.hid z2
      have HKp := Lib.hid hkeep
      clear z2 HFd hkeep ZW3
      obtain ⟨p0, p1, p2, p3, p4⟩ := ZW4.out
      have p1h := Lib.hid p1
      have p4h := Lib.hid p4
      obtain ⟨d0, d1, d2, d3, d4, d5, d6, d7, d8, d9, _⟩ := in_facts p2
      have e0 := p3.cell 0
      simp at e0
      clear p0 p1 p2 p3 p4 ZW4
      go_wp2_with (refine wpList_store_row rfl 36 (.tmp 4) _ rfl _ _ rfl rfl _ _ p1h.out pc_size (by rfl) (by simp [pcC, Value.oneCell']) ?_)
      rw [Exit.noGoto_ret]
      refine pc_ret Tryz.results45 (row_blk p1h.out _) rfl rfl rfl ?_
      rw [HQ2.out]
      exact pc_found p4h.out HIR.out HKp.out HZB.out rfl _
  | some x =>
    have hpos := hpos1
    clear hpos1 hpos2
    have HQ2 : Hid (R = (pcI x i, false)) := Lib.hid HQ.out
    clear HQ HY
    have HZB := HZBW1
    obtain ⟨A1, c1, A2, c2, rfl, hir⟩ := hp
    have HFd := Lib.hid (pc_foundS ZW1.out x.1 x.2 A1 c1 A2 c2 (hpos x rfl))
    have HIR := Lib.hid hir
    have hxp : (0 : Int) < (x.2 : Nat) := by have := hpos x rfl; omega
    clear hir
    go_wp2_with fail
    ((with_reducible refine HFd.out.mono ?_))
    rintro e W2 ⟨rfl, z2, hkeep⟩
    have ZW2 := Lib.hid z2
    have HKp := Lib.hid hkeep
    clear z2 HFd hkeep ZW1
    obtain ⟨p0, p1, p2, p3, p4⟩ := ZW2.out
    have p1h := Lib.hid p1
    have p4h := Lib.hid p4
    obtain ⟨d0, d1, d2, d3, d4, d5, d6, d7, d8, d9, _⟩ := in_facts p2
    have e0 := p3.cell 0
    simp at e0
    clear p0 p1 p2 p3 p4 ZW2
    go_wp2_with (refine wpList_store_row rfl 36 (.tmp 4) _ rfl _ _ rfl rfl _ _ p1h.out pc_size (by rfl) (by simp [pcC, Value.oneCell']) ?_)
    rw [Exit.noGoto_ret]
    refine pc_ret Tryz.results45 (row_blk p1h.out _) rfl rfl rfl ?_
    rw [HQ2.out]
    exact pc_found p4h.out HIR.out HKp.out HZB.out rfl _

end Go.Proofs.YtcjkgmfidkgamaaGreatDoor
namespace Go.Proofs.YtcjkgmfidkgamaaGreatDoor
open Go.RowKit Go.Pub
set_option maxRecDepth 100000 in
set_option maxHeartbeats 4000000 in
theorem pc_sp (s : ByteArray) (i b1 b2 : Nat) (m : Int) (S : Nat → Prop) (w : World) (hs : s.size ≤ 1000000) (hi : i < s.size) (hb : bt s i = 32 ∨ bt s i = 10) (hW : RdrW w S s b1 b2) (hS : ∀ g, S g → g < w.heap.size) (hm : w.cell? ⟨0, 0, none⟩ = some (.int .i64 m)) :
    Calls Tryz.prog 45 #[rdrV s b1 b2, .int .i64 i] w (PcPost (noBg (pieceA s i).1) (pieceA s i).2 w) := by
  have hg := get_bt s i hi
  have h0w : 0 < w.heap.size := World.block_lt_of_cell? _ _ hm
  obtain ⟨R, hR⟩ : ∃ R, R = pieceA s i := ⟨_, rfl⟩
  rw [← hR]
  have hR2 := hR.trans (piece_32 hi hb)
  have HX := Lib.hid fun W => s_skip s i W hs
  have HY := Lib.hid fun W => s_skip s (spAt s i + 1) W hs
  rw [show ((spAt s i + 1 : Nat) : Int) = (spAt s i : Int) + 1 by omega] at HY
  have hE := spAt_bd' s i
  have hE2 := hE.2 (by omega)
  have hE3 := (spAt_bd' s (spAt s i + 1)).1
  have HL := Lib.hid fun W => s_literal s i (spAt s i) W hs (by omega) (by omega)
  clear hR hW hm
  generalize spAt s (spAt s i + 1) = E2 at *
  generalize spAt s i = E at *
  have HQ := Lib.hid hR2
  clear hR2
  by_cases hc : E < s.size ∧ bt s E = 10
  · have HQ2 : Hid (R = (pcI ({ kind := 2 }, E2) i, false)) := Lib.hid (by rw [HQ.out, if_pos hc])
    obtain ⟨hc1, hc2⟩ := hc
    have hgE := get_bt s E hc1
    rw [hc2] at hgE
    clear HQ HL hc2
    rcases hb with h | h
    all_goals
      rw [h] at hg
      clear h
      have Z0 := Lib.hid (PcSt.start s b1 b2 w)
      unfold rdrV
      go_enter Tryz.func45, Tryz.ntmps45
      go_wp2_with fail
      go_step3
      go_wp2_with fail
      go_step3
      go_upto_region 6 with fail
      generalize ((((w.alloc _).alloc _).alloc _).alloc _) = W0 at *
      go_wp2_with fail
      ((with_reducible refine (HX.out _).mono ?_))
      rintro e W1 ⟨rfl, rfl⟩
      go_wp2_with fail
      ((with_reducible refine (HY.out _).mono ?_))
      rintro e W1 ⟨rfl, rfl⟩
      have HFd := Lib.hid (pc_foundS Z0.out { kind := 2 } E2 none 0 none 0 (by omega))
      have HZB := Lib.hid Z0.out.2.2.2.1.lt
      have hxp : (0 : Int) < (E2 : Nat) := by omega
      go_wp2_with fail
      (refine HFd.out.mono ?_)
      rintro e W2 ⟨rfl, z2, hkeep⟩
      have ZW2 := Lib.hid z2
      have HKp := Lib.hid hkeep
      clear z2 HFd hkeep Z0
      obtain ⟨p0, p1, p2, p3, p4⟩ := ZW2.out
      have p1h := Lib.hid p1
      have p4h := Lib.hid p4
      obtain ⟨d0, d1, d2, d3, d4, d5, d6, d7, d8, d9, _⟩ := in_facts p2
      have e0 := p3.cell 0
      simp at e0
      clear p0 p1 p2 p3 p4 ZW2
      go_wp2_with (refine wpList_store_row rfl 36 (.tmp 4) _ rfl _ _ rfl rfl _ _ p1h.out pc_size (by rfl) (by simp [pcC, Value.oneCell']) ?_)
      rw [Exit.noGoto_ret]
      refine pc_ret Tryz.results45 (row_blk p1h.out _) rfl rfl rfl ?_
      rw [HQ2.out]
      exact pc_found (x := ({ kind := 2 }, E2)) p4h.out (InR.plain _ _ _ _ _ rfl rfl) HKp.out HZB.out rfl _
  · have HQ2 : Hid (R = (litP s i E, true)) := Lib.hid (by rw [HQ.out, if_neg hc])
    clear HQ
    by_cases hc1 : E < s.size
    · have hgE := get_bt s E hc1
      have n10 : ((bt s E : Int) != 10) = true := bne_iff_ne.2 fun e => hc ⟨hc1, by omega⟩
      clear hc
      generalize bt s E = bE at *
      rcases hb with h | h
      all_goals
        rw [h] at hg
        clear h
        have Z0 := Lib.hid (PcSt.start s b1 b2 w)
        unfold rdrV
        go_enter Tryz.func45, Tryz.ntmps45
        go_wp2_with fail
        go_step3
        go_wp2_with fail
        go_step3
        go_upto_region 6 with fail
        generalize ((((w.alloc _).alloc _).alloc _).alloc _) = W0 at *
        go_wp2_with fail
        ((with_reducible refine (HX.out _).mono ?_))
        rintro e W1 ⟨rfl, rfl⟩
        have z9 := Z0.out
        have hz9 := z9.1.lt
        clear Z0
        go_wp2_with fail
        ((with_reducible refine (HL.out _).mono ?_))
        rintro e W9 ⟨rfl, q9⟩
        have Z9 := z9.below q9
        obtain ⟨p0, p1, p2, p3, p4⟩ := Z9
        have p1h := Lib.hid p1
        have p4h := Lib.hid p4
        clear p0 p1 p2 p3 p4 q9 z9 
        go_wp2_with (refine wpList_store_row rfl 36 (.tmp 4) _ rfl _ _ rfl rfl _ _ p1h.out pc_size (by rfl) (by simp [pcC, Value.oneCell']) ?_)
        rw [Exit.noGoto_ret]
        refine pc_ret Tryz.results45 (row_blk p1h.out _) rfl rfl rfl ?_
        rw [HQ2.out]
        exact pc_plain (row_below p4h.out (by omega) _) rfl rfl rfl
    · clear hc
      rcases hb with h | h
      all_goals
        rw [h] at hg
        clear h
        have Z0 := Lib.hid (PcSt.start s b1 b2 w)
        unfold rdrV
        go_enter Tryz.func45, Tryz.ntmps45
        go_wp2_with fail
        go_step3
        go_wp2_with fail
        go_step3
        go_upto_region 6 with fail
        generalize ((((w.alloc _).alloc _).alloc _).alloc _) = W0 at *
        go_wp2_with fail
        ((with_reducible refine (HX.out _).mono ?_))
        rintro e W1 ⟨rfl, rfl⟩
        have z9 := Z0.out
        have hz9 := z9.1.lt
        clear Z0
        go_wp2_with fail
        ((with_reducible refine (HL.out _).mono ?_))
        rintro e W9 ⟨rfl, q9⟩
        have Z9 := z9.below q9
        obtain ⟨p0, p1, p2, p3, p4⟩ := Z9
        have p1h := Lib.hid p1
        have p4h := Lib.hid p4
        clear p0 p1 p2 p3 p4 q9 z9 
        go_wp2_with (refine wpList_store_row rfl 36 (.tmp 4) _ rfl _ _ rfl rfl _ _ p1h.out pc_size (by rfl) (by simp [pcC, Value.oneCell']) ?_)
        rw [Exit.noGoto_ret]
        refine pc_ret Tryz.results45 (row_blk p1h.out _) rfl rfl rfl ?_
        rw [HQ2.out]
        exact pc_plain (row_below p4h.out (by omega) _) rfl rfl rfl

set_option maxRecDepth 100000 in
set_option maxHeartbeats 4000000 in
theorem pc_excl (s : ByteArray) (i b1 b2 : Nat) (m : Int) (S : Nat → Prop) (w : World) (hs : s.size ≤ 1000000) (hi : i < s.size) (hb : bt s i = 33) (hW : RdrW w S s b1 b2) (hS : ∀ g, S g → g < w.heap.size) (hm : w.cell? ⟨0, 0, none⟩ = some (.int .i64 m)) :
    Calls Tryz.prog 45 #[rdrV s b1 b2, .int .i64 i] w (PcPost (noBg (pieceA s i).1) (pieceA s i).2 w) := by
  have hg := get_bt s i hi
  have h0w : 0 < w.heap.size := World.block_lt_of_cell? _ _ hm
  obtain ⟨R, hR⟩ : ∃ R, R = pieceA s i := ⟨_, rfl⟩
  rw [← hR]
  have hR2 := hR.trans (piece_33 hb)
  rw [hb] at hg
  have hD := dec_bd s i hi
  have HN : Hid (∀ W, Calls Tryz.prog 85 #[.string s, .int .i64 i] W (PairQuiet ((Utf8.decode s i).1 : Nat) ((Utf8.decode s i).2 : Nat) W)) := Lib.hid fun W => by
    have := next_any s (i : Int) W (by omega)
    rwa [nextAt_in s i hi] at this
  have HL : Hid (∀ W, Calls Tryz.prog 75 #[.string s, .int .i64 i, .int .i64 ((i : Int) + ((Utf8.decode s i).2 : Nat))] W fun r w' => r = .returned (.agg (pcC { inl := spn 1 (s.extract i (i + (Utf8.decode s i).2)), nd := i + (Utf8.decode s i).2 } none 0 none 0)) ∧ Below W.heap.size W w') := Lib.hid fun W => by
    have := s_literal s i (i + (Utf8.decode s i).2) W hs (by omega) (by omega)
    rwa [show ((i + (Utf8.decode s i).2 : Nat) : Int) = (i : Int) + ((Utf8.decode s i).2 : Nat) by omega] at this
  clear hR hW hm hb
  generalize Utf8.decode s i = D at *
  by_cases hc : i + 1 < s.size ∧ bt s (i + 1) = 91
  · have HQ2 : Hid (R = ({ kind := 2, img := true, bg := i, nd := i + 2 }, false)) := Lib.hid (by rw [hR2, if_pos hc])
    obtain ⟨hc1, hc2⟩ := hc
    have hgE := get_bt s (i + 1) hc1
    rw [hc2] at hgE
    clear hR2 HL HN hc2 hD
    have Z0 := Lib.hid (PcSt.start s b1 b2 w)
    unfold rdrV
    go_enter Tryz.func45, Tryz.ntmps45
    go_wp2_with fail
    go_step3
    go_wp2_with fail
    go_step3
    go_upto_region 6 with fail
    generalize ((((w.alloc _).alloc _).alloc _).alloc _) = W0 at *
    obtain ⟨p0, p1, p2, p3, p4⟩ := Z0.out
    have p1h := Lib.hid p1
    have p4h := Lib.hid p4
    clear p0 p1 p2 p3 p4 Z0
    go_wp2_with (refine wpList_store_row rfl 36 (.tmp 4) _ rfl _ _ rfl rfl _ _ p1h.out pc_size (by rfl) (by simp [pcC, Value.oneCell']) ?_)
    rw [Exit.noGoto_ret]
    refine pc_ret Tryz.results45 (row_blk p1h.out _) rfl rfl rfl ?_
    rw [HQ2.out]
    exact pc_plain (row_below p4h.out (by omega) _) rfl rfl rfl
  · have HQ2 : Hid (R = (litP s i (i + D.2), true)) := Lib.hid (by rw [hR2, if_neg hc])
    clear hR2
    by_cases hc1 : i + 1 < s.size
    · have hgE := get_bt s (i + 1) hc1
      have n91 : ((bt s (i + 1) : Int) == 91) = false := beq_eq_false_iff_ne.2 fun e => hc ⟨hc1, by omega⟩
      clear hc
      generalize bt s (i + 1) = bE at *
      have Z0 := Lib.hid (PcSt.start s b1 b2 w)
      unfold rdrV
      go_enter Tryz.func45, Tryz.ntmps45
      go_wp2_with fail
      go_step3
      go_wp2_with fail
      go_step3
      go_upto_region 6 with fail
      generalize ((((w.alloc _).alloc _).alloc _).alloc _) = W0 at *
      have z8 := Z0.out
      have e0 := z8.2.2.2.1.cell 0
      simp at e0
      clear Z0
      go_wp2_with fail
      ((with_reducible refine (HN.out _).mono ?_))
      rintro e W8 ⟨rfl, q8, rfl⟩
      have Z8 := Lib.hid (z8.below (below_drewN (Below.refl _ _) q8))
      clear e0 z8
      generalize Z8W : World.drewN _ q8 = W8 at *
      clear Z8W

      have z9 := Z8.out
      have hz9 := z9.1.lt
      clear Z8
      go_wp2_with fail
      ((with_reducible refine (HL.out _).mono ?_))
      rintro e W9 ⟨rfl, q9⟩
      have Z9 := z9.below q9
      obtain ⟨p0, p1, p2, p3, p4⟩ := Z9
      have p1h := Lib.hid p1
      have p4h := Lib.hid p4
      clear p0 p1 p2 p3 p4 q9 z9 
      go_wp2_with (refine wpList_store_row rfl 36 (.tmp 4) _ rfl _ _ rfl rfl _ _ p1h.out pc_size (by rfl) (by simp [pcC, Value.oneCell']) ?_)
      rw [Exit.noGoto_ret]
      refine pc_ret Tryz.results45 (row_blk p1h.out _) rfl rfl rfl ?_
      rw [HQ2.out]
      exact pc_plain (row_below p4h.out (by omega) _) rfl rfl rfl
    · clear hc
      have Z0 := Lib.hid (PcSt.start s b1 b2 w)
      unfold rdrV
      go_enter Tryz.func45, Tryz.ntmps45
      go_wp2_with fail
      go_step3
      go_wp2_with fail
      go_step3
      go_upto_region 6 with fail
      generalize ((((w.alloc _).alloc _).alloc _).alloc _) = W0 at *
      have z8 := Z0.out
      have e0 := z8.2.2.2.1.cell 0
      simp at e0
      clear Z0
      go_wp2_with fail
      ((with_reducible refine (HN.out _).mono ?_))
      rintro e W8 ⟨rfl, q8, rfl⟩
      have Z8 := Lib.hid (z8.below (below_drewN (Below.refl _ _) q8))
      clear e0 z8
      generalize Z8W : World.drewN _ q8 = W8 at *
      clear Z8W

      have z9 := Z8.out
      have hz9 := z9.1.lt
      clear Z8
      go_wp2_with fail
      ((with_reducible refine (HL.out _).mono ?_))
      rintro e W9 ⟨rfl, q9⟩
      have Z9 := z9.below q9
      obtain ⟨p0, p1, p2, p3, p4⟩ := Z9
      have p1h := Lib.hid p1
      have p4h := Lib.hid p4
      clear p0 p1 p2 p3 p4 q9 z9 
      go_wp2_with (refine wpList_store_row rfl 36 (.tmp 4) _ rfl _ _ rfl rfl _ _ p1h.out pc_size (by rfl) (by simp [pcC, Value.oneCell']) ?_)
      rw [Exit.noGoto_ret]
      refine pc_ret Tryz.results45 (row_blk p1h.out _) rfl rfl rfl ?_
      rw [HQ2.out]
      exact pc_plain (row_below p4h.out (by omega) _) rfl rfl rfl

set_option maxRecDepth 100000 in
set_option maxHeartbeats 4000000 in
theorem pc_close (s : ByteArray) (i b1 b2 : Nat) (m : Int) (S : Nat → Prop) (w : World) (hs : s.size ≤ 1000000) (hi : i < s.size) (hb : bt s i = 93) (hW : RdrW w S s b1 b2) (hS : ∀ g, S g → g < w.heap.size) (hm : w.cell? ⟨0, 0, none⟩ = some (.int .i64 m)) :
    Calls Tryz.prog 45 #[rdrV s b1 b2, .int .i64 i] w (PcPost (noBg (pieceA s i).1) (pieceA s i).2 w) := by
  have hg := get_bt s i hi
  have h0w : 0 < w.heap.size := World.block_lt_of_cell? _ _ hm
  obtain ⟨R, hR⟩ : ∃ R, R = pieceA s i := ⟨_, rfl⟩
  rw [← hR]
  have HQ2 := Lib.hid (hR.trans (piece_93 hb))
  rw [hb] at hg
  clear hR hW hm hb
  have Z0 := Lib.hid (PcSt.start s b1 b2 w)
  unfold rdrV
  go_enter Tryz.func45, Tryz.ntmps45
  go_wp2_with fail
  go_step3
  go_wp2_with fail
  go_step3
  go_upto_region 6 with fail
  generalize ((((w.alloc _).alloc _).alloc _).alloc _) = W0 at *
  obtain ⟨p0, p1, p2, p3, p4⟩ := Z0.out
  have p1h := Lib.hid p1
  have p4h := Lib.hid p4
  clear p0 p1 p2 p3 p4 Z0
  go_wp2_with (refine wpList_store_row rfl 36 (.tmp 4) _ rfl _ _ rfl rfl _ _ p1h.out pc_size (by rfl) (by simp [pcC, Value.oneCell']) ?_)
  rw [Exit.noGoto_ret]
  refine pc_ret Tryz.results45 (row_blk p1h.out _) rfl rfl rfl ?_
  rw [HQ2.out]
  exact pc_plain (row_below p4h.out (by omega) _) rfl rfl rfl

set_option maxRecDepth 100000 in
set_option maxHeartbeats 4000000 in
theorem pc_els (s : ByteArray) (i b1 b2 : Nat) (m : Int) (S : Nat → Prop) (w : World) (hs : s.size ≤ 1000000) (hi : i < s.size) (hb : kindB (bt s i) = false) (hW : RdrW w S s b1 b2) (hS : ∀ g, S g → g < w.heap.size) (hm : w.cell? ⟨0, 0, none⟩ = some (.int .i64 m)) :
    Calls Tryz.prog 45 #[rdrV s b1 b2, .int .i64 i] w (PcPost (noBg (pieceA s i).1) (pieceA s i).2 w) := by
  have hg := get_bt s i hi
  have h0w : 0 < w.heap.size := World.block_lt_of_cell? _ _ hm
  obtain ⟨R, hR⟩ : ∃ R, R = pieceA s i := ⟨_, rfl⟩
  rw [← hR]
  have HQ2 := Lib.hid (hR.trans (piece_els hb))
  unfold kindB at hb
  simp at hb
  obtain ⟨n92, n32, n10, n38, n36, n96, n60, n123, n91, n33, n93, n42, n95, n126⟩ := hb
  replace n92 : ((bt s i : Int) == 92) = false := beq_eq_false_iff_ne.2 (by omega)
  replace n32 : ((bt s i : Int) == 32) = false := beq_eq_false_iff_ne.2 (by omega)
  replace n10 : ((bt s i : Int) == 10) = false := beq_eq_false_iff_ne.2 (by omega)
  replace n38 : ((bt s i : Int) == 38) = false := beq_eq_false_iff_ne.2 (by omega)
  replace n36 : ((bt s i : Int) == 36) = false := beq_eq_false_iff_ne.2 (by omega)
  replace n96 : ((bt s i : Int) == 96) = false := beq_eq_false_iff_ne.2 (by omega)
  replace n60 : ((bt s i : Int) == 60) = false := beq_eq_false_iff_ne.2 (by omega)
  replace n123 : ((bt s i : Int) == 123) = false := beq_eq_false_iff_ne.2 (by omega)
  replace n91 : ((bt s i : Int) == 91) = false := beq_eq_false_iff_ne.2 (by omega)
  replace n33 : ((bt s i : Int) == 33) = false := beq_eq_false_iff_ne.2 (by omega)
  replace n93 : ((bt s i : Int) == 93) = false := beq_eq_false_iff_ne.2 (by omega)
  replace n42 : ((bt s i : Int) == 42) = false := beq_eq_false_iff_ne.2 (by omega)
  replace n95 : ((bt s i : Int) == 95) = false := beq_eq_false_iff_ne.2 (by omega)
  replace n126 : ((bt s i : Int) == 126) = false := beq_eq_false_iff_ne.2 (by omega)
  have hD := dec_bd s i hi
  have HN : Hid (∀ W, Calls Tryz.prog 85 #[.string s, .int .i64 i] W (PairQuiet ((Utf8.decode s i).1 : Nat) ((Utf8.decode s i).2 : Nat) W)) := Lib.hid fun W => by
    have := next_any s (i : Int) W (by omega)
    rwa [nextAt_in s i hi] at this
  have HL : Hid (∀ W, Calls Tryz.prog 75 #[.string s, .int .i64 i, .int .i64 ((i : Int) + ((Utf8.decode s i).2 : Nat))] W fun r w' => r = .returned (.agg (pcC { inl := spn 1 (s.extract i (i + (Utf8.decode s i).2)), nd := i + (Utf8.decode s i).2 } none 0 none 0)) ∧ Below W.heap.size W w') := Lib.hid fun W => by
    have := s_literal s i (i + (Utf8.decode s i).2) W hs (by omega) (by omega)
    rwa [show ((i + (Utf8.decode s i).2 : Nat) : Int) = (i : Int) + ((Utf8.decode s i).2 : Nat) by omega] at this
  clear hR hW hm
  generalize Utf8.decode s i = D at *
  generalize bt s i = b at *
  have Z0 := Lib.hid (PcSt.start s b1 b2 w)
  unfold rdrV
  go_enter Tryz.func45, Tryz.ntmps45
  go_wp2_with fail
  go_step3
  go_wp2_with fail
  go_step3
  go_upto_region 6 with fail
  generalize ((((w.alloc _).alloc _).alloc _).alloc _) = W0 at *
  have z8 := Z0.out
  have e0 := z8.2.2.2.1.cell 0
  simp at e0
  clear Z0
  go_wp2_with fail
  ((with_reducible refine (HN.out _).mono ?_))
  rintro e W8 ⟨rfl, q8, rfl⟩
  have Z8 := Lib.hid (z8.below (below_drewN (Below.refl _ _) q8))
  clear e0 z8
  generalize Z8W : World.drewN _ q8 = W8 at *
  clear Z8W

  have z9 := Z8.out
  have hz9 := z9.1.lt
  clear Z8
  go_wp2_with fail
  ((with_reducible refine (HL.out _).mono ?_))
  rintro e W9 ⟨rfl, q9⟩
  have Z9 := z9.below q9
  obtain ⟨p0, p1, p2, p3, p4⟩ := Z9
  have p1h := Lib.hid p1
  have p4h := Lib.hid p4
  clear p0 p1 p2 p3 p4 q9 z9 
  go_wp2_with (refine wpList_store_row rfl 36 (.tmp 4) _ rfl _ _ rfl rfl _ _ p1h.out pc_size (by rfl) (by simp [pcC, Value.oneCell']) ?_)
  rw [Exit.noGoto_ret]
  refine pc_ret Tryz.results45 (row_blk p1h.out _) rfl rfl rfl ?_
  rw [HQ2.out]
  exact pc_plain (row_below p4h.out (by omega) _) rfl rfl rfl

set_option maxRecDepth 100000 in
set_option maxHeartbeats 4000000 in
theorem pc_runs (s : ByteArray) (i b1 b2 : Nat) (m : Int) (S : Nat → Prop) (w : World) (hs : s.size ≤ 1000000) (hi : i < s.size) (hb : bt s i = 42 ∨ bt s i = 95 ∨ bt s i = 126) (hW : RdrW w S s b1 b2) (hS : ∀ g, S g → g < w.heap.size) (hm : w.cell? ⟨0, 0, none⟩ = some (.int .i64 m)) :
    Calls Tryz.prog 45 #[rdrV s b1 b2, .int .i64 i] w (PcPost (noBg (pieceA s i).1) (pieceA s i).2 w) := by
  have hg := get_bt s i hi
  have h0w : 0 < w.heap.size := World.block_lt_of_cell? _ _ hm
  obtain ⟨R, hR⟩ : ∃ R, R = pieceA s i := ⟨_, rfl⟩
  rw [← hR]
  have HX := Lib.hid fun W => s_run s i b1 b2 W hs hi hb
  unfold rdrV at HX
  rw [← hR] at HX
  clear hR hW hm
  rcases hb with h | h | h
  all_goals
    rw [h] at hg
    clear h
    have Z0 := Lib.hid (PcSt.start s b1 b2 w)
    unfold rdrV
    go_enter Tryz.func45, Tryz.ntmps45
    go_wp2_with fail
    go_step3
    go_wp2_with fail
    go_step3
    go_upto_region 6 with fail
    generalize ((((w.alloc _).alloc _).alloc _).alloc _) = W0 at *
    have hc0 := Z0.out.1.cell 0
    have hc1 := Z0.out.1.cell 1
    have hc2 := Z0.out.1.cell 2
    simp at hc0 hc1 hc2
    go_wp2_with fail
    ((with_reducible refine (HX.out _).mono ?_))
    rintro e W1 ⟨q, A1, c1, A2, c2, rfl, hir⟩
    have ZW1 := Lib.hid (Z0.out.below q)
    have HZB := Lib.hid Z0.out.2.2.2.1.lt
    have HIR := Lib.hid hir
    obtain ⟨p0, p1, p2, p3, p4⟩ := ZW1.out
    have p1h := Lib.hid p1
    have p4h := Lib.hid p4

    clear p0 p1 p2 p3 p4 ZW1 q hir Z0 hc0 hc1 hc2 HX
    go_wp2_with (refine wpList_store_row rfl 36 (.tmp 4) _ rfl _ _ rfl rfl _ _ p1h.out pc_size (by rfl) (by simp [pcC, Value.oneCell']) ?_)
    rw [Exit.noGoto_ret]
    refine pc_ret Tryz.results45 (row_blk p1h.out _) rfl rfl rfl ?_
    exact pc_again p4h.out HIR.out HZB.out rfl _

end Go.Proofs.YtcjkgmfidkgamaaGreatDoor
