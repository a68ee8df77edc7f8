/-
  Texts of the proof, put together (what this law reaches): ScAG.
-/
import Derived.Test.YtfnloonmeilhlaaGreatDoorT35
import Derived.Test.YtfnloonmeilhlaaGreatDoorT24
import Derived.Laws.Tables
set_option linter.unusedVariables false
set_option linter.unusedSimpArgs false
namespace Go.Pub
theorem piece_run {s : ByteArray} {i : Nat} (h : bt s i = 42 ∨ bt s i = 95 ∨ bt s i = 126) : pieceA s i = if bt s i = 126 ∧ runE s i - i ≠ 2 then (litP s i (runE s i), true) else (runI s i, false) := by
  rcases h with h | h | h
  · have : spec s i = some (runI s i) := by unfold spec; simp [h]
    unfold pieceA
    rw [this, if_neg (by omega)]
  · have : spec s i = some (runI s i) := by unfold spec; simp [h]
    unfold pieceA
    rw [this, if_neg (by omega)]
  · by_cases h2 : runE s i - i = 2
    · have : spec s i = some (runI s i) := by unfold spec; simp [h, h2]
      unfold pieceA
      rw [this, if_neg (by omega)]
    · have : spec s i = none := by unfold spec; simp [h, h2]
      unfold pieceA
      rw [this, if_pos ⟨h, h2⟩]
      unfold litE
      rw [if_pos (.inr (.inr h))]
def noBg (p : PcL) : PcL := { p with bg := 0 }
end Go.Pub
namespace Go.Proofs.YtfnloonmeilhlaaGreatDoor
open Go.RowKit Go.Pub
theorem in_size : (Tryz.prog.info? 32).map (·.size) = some 10 := by kernel_rfl
theorem row_blk {W : World} {g : Nat} {T : TypeId} {old : Array Value} (h : Blk W g T old) (cs : Array Value) : Blk (W.setRow g cs) g T cs := setRow_heap W g old cs T _ h
theorem row_far (W : World) (g : Nat) (cs : Array Value) (k : Nat) (h : k ≠ g) : (W.setRow g cs).heap[k]? = W.heap[k]? := by
  unfold World.setRow
  simp only [Array.getElem?_modify]
  rw [if_neg (Ne.symm h)]
theorem row_size (W : World) (g : Nat) (cs : Array Value) : (W.setRow g cs).heap.size = W.heap.size := by unfold World.setRow; simp
theorem row_below {B : Nat} {w W : World} (h : Below B w W) {g : Nat} (hg : B ≤ g) (cs : Array Value) : Below B w (W.setRow g cs) :=
  ⟨h.os, h.tape, h.output, by rw [row_size]; exact h.size, fun k hk => (row_far W g cs k (by omega)).trans (h.block k hk)⟩
/-- A piece and whether its bytes stand for themselves. -/
def PcPost (p : PcL) (pl : Bool) (w : World) (e : Ending) (w' : World) : Prop :=
  Below w.heap.size w w' ∧ ∃ A1 c1 A2 c2, e = .returned (.tuple #[.agg (pcC p A1 c1 A2 c2), .bool pl]) ∧ InR w' (Rg w.heap.size w') p.inl A1 A2
theorem pc_plain {p : PcL} {pl : Bool} {w w' : World} {v : Value} (hb : Below w.heap.size w w') (hv : v = .agg (pcC p none 0 none 0)) (h1 : p.inl.args = []) (h2 : p.inl.cites = []) : PcPost p pl w (.returned (.tuple #[v, .bool pl])) w' := by
  subst hv
  exact ⟨hb, none, 0, none, 0, rfl, InR.plain _ _ _ _ _ h1 h2⟩
set_option maxRecDepth 100000 in
set_option maxHeartbeats 4000000 in
theorem s_run (s : ByteArray) (i b1 b2 : Nat) (w : World) (hs : s.size ≤ 1000000) (hi : i < s.size) (hb : bt s i = 42 ∨ bt s i = 95 ∨ bt s i = 126) :
    Calls Tryz.prog 40 #[rdrV s b1 b2, .int .i64 i] w (PcPost (noBg (pieceA s i).1) (pieceA s i).2 w) := by
  obtain ⟨hE1, hE2⟩ := runE_bd s i hi
  have HR := Lib.hid fun W => s_runEnd s i W hs hi
  have HL := Lib.hid fun W => s_literal s i (runE s i) W hs (by omega) hE2
  have HN := Lib.hid fun W => next_any s ((runE s i : Nat) : Int) W (by omega)
  have HB := Lib.hid fun W => s_before s i W hs (by omega)
  have HF := Lib.hid fun W => s_flank (s.extract i (i + 1)) (befC s i) (nextAt s (runE s i)).1 W
  have hg := get_bt s i hi
  obtain ⟨R, hR⟩ : ∃ R, R = pieceA s i := ⟨_, rfl⟩
  rw [← hR]
  rw [piece_run hb] at hR
  have HQ1 : Hid (bt s i = 126 → runE s i - i ≠ 2 → R = (litP s i (runE s i), true)) := Lib.hid fun h1 h2 => by rw [hR, if_pos ⟨h1, h2⟩]
  have HQ2 : Hid (¬ (bt s i = 126 ∧ runE s i - i ≠ 2) → R = (runI s i, false)) := Lib.hid fun h => by rw [hR, if_neg h]
  have HI : Hid (runI s i = { kind := 1, ch := s.extract i (i + 1), n := runE s i - i, opn := (flankL (s.extract i (i + 1)) (befC s i) (nextAt s (runE s i)).1).1, clo := (flankL (s.extract i (i + 1)) (befC s i) (nextAt s (runE s i)).1).2, bg := i, nd := runE s i }) := Lib.hid rfl
  have hbx : ∀ W0 : World, Below (w.heap.size + 2) ((w.alloc (.cells #[.string s, .map (some b1), .map (some b2)] 63)).alloc (.cells zPc 34)) W0 → Blk W0 w.heap.size 63 #[.string s, .map (some b1), .map (some b2)] ∧ Blk W0 (w.heap.size + 1) 34 zPc ∧ Below w.heap.size w W0 := fun W0 hb => by
    have hw0 : Below w.heap.size w W0 := (((Below.refl _ _).alloc (Nat.le_refl _) _).alloc (by simp) _).trans (hb.mono (by omega))
    refine ⟨((Blk.new w _ _).alloc _).below hb (by omega), ?_, hw0⟩
    have := Blk.new (w.alloc (.cells #[.string s, .map (some b1), .map (some b2)] 63)) 34 zPc
    rw [World.size_alloc] at this
    exact this.below hb (by omega)
  have HBX := Lib.hid hbx
  clear hR hbx
  generalize runI s i = RI at *
  generalize runE s i = E at *
  generalize flankL (s.extract i (i + 1)) (befC s i) (nextAt s E).1 = F at *
  generalize befC s i = bc at *
  generalize nextAt s E = X at *
  unfold rdrV
  by_cases hlit : bt s i = 126 ∧ E - i ≠ 2
  · have HQ := Lib.hid (HQ1.out hlit.1 hlit.2)
    have z1 : ((E : Int) - (i : Int) != 2) = true := bne_iff_ne.2 (by omega)
    rw [hlit.1] at hg
    clear HQ1 HQ2 hlit hb HN HB HF
    go_enter Tryz.func40, Tryz.ntmps40
    go_wp2_with fail
    ((with_reducible refine (HR.out _).mono ?_))
    rintro e W1 ⟨rfl, q1⟩
    simp only [World.size_alloc] at q1
    have X1 := Lib.hid q1
    obtain ⟨x1, x2, x3⟩ := HBX.out W1 q1
    have r0 : W1.cell? ⟨w.heap.size, 0, none⟩ = some (.string s) := x1.cell 0
    have hz1 := x2.lt
    clear x1 x2 x3 q1
    go_wp2_with fail
    ((with_reducible refine (HL.out _).mono ?_))
    rintro e W2 ⟨rfl, q2⟩
    have X2 := Lib.hid (X1.out.trans (q2.mono (by omega)))
    obtain ⟨x1, x2, x3⟩ := HBX.out W2 X2.out
    have HB2 := Lib.hid x2
    have HW2 := Lib.hid x3
    clear x1 x2 x3 q2 r0 X1 HBX HR HL
    go_wp2_with (refine wpList_store_row rfl 34 (.tmp 4) _ rfl _ _ rfl rfl _ _ HB2.out pc_size (by rfl) (by simp [pcC, Value.oneCell']) ?_)
    refine pc_ret Tryz.results40 (row_blk HB2.out _) rfl rfl rfl ?_
    rw [HQ.out]
    exact pc_plain (row_below HW2.out (by omega) _) rfl rfl rfl
  · have HQ := Lib.hid ((HQ2.out hlit).trans (by rw [HI.out]))
    have hen : E - i = 2 ∨ bt s i = 42 ∨ bt s i = 95 := by omega
    have hei : ((E - i : Nat) : Int) = (E : Int) - (i : Int) := by omega
    have hz2 : bt s i = 126 → ((E : Int) - (i : Int) != 2) = false := fun h => by rw [show (E : Int) - (i : Int) = 2 by omega]; rfl
    have hsl : i ≤ i + 1 := by omega
    clear HQ1 HQ2 hlit HL HI
    rcases hb with h | h | h
    all_goals
      rw [h] at hg
      have hz3 := hz2
      rw [h] at hz3
      have z1 := hz3
      clear hz3 hz2 hen h
      try (have z2 := z1 rfl)
      clear z1
      go_enter Tryz.func40, Tryz.ntmps40
      go_wp2_with fail
      ((with_reducible refine (HR.out _).mono ?_))
      rintro e W1 ⟨rfl, q1⟩
      simp only [World.size_alloc] at q1
      have X1 := Lib.hid q1
      obtain ⟨x1, x2, x3⟩ := HBX.out W1 q1
      have r0 : W1.cell? ⟨w.heap.size, 0, none⟩ = some (.string s) := x1.cell 0
      have hz1 := x2.lt
      clear x1 x2 x3 q1
      go_wp2_with fail
      ((with_reducible refine (HN.out _).mono ?_))
      rintro e W2 ⟨rfl, q, rfl⟩
      have X2 := Lib.hid (below_drewN X1.out q)
      have hz2 : W1.heap.size = (W1.drewN q).heap.size := rfl
      rw [hz2] at hz1
      clear hz2 r0 X1
      generalize W1.drewN q = W2 at *
      obtain ⟨x1, x2, x3⟩ := HBX.out W2 X2.out
      have r0 : W2.cell? ⟨w.heap.size, 0, none⟩ = some (.string s) := x1.cell 0
      clear x1 x2 x3
      go_wp2_with fail
      ((with_reducible refine (HB.out _).mono ?_))
      rintro e W3 ⟨rfl, q3⟩
      have X3 := Lib.hid (X2.out.trans (q3.mono (by omega)))
      clear r0 q3 X2
      go_wp2_with fail
      ((with_reducible refine (HF.out _).mono ?_))
      rintro e W4 ⟨rfl, rfl⟩
      obtain ⟨x1, x2, x3⟩ := HBX.out W3 X3.out
      have HB2 := Lib.hid x2
      have HW2 := Lib.hid x3
      clear x1 x2 x3 HBX HR HN HB HF
      go_wp2_with (refine wpList_store_row rfl 34 (.tmp 4) _ rfl _ _ rfl rfl _ _ HB2.out pc_size (by rfl) (by simp [pcC, Value.oneCell']) ?_)
      refine pc_ret Tryz.results40 (row_blk HB2.out _) rfl rfl rfl ?_
      rw [HQ.out]
      exact pc_plain (row_below HW2.out (by omega) _) (by unfold pcC noBg; simp only [hei]; rfl) rfl rfl

/-- The closure writes an inline and its end into two blocks. -/
def FndPost (gi gt : Nat) (vs : Array Value) (n : Int) (w : World) (e : Ending) (w' : World) : Prop :=
  e = .returned (.bool (decide (0 < n))) ∧ Blk w' gi 32 vs ∧ Blk w' gt 3 #[.int .i64 n] ∧ (∀ B, B ≤ gi → B ≤ gt → B ≤ w.heap.size → Below B w w') ∧ ∀ k, k < w.heap.size → k ≠ gi → k ≠ gt → w'.heap[k]? = w.heap[k]?
set_option maxRecDepth 100000 in
set_option maxHeartbeats 4000000 in
theorem s_found (gi gt : Nat) (n m : Int) (k : Int) (t d ti : ByteArray) (A1' : Option Addr) (n1 c1' : Nat) (A2' : Option Addr) (n2 c2' : Nat) (x0 x1 x2 x3 x4 x5 x6 x7 x8 x9 : Value) (w : World) (h1 : Blk w gi 32 #[x0, x1, x2, x3, x4, x5, x6, x7, x8, x9]) (h2 : Blk w gt 3 #[.int .i64 m]) (hne : gi ≠ gt) :
    Calls Tryz.prog 28 #[.agg #[.int .i64 k, .string t, .string d, .string ti, .string ⟨#[]⟩, .slice none 0 0, .slice none 0 0, .slice A1' n1 c1', .slice A2' n2 c2', .slice none 0 0], .int .i64 n, .pointer (some ⟨gi, 0, none⟩), .pointer (some ⟨gt, 0, none⟩)] w (FndPost gi gt #[.int .i64 k, .string t, .string d, .string ti, .string ⟨#[]⟩, .slice none 0 0, .slice none 0 0, .slice A1' n1 c1', .slice A2' n2 c2', .slice none 0 0] n w) := by
  have A0 : Blk (w.alloc (.cells #[.int .i64 k, .string t, .string d, .string ti, .string ⟨#[]⟩, .slice none 0 0, .slice none 0 0, .slice A1' n1 c1', .slice A2' n2 c2', .slice none 0 0] 32)) w.heap.size 32 #[.int .i64 k, .string t, .string d, .string ti, .string ⟨#[]⟩, .slice none 0 0, .slice none 0 0, .slice A1' n1 c1', .slice A2' n2 c2', .slice none 0 0] := Blk.new w _ _
  have A1 := h1.alloc (.cells #[.int .i64 k, .string t, .string d, .string ti, .string ⟨#[]⟩, .slice none 0 0, .slice none 0 0, .slice A1' n1 c1', .slice A2' n2 c2', .slice none 0 0] 32)
  have A2 := h2.alloc (.cells #[.int .i64 k, .string t, .string d, .string ti, .string ⟨#[]⟩, .slice none 0 0, .slice none 0 0, .slice A1' n1 c1', .slice A2' n2 c2', .slice none 0 0] 32)
  have AB : Hid (∀ B, B ≤ w.heap.size → Below B w (w.alloc (.cells #[.int .i64 k, .string t, .string d, .string ti, .string ⟨#[]⟩, .slice none 0 0, .slice none 0 0, .slice A1' n1 c1', .slice A2' n2 c2', .slice none 0 0] 32))) := Lib.hid fun B hB => (Below.refl B w).alloc hB _
  have AK : Hid (∀ q, q < w.heap.size → (w.alloc (.cells #[.int .i64 k, .string t, .string d, .string ti, .string ⟨#[]⟩, .slice none 0 0, .slice none 0 0, .slice A1' n1 c1', .slice A2' n2 c2', .slice none 0 0] 32)).heap[q]? = w.heap[q]?) := Lib.hid fun q hk => Below.heap_alloc w _ q hk
  have hl1 := h1.lt
  have hl2 := h2.lt
  clear h1 h2
  go_enter Tryz.func28, Tryz.ntmps28
  go_upto_region 1 with fail
  obtain ⟨gb, hgb⟩ : ∃ g, g = w.heap.size := ⟨_, rfl⟩
  rw [← hgb] at A0 hl1 hl2 AB AK ⊢
  have HGB := Lib.hid hgb
  clear hgb
  generalize w.alloc (.cells #[.int .i64 k, .string t, .string d, .string ti, .string ⟨#[]⟩, .slice none 0 0, .slice none 0 0, .slice A1' n1 c1', .slice A2' n2 c2', .slice none 0 0] 32) = W at *
  have h1 := Lib.hid A1
  have h2 := Lib.hid A2
  obtain ⟨d0, d1, d2, d3, d4, d5, d6, d7, d8, d9, _⟩ := in_facts A0
  have R1 := Lib.hid (row_blk A1 #[.int .i64 k, .string t, .string d, .string ti, .string ⟨#[]⟩, .slice none 0 0, .slice none 0 0, .slice A1' n1 c1', .slice A2' n2 c2', .slice none 0 0])
  clear A0 A1 A2
  go_wp2_with (refine wpList_store_row rfl 32 (.tmp 2) _ rfl _ _ rfl rfl _ _ h1.out in_size (by rfl) (by simp [Value.oneCell']) ?_; have e0 := (show Blk _ gt 3 #[.int .i64 m] from (row_far W gi #[.int .i64 k, .string t, .string d, .string ti, .string ⟨#[]⟩, .slice none 0 0, .slice none 0 0, .slice A1' n1 c1', .slice A2' n2 c2', .slice none 0 0] gt hne.symm).trans h2.out).cell 0; have e1 := (show Blk _ gt 3 #[.int .i64 m] from (row_far W gi #[.int .i64 k, .string t, .string d, .string ti, .string ⟨#[]⟩, .slice none 0 0, .slice none 0 0, .slice A1' n1 c1', .slice A2' n2 c2', .slice none 0 0] gt hne.symm).trans h2.out).frozen 0; simp at e0)
  go_ret
  refine ⟨rfl, ?_, ?_, fun B hB1 hB2 hB => ?_, fun q hk h3 h4 => ?_⟩
  · exact R1.out.far (p := ⟨gt, 0, none⟩) hne _
  · have := (show Blk _ gt 3 #[.int .i64 m] from (row_far W gi #[.int .i64 k, .string t, .string d, .string ti, .string ⟨#[]⟩, .slice none 0 0, .slice none 0 0, .slice A1' n1 c1', .slice A2' n2 c2', .slice none 0 0] gt hne.symm).trans h2.out).set_ 0 (.int .i64 n)
    simpa using this
  · exact (row_below (AB.out B (by have := HGB.out; omega)) hB1 _).setCell (p := ⟨gt, 0, none⟩) hB2 _
  · exact (Below.heap_setCell _ ⟨gt, 0, none⟩ _ q h4).trans ((row_far W gi _ q h3).trans (AK.out q (by have := HGB.out; omega)))

end Go.Proofs.YtfnloonmeilhlaaGreatDoor
