/-
  Texts of the proof, put together (what this law reaches): ScAH.
-/
import Derived.Test.YtcjkgmfidkgamaaGreatDoorD16
import Derived.Test.YtcjkgmfidkgamaaGreatDoorD07
import Derived.Test.YtcjkgmfidkgamaaGreatDoorD12
import Derived.Test.YtcjkgmfidkgamaaGreatDoorD26
import Derived.Test.YtcjkgmfidkgamaaGreatDoorD08
import Derived.Test.YtcjkgmfidkgamaaGreatDoorD23
set_option linter.unusedVariables false
set_option linter.unusedSimpArgs false
namespace Go.Pub
theorem spAt_runE {s : ByteArray} {i : Nat} (hi : i < s.size) (h : bt s i = 32) : runE s i = spAt s i := by
  obtain ⟨h1, h2⟩ := spAt_spec s i
  obtain ⟨h3, h4⟩ := spAt_bd' s i
  have h5 := h4 (by omega)
  unfold runE
  have : runF s i (fun b => b == bt s i) = spAt s i - i := runF_eq s _ i _ (by omega) (fun j h6 h7 => by rw [h1 j h6 (by omega), h]; rfl) fun h6 => by
    rw [show i + (spAt s i - i) = spAt s i by omega] at h6 ⊢
    rw [h]
    exact beq_eq_false_iff_ne.2 fun e => h2 ⟨h6, e⟩
  omega
theorem spAt_stay {s : ByteArray} {i : Nat} (h : bt s i ≠ 32) : spAt s i = i := by unfold spAt; exact spEnd_stop s _ i fun c => h c.2
theorem piece_of {s : ByteArray} {i : Nat} {p : PcL} (h : spec s i = some p) : pieceA s i = (p, false) := by unfold pieceA; rw [h]
theorem piece_lit {s : ByteArray} {i : Nat} (h : spec s i = none) : pieceA s i = (litP s i (litE s i), true) := by unfold pieceA; rw [h]
theorem piece_opt {s : ByteArray} {i e : Nat} {o : Option (InL × Nat)} (h : spec s i = o.map (pcI · i)) (he : litE s i = e) : pieceA s i = match (motive := Option (InL × Nat) → PcL × Bool) o with | some x => (pcI x i, false) | none => (litP s i e, true) := by
  cases o with
  | none => rw [piece_lit (by rw [h]; rfl), he]
  | some x => exact piece_of (by rw [h]; rfl)
theorem litE_next {s : ByteArray} {i : Nat} (h : bt s i ≠ 32 ∧ bt s i ≠ 96 ∧ bt s i ≠ 126) : litE s i = i + (Utf8.decode s i).2 := by
  unfold litE; rw [if_neg (by omega)]
theorem piece_92 {s : ByteArray} {i : Nat} (h : bt s i = 92) : pieceA s i = match (motive := Option (InL × Nat) → PcL × Bool) escI s i with | some x => (pcI x i, false) | none => (litP s i (i + (Utf8.decode s i).2), true) := piece_opt (by unfold spec; simp [h]) (litE_next (by omega))
theorem piece_38 {s : ByteArray} {i : Nat} (h : bt s i = 38) : pieceA s i = match (motive := Option (InL × Nat) → PcL × Bool) entI s i with | some x => (pcI x i, false) | none => (litP s i (i + (Utf8.decode s i).2), true) := piece_opt (by unfold spec; simp [h]) (litE_next (by omega))
theorem piece_60 {s : ByteArray} {i : Nat} (h : bt s i = 60) : pieceA s i = match (motive := Option (InL × Nat) → PcL × Bool) autI s i with | some x => (pcI x i, false) | none => (litP s i (i + (Utf8.decode s i).2), true) := piece_opt (by unfold spec; simp [h]) (litE_next (by omega))
theorem piece_123 {s : ByteArray} {i : Nat} (h : bt s i = 123) : pieceA s i = match (motive := Option (InL × Nat) → PcL × Bool) useI s i with | some x => (pcI x i, false) | none => (litP s i (i + (Utf8.decode s i).2), true) := piece_opt (by unfold spec; simp [h]) (litE_next (by omega))
theorem piece_36 {s : ByteArray} {i : Nat} (h : bt s i = 36) : pieceA s i = match (motive := Option (InL × Nat) → PcL × Bool) (mathI s i).or (dolI s i) with | some x => (pcI x i, false) | none => (litP s i (i + (Utf8.decode s i).2), true) := piece_opt (by unfold spec; simp [h]) (litE_next (by omega))
theorem piece_96 {s : ByteArray} {i : Nat} (h : bt s i = 96) : pieceA s i = match (motive := Option (InL × Nat) → PcL × Bool) codeI s i with | some x => (pcI x i, false) | none => (litP s i (runE s i), true) := piece_opt (by unfold spec; simp [h]) (by unfold litE; rw [if_pos (.inr (.inl h))])
theorem piece_32 {s : ByteArray} {i : Nat} (hi : i < s.size) (h : bt s i = 32 ∨ bt s i = 10) : pieceA s i = if spAt s i < s.size ∧ bt s (spAt s i) = 10 then (pcI ({ kind := 2 }, spAt s (spAt s i + 1)) i, false) else (litP s i (spAt s i), true) := by
  have hs : spec s i = if spAt s i < s.size ∧ bt s (spAt s i) = 10 then some (pcI ({ kind := 2 }, spAt s (spAt s i + 1)) i) else none := by
    unfold spec; rcases h with h | h <;> simp [h]
  by_cases c : spAt s i < s.size ∧ bt s (spAt s i) = 10
  · rw [if_pos c] at hs ⊢; exact piece_of hs
  · rw [if_neg c] at hs ⊢
    rcases h with h | h
    · rw [piece_lit hs]; unfold litE; rw [if_pos (.inl h), spAt_runE hi h]
    · exact absurd ⟨by rw [spAt_stay (by omega)]; exact hi, by rw [spAt_stay (by omega)]; exact h⟩ c
theorem piece_91 {s : ByteArray} {i : Nat} (h : bt s i = 91) : pieceA s i = (match (motive := Option (InL × Nat) → PcL) (namI s i).or (citI s i) with | some r => pcI r i | none => { kind := 2, bg := i, nd := i + 1 }, false) := piece_of (by unfold spec; simp [h]; cases (namI s i).or (citI s i) <;> rfl)
theorem piece_33 {s : ByteArray} {i : Nat} (h : bt s i = 33) : pieceA s i = if i + 1 < s.size ∧ bt s (i + 1) = 91 then ({ kind := 2, img := true, bg := i, nd := i + 2 }, false) else (litP s i (i + (Utf8.decode s i).2), true) := by
  have hs : spec s i = if i + 1 < s.size ∧ bt s (i + 1) = 91 then some { kind := 2, img := true, bg := i, nd := i + 2 } else none := by unfold spec; simp [h]
  by_cases c : i + 1 < s.size ∧ bt s (i + 1) = 91
  · rw [if_pos c] at hs ⊢; exact piece_of hs
  · rw [if_neg c] at hs ⊢; rw [piece_lit hs, litE_next (by omega)]
theorem piece_93 {s : ByteArray} {i : Nat} (h : bt s i = 93) : pieceA s i = ({ kind := 3, bg := i, nd := i + 1 }, false) := piece_of (by unfold spec; simp [h])
def kindB (b : Nat) : Bool := [92, 32, 10, 38, 36, 96, 60, 123, 91, 33, 93, 42, 95, 126].contains b
theorem piece_els {s : ByteArray} {i : Nat} (h : kindB (bt s i) = false) : pieceA s i = (litP s i (i + (Utf8.decode s i).2), true) := by
  unfold kindB at h
  simp at h
  rw [piece_lit (by unfold spec; simp [h]), litE_next (by omega)]
end Go.Pub
namespace Go.Proofs.YtcjkgmfidkgamaaGreatDoor
open Go.RowKit Go.Pub
/-- The memory of piece: its reader, its result, the inline, the end. -/
def PcSt (s : ByteArray) (b1 b2 : Nat) (vs : Array Value) (t : Int) (w W : World) : Prop :=
  Blk W w.heap.size 79 #[.string s, .map (some b1), .map (some b2)] ∧ Blk W (w.heap.size + 1) 36 zPc ∧ Blk W (w.heap.size + 1 + 1) 34 vs ∧ Blk W (w.heap.size + 1 + 1 + 1) 3 #[.int .i64 t] ∧ Below w.heap.size w W
theorem PcSt.start (s : ByteArray) (b1 b2 : Nat) (w : World) : PcSt s b1 b2 zIn 0 w ((((w.alloc (.cells #[.string s, .map (some b1), .map (some b2)] 79)).alloc (.cells #[.int .i64 0, .int .i64 0, .string ⟨#[]⟩, .string ⟨#[]⟩, .string ⟨#[]⟩, .string ⟨#[]⟩, .slice none 0 0, .slice none 0 0, .slice none 0 0, .slice none 0 0, .slice none 0 0, .string ⟨#[]⟩, .int .i64 0, .bool false, .bool false, .bool false, .int .i64 0, .int .i64 0] 36)).alloc (.cells #[.int .i64 0, .string ⟨#[]⟩, .string ⟨#[]⟩, .string ⟨#[]⟩, .string ⟨#[]⟩, .slice none 0 0, .slice none 0 0, .slice none 0 0, .slice none 0 0, .slice none 0 0] 34)).alloc (.cells #[.int .i64 0] 3)) := by
  refine ⟨(((Blk.new w _ _).alloc _).alloc _).alloc _, ?_, ?_, ?_, ((((Below.refl _ _).alloc (Nat.le_refl _) _).alloc (by simp) _).alloc (by simp; omega) _).alloc (by simp; omega) _⟩
  · have := (Blk.new (w.alloc (.cells #[.string s, .map (some b1), .map (some b2)] 79)) 36 zPc)
    rw [World.size_alloc] at this
    exact (this.alloc _).alloc _
  · have := (Blk.new ((w.alloc (.cells #[.string s, .map (some b1), .map (some b2)] 79)).alloc (.cells zPc 36)) 34 zIn)
    simp only [World.size_alloc] at this
    exact this.alloc _
  · have := (Blk.new (((w.alloc (.cells #[.string s, .map (some b1), .map (some b2)] 79)).alloc (.cells zPc 36)).alloc (.cells zIn 34)) 3 #[.int .i64 0])
    simp only [World.size_alloc] at this
    exact this
theorem PcSt.below {s : ByteArray} {b1 b2 : Nat} {vs : Array Value} {t : Int} {w W W' : World} (h : PcSt s b1 b2 vs t w W) (hb : Below W.heap.size W W') : PcSt s b1 b2 vs t w W' := by
  obtain ⟨h1, h2, h3, h4, h5⟩ := h
  have := h1.lt
  exact ⟨h1.below hb h1.lt, h2.below hb h2.lt, h3.below hb h3.lt, h4.below hb h4.lt, h5.trans (hb.mono (by omega))⟩
theorem pc_foundN {s : ByteArray} {b1 b2 : Nat} {w W : World} (h : PcSt s b1 b2 zIn 0 w W) :
    Calls Tryz.prog 72 #[.agg zIn, .int .i64 0, .pointer (some ⟨w.heap.size + 1 + 1, 0, none⟩), .pointer (some ⟨w.heap.size + 1 + 1 + 1, 0, none⟩)] W fun e W' => e = .returned (.bool false) ∧ PcSt s b1 b2 zIn 0 w W' := by
  obtain ⟨h1, h2, h3, h4, h5⟩ := h
  refine (s_found (w.heap.size + 1 + 1) (w.heap.size + 1 + 1 + 1) 0 0 0 ⟨#[]⟩ ⟨#[]⟩ ⟨#[]⟩ none 0 0 none 0 0 _ _ _ _ _ _ _ _ _ _ W h3 h4 (by omega)).mono ?_
  rintro e W' ⟨rfl, g1, g2, g3, _⟩
  have hz := h4.lt
  have g4 := g3 (w.heap.size + 1 + 1) (by omega) (by omega) (by omega)
  exact ⟨rfl, h1.below g4 (by omega), h2.below g4 (by omega), g1, g2, h5.trans (g4.mono (by omega))⟩
theorem pc_foundS {s : ByteArray} {b1 b2 : Nat} {w W : World} (h : PcSt s b1 b2 zIn 0 w W) (x : InL) (k : Nat) (A1 : Option Addr) (c1 : Nat) (A2 : Option Addr) (c2 : Nat) (hk : 0 < k) :
    Calls Tryz.prog 72 #[.agg (inC x A1 c1 A2 c2), .int .i64 k, .pointer (some ⟨w.heap.size + 1 + 1, 0, none⟩), .pointer (some ⟨w.heap.size + 1 + 1 + 1, 0, none⟩)] W fun e W' => e = .returned (.bool true) ∧ PcSt s b1 b2 (inC x A1 c1 A2 c2) k w W' ∧ (∀ g, g < W.heap.size → g ≠ w.heap.size + 1 + 1 → g ≠ w.heap.size + 1 + 1 + 1 → W'.heap[g]? = W.heap[g]?) ∧ W.heap.size ≤ W'.heap.size := by
  obtain ⟨h1, h2, h3, h4, h5⟩ := h
  refine (s_found (w.heap.size + 1 + 1) (w.heap.size + 1 + 1 + 1) k 0 x.kind x.text x.dest x.title A1 x.args.length c1 A2 x.cites.length c2 _ _ _ _ _ _ _ _ _ _ W h3 h4 (by omega)).mono ?_
  rintro e W' ⟨rfl, g1, g2, g3, g5⟩
  have hz := h4.lt
  have g4 := g3 (w.heap.size + 1 + 1) (by omega) (by omega) (by omega)
  exact ⟨by rw [decide_eq_true (by omega)], ⟨h1.below g4 (by omega), h2.below g4 (by omega), g1, g2, h5.trans (g4.mono (by omega))⟩, g5, g4.size⟩
/-- What is handed back, an inline was found. -/
theorem pc_found {w V W : World} {x : InL × Nat} {i : Nat} {A1 A2 : Option Addr} {c1 c2 : Nat} {v : Value} {B : Nat} (hb : Below w.heap.size w W) (hir : InR V (Rg B V) x.1 A1 A2) (hk : (∀ g, g < V.heap.size → g ≠ w.heap.size + 1 + 1 → g ≠ w.heap.size + 1 + 1 + 1 → W.heap[g]? = V.heap[g]?) ∧ V.heap.size ≤ W.heap.size) (hB : w.heap.size + 1 + 1 + 1 < B)
    (hv : v = .agg (pcC (noBg (pcI x i)) A1 c1 A2 c2)) (cs : Array Value) :
    PcPost (noBg (pcI x i)) false w (.returned (.tuple #[v, .bool false])) (W.setRow (w.heap.size + 1) cs) := by
  subst hv
  refine ⟨row_below hb (by omega) _, A1, c1, A2, c2, rfl, ?_⟩
  refine InR.keep (x := x.1) hir (fun g hg => ?_) fun g hg => ⟨by have := hg.1; omega, by rw [row_size]; have := hg.2; omega⟩
  rw [row_far _ _ _ _ (by have := hg.1; omega)]
  exact hk.1 g hg.2 (by have := hg.1; omega) (by have := hg.1; omega)
/-- What another function has read is handed back. -/
theorem pc_again {w W : World} {p : PcL} {pl : Bool} {A1 A2 : Option Addr} {c1 c2 : Nat} {v : Value} {B : Nat} (hb : Below w.heap.size w W) (hir : InR W (Rg B W) p.inl A1 A2) (hB : w.heap.size + 1 + 1 + 1 < B) (hv : v = .agg (pcC p A1 c1 A2 c2)) (cs : Array Value) :
    PcPost p pl w (.returned (.tuple #[v, .bool pl])) (W.setRow (w.heap.size + 1) cs) := by
  subst hv
  refine ⟨row_below hb (by omega) _, A1, c1, A2, c2, rfl, ?_⟩
  exact InR.keep hir (fun g hg => row_far _ _ _ _ (by have := hg.1; omega)) fun g hg => ⟨by have := hg.1; omega, by rw [row_size]; have := hg.2; omega⟩
end Go.Proofs.YtcjkgmfidkgamaaGreatDoor
