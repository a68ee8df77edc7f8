/-
  Texts of the proof, put together (what this law reaches): ScAL, ScAE, ScAF.
-/
import Derived.Test.YtfnloonmeilhlaaGreatDoorT39
import Derived.Test.YtfnloonmeilhlaaGreatDoorT40
import Derived.Test.YtfnloonmeilhlaaGreatDoorT41
import Derived.Deep.DeepCutAuto
import Derived.WalkMore
import Derived.Test.YtfnloonmeilhlaaGreatDoorT34
import Derived.Test.YtfnloonmeilhlaaGreatDoorT10
import Derived.Deep.AppendLies
set_option linter.unusedVariables false
set_option linter.unusedSimpArgs false
namespace Go.Proofs.YtfnloonmeilhlaaGreatDoor
open Go.RowKit Go.Pub
/-- The piece at a byte. -/
theorem s_piece (s : ByteArray) (i b1 b2 : Nat) (m : Int) (S : Nat → Prop) (w : World) (hs : s.size ≤ 1000000) (hi : i < s.size) (hW : RdrW w S s b1 b2) (hS : ∀ g, S g → g < w.heap.size) (hm : w.cell? ⟨0, 0, none⟩ = some (.int .i64 m)) :
    Calls Tryz.prog 17 #[rdrV s b1 b2, .int .i64 i] w (PcPost (noBg (pieceA s i).1) (pieceA s i).2 w) := by
  by_cases h1 : bt s i = 92
  · exact pc_esc s i b1 b2 m S w hs hi h1 hW hS hm
  by_cases h2 : bt s i = 38
  · exact pc_amp s i b1 b2 m S w hs hi h2 hW hS hm
  by_cases h3 : bt s i = 60
  · exact pc_lt s i b1 b2 m S w hs hi h3 hW hS hm
  by_cases h4 : bt s i = 123
  · exact pc_brace s i b1 b2 m S w hs hi h4 hW hS hm
  by_cases h5 : bt s i = 36
  · exact pc_dol s i b1 b2 m S w hs hi h5 hW hS hm
  by_cases h6 : bt s i = 96
  · exact pc_tick s i b1 b2 m S w hs hi h6 hW hS hm
  by_cases h7 : bt s i = 91
  · exact pc_brk s i b1 b2 m S w hs hi h7 hW hS hm
  by_cases h8 : bt s i = 32 ∨ bt s i = 10
  · exact pc_sp s i b1 b2 m S w hs hi h8 hW hS hm
  by_cases h9 : bt s i = 33
  · exact pc_excl s i b1 b2 m S w hs hi h9 hW hS hm
  by_cases h10 : bt s i = 93
  · exact pc_close s i b1 b2 m S w hs hi h10 hW hS hm
  by_cases h11 : bt s i = 42 ∨ bt s i = 95 ∨ bt s i = 126
  · exact pc_runs s i b1 b2 m S w hs hi h11 hW hS hm
  refine pc_els s i b1 b2 m S w hs hi ?_ hW hS hm
  unfold kindB
  simp
  omega
end Go.Proofs.YtfnloonmeilhlaaGreatDoor
namespace Go.Pub
open Go.RowKit Go.Maps Go.WideElems Go.MapKept
section
variable {H : Type} {P : Program} {k : TypeId} {w w' : World} {base : Nat} {e : TypeId} {b n : Nat} {D : DataW H}
theorem groups_more {m : Nat} (h : w.ownsGroups P k base e .i64 b n D) (hm : n ≤ m) : w.ownsGroups P k base e .i64 b m D := by
  obtain ⟨es, clock, hb, F, hs, rfl, hbb, hlen, hap⟩ := h
  exact ⟨es, clock, hb, F, Nat.le_trans hs hm, rfl, hbb, fun x hx zs hz => Nat.le_trans (hlen x hx zs hz) hm, hap⟩
theorem groups_made {b : Nat} (h : w.heap[b]? = some (.map #[] 0)) (hb : b < base) : w.ownsGroups (H := H) P k base e .i64 b 0 (.map []) :=
  ⟨#[], 0, h, ⟨by simp, stamped_empty 0, by simp⟩, Nat.le_refl _, rfl, hb, by simp, by simp⟩
theorem shuns_made {b : Nat} (h : w.heap[b]? = some (.map #[] 0)) (No : Nat → Prop) : w.Shuns b No := fun es clock hb x hx => by
  rw [h] at hb
  cases hb
  simp at hx
/-- The look-up, with what its row shuns. -/
theorem groups_look {t E : TypeId} {key : Value} {kl : Lit} {No : Nat → Prop} (h : w.ownsGroups P k base e .i64 b n D) (hs : w.Shuns b No) (K : Keyed P k) (ht : P.underlying t = some (.map k E)) (hz : (zeroValue E).run P w = .ok (.slice none 0 0) w) (hn : n < maxLen) (hkey : keyOf P k key = some kl) :
    ∃ v zs, (Instr.lookup t (.map (some b)) key false).run P w = .ok v w ∧ D.atKey kl .nil = rowDatum .i64 v zs ∧ w.ownsInts base e .i64 v zs ∧ zs.length ≤ n ∧ w.groupBack P t k base e .i64 b n D key kl v ∧ ∀ g, v.ownBlock = some g → ¬ No g := by
  obtain ⟨v, zs, hrun, hat, hoi, hzl, hback⟩ := h.at K ht hz hn hkey
  refine ⟨v, zs, hrun, hat, hoi, hzl, hback, ?_⟩
  obtain ⟨es, clock, hb, F, _⟩ := h
  rcases Maps.fit_look false K ht hz hb F hkey with ⟨hrun', _, _⟩ | ⟨e0, y, hm0, _, hrun', _, _, _⟩
  · rw [hrun] at hrun'
    obtain rfl : v = .slice none 0 0 := by simpa using hrun'
    intro g hg; cases hg
  · rw [hrun] at hrun'
    obtain rfl : v = e0.val := by simpa using hrun'
    exact fun g hg => hs es clock hb e0 hm0 g hg
end
/-- Two maps that share no row. -/
def TwoM {H : Type} (P : Program) (k e : TypeId) (w : World) (base b1 b2 n : Nat) (D1 D2 : DataW H) (Ps : Nat → Prop) : Prop :=
  b1 ≠ b2 ∧ w.ownsGroups P k base e .i64 b1 n D1 ∧ w.ownsGroups P k base e .i64 b2 n D2 ∧ w.Shuns b1 (fun g => ¬ Ps g) ∧ w.Shuns b2 Ps
theorem TwoM.swap {H : Type} {P : Program} {k e : TypeId} {w : World} {base b1 b2 n : Nat} {D1 D2 : DataW H} {Ps : Nat → Prop} (h : TwoM P k e w base b1 b2 n D1 D2 Ps) : TwoM P k e w base b2 b1 n D2 D1 fun g => ¬ Ps g :=
  ⟨h.1.symm, h.2.2.1, h.2.1, fun es clock hb x hx g hg hn => hn (h.2.2.2.2 es clock hb x hx g hg), h.2.2.2.1⟩
/-- One number more at a key of the first of two maps. -/
theorem two_step {H : Type} {P : Program} {k e E t : TypeId} {V : World} {base b1 b2 n : Nat} {D1 D2 : DataW H} {Ps : Nat → Prop} {key : Value} {kl : Lit} (h : TwoM P k e V base b1 b2 n D1 D2 Ps)
    (K : Keyed P k) (ht : P.underlying t = some (.map k E)) (hz : ∀ W, (zeroValue E).run P W = .ok (.slice none 0 0) W) (hn : n < maxLen) (hkey : keyOf P k key = some kl) :
    ∃ v zs, (Instr.lookup t (.map (some b1)) key false).run P V = .ok v V ∧ D1.atKey kl .nil = rowDatum .i64 v zs ∧ V.ownsInts base e .i64 v zs ∧ zs.length ≤ n ∧
      ∀ (w2 : World) (v' : Value) (zs' : List Int), V.grownBy w2 v.ownBlock → w2.ownsInts base e .i64 v' zs' → zs'.length ≤ n + 1 → (v'.ownBlock = v.ownBlock ∨ ∃ g, v'.ownBlock = some g ∧ V.heap.size ≤ g) →
        ∃ w3 Ps', (Instr.mapUpdate t (.map (some b1)) key v').run P w2 = .ok () w3 ∧ TwoM P k e w3 base b1 b2 (n + 1) (D1.put kl (rowDatum .i64 v' zs')) D2 Ps' ∧ w2.grownBy w3 (some b1) := by
  obtain ⟨hne, h1, h2, s1, s2⟩ := h
  obtain ⟨v, zs, hrun, hat, hoi, hzl, hback, hsh⟩ := groups_look h1 s1 K ht (hz V) hn hkey
  refine ⟨v, zs, hrun, hat, hoi, hzl, fun w2 v' zs' hg hown' hl' hloc => ?_⟩
  obtain ⟨w3, hr3, r1, r2⟩ := hback w2 v' zs' hg hown' hl' hloc
  have hPv : ∀ g, v.ownBlock = some g → Ps g := fun g hg => Classical.not_not.1 (hsh g hg)
  obtain ⟨es1, cl1, hb1, F1, hs1, e1, hbb1, hlen1, hap1⟩ := h1
  obtain ⟨es2, cl2, hb2, F2, hs2, e2, hbb2, hlen2, hap2⟩ := h2
  have hlt1 : b1 < V.heap.size := (Array.getElem?_eq_some_iff.1 hb1).1
  have hlt2 : b2 < V.heap.size := (Array.getElem?_eq_some_iff.1 hb2).1
  have hv1 : some b1 ≠ v.ownBlock := fun e1 => by have := (hoi.1.lt b1 e1.symm).1; omega
  have hv2 : some b2 ≠ v.ownBlock := fun e1 => by have := (hoi.1.lt b2 e1.symm).1; omega
  have h2' : V.ownsGroups P k base e .i64 b2 n D2 := ⟨es2, cl2, hb2, F2, hs2, e2, hbb2, hlen2, hap2⟩
  have m2 := h2'.kept hg hv2 (s2.rowsOff hPv)
  have s2a := (s2.reno (No' := fun g => Ps g ∨ v'.ownBlock = some g) h2' (fun g hg' => by
    rcases hg' with hg' | hg'
    · exact .inl hg'
    · rcases hloc with hl | ⟨q, hq, hq2⟩
      · exact .inl (hPv g (by rw [← hl]; exact hg'))
      · rw [hq] at hg'; cases hg'; exact .inr hq2)).kept hg hlt2 hv2
  have m3 := m2.kept r2 (fun e1 => hne (Option.some.inj e1).symm) (m2.rowsAbove fun j hj => by cases hj; exact hbb1)
  have s2b := s2a.kept r2 (Nat.lt_of_lt_of_le hlt2 hg.size) (fun e1 => hne (Option.some.inj e1).symm)
  refine ⟨w3, fun g => Ps g ∨ v'.ownBlock = some g, hr3, ⟨hne, r1, groups_more m3 (Nat.le_succ _), ?_, s2b⟩, r2⟩
  have hb1' : w2.heap[b1]? = some (.map es1 cl1) := (hg.block b1 hlt1 hv1).trans hb1
  obtain ⟨es', clock', hb3, hwho⟩ := stored_who K ht hb1' F1 (Nat.lt_of_le_of_lt hs1 hn) hkey hr3
  intro es clock hb y hy g hyg hno
  obtain ⟨rfl, rfl⟩ : es' = es ∧ clock' = clock := by rw [hb3] at hb; simpa using hb
  rcases hwho y hy with ⟨hy0, _⟩ | ⟨_, hval⟩
  · exact s1 es1 cl1 hb1 y hy0 g hyg fun hp => hno (.inl hp)
  · exact hno (.inr (by rw [← hval]; exact hyg))
end Go.Pub
namespace Go.Pub
theorem posL_snoc (l : List (Nat × Nat)) (i m n : Nat) : posL n (l ++ [(i, m)]) = if n = m then posL m l ++ [i] else posL n l := by
  unfold posL
  rw [List.filter_append, List.map_append]
  by_cases h : n = m
  · subst h
    rw [if_pos rfl]
    simp
  · rw [if_neg h]
    have : (m == n) = false := beq_eq_false_iff_ne.2 (Ne.symm h)
    simp [this]
theorem runsD_snoc (s : ByteArray) (d : Bool) (l : List (Nat × Nat)) (p : Nat × Nat) : runsD s d (l ++ [p]) = if (!d || dolAt s (p.1 + p.2)) = true then runsD s d l ++ [p] else runsD s d l := by
  unfold runsD
  rw [List.filter_append]
  by_cases h : (!d || dolAt s (p.1 + p.2)) = true
  · rw [if_pos h]; simp [h]
  · rw [if_neg h]; simp [h]
theorem runsF_step (s : ByteArray) (i : Nat) (h : i < s.size) (hb : bt s i = 96) : runsF s (s.size - i) i = (i, runF s i tick) :: runsF s (s.size - (i + runF s i tick)) (i + runF s i tick) := by
  have hp := tick_pos h hb
  rw [runsF_fuel s (s.size - i) ((s.size - i - 1) + 1) i (by omega) (by omega)]
  conv => lhs; unfold runsF
  rw [if_pos h, if_pos hb, runsF_fuel s (s.size - i - 1) (s.size - (i + runF s i tick)) _ (by omega) (by omega)]
theorem runsF_skip (s : ByteArray) (i : Nat) (h : i < s.size) (hb : bt s i ≠ 96) : runsF s (s.size - i) i = runsF s (s.size - (i + 1)) (i + 1) := by
  rw [runsF_fuel s (s.size - i) ((s.size - i - 1) + 1) i (by omega) (by omega)]
  conv => lhs; unfold runsF
  rw [if_pos h, if_neg hb, runsF_fuel s (s.size - i - 1) (s.size - (i + 1)) _ (by omega) (by omega)]
theorem runsF_none (s : ByteArray) (i : Nat) (h : s.size ≤ i) (f : Nat) : runsF s f i = [] := by
  cases f with
  | zero => rfl
  | succ f => unfold runsF; rw [if_neg (by omega)]
end Go.Pub
namespace Go.Proofs.YtfnloonmeilhlaaGreatDoor
open Go.RowKit Go.Pub Go.Maps
theorem int_law : Keyed Tryz.prog 3 := int_keyed Tryz.underlying3
theorem zero_ints (w : World) : (zeroValue 52).run Tryz.prog w = .ok (.slice none 0 0) w := by kernel_rfl
theorem ri_info : (Tryz.prog.info? 3).map (fun i => (i.zero, i.size, i.bytes)) = some (some (.int .i64 0), 1, 8) := by kernel_rfl
/-- Two maps side by side, by what they hold. -/
def TwoN (w : World) (base b1 b2 c : Nat) (f1 f2 : Nat → List Nat) : Prop := ∃ (D1 D2 : DataW Unit) (Ps : Nat → Prop), TwoM Tryz.prog 3 3 w base b1 b2 c D1 D2 Ps ∧ IsMap D1 ∧ IsMap D2 ∧ HoldsN D1 f1 ∧ HoldsN D2 f2
theorem TwoN.swap {w : World} {base b1 b2 c : Nat} {f1 f2 : Nat → List Nat} (h : TwoN w base b1 b2 c f1 f2) : TwoN w base b2 b1 c f2 f1 := by
  obtain ⟨D1, D2, Ps, q, i1, i2, n1, n2⟩ := h
  exact ⟨D2, D1, _, q.swap, i2, i1, n2, n1⟩
theorem TwoN.below {w W : World} {base b1 b2 c : Nat} {f1 f2 : Nat → List Nat} (h : TwoN w base b1 b2 c f1 f2) (hb : Below w.heap.size w W) : TwoN W base b1 b2 c f1 f2 := by
  obtain ⟨D1, D2, Ps, h, i1, i2, n1, n2⟩ := h
  refine ⟨D1, D2, Ps, ?_, i1, i2, n1, n2⟩
  obtain ⟨hne, h1, h2, s1, s2⟩ := h
  have hg := grown_of_below hb none
  have l1 : b1 < w.heap.size := by obtain ⟨es, clock, hb1, _⟩ := h1; exact (Array.getElem?_eq_some_iff.1 hb1).1
  have l2 : b2 < w.heap.size := by obtain ⟨es, clock, hb1, _⟩ := h2; exact (Array.getElem?_eq_some_iff.1 hb1).1
  refine ⟨hne, h1.kept hg (by simp) fun es clock _ x _ => ?_, h2.kept hg (by simp) fun es clock _ x _ => ?_, s1.kept hg l1 (by simp), s2.kept hg l2 (by simp)⟩
  · cases x.val.ownBlock <;> simp
  · cases x.val.ownBlock <;> simp
theorem twoN_more {V : World} {base b1 b2 c : Nat} {f1 f2 : Nat → List Nat} (h : TwoN V base b1 b2 c f1 f2) (hc : c < 1000000000) (m x : Nat) (hm : m ≤ 1000000) (hx : x ≤ 1000000) :
    ∃ A cv, (Instr.lookup 58 (.map (some b1)) (.int .i64 m) false).run Tryz.prog V = .ok (.slice A (f1 m).length cv) V ∧ V.ownsRow base 3 1 (.slice A (f1 m).length cv) (f1 m).length ((f1 m).map fun y : Nat => Value.int .i64 y) ∧ (f1 m).length ≤ c ∧
      ∀ (Vx w2 : World) (g cap : Nat), V.grownBy Vx none → Vx.grownBy w2 (Value.slice A (f1 m).length cv).ownBlock → w2.ownsRow base 3 1 (.slice (some ⟨g, 0, none⟩) ((f1 m).length + 1) cap) ((f1 m).length + 1) (((f1 m).map fun y : Nat => Value.int .i64 y) ++ [.int .i64 x]) → ((Value.slice A (f1 m).length cv).ownBlock = some g ∨ V.heap.size ≤ g) →
        ∃ w3, (Instr.mapUpdate 58 (.map (some b1)) (.int .i64 m) (.slice (some ⟨g, 0, none⟩) ((f1 m).length + 1) cap)).run Tryz.prog w2 = .ok () w3 ∧ TwoN w3 base b1 b2 (c + 1) (fun n => if n = m then f1 m ++ [x] else f1 n) f2 ∧ w2.grownBy w3 (some b1) := by
  obtain ⟨D1, D2, Ps, q1, i1, i2, n1, n2⟩ := h
  obtain ⟨v, zs, hrun, hat, hoi, hzl, hput⟩ := two_step (V := V) (key := .int .i64 m) q1 int_law Tryz.underlying58 zero_ints (by unfold maxLen; omega) (keyOf_int_mk Tryz.underlying3 (WalkArith.wf_i64 (by omega)))
  have hz := n1.row hat hoi
  obtain ⟨A, cv, rfl⟩ := own_slice hoi.1
  have hlen : zs.length = (f1 m).length := by rw [hz, List.length_map]
  have hmap : zs.map (Value.int .i64) = (f1 m).map fun y : Nat => Value.int .i64 y := by rw [hz, List.map_map]; rfl
  have ho1 := hoi.1
  rw [hmap, hlen] at ho1
  refine ⟨A, cv, by rw [← hlen]; exact hrun, ho1, by omega, fun Vx w2 g cap hgx hg2 hown hl => ?_⟩
  have hoi2 : Vx.ownsInts base 3 .i64 (.slice A zs.length cv) zs := hoi.kept hgx (by cases A <;> simp [Value.ownBlock])
  have hap : w2.ownsInts base 3 .i64 (.slice (some ⟨g, 0, none⟩) (zs.length + 1) cap) (zs ++ [(x : Int)]) := hoi2.appended (by rw [hmap, hlen]; exact hown) (WalkArith.wf_i64 (by omega))
  rw [← hlen] at hg2 hl ⊢
  obtain ⟨w3, Ps', h3, hT, hg3⟩ := hput w2 _ (zs ++ [(x : Int)]) ((hgx.but _).trans hg2) hap (by simp; omega) (by
    rcases hl with hl | hl
    · exact .inl hl.symm
    · exact .inr ⟨g, rfl, hl⟩)
  exact ⟨w3, h3, ⟨_, _, Ps', hT, i1.put _ _, i2, n1.put i1 m x hap hz, n2⟩, hg3⟩
/-- The memory: two maps, their struct, the result. -/
def RnM (w : World) (c : Nat) (f1 f2 : Nat → List Nat) (wr : World) : Prop := TwoN wr (w.heap.size + 4) (w.heap.size + 1) (w.heap.size + 2) c f1 f2 ∧
  Blk wr w.heap.size 60 #[.map none, .map none] ∧ Blk wr (w.heap.size + 3) 60 #[.map (some (w.heap.size + 1)), .map (some (w.heap.size + 2))] ∧ Below w.heap.size w wr ∧ w.heap.size + 4 ≤ wr.heap.size
theorem RnM.below {w wr W : World} {c : Nat} {f1 f2 : Nat → List Nat} (h : RnM w c f1 f2 wr) (hb : Below wr.heap.size wr W) : RnM w c f1 f2 W :=
  ⟨h.1.below hb, h.2.1.below hb h.2.1.lt, h.2.2.1.below hb h.2.2.1.lt, h.2.2.2.1.trans (hb.mono (by have := h.2.2.2.2; omega)), Nat.le_trans h.2.2.2.2 hb.size⟩
theorem rn_grow {w V w2 w3 Vx : World} {A : Option Addr} {n cv : Nat} {xs : List Value} {b : Nat} (hB : Blk V w.heap.size 60 #[.map none, .map none] ∧ Blk V (w.heap.size + 3) 60 #[.map (some (w.heap.size + 1)), .map (some (w.heap.size + 2))] ∧ Below w.heap.size w V ∧ w.heap.size + 4 ≤ V.heap.size)
    (ho : V.ownsRow (w.heap.size + 4) 3 1 (.slice A n cv) n xs) (hgx : V.grownBy Vx none) (hg2 : Vx.grownBy w2 (Value.slice A n cv).ownBlock) (hg3 : w2.grownBy w3 (some b)) (hb : b = w.heap.size + 1 ∨ b = w.heap.size + 2) :
    Blk w3 w.heap.size 60 #[.map none, .map none] ∧ Blk w3 (w.heap.size + 3) 60 #[.map (some (w.heap.size + 1)), .map (some (w.heap.size + 2))] ∧ Below w.heap.size w w3 ∧ w.heap.size + 4 ≤ w3.heap.size := by
  obtain ⟨h1, h2, h3, h4⟩ := hB
  have hrow : ∀ k, (Value.slice A n cv).ownBlock = some k → w.heap.size + 4 ≤ k := fun k hk => (ho.lt k hk).1
  have hz1 := hgx.size
  have hz2 := hg2.size
  have hz3 := hg3.size
  refine ⟨((h1.grown hgx (by simp)).grown hg2 fun e => by have := hrow _ e.symm; omega).grown hg3 (by simp; omega), ((h2.grown hgx (by simp)).grown hg2 fun e => by have := hrow _ e.symm; omega).grown hg3 (by simp; omega), ?_, by omega⟩
  exact ((h3.grown hgx (by omega) (by simp)).grown hg2 (by omega) fun k hk => by have := hrow k hk; omega).grown hg3 (by omega) fun k hk => by cases hk; omega
/-- One number more in the first map. -/
theorem rn_more {w V : World} {c : Nat} {f1 f2 : Nat → List Nat} (h : RnM w c f1 f2 V) (hc : c < 1000000000) (m x : Nat) (hm : m ≤ 1000000) (hx : x ≤ 1000000) :
    ∃ (A : Option Addr) (cv : Nat) (F : World → World → Nat → Nat → World), (Instr.lookup 58 (.map (some (w.heap.size + 1))) (.int .i64 m) false).run Tryz.prog V = .ok (.slice A (f1 m).length cv) V ∧ V.ownsRow (w.heap.size + 4) 3 1 (.slice A (f1 m).length cv) (f1 m).length ((f1 m).map fun y : Nat => Value.int .i64 y) ∧ (f1 m).length ≤ c ∧
      ∀ (Vx w2 : World) (g cap : Nat), V.grownBy Vx none → Vx.grownBy w2 (Value.slice A (f1 m).length cv).ownBlock → w2.ownsRow (w.heap.size + 4) 3 1 (.slice (some ⟨g, 0, none⟩) ((f1 m).length + 1) cap) ((f1 m).length + 1) (((f1 m).map fun y : Nat => Value.int .i64 y) ++ [.int .i64 x]) → ((Value.slice A (f1 m).length cv).ownBlock = some g ∨ V.heap.size ≤ g) →
        (Instr.mapUpdate 58 (.map (some (w.heap.size + 1))) (.int .i64 m) (.slice (some ⟨g, 0, none⟩) ((f1 m).length + 1) cap)).run Tryz.prog w2 = .ok () (F Vx w2 g cap) ∧ RnM w (c + 1) (fun n => if n = m then f1 m ++ [x] else f1 n) f2 (F Vx w2 g cap) := by
  obtain ⟨A, cv, h1, h2, h3, h4⟩ := twoN_more h.1 hc m x hm hx
  refine ⟨A, cv, fun Vx w2 g cap => @Classical.epsilon World ⟨w2⟩ fun w3 => (Instr.mapUpdate 58 (.map (some (w.heap.size + 1))) (.int .i64 m) (.slice (some ⟨g, 0, none⟩) ((f1 m).length + 1) cap)).run Tryz.prog w2 = .ok () w3 ∧ RnM w (c + 1) (fun n => if n = m then f1 m ++ [x] else f1 n) f2 w3, h1, h2, h3, fun Vx w2 g cap hgx hg2 hown hl => ?_⟩
  obtain ⟨w3, r1, r2, r3⟩ := h4 Vx w2 g cap hgx hg2 hown hl
  have hex : ∃ w3, (Instr.mapUpdate 58 (.map (some (w.heap.size + 1))) (.int .i64 m) (.slice (some ⟨g, 0, none⟩) ((f1 m).length + 1) cap)).run Tryz.prog w2 = .ok () w3 ∧ RnM w (c + 1) (fun n => if n = m then f1 m ++ [x] else f1 n) f2 w3 := ⟨w3, r1, r2, rn_grow h.2 h2 hgx hg2 r3 (.inl rfl)⟩
  exact Classical.epsilon_spec hex
/-- One number more in the second map. -/
theorem rn_more2 {w V : World} {c : Nat} {f1 f2 : Nat → List Nat} (h : RnM w c f1 f2 V) (hc : c < 1000000000) (m x : Nat) (hm : m ≤ 1000000) (hx : x ≤ 1000000) :
    ∃ (A : Option Addr) (cv : Nat) (F : World → World → Nat → Nat → World), (Instr.lookup 58 (.map (some (w.heap.size + 2))) (.int .i64 m) false).run Tryz.prog V = .ok (.slice A (f2 m).length cv) V ∧ V.ownsRow (w.heap.size + 4) 3 1 (.slice A (f2 m).length cv) (f2 m).length ((f2 m).map fun y : Nat => Value.int .i64 y) ∧ (f2 m).length ≤ c ∧
      ∀ (Vx w2 : World) (g cap : Nat), V.grownBy Vx none → Vx.grownBy w2 (Value.slice A (f2 m).length cv).ownBlock → w2.ownsRow (w.heap.size + 4) 3 1 (.slice (some ⟨g, 0, none⟩) ((f2 m).length + 1) cap) ((f2 m).length + 1) (((f2 m).map fun y : Nat => Value.int .i64 y) ++ [.int .i64 x]) → ((Value.slice A (f2 m).length cv).ownBlock = some g ∨ V.heap.size ≤ g) →
        (Instr.mapUpdate 58 (.map (some (w.heap.size + 2))) (.int .i64 m) (.slice (some ⟨g, 0, none⟩) ((f2 m).length + 1) cap)).run Tryz.prog w2 = .ok () (F Vx w2 g cap) ∧ RnM w (c + 1) f1 (fun n => if n = m then f2 m ++ [x] else f2 n) (F Vx w2 g cap) := by
  obtain ⟨A, cv, h1, h2, h3, h4⟩ := twoN_more h.1.swap hc m x hm hx
  refine ⟨A, cv, fun Vx w2 g cap => @Classical.epsilon World ⟨w2⟩ fun w3 => (Instr.mapUpdate 58 (.map (some (w.heap.size + 2))) (.int .i64 m) (.slice (some ⟨g, 0, none⟩) ((f2 m).length + 1) cap)).run Tryz.prog w2 = .ok () w3 ∧ RnM w (c + 1) f1 (fun n => if n = m then f2 m ++ [x] else f2 n) w3, h1, h2, h3, fun Vx w2 g cap hgx hg2 hown hl => ?_⟩
  obtain ⟨w3, r1, r2, r3⟩ := h4 Vx w2 g cap hgx hg2 hown hl
  have hex : ∃ w3, (Instr.mapUpdate 58 (.map (some (w.heap.size + 2))) (.int .i64 m) (.slice (some ⟨g, 0, none⟩) ((f2 m).length + 1) cap)).run Tryz.prog w2 = .ok () w3 ∧ RnM w (c + 1) f1 (fun n => if n = m then f2 m ++ [x] else f2 n) w3 := ⟨w3, r1, r2.swap, rn_grow h.2 h2 hgx hg2 r3 (.inr rfl)⟩
  exact Classical.epsilon_spec hex
/-- The runs up to i. -/
def RnW (s : ByteArray) (w : World) (i : Nat) (wr : World) : Prop := ∃ (l : List (Nat × Nat)) (c : Nat), RnM w c (fun n => posL n (runsD s false l)) (fun n => posL n (runsD s true l)) wr ∧ c ≤ 2 * i ∧ runsL s = l ++ runsF s (s.size - i) i
theorem RnW.below {s : ByteArray} {w wr W : World} {i : Nat} (h : RnW s w i wr) (hb : Below wr.heap.size wr W) : RnW s w i W := by
  obtain ⟨l, c, q1, q2, q3⟩ := h
  exact ⟨l, c, q1.below hb, q2, q3⟩
theorem RnW.start (s : ByteArray) (w : World) : RnW s w 0 ((((w.alloc (.cells #[.map none, .map none] 60)).alloc (.map #[] 0)).alloc (.map #[] 0)).alloc (.cells #[.map (some (w.heap.size + 1)), .map (some (w.heap.size + 1 + 1))] 60)) := by
  have h1 : ((((w.alloc (.cells #[.map none, .map none] 60)).alloc (.map #[] 0)).alloc (.map #[] 0)).alloc (.cells #[.map (some (w.heap.size + 1)), .map (some (w.heap.size + 1 + 1))] 60)).heap[w.heap.size + 1]? = some (.map #[] 0) := by
    rw [Below.heap_alloc _ _ _ (by simp), Below.heap_alloc _ _ _ (by simp)]
    have := World.alloc_heap_new (w.alloc (.cells #[.map none, .map none] 60)) (.map #[] 0)
    rwa [World.size_alloc] at this
  have h2 : ((((w.alloc (.cells #[.map none, .map none] 60)).alloc (.map #[] 0)).alloc (.map #[] 0)).alloc (.cells #[.map (some (w.heap.size + 1)), .map (some (w.heap.size + 1 + 1))] 60)).heap[w.heap.size + 2]? = some (.map #[] 0) := by
    rw [Below.heap_alloc _ _ _ (by simp)]
    have := World.alloc_heap_new ((w.alloc (.cells #[.map none, .map none] 60)).alloc (.map #[] 0)) (.map #[] 0)
    simpa using this
  refine ⟨[], 0, ⟨⟨.map [], .map [], fun _ => False, ⟨by omega, groups_made h1 (by omega), groups_made h2 (by omega), shuns_made h1 _, shuns_made h2 _⟩, isMap_empty, isMap_empty, HoldsN.made, HoldsN.made⟩, ?_, ?_, ?_, by simp⟩, Nat.le_refl _, rfl⟩
  · exact (((Blk.new w _ _).alloc _).alloc _).alloc _
  · have := Blk.new (((w.alloc (.cells #[.map none, .map none] 60)).alloc (.map #[] 0)).alloc (.map #[] 0)) 60 #[.map (some (w.heap.size + 1)), .map (some (w.heap.size + 1 + 1))]
    simpa using this
  · exact ((((Below.refl _ w).alloc (Nat.le_refl _) _).alloc (by simp) _).alloc (by simp; omega) _).alloc (by simp; omega) _
/-- Behind the run at i: it is counted in the first map. -/
def RnX (s : ByteArray) (w : World) (i m : Nat) (wr : World) : Prop := ∃ (l : List (Nat × Nat)) (c : Nat), RnM w c (fun n => posL n (runsD s false (l ++ [(i, m)]))) (fun n => posL n (runsD s true l)) wr ∧ c ≤ 2 * i + 1 ∧ runsL s = (l ++ [(i, m)]) ++ runsF s (s.size - (i + m)) (i + m)
theorem snoc_fun {s : ByteArray} {d : Bool} {l : List (Nat × Nat)} {i m : Nat} (h : (!d || dolAt s (i + m)) = true) : (fun n => if n = m then posL m (runsD s d l) ++ [i] else posL n (runsD s d l)) = fun n => posL n (runsD s d (l ++ [(i, m)])) := by
  funext n
  rw [runsD_snoc, if_pos h, posL_snoc]
theorem RnX.skip {s : ByteArray} {w wr : World} {i m : Nat} (h : RnX s w i m wr) (hd : dolAt s (i + m) = false) (hm : 0 < m) : RnW s w (i + m) wr := by
  obtain ⟨l, c, q1, q2, q3⟩ := h
  refine ⟨l ++ [(i, m)], c, ?_, by omega, q3⟩
  have e : (fun n => posL n (runsD s true (l ++ [(i, m)]))) = fun n => posL n (runsD s true l) := by
    funext n
    rw [runsD_snoc, if_neg (by simp [hd])]
  rw [e]; exact q1
set_option maxRecDepth 100000 in
set_option maxHeartbeats 4000000 in
theorem s_runsOf (s : ByteArray) (w : World) (hs : s.size ≤ 1000000) : Calls Tryz.prog 15 #[.string s] w fun e w' => ∃ b1 b2, e = .returned (.agg #[.map (some b1), .map (some b2)]) ∧ Below w.heap.size w w' ∧ RdrW w' (Rg w.heap.size w') s b1 b2 := by
  have hmm := @run_makeMap Tryz.prog
  obtain ⟨i0, hi0, hz0, hz1, hz2⟩ := info_parts ri_info
  go_enter Tryz.func15, Tryz.ntmps15
  go_wp2_with fail
  go_loopw [4] (fun v wr => ∃ i : Nat, v = .int .i64 i ∧ i ≤ s.size ∧ RnW s w i wr) (fun v _ => s.size - (intOf v).toNat)
  case atStart => exact ⟨0, rfl, Nat.zero_le _, RnW.start s w⟩
  case round =>
    obtain ⟨i, rfl, hi, HR⟩ := hrel
    have HRn := Lib.hid HR
    clear HR
    by_cases hl : i < s.size
    · have hg := get_bt s i hl
      by_cases h96 : bt s i = 96
      · have HRE := Lib.hid fun W => s_runEnd s i W hs hl
        rw [runE_tick h96] at HRE
        have hmp := tick_pos hl h96
        have hml := runF_le s i tick
        have HST := Lib.hid (runsF_step s i hl h96)
        rw [h96] at hg
        clear h96 hmm
        generalize runF s i tick = m at *
        have e1 : (i : Int) + (m : Int) - (i : Int) = (m : Int) := by omega
        go_wp2_with fail
        (refine (HRE.out _).mono ?_)
        rintro e W1 ⟨rfl, b1⟩
        have HR1 := Lib.hid (HRn.out.below b1)
        clear b1 HRn
        go_upto_region 8 with fail
        go_cut [] (fun wx => RnX s w i m wx)
        case first =>
          obtain ⟨l, c, q1, q2, q3⟩ := HR1.out
          have x0 := q1.2.2.1.cell 0
          simp at x0
          have HQ : Hid (runsL s = (l ++ [(i, m)]) ++ runsF s (s.size - (i + m)) (i + m)) := Lib.hid (by rw [q3, HST.out]; simp)
          have hsn := snoc_fun (s := s) (d := false) (l := l) (i := i) (m := m) rfl
          obtain ⟨f1, hf1⟩ : ∃ f, f = fun n => posL n (runsD s false l) := ⟨_, rfl⟩
          obtain ⟨f2, hf2⟩ : ∃ f, f = fun n => posL n (runsD s true l) := ⟨_, rfl⟩
          have HE1 : Hid ((fun n => if n = m then f1 m ++ [i] else f1 n) = fun n => posL n (runsD s false (l ++ [(i, m)]))) := Lib.hid (by rw [hf1]; exact hsn)
          have HE2 := Lib.hid hf2
          rw [← hf1, ← hf2] at q1
          have HM := Lib.hid q1
          clear HST q1 q3 hsn hf1 hf2 HR1
          have HMa : RnM w c f1 f2 W1.drew := HM.out.below (below_drewN (Below.refl _ _) 1)
          have HMb : RnM w c f1 f2 (W1.alloc (.cells #[.int .i64 i] 3)).drew := (HM.out.below (((Below.refl W1.heap.size W1).alloc (Nat.le_refl _) _).trans (below_drewN (Below.refl _ _) 1)))
          have k1 : c < 1000000000 := by omega
          have k2 : m ≤ 1000000 := by omega
          have k3 : i ≤ 1000000 := by omega
          obtain ⟨Aa, ca, Fa, hruna, howna, hzla, hputa⟩ := rn_more HMa k1 m i k2 k3
          obtain ⟨Ab, cb, Fb, hrunb, hownb, hzlb, hputb⟩ := rn_more HMb k1 m i k2 k3
          have HMA := Lib.hid HMa
          have HMB := Lib.hid HMb
          have HPA := Lib.hid hputa
          have HPB := Lib.hid hputb
          have HOA := Lib.hid howna
          have HOB := Lib.hid hownb
          have hzd : W1.drew.heap.size = W1.heap.size := rfl
          have xa := (HMa.2.2.1.alloc (.cells #[.int .i64 i] 3)).cell 0
          have xb := HMb.2.2.1.cell 0
          simp at xa xb
          clear k1 k2 k3 HMa HMb hputa hputb howna hownb
          refine wp_region_held_drew (S := fun W' => W'.cell? ⟨w.heap.size + 1 + 1 + 1, 0, none⟩ = some (.map (some (w.heap.size + 1)))) (by kernel_rfl) x0 (fun hHeld => ?_)
          refine tk 0 (.pointer (some ⟨w.heap.size + 1 + 1 + 1, 0, none⟩)) rfl hHeld (fun W' hSw => ?_) ?_
          · go_simp
          refine tk 1 (.map (some (w.heap.size + 1))) rfl hHeld (fun W' hSw => ?_) ?_
          · go_simp
          refine tk 2 (.int .i64 m) rfl hHeld (fun W' hSw => ?_) ?_
          · go_simp
          refine tk 3 (.pointer (some ⟨w.heap.size + 1 + 1 + 1, 0, none⟩)) rfl hHeld (fun W' hSw => ?_) ?_
          · go_simp
          refine tk 4 (.map (some (w.heap.size + 1))) rfl hHeld (fun W' hSw => ?_) ?_
          · go_simp
          refine tk 5 (.int .i64 m) rfl hHeld (fun W' hSw => ?_) ?_
          · go_simp
          refine tk 7 (.int .i64 i) rfl hHeld (fun W' hSw => ?_) ?_
          · go_simp
          refine wpAnyH_ready (rs := [6, 8]) (by kernel_rfl) (by simp) (AllReadyH.cons rfl (fun K hK => ?_) (AllReadyH.cons rfl (fun K hK => ?_) AllReadyH.nil))
          · have hqa := hruna
            go_simp
            refine hK.out _ _ x0 (fun hHeld => ?_)
            clear hK K
            refine rd1 8 rfl (fun K hK => ?_)
            go_simp
            refine hK.out _ _ xa (fun hHeld => ?_)
            clear hK K
            refine rd1 9 rfl (fun K hK => ?_)
            refine step_append_lies _ rfl (.tmp 32) (.tmp 34) 52 rfl (w.heap.size + 4) 3 i0 _ 1 8 Tryz.underlying52 hi0 hz0 hz1 hz2 rfl (by decide) _ _ _ rfl (HOA.out.alloc _) ⟨W1.heap.size, 0, none⟩ 1 1 [.int .i64 i] rfl rfl ?c1 ?c2 (by decide) ?c3 ?c4 ?c5 (W1.heap.size + 1) ?c6 ?_
            case c1 => exact World.news_of_block (t := 3) (fr := (0, 0)) (cs := #[.int .i64 i]) (heap_alloc_new W1.drew _)
            case c2 => intro u hu; simp at hu; subst hu; rfl
            case c3 => unfold maxLen; omega
            case c4 => omega
            case c5 => have := HMA.out.2.2.2.2; simp; omega
            case c6 => simp
            intro g cap w2 hown3 hgrow hlies hlt3
            have h3 := HPA.out _ w2 g cap (World.grownBy_alloc _ _ _) hgrow hown3 (hlies.imp id fun h => by omega)
            have hupd := h3.1
            have HN := h3.2
            clear h3
            have x3 := HN.2.2.1.cell 0
            have x2 := ((HMA.out.2.2.1.alloc (.cells #[.int .i64 i] 3)).grown hgrow (fun e => by have := (HOA.out.lt _ e.symm).1; omega)).cell 0
            simp at x2 x3
            refine hK.out _ _ x2 (fun hHeld => ?_)
            clear hK K hlies hown3 hgrow hruna
            refine rd1 10 rfl (fun K hK => ?_)
            go_simp
            refine hK.out _ _ x3 (fun hHeld => ?_)
            clear hK K
            refine wpAnyH_done (by kernel_rfl) ?_ _
            go_wp2_with fail
            go_meet
            exact ⟨l, c + 1, by rw [← HE1.out, ← HE2.out]; exact HN, by omega, HQ.out⟩
          · have hqb := hrunb
            have hzd : (W1.alloc (.cells #[.int .i64 i] 3)).drew.heap.size = W1.heap.size + 1 := World.size_alloc _ _
            have hcc : (W1.alloc (.cells #[.int .i64 i] 3)).drew.heap[W1.heap.size]? = some (.cells #[.int .i64 i] 3 (0, 0)) := heap_alloc_new W1 _
            go_simp
            refine hK.out _ _ xb (fun hHeld => ?_)
            clear hK K
            refine rd1 6 rfl (fun K hK => ?_)
            go_simp
            refine hK.out _ _ xb (fun hHeld => ?_)
            clear hK K
            refine rd1 9 rfl (fun K hK => ?_)
            refine step_append_lies _ rfl (.tmp 32) (.tmp 34) 52 rfl (w.heap.size + 4) 3 i0 _ 1 8 Tryz.underlying52 hi0 hz0 hz1 hz2 rfl (by decide) _ _ _ rfl HOB.out ⟨W1.heap.size, 0, none⟩ 1 1 [.int .i64 i] rfl rfl ?d1 ?d2 (by decide) ?d3 ?d4 ?d5 (W1.heap.size + 1) ?d6 ?_
            case d1 => exact World.news_of_block (t := 3) (fr := (0, 0)) (cs := #[.int .i64 i]) hcc
            case d2 => intro u hu; simp at hu; subst hu; rfl
            case d3 => unfold maxLen; omega
            case d4 => omega
            case d5 => have := HMB.out.2.2.2.2; omega
            case d6 => simp
            intro g cap w2 hown3 hgrow hlies hlt3
            have h3 := HPB.out _ w2 g cap (World.grownBy.refl _ _) hgrow hown3 (hlies.imp id fun h => by omega)
            have hupd := h3.1
            have HN := h3.2
            clear h3
            have x3 := HN.2.2.1.cell 0
            have x2 := (HMB.out.2.2.1.grown hgrow (fun e => by have := (HOB.out.lt _ e.symm).1; omega)).cell 0
            simp at x2 x3
            refine hK.out _ _ x2 (fun hHeld => ?_)
            clear hK K hlies hown3 hgrow hrunb
            refine rd1 10 rfl (fun K hK => ?_)
            go_simp
            refine hK.out _ _ x3 (fun hHeld => ?_)
            clear hK K
            refine wpAnyH_done (by kernel_rfl) ?_ _
            go_wp2_with fail
            go_meet
            exact ⟨l, c + 1, by rw [← HE1.out, ← HE2.out]; exact HN, by omega, HQ.out⟩
        case rest =>
        rename World => wx
        have HX := Lib.hid hcut
        clear hcut HR1 HST
        go_upto_region 9 with fail
        obtain ⟨dl, hdl⟩ : ∃ q, q = dolAt s (i + m) := ⟨_, rfl⟩
        go_cut [45] (fun s45 wz => s45 = .bool dl ∧ wx = wz)
        case first =>
          by_cases hd : i + m < s.size
          · have hgd := get_bt s (i + m) hd
            by_cases h36 : bt s (i + m) = 36
            · have HDd : Hid (dl = true) := Lib.hid (by rw [hdl]; unfold dolAt; rw [decide_eq_true hd, h36]; rfl)
              rw [h36] at hgd
              clear h36 hdl
              go_wp2_with fail
              go_meet
              case rel => exact ⟨by rw [HDd.out], rfl⟩
            · have HDd : Hid (dl = false) := Lib.hid (by rw [hdl]; unfold dolAt; rw [decide_eq_true hd, Bool.true_and]; exact beq_eq_false_iff_ne.2 h36)
              have n36 : ((bt s (i + m) : Int) == 36) = false := beq_eq_false_iff_ne.2 (by omega)
              clear h36 hdl
              generalize bt s (i + m) = b at *
              go_wp2_with fail
              go_meet
              case rel => exact ⟨by rw [HDd.out], rfl⟩
          · have HDd : Hid (dl = false) := Lib.hid (by rw [hdl]; unfold dolAt; rw [decide_eq_false hd]; rfl)
            clear hdl
            go_wp2_with fail
            go_meet
            case rel => exact ⟨by rw [HDd.out], rfl⟩
        case rest =>
        obtain ⟨rfl, rfl⟩ := hcut
        cases dl
        · have HN : Hid (RnW s w (i + m) wx) := Lib.hid (HX.out.skip hdl.symm hmp)
          clear HX hdl
          go_wp2_with fail
          go_roundw
          case rel => exact ⟨i + m, by go_num, by omega, HN.out⟩
          case measure => simp [intOf]; omega
        · go_upto_region 10 with fail
          go_cut [] (fun wz => RnW s w (i + m) wz)
          case first =>
           obtain ⟨l, c, q1, q2, q3⟩ := HX.out
           have x0 := q1.2.2.1.cell 1
           simp at x0
           have HQ := Lib.hid q3
           have hsn := snoc_fun (s := s) (d := true) (l := l) (i := i) (m := m) (by rw [← hdl]; rfl)
           obtain ⟨f1, hf1⟩ : ∃ f, f = fun n => posL n (runsD s false (l ++ [(i, m)])) := ⟨_, rfl⟩
           obtain ⟨f2, hf2⟩ : ∃ f, f = fun n => posL n (runsD s true l) := ⟨_, rfl⟩
           have HE2 : Hid ((fun n => if n = m then f2 m ++ [i] else f2 n) = fun n => posL n (runsD s true (l ++ [(i, m)]))) := Lib.hid (by rw [hf2]; exact hsn)
           have HE1 := Lib.hid hf1
           rw [← hf1, ← hf2] at q1
           have HM := Lib.hid q1
           clear q1 q3 hsn hf1 hf2 HX hdl
           have HMa : RnM w c f1 f2 wx.drew := HM.out.below (below_drewN (Below.refl _ _) 1)
           have HMb : RnM w c f1 f2 (wx.alloc (.cells #[.int .i64 i] 3)).drew := (HM.out.below (((Below.refl wx.heap.size wx).alloc (Nat.le_refl _) _).trans (below_drewN (Below.refl _ _) 1)))
           have k1 : c < 1000000000 := by omega
           have k2 : m ≤ 1000000 := by omega
           have k3 : i ≤ 1000000 := by omega
           obtain ⟨Aa, ca, Fa, hruna, howna, hzla, hputa⟩ := rn_more2 HMa k1 m i k2 k3
           obtain ⟨Ab, cb, Fb, hrunb, hownb, hzlb, hputb⟩ := rn_more2 HMb k1 m i k2 k3
           have HMA := Lib.hid HMa
           have HMB := Lib.hid HMb
           have HPA := Lib.hid hputa
           have HPB := Lib.hid hputb
           have HOA := Lib.hid howna
           have HOB := Lib.hid hownb
           have hzd : wx.drew.heap.size = wx.heap.size := rfl
           have xa := (HMa.2.2.1.alloc (.cells #[.int .i64 i] 3)).cell 1
           have xb := HMb.2.2.1.cell 1
           simp at xa xb
           clear k1 k2 k3 HMa HMb hputa hputb howna hownb
           refine wp_region_held_drew (S := fun W' => W'.cell? ⟨w.heap.size + 1 + 1 + 1, 1, none⟩ = some (.map (some (w.heap.size + 2)))) (by kernel_rfl) x0 (fun hHeld => ?_)
           refine tk 0 (.pointer (some ⟨w.heap.size + 1 + 1 + 1, 1, none⟩)) rfl hHeld (fun W' hSw => ?_) ?_
           · go_simp
           refine tk 1 (.map (some (w.heap.size + 2))) rfl hHeld (fun W' hSw => ?_) ?_
           · go_simp
           refine tk 2 (.int .i64 m) rfl hHeld (fun W' hSw => ?_) ?_
           · go_simp
           refine tk 3 (.pointer (some ⟨w.heap.size + 1 + 1 + 1, 1, none⟩)) rfl hHeld (fun W' hSw => ?_) ?_
           · go_simp
           refine tk 4 (.map (some (w.heap.size + 2))) rfl hHeld (fun W' hSw => ?_) ?_
           · go_simp
           refine tk 5 (.int .i64 m) rfl hHeld (fun W' hSw => ?_) ?_
           · go_simp
           refine tk 7 (.int .i64 i) rfl hHeld (fun W' hSw => ?_) ?_
           · go_simp
           refine wpAnyH_ready (rs := [6, 8]) (by kernel_rfl) (by simp) (AllReadyH.cons rfl (fun K hK => ?_) (AllReadyH.cons rfl (fun K hK => ?_) AllReadyH.nil))
           · have hqa := hruna
             go_simp
             refine hK.out _ _ x0 (fun hHeld => ?_)
             clear hK K
             refine rd1 8 rfl (fun K hK => ?_)
             go_simp
             refine hK.out _ _ xa (fun hHeld => ?_)
             clear hK K
             refine rd1 9 rfl (fun K hK => ?_)
             refine step_append_lies _ rfl (.tmp 52) (.tmp 54) 52 rfl (w.heap.size + 4) 3 i0 _ 1 8 Tryz.underlying52 hi0 hz0 hz1 hz2 rfl (by decide) _ _ _ rfl (HOA.out.alloc _) ⟨wx.heap.size, 0, none⟩ 1 1 [.int .i64 i] rfl rfl ?e1 ?e2 (by decide) ?e3 ?e4 ?e5 (wx.heap.size + 1) ?e6 ?_
             case e1 => exact World.news_of_block (t := 3) (fr := (0, 0)) (cs := #[.int .i64 i]) (heap_alloc_new wx.drew _)
             case e2 => intro u hu; simp at hu; subst hu; rfl
             case e3 => unfold maxLen; omega
             case e4 => omega
             case e5 => have := HMA.out.2.2.2.2; simp; omega
             case e6 => simp
             intro g cap w2 hown3 hgrow hlies hlt3
             have h3 := HPA.out _ w2 g cap (World.grownBy_alloc _ _ _) hgrow hown3 (hlies.imp id fun h => by omega)
             have hupd := h3.1
             have HN := h3.2
             clear h3
             have x3 := HN.2.2.1.cell 1
             have x2 := ((HMA.out.2.2.1.alloc (.cells #[.int .i64 i] 3)).grown hgrow (fun e => by have := (HOA.out.lt _ e.symm).1; omega)).cell 1
             simp at x2 x3
             refine hK.out _ _ x2 (fun hHeld => ?_)
             clear hK K hlies hown3 hgrow hruna
             refine rd1 10 rfl (fun K hK => ?_)
             go_simp
             refine hK.out _ _ x3 (fun hHeld => ?_)
             clear hK K
             refine wpAnyH_done (by kernel_rfl) ?_ _
             go_wp2_with fail
             go_meet
             exact ⟨l ++ [(i, m)], c + 1, by rw [← HE1.out, ← HE2.out]; exact HN, by omega, HQ.out⟩
           · have hqb := hrunb
             have hzd : (wx.alloc (.cells #[.int .i64 i] 3)).drew.heap.size = wx.heap.size + 1 := World.size_alloc _ _
             have hcc : (wx.alloc (.cells #[.int .i64 i] 3)).drew.heap[wx.heap.size]? = some (.cells #[.int .i64 i] 3 (0, 0)) := heap_alloc_new wx _
             go_simp
             refine hK.out _ _ xb (fun hHeld => ?_)
             clear hK K
             refine rd1 6 rfl (fun K hK => ?_)
             go_simp
             refine hK.out _ _ xb (fun hHeld => ?_)
             clear hK K
             refine rd1 9 rfl (fun K hK => ?_)
             refine step_append_lies _ rfl (.tmp 52) (.tmp 54) 52 rfl (w.heap.size + 4) 3 i0 _ 1 8 Tryz.underlying52 hi0 hz0 hz1 hz2 rfl (by decide) _ _ _ rfl HOB.out ⟨wx.heap.size, 0, none⟩ 1 1 [.int .i64 i] rfl rfl ?f1 ?f2 (by decide) ?f3 ?f4 ?f5 (wx.heap.size + 1) ?f6 ?_
             case f1 => exact World.news_of_block (t := 3) (fr := (0, 0)) (cs := #[.int .i64 i]) hcc
             case f2 => intro u hu; simp at hu; subst hu; rfl
             case f3 => unfold maxLen; omega
             case f4 => omega
             case f5 => have := HMB.out.2.2.2.2; omega
             case f6 => simp
             intro g cap w2 hown3 hgrow hlies hlt3
             have h3 := HPB.out _ w2 g cap (World.grownBy.refl _ _) hgrow hown3 (hlies.imp id fun h => by omega)
             have hupd := h3.1
             have HN := h3.2
             clear h3
             have x3 := HN.2.2.1.cell 1
             have x2 := (HMB.out.2.2.1.grown hgrow (fun e => by have := (HOB.out.lt _ e.symm).1; omega)).cell 1
             simp at x2 x3
             refine hK.out _ _ x2 (fun hHeld => ?_)
             clear hK K hlies hown3 hgrow hrunb
             refine rd1 10 rfl (fun K hK => ?_)
             go_simp
             refine hK.out _ _ x3 (fun hHeld => ?_)
             clear hK K
             refine wpAnyH_done (by kernel_rfl) ?_ _
             go_wp2_with fail
             go_meet
             exact ⟨l ++ [(i, m)], c + 1, by rw [← HE1.out, ← HE2.out]; exact HN, by omega, HQ.out⟩
          case rest =>
          have HN := Lib.hid hcut
          clear hcut HX hdl
          go_wp2_with fail
          go_roundw
          case rel => exact ⟨i + m, by go_num, by omega, HN.out⟩
          case measure => simp [intOf]; omega
      · have n1 : ((bt s i : Int) != 96) = true := bne_iff_ne.2 (by omega)
        have HN : Hid (RnW s w (i + 1) wr) := Lib.hid (by
          obtain ⟨l, c, q1, q2, q3⟩ := HRn.out
          exact ⟨l, c, q1, by omega, by rw [q3, runsF_skip s i hl h96]⟩)
        clear h96 hmm
        generalize bt s i = b at *
        go_wp2_with fail
        go_roundw
        case rel => exact ⟨i + 1, by go_num, by omega, HN.out⟩
        case measure => simp [intOf]; omega
    · obtain ⟨l, c, ⟨⟨D1, D2, Ps, q1, q2, q3, q4, q5⟩, k2, k3, qB, qz⟩, q6, q7⟩ := HRn.out
      rw [runsF_none s i (by omega), List.append_nil] at q7
      have hk : ∀ n : Nat, n ≤ 1000000 → keyOf Tryz.prog 3 (.int .i64 n) = some (.int .i64 n) := fun n hn => keyOf_int_mk Tryz.underlying3 (WalkArith.wf_i64 (by omega))
      have T1 : TickM Tryz.prog wr (Rg (w.heap.size + 1) wr) 58 (w.heap.size + 1) (tickL s false) := tick_groups q1.2.1 int_law Tryz.underlying58 zero_ints hk (by unfold tickL; rw [q7]; exact q4) (by omega) (Nat.le_refl _)
      have T2 : TickM Tryz.prog wr (Rg (w.heap.size + 1) wr) 58 (w.heap.size + 2) (tickL s true) := tick_groups q1.2.2.1 int_law Tryz.underlying58 zero_ints hk (by unfold tickL; rw [q7]; exact q5) (by omega) (by omega)
      have x0 := k3.cell 0
      have x1 := k3.cell 1
      have z0 := k2.cell 0
      have z1 := k2.cell 1
      have f0 := k2.frozen 0
      have f1 := k2.frozen 1
      have d2 := (k2.set_ 0 (.map (some (w.heap.size + 1)))).set_ 1 (.map (some (w.heap.size + 2)))
      have y0 := d2.cell 0
      have y1 := d2.cell 1
      simp at x0 x1 y0 y1 z0 z1
      have HW : Hid (Below w.heap.size w ((wr.setCell ⟨w.heap.size, 0, none⟩ (.map (some (w.heap.size + 1)))).setCell ⟨w.heap.size, 1, none⟩ (.map (some (w.heap.size + 2))))) := Lib.hid ((qB.setCell (p := ⟨w.heap.size, 0, none⟩) (Nat.le_refl _) _).setCell (p := ⟨w.heap.size, 1, none⟩) (Nat.le_refl _) _)
      have HT : Hid (RdrW ((wr.setCell ⟨w.heap.size, 0, none⟩ (.map (some (w.heap.size + 1)))).setCell ⟨w.heap.size, 1, none⟩ (.map (some (w.heap.size + 2)))) (Rg w.heap.size ((wr.setCell ⟨w.heap.size, 0, none⟩ (.map (some (w.heap.size + 1)))).setCell ⟨w.heap.size, 1, none⟩ (.map (some (w.heap.size + 2))))) s (w.heap.size + 1) (w.heap.size + 2)) := Lib.hid (RdrW.keep ⟨T1, T2⟩ (fun g hg => (Below.heap_setCell _ _ _ g (by show g ≠ w.heap.size; have := hg.1; omega)).trans (Below.heap_setCell _ _ _ g (by show g ≠ w.heap.size; have := hg.1; omega))) fun g hg => ⟨by have := hg.1; omega, by simp [World.setCell]; exact hg.2⟩)
      clear q1 q2 q3 q4 q5 q6 q7 T1 T2 k2 k3 d2 hk qB HRn hmm
      go_wp2_with fail
      refine bodyPost_ret (v := .agg #[.map (some (w.heap.size + 1)), .map (some (w.heap.size + 2))]) ?_ rfl ⟨_, _, rfl, HW.out, HT.out⟩
      simp [results, Tryz.results15, go_sem, y0, y1]

end Go.Proofs.YtfnloonmeilhlaaGreatDoor
