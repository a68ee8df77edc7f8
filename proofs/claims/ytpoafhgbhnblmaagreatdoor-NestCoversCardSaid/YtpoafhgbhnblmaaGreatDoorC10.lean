/-
  Texts of the proof, put together (what this law reaches): NsP, MkU, NsE, NsG, NsF.
-/
import Derived.Test.YtpoafhgbhnblmaaGreatDoorC09
import Derived.Test.YtpoafhgbhnblmaaGreatDoorC08
import Derived.Test.YtpoafhgbhnblmaaGreatDoorC07
import Derived.Great.BuildSlice
import Derived.StillTailTactics
import Derived.Deep.CutRange
import Derived.Deep.DeepCutAuto
import Derived.Deep.RegionHeld3
import Derived.Deep.CutBlock
set_option linter.unusedVariables false
set_option linter.unusedSimpArgs false
namespace Go.Proofs.YtpoafhgbhnblmaaGreatDoor
open Go.RowKit Go.Pub
theorem contTo_bd (zs : List ByteArray) (i : Nat) (m : MkL) (h : i < zs.length) : i + 1 ≤ contTo zs i m ∧ contTo zs i m ≤ zs.length := by
  have h1 := lastN_le (fun j => !blankB (ln zs j)) (i + 1) (seek (contStop zs m) zs.length (i + 1) - (i + 1))
  have h2 := seek_spec (contStop zs m) zs.length (i + 1) (by omega)
  unfold contTo
  omega
theorem contL_bd (zs : List ByteArray) (i : Nat) (m : MkL) (h : i < zs.length) : i + 1 ≤ (contL zs i m).2 ∧ (contL zs i m).2 ≤ zs.length := by
  have := contTo_bd zs i m h
  unfold contL
  by_cases hn : contNo zs i m = true
  · rw [if_pos hn]; exact ⟨Nat.le_refl _, h⟩
  · rw [if_neg hn]; exact this
theorem nextNB_bd (zs : List ByteArray) (i : Nat) (h : i ≤ zs.length) : i ≤ nextNB zs i ∧ nextNB zs i ≤ zs.length := by
  have := seek_spec (fun j => !blankB (ln zs j)) zs.length i h
  exact ⟨this.1, this.2.1⟩
/-- One round of a list's items. -/
theorem itemsF_fuel (rec : List ByteArray → Option (List BkT)) (zs : List ByteArray) : ∀ (f g i : Nat) (m : MkL), i < zs.length → zs.length - i ≤ f → zs.length - i ≤ g → itemsF rec zs f i m = itemsF rec zs g i m
  | 0, _, i, m, h, hf, _ => absurd h (by omega)
  | _ + 1, 0, i, m, h, _, hg => absurd h (by omega)
  | f + 1, g + 1, i, m, h, hf, hg => by
    unfold itemsF
    have hb := contL_bd zs i m h
    have hn := nextNB_bd zs (contL zs i m).2 hb.2
    cases hr : rec (contL zs i m).1 with
    | none => rfl
    | some kids =>
      simp only []
      by_cases hc : nextNB zs (contL zs i m).2 < zs.length ∧ sameR m (markM (ln zs (nextNB zs (contL zs i m).2))) = true
      · rw [if_pos hc, if_pos hc, itemsF_fuel rec zs f g _ _ hc.1 (by omega) (by omega)]
      · rw [if_neg hc, if_neg hc]
def itemsT (rec : List ByteArray → Option (List BkT)) (zs : List ByteArray) (i : Nat) (m : MkL) : Option (List BkT × Nat) := itemsF rec zs (zs.length - i) i m
theorem itemsT_step (rec : List ByteArray → Option (List BkT)) (zs : List ByteArray) (i : Nat) (m : MkL) (h : i < zs.length) : itemsT rec zs i m =
    match rec (contL zs i m).1 with
    | none => none
    | some kids =>
      if nextNB zs (contL zs i m).2 < zs.length ∧ sameR m (markM (ln zs (nextNB zs (contL zs i m).2))) = true then
        (itemsT rec zs (nextNB zs (contL zs i m).2) (markM (ln zs (nextNB zs (contL zs i m).2)))).map fun r => (kidB 9 kids :: r.1, r.2)
      else some ([kidB 9 kids], (contL zs i m).2) := by
  have hb := contL_bd zs i m h
  have hn := nextNB_bd zs (contL zs i m).2 hb.2
  unfold itemsT
  obtain ⟨f, hf⟩ : ∃ f, zs.length - i = f + 1 := ⟨zs.length - i - 1, by omega⟩
  rw [hf]
  conv => lhs; unfold itemsF
  cases hr : rec (contL zs i m).1 with
  | none => rfl
  | some kids =>
    simp only []
    by_cases hc : nextNB zs (contL zs i m).2 < zs.length ∧ sameR m (markM (ln zs (nextNB zs (contL zs i m).2))) = true
    · rw [if_pos hc, if_pos hc, itemsF_fuel rec zs f (zs.length - nextNB zs (contL zs i m).2) _ _ hc.1 (by omega) (by omega)]
    · rw [if_neg hc, if_neg hc]
theorem itemsF_bd (rec : List ByteArray → Option (List BkT)) (zs : List ByteArray) : ∀ (f i : Nat) (m : MkL) (r : List BkT × Nat), i < zs.length → itemsF rec zs f i m = some r → i < r.2 ∧ r.2 ≤ zs.length
  | 0, i, m, r, h, e => by cases e
  | f + 1, i, m, r, h, e => by
    have hb := contL_bd zs i m h
    have hn := nextNB_bd zs (contL zs i m).2 hb.2
    unfold itemsF at e
    cases hr : rec (contL zs i m).1 with
    | none => rw [hr] at e; cases e
    | some kids =>
      rw [hr] at e
      simp only [] at e
      by_cases hc : nextNB zs (contL zs i m).2 < zs.length ∧ sameR m (markM (ln zs (nextNB zs (contL zs i m).2))) = true
      · rw [if_pos hc] at e
        cases hi : itemsF rec zs f (nextNB zs (contL zs i m).2) (markM (ln zs (nextNB zs (contL zs i m).2))) with
        | none => rw [hi] at e; cases e
        | some q =>
          rw [hi] at e
          injection e with e
          subst e
          have := itemsF_bd rec zs f _ _ q hc.1 hi
          exact ⟨by show i < q.2; omega, this.2⟩
      · rw [if_neg hc] at e
        injection e with e
        subst e
        exact ⟨by show i < (contL zs i m).2; omega, hb.2⟩
theorem opt_map_some {α β : Type} {o : Option α} {f : α → β} {b : β} (h : o.map f = some b) : ∃ a, o = some a ∧ b = f a := by
  cases o with
  | none => cases h
  | some a => injection h with h; exact ⟨a, rfl, h.symm⟩
theorem min_close (zs : List ByteArray) (m : MkL) (i : Nat) (h : i < zs.length) : i < min (closeI zs m (i + 1) + 1) zs.length ∧ min (closeI zs m (i + 1) + 1) zs.length ≤ zs.length := by
  have := seek_spec (closeP zs m) zs.length (i + 1) (by omega)
  unfold closeI
  omega
/-- A block ends behind its line. -/
theorem blockT_bd (rec1 rec2 : List ByteArray → Option (List BkT)) (d2 d3 : Bool) (zs : List ByteArray) (i : Nat) (h : i < zs.length) (r : BkT × Nat) (e : blockT rec1 rec2 d2 d3 zs i (markM (ln zs i)) = some r) : i < r.2 ∧ r.2 ≤ zs.length := by
  have hk : kindOf zs i = (markM (ln zs i)).kind := rfl
  generalize markM (ln zs i) = m at *
  unfold blockT at e
  by_cases h2 : m.kind = 2
  · rw [if_pos h2] at e; injection e with e; subst e; exact ⟨Nat.lt_succ_self _, h⟩
  rw [if_neg h2] at e
  by_cases h3 : m.kind = 3
  · rw [if_pos h3] at e; injection e with e; subst e; exact ⟨Nat.lt_succ_self _, h⟩
  rw [if_neg h3] at e
  by_cases h11 : m.kind = 11
  · rw [if_pos h11] at e; injection e with e; subst e; exact ⟨Nat.lt_succ_self _, h⟩
  rw [if_neg h11] at e
  by_cases h4 : m.kind = 4
  · rw [if_pos h4] at e
    obtain ⟨k, _, rfl⟩ := opt_map_some e
    obtain ⟨s1, s2, s3, s4⟩ := seek_spec (fun j => !decide (kindOf zs j = 4)) zs.length i (by omega)
    refine ⟨?_, s2⟩
    show i < seek (fun j => !decide (kindOf zs j = 4)) zs.length i
    rcases Nat.lt_or_ge i (seek (fun j => !decide (kindOf zs j = 4)) zs.length i) with hl | hl
    · exact hl
    · have ei : seek (fun j => !decide (kindOf zs j = 4)) zs.length i = i := by omega
      have := s4 (by omega)
      rw [ei, hk, h4] at this
      cases this
  rw [if_neg h4] at e
  by_cases h7 : m.kind = 7
  · rw [if_pos h7] at e; injection e with e; subst e; exact min_close zs m i h
  rw [if_neg h7] at e
  by_cases h8 : m.kind = 8
  · rw [if_pos h8] at e; injection e with e; subst e; exact min_close zs m i h
  rw [if_neg h8] at e
  by_cases h9 : m.kind = 9
  · rw [if_pos h9] at e
    obtain ⟨k, _, rfl⟩ := opt_map_some e
    exact min_close zs m i h
  rw [if_neg h9] at e
  by_cases h10 : m.kind = 10
  · rw [if_pos h10] at e
    obtain ⟨k, _, rfl⟩ := opt_map_some e
    have := contL_bd zs i m h
    exact ⟨by show i < (contL zs i m).2; omega, this.2⟩
  rw [if_neg h10] at e
  by_cases h56 : m.kind = 5 ∨ m.kind = 6
  · rw [if_pos h56] at e
    by_cases hd : d2 = true
    · rw [if_pos hd] at e
      obtain ⟨q, hq, rfl⟩ := opt_map_some e
      exact itemsF_bd rec2 zs _ i m q h hq
    · rw [if_neg hd] at e; cases e
  rw [if_neg h56] at e
  by_cases ht : headAt zs i = true
  · rw [if_pos ht] at e
    by_cases hd : d3 = true
    · rw [if_pos hd] at e
      injection e with e
      subst e
      have hi : i + 1 < zs.length := by
        unfold headAt at ht
        rw [Bool.and_eq_true, decide_eq_true_eq] at ht
        exact ht.1
      have := seek_spec (fun j => !decide (kindOf zs j = 0)) zs.length (i + 2) (by omega)
      exact ⟨by show i < seek _ _ _; omega, this.2.1⟩
    · rw [if_neg hd] at e; cases e
  · rw [if_neg ht] at e
    injection e with e
    subst e
    have := seek_spec (fun j => !decide (kindOf zs j = 0) || headAt zs j) zs.length (i + 1) (by omega)
    exact ⟨by show i < seek _ _ _; omega, this.2.1⟩
theorem loopT_fuel (at_ : Nat → MkL → Option (BkT × Nat)) (zs : List ByteArray) (hat : ∀ i r, i < zs.length → at_ i (markM (ln zs i)) = some r → i < r.2) : ∀ (f g i : Nat), zs.length - i ≤ f → zs.length - i ≤ g → loopT at_ zs f i = loopT at_ zs g i
  | 0, 0, i, _, _ => rfl
  | 0, g + 1, i, hf, _ => by
    unfold loopT; rw [if_pos (by omega)]
  | f + 1, 0, i, _, hg => by
    conv => lhs; unfold loopT
    rw [if_pos (by omega)]; rfl
  | f + 1, g + 1, i, hf, hg => by
    unfold loopT
    by_cases h : zs.length ≤ i
    · rw [if_pos h, if_pos h]
    · rw [if_neg h, if_neg h]
      by_cases hb : blankB (ln zs i) = true
      · rw [if_pos hb, if_pos hb, loopT_fuel at_ zs hat f g (i + 1) (by omega) (by omega)]
      · rw [if_neg hb, if_neg hb]
        cases hm : at_ i (markM (ln zs i)) with
        | none => rfl
        | some r =>
          obtain ⟨b, tq⟩ := r
          have := hat i _ (by omega) hm
          simp only [] at this ⊢
          rw [loopT_fuel at_ zs hat f g tq (by omega) (by omega)]
/-- The rest of the loop from line i on. -/
def restT (at_ : Nat → MkL → Option (BkT × Nat)) (zs : List ByteArray) (i : Nat) : Option (List BkT × List (Nat × Nat)) := loopT at_ zs (zs.length - i) i
theorem restT_end (at_ : Nat → MkL → Option (BkT × Nat)) (zs : List ByteArray) (i : Nat) (h : zs.length ≤ i) : restT at_ zs i = some ([], []) := by
  unfold restT
  rw [show zs.length - i = 0 by omega]; rfl
theorem restT_blank (at_ : Nat → MkL → Option (BkT × Nat)) (zs : List ByteArray) (i : Nat) (h : i < zs.length) (hb : blankB (ln zs i) = true) : restT at_ zs i = restT at_ zs (i + 1) := by
  unfold restT
  obtain ⟨f, hf⟩ : ∃ f, zs.length - i = f + 1 := ⟨zs.length - i - 1, by omega⟩
  rw [hf]
  conv => lhs; unfold loopT
  rw [if_neg (by omega), if_pos hb, show zs.length - (i + 1) = f by omega]
theorem restT_step (at_ : Nat → MkL → Option (BkT × Nat)) (zs : List ByteArray) (hat : ∀ i r, i < zs.length → at_ i (markM (ln zs i)) = some r → i < r.2) (i : Nat) (h : i < zs.length) (hb : blankB (ln zs i) = false) : restT at_ zs i =
    match at_ i (markM (ln zs i)) with
    | none => none
    | some (b, tq) => (restT at_ zs tq).map fun r => (b :: r.1, (i, tq) :: r.2) := by
  unfold restT
  obtain ⟨f, hf⟩ : ∃ f, zs.length - i = f + 1 := ⟨zs.length - i - 1, by omega⟩
  rw [hf]
  conv => lhs; unfold loopT
  rw [if_neg (by omega), if_neg (by rw [hb]; exact Bool.false_ne_true)]
  cases hm : at_ i (markM (ln zs i)) with
  | none => rfl
  | some r =>
    obtain ⟨b, tq⟩ := r
    have := hat i _ h hm
    simp only [] at this ⊢
    rw [loopT_fuel at_ zs hat f (zs.length - tq) tq (by omega) (by omega)]
/-- The levels' blocks. -/
def atN : Nat → List ByteArray → Nat → MkL → Option (BkT × Nat)
  | 0, _ => fun _ _ => none
  | 1, zs => blockT (fun l => (blocksN 0 l).map (·.1)) (fun _ => none) false false zs
  | n + 2, zs => blockT (fun l => (blocksN (n + 1) l).map (·.1)) (fun l => (blocksN n l).map (·.1)) true (decide (1 ≤ n)) zs
theorem blocksN_rest (n : Nat) (zs : List ByteArray) : blocksN n zs = restT (atN n zs) zs 0 := by
  match n with
  | 0 => rfl
  | 1 => rfl
  | n + 2 => rfl
theorem atN_one (zs : List ByteArray) : atN 1 zs = blockT (fun l => (blocksN 0 l).map (·.1)) (fun _ => none) false false zs := rfl
theorem atN_two (n : Nat) (zs : List ByteArray) : atN (n + 2) zs = blockT (fun l => (blocksN (n + 1) l).map (·.1)) (fun l => (blocksN n l).map (·.1)) true (decide (1 ≤ n)) zs := rfl
theorem atN_bd (n : Nat) (zs : List ByteArray) (i : Nat) (r : BkT × Nat) (h : i < zs.length) (e : atN n zs i (markM (ln zs i)) = some r) : i < r.2 ∧ r.2 ≤ zs.length := by
  match n with
  | 0 => cases e
  | 1 => rw [atN_one] at e; exact blockT_bd _ _ _ _ zs i h r e
  | n + 2 => rw [atN_two] at e; exact blockT_bd _ _ _ _ zs i h r e
end Go.Proofs.YtpoafhgbhnblmaaGreatDoor
namespace Go.Proofs.YtpoafhgbhnblmaaGreatDoor
open Go.RowKit Go.Pub
theorem closes_ret {W : World} {g : Nat} {x y z u : Value} {P : Ending → World → Prop} {act : Act} (hr : Blk W g 43 #[x, y, z]) (h4 : act.tmps.getD 4 undef = .pointer (some ⟨g, 0, none⟩))
    (h5 : act.tmps.getD 5 undef = u) (hd : act.defers = []) (hP : P (.returned (.tuple #[.agg #[x, y, z], u])) W) : bodyPost Tryz.prog Tryz.f117 P Exit.ret act W := by
  have c0 : W.cell? ⟨g, 0, none⟩ = some x := hr.cell 0
  have c1 : W.cell? ⟨g, 1, none⟩ = some y := hr.cell 1
  have c2 : W.cell? ⟨g, 2, none⟩ = some z := hr.cell 2
  refine bodyPost_ret (v := .tuple #[.agg #[x, y, z], u]) ?_ hd hP
  rw [Array.getD_eq_getD_getElem?] at h4 h5
  simp [results, Tryz.results117, go_sem, h4, h5, c0, c1, c2]
theorem cl_none {r : AttrL × Bool} {b : Bool} {w w' : World} (hr : r = (emptyA, b)) (hb : Below w.heap.size w w') : ClPost r w (.returned (.tuple #[.agg #[.string ⟨#[]⟩, .slice none 0 0, .slice none 0 0], .bool b])) w' := by
  subst hr; exact ⟨⟨_, _, rfl, ownA_empty _ _ hb.size⟩, hb⟩
theorem cl_some {r : AttrL × Bool} {a : AttrL} {b : Bool} {vC vP : Value} {w w' : World} (hr : r = (a, b)) (ho : OwnA w' w.heap.size a vC vP) (hb : Below w.heap.size w w') : ClPost r w (.returned (.tuple #[.agg #[.string a.id, vC, vP], .bool b])) w' := by
  subst hr; exact ⟨⟨_, _, rfl, ho⟩, hb⟩
/-- The parameter's block, and the result's, still empty. -/
structure CW (w : World) (MK : Array Value) (W : World) : Prop where
  mrk : Blk W w.heap.size 74 MK
  at_ : Blk W (w.heap.size + 1) 43 #[.string ⟨#[]⟩, .slice none 0 0, .slice none 0 0]
  bel : Below w.heap.size w W
def cw0 (w : World) (MK : Array Value) : World := (w.alloc (.cells MK 74)).alloc (.cells #[.string ⟨#[]⟩, .slice none 0 0, .slice none 0 0] 43)
theorem cw_start (w : World) (MK : Array Value) : CW w MK (cw0 w MK) := by
  refine ⟨(Blk.new w _ _).alloc _, ?_, ((Below.refl _ w).alloc (Nat.le_refl _) _).alloc (by simp) _⟩
  have := Blk.new (w.alloc (.cells MK 74)) 43 #[.string ⟨#[]⟩, .slice none 0 0, .slice none 0 0]
  unfold cw0
  simpa using this
theorem CW.next {w W W' : World} {MK : Array Value} (h : CW w MK W) (hb : Below W.heap.size W W') : CW w MK W' :=
  ⟨h.mrk.below hb h.mrk.lt, h.at_.below hb h.at_.lt, h.bel.trans (hb.mono h.bel.size)⟩
theorem CW.facts {w W : World} {MK : Array Value} (h : CW w MK W) : W.cell? ⟨w.heap.size, 1, none⟩ = MK[1]? ∧ W.cell? ⟨w.heap.size, 2, none⟩ = MK[2]? ∧
    W.cell? ⟨w.heap.size + 1, 0, none⟩ = some (.string ⟨#[]⟩) ∧ W.cell? ⟨w.heap.size + 1, 1, none⟩ = some (.slice none 0 0) ∧ W.cell? ⟨w.heap.size + 1, 2, none⟩ = some (.slice none 0 0) ∧
    W.frozen? ⟨w.heap.size + 1, 0, none⟩ = false ∧ W.frozen? ⟨w.heap.size + 1, 1, none⟩ = false ∧ W.frozen? ⟨w.heap.size + 1, 2, none⟩ = false ∧ w.heap.size + 1 < W.heap.size :=
  ⟨h.mrk.cell 1, h.mrk.cell 2, h.at_.cell 0, h.at_.cell 1, h.at_.cell 2, h.at_.frozen 0, h.at_.frozen 1, h.at_.frozen 2, h.at_.lt⟩
theorem CW.done {w W : World} {MK : Array Value} (h : CW w MK W) (x y z : Value) : Blk (((W.setCell ⟨w.heap.size + 1, 0, none⟩ x).setCell ⟨w.heap.size + 1, 1, none⟩ y).setCell ⟨w.heap.size + 1, 2, none⟩ z) (w.heap.size + 1) 43 #[x, y, z] ∧
    Below w.heap.size w (((W.setCell ⟨w.heap.size + 1, 0, none⟩ x).setCell ⟨w.heap.size + 1, 1, none⟩ y).setCell ⟨w.heap.size + 1, 2, none⟩ z) :=
  ⟨blk3 h.at_ rfl x y z, below3 h.bel (Nat.le_succ _) x y z⟩
set_option maxRecDepth 100000 in
set_option maxHeartbeats 2000000 in
theorem m_closes (s : ByteArray) (K N o : Int) (ch s4 s5 s6 s7 s8 : ByteArray) (A9 : Option Addr) (n9 c9 : Nat) (A10 : Option Addr) (n10 c10 : Nat) (w : World) (hs : s.size ≤ 1000000) :
    Calls Tryz.prog 117 #[.string s, .agg #[.int .i64 K, .int .i64 N, .string ch, .int .i64 o, .string s4, .string s5, .string s6, .string s7, .string s8, .slice A9 n9 c9, .slice A10 n10 c10]] w (ClPost (closesM s K N ch) w) := by
  have HI := Lib.hid fun W => t_indent s W hs
  have hil : indA s 0 ≤ s.size := indA_le s
  have hcz : (s.extract (indA s 0) s.size).size = s.size - indA s 0 := by rw [ByteArray.size_extract]; omega
  have HR : Hid (closesM s K N ch = if 3 < indA s 0 then (emptyA, false) else closeD (s.extract (indA s 0) s.size) K N ch) := Lib.hid rfl
  have HS := Lib.hid (cw_start w #[.int .i64 K, .int .i64 N, .string ch, .int .i64 o, .string s4, .string s5, .string s6, .string s7, .string s8, .slice A9 n9 c9, .slice A10 n10 c10])
  generalize closesM s K N ch = R at *
  generalize indA s 0 = ind at *
  have hili : (ind : Int) ≤ (s.size : Int) := by omega
  by_cases hi : 3 < ind
  · have HF : Hid (R = (emptyA, false)) := Lib.hid (by rw [HR.out, if_pos hi])
    have d1 : decide (3 < (ind : Int)) = true := decide_eq_true (by omega)
    have d2 : decide (3 < ind) = true := decide_eq_true hi
    clear HR
    go_enter Tryz.func117, Tryz.ntmps117
    go_wp2_with fail
    ((with_reducible refine (HI.out _).mono ?_))
    rintro e w' ⟨rfl, rfl⟩
    go_wp2_with fail
    exact closes_ret HS.out.at_ rfl rfl rfl (cl_none HF.out HS.out.bel)
  have d1 : decide (3 < (ind : Int)) = false := decide_eq_false (by omega)
  have d2 : decide (3 < ind) = false := decide_eq_false hi
  have HR2 : Hid (R = closeD (s.extract ind s.size) K N ch) := Lib.hid (by rw [HR.out, if_neg hi])
  clear HR
  generalize hcc : s.extract ind s.size = c at *
  have hcs : c.size ≤ 1000000 := by omega
  clear hcz
  by_cases h7 : K = 7
  · subst h7
    by_cases hg1 : ch.size = 1
    case neg =>
      have HF : Hid (R = (emptyA, false)) := Lib.hid (by rw [HR2.out]; unfold closeD; rw [if_pos rfl, decide_eq_false (fun h => hg1 h.1)]; rfl)
      have e1 : ((ch.size : Int) != 1) = true := by rw [bne_iff_ne]; omega
      have e2 : (ch.size != 1) = true := by rw [bne_iff_ne]; omega
      clear HR2
      go_enter Tryz.func117, Tryz.ntmps117
      go_wp2_with fail
      ((with_reducible refine (HI.out _).mono ?_))
      rintro e w' ⟨rfl, rfl⟩
      go_wp2_with fail
      exact closes_ret HS.out.at_ rfl rfl rfl (cl_none HF.out HS.out.bel)
    have e1 : ((ch.size : Int) != 1) = false := by rw [bne_eq_false_iff_eq]; omega
    have e2 : (ch.size != 1) = false := by rw [bne_eq_false_iff_eq]; omega
    by_cases hg2 : N < 1
    · have HF : Hid (R = (emptyA, false)) := Lib.hid (by rw [HR2.out]; unfold closeD; rw [if_pos rfl, decide_eq_false (fun h => by omega)]; rfl)
      have e3 : decide (N < 1) = true := decide_eq_true hg2
      clear HR2
      go_enter Tryz.func117, Tryz.ntmps117
      go_wp2_with fail
      ((with_reducible refine (HI.out _).mono ?_))
      rintro e w' ⟨rfl, rfl⟩
      go_wp2_with fail
      exact closes_ret HS.out.at_ rfl rfl rfl (cl_none HF.out HS.out.bel)
    have e3 : decide (N < 1) = false := decide_eq_false hg2
    have h01 : 0 < ch.size := by omega
    have hgb := get_bt ch 0 h01
    have hb256 := bt_lt ch 0
    have HF0 : Hid (R = (emptyA, decide (N ≤ (firstN c (· != bt ch 0) : Int)) && blankB (c.extract (firstN c (· != bt ch 0)) c.size))) := Lib.hid (by rw [HR2.out]; unfold closeD; rw [if_pos rfl, decide_eq_true ⟨hg1, by omega⟩]; rfl)
    clear HR2
    have HRn := Lib.hid fun W => m_run c (bt ch 0) hb256 W hcs
    have hnl := firstN_le c (· != bt ch 0)
    generalize firstN c (· != bt ch 0) = n at *
    generalize bt ch 0 = q at *
    have hxz : (c.extract n c.size).size ≤ 1000000 := by rw [ByteArray.size_extract]; omega
    have HBl := Lib.hid fun W => t_blank (c.extract n c.size) W hxz
    generalize blankB (c.extract n c.size) = bb at *
    by_cases hn : N ≤ (n : Int)
    · have e4 : decide (N ≤ (n : Int)) = true := decide_eq_true hn
      have HF : Hid (R = (emptyA, bb)) := Lib.hid (by rw [HF0.out, e4]; rfl)
      clear HF0
      go_enter Tryz.func117, Tryz.ntmps117
      go_wp2_with fail
      ((with_reducible refine (HI.out _).mono ?_))
      rintro e w' ⟨rfl, rfl⟩
      go_wp2_with fail
      ((with_reducible refine (HRn.out _).mono ?_))
      rintro e w1 ⟨rfl, b1⟩
      have hC := HS.out.next b1
      obtain ⟨k1, k2, a0, a1, a2, f0, f1, f2, hlt⟩ := hC.facts
      have HC := Lib.hid hC
      simp at k1 k2
      clear b1 hC
      go_wp2_with fail
      ((with_reducible refine (HBl.out _).mono ?_))
      rintro e w2 ⟨rfl, rfl⟩
      go_wp2_with fail
      have hD := HC.out.done (.string ⟨#[]⟩) (.slice none 0 0) (.slice none 0 0)
      exact closes_ret hD.1 rfl rfl rfl (cl_none HF.out hD.2)
    · have e4 : decide (N ≤ (n : Int)) = false := decide_eq_false hn
      have HF : Hid (R = (emptyA, false)) := Lib.hid (by rw [HF0.out, e4]; rfl)
      clear HF0
      go_enter Tryz.func117, Tryz.ntmps117
      go_wp2_with fail
      ((with_reducible refine (HI.out _).mono ?_))
      rintro e w' ⟨rfl, rfl⟩
      go_wp2_with fail
      ((with_reducible refine (HRn.out _).mono ?_))
      rintro e w1 ⟨rfl, b1⟩
      have hC := HS.out.next b1
      obtain ⟨k1, k2, a0, a1, a2, f0, f1, f2, hlt⟩ := hC.facts
      have HC := Lib.hid hC
      simp at k1 k2
      clear b1 hC
      go_wp2_with fail
      have hD := HC.out.done (.string ⟨#[]⟩) (.slice none 0 0) (.slice none 0 0)
      exact closes_ret hD.1 rfl rfl rfl (cl_none HF.out hD.2)
  have z7 : (K == 7) = false := by rw [beq_eq_false_iff_ne]; exact h7
  by_cases h8 : K = 8
  · subst h8
    have HP : Hid (∀ W, Calls Tryz.prog 108 #[.string c, .string ⟨#[36, 36]⟩] W fun e w' => e = .returned (.bool (Lib.hasPrefix (bytesL c) [36, 36])) ∧ W = w') := Lib.hid fun W => (Tryz.strings_HasPrefix c ⟨#[36, 36]⟩ W).mono fun e w' ⟨h, h'⟩ => ⟨h, h'.symm⟩
    have HR3 : Hid (R = if Lib.hasPrefix (bytesL c) [36, 36] = true then optA (onlyR (c.extract 2 c.size)) else (emptyA, false)) := Lib.hid (by rw [HR2.out]; unfold closeD; rw [if_neg (by decide), if_pos rfl])
    have hpl : Lib.hasPrefix (bytesL c) [36, 36] = true → 2 ≤ c.size := fun h => pre_len h
    clear HR2
    generalize Lib.hasPrefix (bytesL c) [36, 36] = p at *
    cases p with
    | false =>
      have HF : Hid (R = (emptyA, false)) := Lib.hid (by rw [HR3.out]; rfl)
      clear HR3
      go_enter Tryz.func117, Tryz.ntmps117
      go_wp2_with fail
      ((with_reducible refine (HI.out _).mono ?_))
      rintro e w' ⟨rfl, rfl⟩
      go_wp2_with fail
      ((with_reducible refine (HP.out _).mono ?_))
      rintro e w' ⟨rfl, rfl⟩
      go_wp2_with fail
      exact closes_ret HS.out.at_ rfl rfl rfl (cl_none HF.out HS.out.bel)
    | true =>
      have h2 := hpl rfl
      have hxz : (c.extract 2 c.size).size ≤ 1000000 := by rw [ByteArray.size_extract]; omega
      have HO := Lib.hid fun W => m_only (c.extract 2 c.size) W hxz
      have HF0 : Hid (R = optA (onlyR (c.extract 2 c.size))) := Lib.hid (by rw [HR3.out]; rfl)
      clear HR3 hpl
      generalize onlyR (c.extract 2 c.size) = O at *
      go_enter Tryz.func117, Tryz.ntmps117
      go_wp2_with fail
      ((with_reducible refine (HI.out _).mono ?_))
      rintro e w' ⟨rfl, rfl⟩
      go_wp2_with fail
      ((with_reducible refine (HP.out _).mono ?_))
      rintro e w' ⟨rfl, rfl⟩
      go_wp2_with fail
      ((with_reducible refine (HO.out _).mono ?_))
      rintro e w1 ⟨⟨a, vC, vP, b, rfl, ho, hO, hb0⟩, b1⟩
      have HF : Hid (R = (a, b)) := Lib.hid (by
        rw [HF0.out, hO]
        cases b with
        | true => rfl
        | false => rw [hb0 rfl]; rfl)
      obtain ⟨AC, cC, rfl⟩ := own_slice ho.cls
      obtain ⟨AP, cP, rfl⟩ := own_slice ho.prs
      have hC := HS.out.next b1
      have ho' : OwnA w1 (w.heap.size + 2) a (.slice AC a.cl.length cC) (.slice AP a.pr.length cP) := by
        have e : (cw0 w #[.int .i64 8, .int .i64 N, .string ch, .int .i64 o, .string s4, .string s5, .string s6, .string s7, .string s8, .slice A9 n9 c9, .slice A10 n10 c10]).heap.size = w.heap.size + 2 := by unfold cw0; simp
        rw [← e]; exact ho
      have HO' := Lib.hid ho'
      obtain ⟨k1, k2, a0, a1, a2, f0, f1, f2, hlt⟩ := hC.facts
      have HC := Lib.hid hC
      clear b1 hC ho ho' hO hb0 HF0
      go_wp2_with fail
      have hD := HC.out.done (.string a.id) (.slice AC a.cl.length cC) (.slice AP a.pr.length cP)
      exact closes_ret hD.1 rfl rfl rfl (cl_some HF.out (ownA_low (ownA_far HO'.out (grown3 _ _ _ _ _) (by omega)) (by omega)) hD.2)
  have z8 : (K == 8) = false := by rw [beq_eq_false_iff_ne]; exact h8
  by_cases h9 : K = 9
  · subst h9
    have HF0 : Hid (R = (emptyA, decide (1 ≤ N) && (decide ((firstN c (· != 58) : Int) = N) && blankB (c.extract (firstN c (· != 58)) c.size)))) := Lib.hid (by rw [HR2.out]; unfold closeD; rw [if_neg (by decide), if_neg (by decide), if_pos rfl])
    clear HR2
    have HRn : Hid (∀ W, Calls Tryz.prog 102 #[.string c, .int .u8 58] W fun e w' => e = .returned (.int .i64 (firstN c (· != 58))) ∧ Below W.heap.size W w') := Lib.hid fun W => m_run c 58 (by omega) W hcs
    have hnl := firstN_le c (· != 58)
    generalize firstN c (· != 58) = n at *
    have hxz : (c.extract n c.size).size ≤ 1000000 := by rw [ByteArray.size_extract]; omega
    have HBl := Lib.hid fun W => t_blank (c.extract n c.size) W hxz
    generalize blankB (c.extract n c.size) = bb at *
    have htest : (decide (1 ≤ N) = false ∧ Hid (R = (emptyA, false))) ∨ (decide (1 ≤ N) = true ∧ ((n : Int) == N) = false ∧ Hid (R = (emptyA, false))) ∨ (decide (1 ≤ N) = true ∧ ((n : Int) == N) = true ∧ Hid (R = (emptyA, bb))) := by
      by_cases g1 : 1 ≤ N
      · by_cases g2 : (n : Int) = N
        · right; right; exact ⟨decide_eq_true g1, by rw [beq_iff_eq]; exact g2, Lib.hid (by rw [HF0.out, decide_eq_true g1, decide_eq_true g2]; rfl)⟩
        · right; left; exact ⟨decide_eq_true g1, by rw [beq_eq_false_iff_ne]; exact g2, Lib.hid (by rw [HF0.out, decide_eq_true g1, decide_eq_false g2]; rfl)⟩
      · left; exact ⟨decide_eq_false g1, Lib.hid (by rw [HF0.out, decide_eq_false g1]; rfl)⟩
    clear HF0
    rcases htest with ⟨g1, HF⟩ | ⟨g1, g2, HF⟩ | ⟨g1, g2, HF⟩
    · go_enter Tryz.func117, Tryz.ntmps117
      go_wp2_with fail
      ((with_reducible refine (HI.out _).mono ?_))
      rintro e w' ⟨rfl, rfl⟩
      go_wp2_with fail
      ((with_reducible refine (HRn.out _).mono ?_))
      rintro e w1 ⟨rfl, b1⟩
      have hC := HS.out.next b1
      obtain ⟨k1, k2, a0, a1, a2, f0, f1, f2, hlt⟩ := hC.facts
      have HC := Lib.hid hC
      simp at k1 k2
      clear b1 hC
      go_wp2_with fail
      have hD := HC.out.done (.string ⟨#[]⟩) (.slice none 0 0) (.slice none 0 0)
      exact closes_ret hD.1 rfl rfl rfl (cl_none HF.out hD.2)
    · go_enter Tryz.func117, Tryz.ntmps117
      go_wp2_with fail
      ((with_reducible refine (HI.out _).mono ?_))
      rintro e w' ⟨rfl, rfl⟩
      go_wp2_with fail
      ((with_reducible refine (HRn.out _).mono ?_))
      rintro e w1 ⟨rfl, b1⟩
      have hC := HS.out.next b1
      obtain ⟨k1, k2, a0, a1, a2, f0, f1, f2, hlt⟩ := hC.facts
      have HC := Lib.hid hC
      simp at k1 k2
      clear b1 hC
      go_wp2_with fail
      have hD := HC.out.done (.string ⟨#[]⟩) (.slice none 0 0) (.slice none 0 0)
      exact closes_ret hD.1 rfl rfl rfl (cl_none HF.out hD.2)
    · go_enter Tryz.func117, Tryz.ntmps117
      go_wp2_with fail
      ((with_reducible refine (HI.out _).mono ?_))
      rintro e w' ⟨rfl, rfl⟩
      go_wp2_with fail
      ((with_reducible refine (HRn.out _).mono ?_))
      rintro e w1 ⟨rfl, b1⟩
      have hC := HS.out.next b1
      obtain ⟨k1, k2, a0, a1, a2, f0, f1, f2, hlt⟩ := hC.facts
      have HC := Lib.hid hC
      simp at k1 k2
      clear b1 hC
      go_wp2_with fail
      ((with_reducible refine (HBl.out _).mono ?_))
      rintro e w2 ⟨rfl, rfl⟩
      go_wp2_with fail
      have hD := HC.out.done (.string ⟨#[]⟩) (.slice none 0 0) (.slice none 0 0)
      exact closes_ret hD.1 rfl rfl rfl (cl_none HF.out hD.2)
  have z9 : (K == 9) = false := by rw [beq_eq_false_iff_ne]; exact h9
  have HF : Hid (R = (emptyA, false)) := Lib.hid (by rw [HR2.out]; unfold closeD; rw [if_neg h7, if_neg h8, if_neg h9])
  clear HR2
  go_enter Tryz.func117, Tryz.ntmps117
  go_wp2_with fail
  ((with_reducible refine (HI.out _).mono ?_))
  rintro e w' ⟨rfl, rfl⟩
  go_wp2_with fail
  exact closes_ret HS.out.at_ rfl rfl rfl (cl_none HF.out HS.out.bel)

end Go.Proofs.YtpoafhgbhnblmaaGreatDoor
namespace Go.Proofs.YtpoafhgbhnblmaaGreatDoor
open Go.RowKit Go.Pub
theorem n_source (s : ByteArray) (w : World) : Calls Tryz.prog 69 #[.string s] w fun e w' => ∃ v, e = .returned v ∧ SrcV w' (Rg w.heap.size w') v s ∧ Below w.heap.size w w' := by
  by_cases h : s.size = 0
  · obtain rfl : s = ⟨#[]⟩ := ByteArray.ext (Array.eq_empty_of_size_eq_zero h)
    go_enter Tryz.func69, Tryz.ntmps69
    go_wp2_with fail
    go_ret
    exact ⟨_, rfl, by unfold SrcV; rw [if_pos h]; rfl, Below.refl _ _⟩
  · have y1 : (s.toList == []) = false := by
      have h' : s ≠ ⟨#[]⟩ := fun e => h (by rw [e]; rfl)
      rw [← show (⟨#[]⟩ : ByteArray).toList = [] by decide +kernel]
      exact (Lib.bytes_beq_false_iff _ _).2 h'
    have y2 : s.toList.isEmpty = false := by
      cases e : s.toList with
      | nil => rw [e] at y1; cases y1
      | cons _ _ => rfl
    go_enter Tryz.func69, Tryz.ntmps69
    go_wp2_with fail
    go_ret
    refine ⟨_, rfl, ?_, (Below.refl _ w).alloc (Nat.le_refl _) _⟩
    unfold SrcV
    rw [if_neg h]
    exact ⟨_, _, rfl, ReadsS.block (cs := (textC s).toArray) (Blk.new w _ _) ⟨Nat.le_refl _, by simp⟩ rfl (by decide)⟩
theorem n_between (zs : List ByteArray) (A : Option Addr) (c i k : Nat) (MM : Int) (w : World) (hL : LinesAt w A zs MM) (hi : i + 1 ≤ k) (hk : k ≤ zs.length) (hc : zs.length ≤ c) (hcm : c ≤ maxLen) :
    Calls Tryz.prog 73 #[.slice A zs.length c, .int .i64 i, .int .i64 k] w fun e w' => e = .returned (.string (mk (joinN (cutL zs (i + 1) k)))) ∧ Below w.heap.size w w' := by
  unfold maxLen at hcm
  obtain ⟨b, off, rfl, hb, hcell⟩ := hL.get (by omega)
  have hlen := hL.len
  have HJ := Lib.hid fun (A' : Option Addr) (c' : Nat) (h : A' = some ⟨b, off + (i + 1), none⟩ ∨ k = i + 1) => l_join (cutL zs (i + 1) k) A' c' w.heap.size w (hL.cut' (i + 1) k hi hk A' h).rd (Nat.le_refl _) (hL.cut' (i + 1) k hi hk A' h).len (hL.cut' (i + 1) k hi hk A' h).sz
  have hcl := cutL_len zs (i + 1) k hi hk
  rw [hcl] at HJ
  generalize joinN (cutL zs (i + 1) k) = J at *
  clear hcell hL hcl
  go_enter Tryz.func73, Tryz.ntmps73
  go_wp2_with fail
  all_goals
    ((with_reducible refine (HJ.out _ _ (by first | exact .inl rfl | exact .inr (by omega))).mono ?_))
    rintro e w1 ⟨rfl, b1⟩
    go_wp2_with fail
    go_ret
    exact ⟨rfl, b1⟩
end Go.Proofs.YtpoafhgbhnblmaaGreatDoor
namespace Go.Proofs.YtpoafhgbhnblmaaGreatDoor
open Go.RowKit Go.Pub
theorem own_cap {w : World} {base size n : Nat} {e : TypeId} {v : Value} {xs : List Value} (h : w.ownsRow base e size v n xs) : ∃ A c, v = .slice A n c ∧ n ≤ c ∧ c ≤ maxLen := by
  rcases h.2 with ⟨rfl, rfl⟩ | ⟨g, cap, cur, rfl, _, _, h1, h2, _⟩
  · exact ⟨_, _, rfl, Nat.le_refl _, Nat.zero_le _⟩
  · exact ⟨_, _, rfl, h1, h2⟩
theorem strip_size (s : ByteArray) (n : Nat) : (stripB s n).size ≤ s.size := by unfold stripB; rw [ByteArray.size_extract]; omega
theorem cutL_mem {zs : List ByteArray} {i k : Nat} {z : ByteArray} (h : z ∈ cutL zs i k) : z ∈ zs := List.mem_of_mem_drop (List.mem_of_mem_take h)
/-- An item's lines are few and short, too. -/
theorem contL_ok (zs : List ByteArray) (i : Nat) (m : MkL) (hi : i < zs.length) (hM : ∀ z ∈ zs, z.size ≤ 100000) (hr : m.rest.size ≤ 100000) : (contL zs i m).1.length ≤ zs.length ∧ ∀ z ∈ (contL zs i m).1, z.size ≤ 100000 := by
  have hb := contTo_bd zs i m hi
  unfold contL
  by_cases hn : contNo zs i m = true
  · rw [if_pos hn]; exact ⟨Nat.zero_le _, fun z hz => absurd hz (by simp)⟩
  · rw [if_neg hn]
    refine ⟨?_, fun z hz => ?_⟩
    · rw [List.length_cons, List.length_map, cutL_len _ _ _ hb.1 hb.2]; omega
    · rcases List.mem_cons.1 hz with rfl | hz
      · exact hr
      · obtain ⟨y, hy, rfl⟩ := List.mem_map.1 hz
        exact Nat.le_trans (strip_size _ _) (hM y (cutL_mem hy))
/-- The first lines of an item. -/
def takeC (zs : List ByteArray) (i : Nat) (m : MkL) (k : Nat) : List ByteArray := m.rest :: ((cutL zs (i + 1) (contTo zs i m)).take k).map fun z => stripB z m.off
theorem takeC_len (zs : List ByteArray) (i : Nat) (m : MkL) (k : Nat) (h : i + 1 ≤ contTo zs i m) (h2 : contTo zs i m ≤ zs.length) (hk : i + 1 + k ≤ contTo zs i m) : (takeC zs i m k).length = k + 1 := by
  unfold takeC
  rw [List.length_cons, List.length_map, List.length_take, cutL_len _ _ _ h h2]
  omega
theorem takeC_succ (zs : List ByteArray) (i : Nat) (m : MkL) (k : Nat) (h2 : contTo zs i m ≤ zs.length) (hk : i + 1 + k < contTo zs i m) : strs (takeC zs i m (k + 1)) = strs (takeC zs i m k) ++ [.string (stripB (ln zs (i + 1 + k)) m.off)] := by
  have hl : (cutL zs (i + 1) (contTo zs i m)).length = contTo zs i m - (i + 1) := cutL_len _ _ _ (by omega) h2
  unfold takeC strs
  rw [List.take_succ_eq_append_getElem (by omega), List.map_append, List.map_cons, List.map_cons, List.map_append]
  rw [ln_at _ k (by omega), ln_cut zs _ _ _ hk]
  rfl
theorem takeC_all (zs : List ByteArray) (i : Nat) (m : MkL) (h2 : contTo zs i m ≤ zs.length) (h1 : i + 1 ≤ contTo zs i m) (hn : contNo zs i m = false) : contL zs i m = (takeC zs i m (contTo zs i m - (i + 1)), contTo zs i m) := by
  unfold contL takeC
  rw [if_neg (by rw [hn]; exact Bool.false_ne_true), List.take_of_length_le (by rw [cutL_len _ _ _ h1 h2]; exact Nat.le_refl _)]
/-- The mark's block, and nothing below changed. -/
def MkW (w : World) (MK : Array Value) (W : World) : Prop := Blk W w.heap.size 74 MK ∧ Below w.heap.size w W
theorem MkW.start (w : World) (MK : Array Value) : MkW w MK (w.alloc (.cells MK 74)) := ⟨Blk.new w _ _, (Below.refl _ w).alloc (Nat.le_refl _) _⟩
theorem MkW.next {w W W' : World} {MK : Array Value} (h : MkW w MK W) (hb : Below W.heap.size W W') : MkW w MK W' := ⟨h.1.below hb h.1.lt, h.2.trans (hb.mono h.2.size)⟩
def ContPost (r : List ByteArray × Nat) (MM : Int) (w : World) (e : Ending) (w' : World) : Prop := (∃ A c, e = .returned (.tuple #[.slice A r.1.length c, .int .i64 r.2]) ∧ r.1.length ≤ c ∧ c ≤ maxLen ∧ LinesAt w' A r.1 MM) ∧ Below w.heap.size w w'
def nbAt (zs : List ByteArray) (j : Nat) : Bool := !blankB (ln zs j)
def CoRel (zs : List ByteArray) (i : Nat) (m : MkL) (MK : Array Value) (w : World) (v8 v9 : Value) (wr : World) : Prop :=
  ∃ j : Nat, v9 = .int .i64 j ∧ v8 = .int .i64 (lastN (nbAt zs) (i + 1) (j - (i + 1)) : Nat) ∧ i + 1 ≤ j ∧ j ≤ zs.length ∧ MkW w MK wr ∧ Hid (∀ k, i + 1 ≤ k → k < j → contStop zs m k = false)
theorem contTo_at (zs : List ByteArray) (i j : Nat) (m : MkL) (h1 : i + 1 ≤ j) (h2 : j ≤ zs.length) (hno : ∀ k, i + 1 ≤ k → k < j → contStop zs m k = false) (hit : j < zs.length → contStop zs m j = true) : lastN (nbAt zs) (i + 1) (j - (i + 1)) = contTo zs i m := by
  unfold contTo
  rw [seek_eq (contStop zs m) zs.length (i + 1) j h1 h2 hno hit]
  rfl
theorem lastN_succ (q : Nat → Bool) (i j : Nat) (h : i ≤ j) : lastN q i (j + 1 - i) = if q j = true then j + 1 else lastN q i (j - i) := by
  rw [show j + 1 - i = (j - i) + 1 by omega]
  show (if q (i + (j - i)) = true then i + (j - i) + 1 else lastN q i (j - i)) = _
  rw [show i + (j - i) = j by omega]
def Co2Rel (zs : List ByteArray) (i : Nat) (m : MkL) (MK : Array Value) (w : World) (v10 v67 : Value) (wr : World) : Prop :=
  ∃ k : Nat, v67 = .int .i64 k ∧ i + 1 + k ≤ contTo zs i m ∧ wr.ownsRow (w.heap.size + 1) 9 1 v10 (k + 1) (strs (takeC zs i m k)) ∧ MkW w MK wr
set_option maxRecDepth 100000 in
set_option maxHeartbeats 4000000 in
theorem n_content (zs : List ByteArray) (A : Option Addr) (c i : Nat) (MM : Int) (m : MkL) (A9 : Option Addr) (n9 c9 : Nat) (A10 : Option Addr) (n10 c10 : Nat) (w : World) (hL : LinesAt w A zs MM) (hi : i < zs.length) (hc : zs.length ≤ c) (hcm : c ≤ maxLen) (ho : m.off ≤ 1000000) (hr : m.rest.size ≤ 100000) :
    Calls Tryz.prog 75 #[.slice A zs.length c, .int .i64 i, .agg (m.cells (.slice A9 n9 c9) (.slice A10 n10 c10))] w (ContPost (contL zs i m) MM w) := by
  have hbd := contTo_bd zs i m hi
  have hok := Lib.hid (contL_ok zs i m hi hL.sz hr)
  have hlen := hL.len
  obtain ⟨b, off, rfl, hb, hcell⟩ := hL.get (by omega)
  have HCell := Lib.hid hcell
  have HBl : Hid (∀ j W, Calls Tryz.prog 57 #[.string (ln zs j)] W fun e w' => e = .returned (.bool (blankB (ln zs j))) ∧ W = w') := Lib.hid fun j W => t_blank (ln zs j) W (Nat.le_trans (ln_size hL.sz j) (by decide))
  have HBr : Hid (∀ W, Calls Tryz.prog 57 #[.string m.rest] W fun e w' => e = .returned (.bool (blankB m.rest)) ∧ W = w') := Lib.hid fun W => t_blank m.rest W (by omega)
  have HIn : Hid (∀ j W, Calls Tryz.prog 58 #[.string (ln zs j)] W fun e w' => e = .returned (.int .i64 (indA (ln zs j) 0)) ∧ W = w') := Lib.hid fun j W => t_indent (ln zs j) W (Nat.le_trans (ln_size hL.sz j) (by decide))
  have HSt : Hid (∀ j W, Calls Tryz.prog 107 #[.string (ln zs j), .int .i64 (m.off : Nat)] W fun e w' => e = .returned (.string (stripB (ln zs j) m.off)) ∧ W = w') := Lib.hid fun j W => t_strip (ln zs j) m.off W (Nat.le_trans (ln_size hL.sz j) (by decide)) ho
  have HNo : Hid (contNo zs i m = (blankB m.rest && (decide (zs.length ≤ i + 1) || blankB (ln zs (i + 1))))) := Lib.hid rfl
  have HLi := Lib.hid hL
  have HW0 := Lib.hid (MkW.start w (m.cells (.slice A9 n9 c9) (.slice A10 n10 c10)))
  clear hL hcell
  by_cases hno : contNo zs i m = true
  · have HF : Hid (contL zs i m = ([], i + 1)) := Lib.hid (by unfold contL; rw [if_pos hno])
    have hbr : blankB m.rest = true := by rw [HNo.out, Bool.and_eq_true] at hno; exact hno.1
    rw [hbr] at HBr
    unfold MkL.cells
    by_cases h1 : zs.length ≤ i + 1
    · have d1 : decide ((zs.length : Int) ≤ (i : Int) + 1) = true := decide_eq_true (by omega)
      clear HNo hno hbr HBl HIn HSt
      go_enter Tryz.func75, Tryz.ntmps75
      go_wp2_with fail
      ((with_reducible refine (HBr.out _).mono ?_))
      rintro e w1 ⟨rfl, rfl⟩
      go_wp2_with fail
      go_ret2
      rw [HF.out]
      exact ⟨⟨_, _, rfl, Nat.le_refl _, Nat.zero_le _, ⟨Reads.none_, Nat.zero_le _, fun z hz => absurd hz (by simp), (HLi.out.below HW0.out.2).cell⟩⟩, HW0.out.2⟩
    · have d1 : decide ((zs.length : Int) ≤ (i : Int) + 1) = false := decide_eq_false (by omega)
      have hb1 : blankB (ln zs (i + 1)) = true := by
        rw [HNo.out, Bool.and_eq_true, Bool.or_eq_true] at hno
        rcases hno.2 with h | h
        · rw [decide_eq_true_eq] at h; omega
        · exact h
      have HB1 := Lib.hid fun W => HBl.out (i + 1) W
      rw [hb1] at HB1
      have hc1 := (HW0.out.2.cell (p := ⟨b, off + (i + 1), none⟩) hb).trans (HCell.out (i + 1) (by omega))
      unfold MkL.cells at hc1
      clear HNo hno hbr HBl HIn HSt hb1
      go_enter Tryz.func75, Tryz.ntmps75
      go_wp2_with fail
      ((with_reducible refine (HBr.out _).mono ?_))
      rintro e w1 ⟨rfl, rfl⟩
      go_wp2_with fail
      ((with_reducible refine (HB1.out _).mono ?_))
      rintro e w1 ⟨rfl, rfl⟩
      go_wp2_with fail
      go_ret2
      rw [HF.out]
      exact ⟨⟨_, _, rfl, Nat.le_refl _, Nat.zero_le _, ⟨Reads.none_, Nat.zero_le _, fun z hz => absurd hz (by simp), (HLi.out.below HW0.out.2).cell⟩⟩, HW0.out.2⟩
  have hno : contNo zs i m = false := by simpa using hno
  have HF := Lib.hid (takeC_all zs i m hbd.2 hbd.1 hno)
  have HNo2 : Hid ((blankB m.rest && (decide (zs.length ≤ i + 1) || blankB (ln zs (i + 1)))) = false) := Lib.hid (by rw [← HNo.out]; exact hno)
  clear HNo hno
  go_enter Tryz.func75, Tryz.ntmps75
  unfold MkL.cells
  go_upto_region 1 with fail
  go_cut [30] (fun s30 wx => s30 = .bool false ∧ MkW w (m.cells (.slice A9 n9 c9) (.slice A10 n10 c10)) wx)
  case first =>
    by_cases hbr : blankB m.rest = true
    · rw [hbr, Bool.true_and, Bool.or_eq_false_iff] at HNo2
      rw [hbr] at HBr
      have h1 : ¬ zs.length ≤ i + 1 := of_decide_eq_false HNo2.out.1
      have d1 : decide ((zs.length : Int) ≤ (i : Int) + 1) = false := decide_eq_false (by omega)
      have HB1 := Lib.hid fun W => HBl.out (i + 1) W
      rw [HNo2.out.2] at HB1
      have hc1 := (HW0.out.2.cell (p := ⟨b, off + (i + 1), none⟩) hb).trans (HCell.out (i + 1) (by omega))
      unfold MkL.cells at hc1
      clear HNo2 hbr HBl HIn HSt HF
      go_wp2_with fail
      ((with_reducible refine (HBr.out _).mono ?_))
      rintro e w1 ⟨rfl, rfl⟩
      go_wp2_with fail
      ((with_reducible refine (HB1.out _).mono ?_))
      rintro e w1 ⟨rfl, rfl⟩
      go_wp2_with fail
      go_meet
      exact ⟨rfl, HW0.out⟩
    · have hbr : blankB m.rest = false := by simpa using hbr
      rw [hbr] at HBr
      clear HNo2 hbr HBl HIn HSt HF
      go_wp2_with fail
      ((with_reducible refine (HBr.out _).mono ?_))
      rintro e w1 ⟨rfl, rfl⟩
      go_wp2_with fail
      go_meet
      exact ⟨rfl, HW0.out⟩
  case rest =>
  obtain ⟨rfl, hW⟩ := hcut
  have HW := Lib.hid hW
  clear hW HW0 HNo2 HBr
  go_upto_block 0 with fail
  go_cut [8] (fun s8 wx => s8 = .int .i64 (contTo zs i m) ∧ MkW w (m.cells (.slice A9 n9 c9) (.slice A10 n10 c10)) wx)
  case first =>
    go_wp2_with fail
    go_loopw [8, 9] (fun v8 v9 wr => CoRel zs i m (m.cells (.slice A9 n9 c9) (.slice A10 n10 c10)) w v8 v9 wr) (fun _ v9 _ => zs.length - (intOf v9).toNat)
    case atStart => exact ⟨i + 1, by go_num, by rw [Nat.sub_self]; rfl, Nat.le_refl _, by omega, HW.out, Lib.hid fun k h1 h2 => absurd h2 (by omega)⟩
    case round =>
      clear HW
      obtain ⟨j, rfl, rfl, hj1, hj, hWr, Hno⟩ := hrel
      have HWr := Lib.hid hWr
      by_cases hlt : j < zs.length
      · have hc0 := (hWr.2.cell (p := ⟨b, off + j, none⟩) hb).trans (HCell.out j hlt)
        have HB1 := Lib.hid fun W => HBl.out j W
        have HI1 := Lib.hid fun W => HIn.out j W
        have HCs : Hid (contStop zs m j = (!blankB (ln zs j) && decide (indA (ln zs j) 0 < m.off))) := Lib.hid rfl
        have HLs := Lib.hid (lastN_succ (nbAt zs) (i + 1) j hj1)
        have HAt := Lib.hid (contTo_at zs i j m hj1 hj Hno.out)
        have hnb : Hid (nbAt zs j = !blankB (ln zs j)) := Lib.hid rfl
        have hil := indA_le (ln zs j)
        obtain ⟨k0, k1, k2, k3, k4, k5, k6, k7, k8, k9, k10, y0, y1, y2, y3, y4, y5, y6, y7, y8, y9, y10⟩ := mk_facts hWr.1
        clear hWr HBl HIn HSt HF k0 k1 k2 k4 k5 k6 k7 k8 k9 k10 y0 y1 y2 y3 y4 y5 y6 y7 y8 y9 y10
        generalize indA (ln zs j) 0 = ind at *
        generalize ln zs j = z at *
        cases hbz : blankB z with
        | true =>
          rw [hbz] at HB1 HCs hnb
          have HNx : Hid (∀ k, i + 1 ≤ k → k < j + 1 → contStop zs m k = false) := Lib.hid fun k h1 h2 => by
            by_cases e : k = j
            · rw [e, HCs.out]; rfl
            · exact Hno.out k h1 (by omega)
          have HLx : Hid (lastN (nbAt zs) (i + 1) (j + 1 - (i + 1)) = lastN (nbAt zs) (i + 1) (j - (i + 1))) := Lib.hid (by rw [HLs.out, hnb.out]; rfl)
          clear HCs HLs hnb HAt Hno hbz HI1
          generalize lastN (nbAt zs) (i + 1) (j - (i + 1)) = t at *
          go_wp2_with fail
          ((with_reducible refine (HB1.out _).mono ?_))
          rintro e w1 ⟨rfl, rfl⟩
          go_wp2_with fail
          go_roundw
          case rel => exact ⟨j + 1, by go_num, by rw [HLx.out], by omega, by omega, HWr.out, HNx⟩
          case measure => simp [intOf]; omega
        | false =>
          rw [hbz] at HB1 HCs hnb
          by_cases hst : ind < m.off
          · have z1 : decide ((ind : Int) < (m.off : Int)) = true := decide_eq_true (by omega)
            have z2 : decide (ind < m.off) = true := decide_eq_true hst
            have HT := Lib.hid (HAt.out fun _ => by rw [HCs.out, decide_eq_true hst]; rfl)
            clear HCs HLs hnb HAt Hno hbz hst
            generalize lastN (nbAt zs) (i + 1) (j - (i + 1)) = t at *
            go_wp2_with fail
            ((with_reducible refine (HB1.out _).mono ?_))
            rintro e w1 ⟨rfl, rfl⟩
            go_wp2_with fail
            go_quiet ((go_at_call 58; exact quiet_left (HI1.out _)))
            go_wp2_with fail
            go_meet
            exact ⟨by rw [HT.out], Blk.drewN HWr.out.1 _, below_drewN HWr.out.2 _⟩
          · have z1 : decide ((ind : Int) < (m.off : Int)) = false := decide_eq_false (by omega)
            have z2 : decide (ind < m.off) = false := decide_eq_false hst
            have HNx : Hid (∀ k, i + 1 ≤ k → k < j + 1 → contStop zs m k = false) := Lib.hid fun k h1 h2 => by
              by_cases e : k = j
              · rw [e, HCs.out, decide_eq_false hst]; rfl
              · exact Hno.out k h1 (by omega)
            have HLx : Hid (lastN (nbAt zs) (i + 1) (j + 1 - (i + 1)) = j + 1) := Lib.hid (by rw [HLs.out, hnb.out]; rfl)
            clear HCs HLs hnb HAt Hno hbz hst
            generalize lastN (nbAt zs) (i + 1) (j - (i + 1)) = t at *
            go_wp2_with fail
            ((with_reducible refine (HB1.out _).mono ?_))
            rintro e w1 ⟨rfl, rfl⟩
            go_wp2_with fail
            go_quiet ((go_at_call 58; exact quiet_left (HI1.out _)))
            go_wp2_with fail
            go_roundw
            case rel => exact ⟨j + 1, by go_num, by rw [HLx.out]; go_num, by omega, by omega, ⟨Blk.drewN HWr.out.1 _, below_drewN HWr.out.2 _⟩, HNx⟩
            case measure => simp [intOf]; omega
      · have HT := Lib.hid (contTo_at zs i j m hj1 hj Hno.out (fun h => absurd h hlt))
        obtain rfl : j = zs.length := by omega
        clear hWr HF HBl HIn HSt Hno
        generalize lastN (nbAt zs) (i + 1) (zs.length - (i + 1)) = t at *
        go_wp2_with fail
        go_meet
        exact ⟨by rw [HT.out], HWr.out⟩
  case rest =>
  obtain ⟨rfl, hW⟩ := hcut
  have HW := Lib.hid hW
  obtain ⟨i0, hi0, hz0, hz1, hz2⟩ := info_parts strInfo
  obtain ⟨k0, k1, k2, k3, k4, k5, k6, k7, k8, k9, k10, y0, y1, y2, y3, y4, y5, y6, y7, y8, y9, y10⟩ := mk_facts hW.1
  have hwz : w.heap.size < wc.heap.size := hW.1.lt
  have HT0 : Hid (strs (takeC zs i m 0) = [.string m.rest]) := Lib.hid rfl
  have HTl := Lib.hid fun k => takeC_len zs i m k hbd.1 hbd.2
  have HTs := Lib.hid fun k => takeC_succ zs i m k hbd.2
  have HCR : Hid (∀ (k : Nat) (v10 v67 : Value) (wr : World), v67 = .int .i64 k → i + 1 + k ≤ contTo zs i m → wr.ownsRow (w.heap.size + 1) 9 1 v10 (k + 1) (strs (takeC zs i m k)) → MkW w (m.cells (.slice A9 n9 c9) (.slice A10 n10 c10)) wr → Co2Rel zs i m (m.cells (.slice A9 n9 c9) (.slice A10 n10 c10)) w v10 v67 wr) := Lib.hid fun k _ _ _ h1 h2 h3 h4 => ⟨k, h1, h2, h3, h4⟩
  clear hW HIn HBl k0 k1 k2 k4 k6 k7 k8 k9 k10 y0 y1 y2 y3 y4 y5 y6 y7 y8 y9 y10
  obtain ⟨tt, htt⟩ : ∃ tt, tt = contTo zs i m := ⟨_, rfl⟩
  rw [← htt] at hbd HF HTl HTs HCR ⊢
  have HTT := Lib.hid htt
  clear htt
  unfold maxLen at hcm
  have HO0 : Hid ((wc.alloc (.cells #[.string m.rest] 9)).ownsRow (w.heap.size + 1) 9 1 (.slice (some ⟨wc.heap.size, 0, none⟩) 1 1) 1 (strs (takeC zs i m 0))) := Lib.hid (World.ownsRow_lit wc #[.string m.rest] 1 hwz (by decide) rfl)
  have HW1 : Hid (∀ o, MkW w (m.cells (.slice A9 n9 c9) (.slice A10 n10 c10)) (wc.alloc o)) := Lib.hid fun o => HW.out.next ((Below.refl _ _).alloc (Nat.le_refl _) _)
  by_cases hci : c = i + 1
  · have htt : tt = i + 1 := by omega
    go_wp2_with fail
    go_loopw [10, 67] (fun v10 v67 wr => Co2Rel zs i m (m.cells (.slice A9 n9 c9) (.slice A10 n10 c10)) w v10 v67 wr) (fun _ v67 _ => tt - (intOf v67).toNat)
    case atStart => exact HCR.out 0 _ _ _ rfl (by omega) HO0.out (HW1.out _)
    case round =>
      obtain ⟨k, rfl, hk, hown, hWr⟩ := hrel
      rw [← HTT.out] at hk
      obtain rfl : k = 0 := by omega
      have HOW := Lib.hid hown
      have HWr := Lib.hid hWr
      clear hown hWr HO0 HW1 HCR HW k3 k5
      go_wp2_with fail
      go_ret2
      rw [HF.out]
      have hto : tt - (i + 1) = 0 := by omega
      rw [hto]
      rw [hto] at HF
      have hlen1 := HTl.out 0 (by omega)
      obtain ⟨A, cc, rfl, hc1, hc2⟩ := own_cap HOW.out
      rw [HF.out] at hok
      refine ⟨⟨A, cc, by rw [hlen1]; rfl, by rw [hlen1]; exact hc1, hc2, ⟨?_, Nat.le_trans hok.out.1 hlen, hok.out.2, (HLi.out.below HWr.out.2).cell⟩⟩, HWr.out.2⟩
      rw [hlen1]; exact Reads.of_own HOW.out
  · go_wp2_with fail
    go_loopw [10, 67] (fun v10 v67 wr => Co2Rel zs i m (m.cells (.slice A9 n9 c9) (.slice A10 n10 c10)) w v10 v67 wr) (fun _ v67 _ => tt - (intOf v67).toNat)
    case atStart => exact HCR.out 0 _ _ _ rfl (by omega) HO0.out (HW1.out _)
    case round =>
      clear HO0 HW1 HW
      obtain ⟨k, rfl, hk, hown, hWr⟩ := hrel
      rw [← HTT.out] at hk
      have HWr := Lib.hid hWr
      have hrz := hWr.2.size
      have hlz := hWr.1.lt
      by_cases hlt : i + 1 + k < tt
      · have hc0 : wr.cell? ⟨b, off + (i + 1) + k, none⟩ = some (.string (ln zs (i + 1 + k))) := (hWr.2.cell (p := ⟨b, off + (i + 1) + k, none⟩) hb).trans (by rw [Nat.add_assoc off]; exact HCell.out (i + 1 + k) (by omega))
        obtain ⟨p0, p1, p2, p3, p4, p5, p6, p7, p8, p9, p10, x0, x1, x2, x3, x4, x5, x6, x7, x8, x9, x10⟩ := mk_facts hWr.1
        have HS1 := Lib.hid fun W => HSt.out (i + 1 + k) W
        have HE := Lib.hid (HTs.out k hlt)
        clear hWr HSt p0 p1 p2 p4 p5 p6 p7 p8 p9 p10 x0 x1 x2 x3 x4 x5 x6 x7 x8 x9 x10
        generalize stripB (ln zs (i + 1 + k)) m.off = y at *
        generalize ln zs (i + 1 + k) = z at *
        go_wp2_with fail
        ((with_reducible refine (HS1.out _).mono ?_))
        rintro e w1 ⟨rfl, rfl⟩
        go_wp2_with (at_builtin; refine wpList_append_own _ rfl _ _ 22 rfl (w.heap.size + 1) 9 i0 _ 1 16 Tryz.underlying22 hi0 hz0 hz1 hz2 rfl (by decide) _ _ _ rfl (hown.alloc _) ⟨wr.heap.size, 0, none⟩ 1 1 [.string y] rfl rfl ?c1 ?c2 ?c3 ?c4 ?c5 ?_)
        case c1 =>
          intro j u hj
          match j, hj with
          | 0, hj => simp at hj; subst hj; simp [Addr.add]
        case c2 => intro u hu; simp at hu; subst hu; rfl
        case c3 => unfold maxLen; omega
        case c4 => omega
        case c5 => simp; omega
        intro v' w2 hown3 hgrow _
        have hnx : Below wr.heap.size wr w2 ∨ True := .inr trivial
        have HW2 : Hid (MkW w (m.cells (.slice A9 n9 c9) (.slice A10 n10 c10)) w2) := Lib.hid ⟨(Blk.alloc HWr.out.1 _).grown hgrow (fun e => by have := (hown.lt _ e.symm).1; omega), (HWr.out.2.alloc hrz _).grown hgrow (by simp; omega) (fun k hk => by have := (hown.lt k hk).1; omega)⟩
        clear hown hgrow hnx
        go_wp2_with fail
        go_roundw
        case rel => exact HCR.out (k + 1) _ _ _ (by go_num) (by omega) (by rw [HE.out]; exact hown3) HW2.out
        case measure => simp [intOf]; omega
      · obtain rfl : tt = i + 1 + k := by omega
        have HOW := Lib.hid hown
        clear hown hWr HCR k3 k5 HTs
        go_wp2_with fail
        go_ret2
        rw [HF.out]
        have hto : i + 1 + k - (i + 1) = k := by omega
        rw [hto]
        rw [hto] at HF
        have hlen1 := HTl.out k (by omega)
        obtain ⟨A, cc, rfl, hc1, hc2⟩ := own_cap HOW.out
        rw [HF.out] at hok
        refine ⟨⟨A, cc, by rw [hlen1]; rfl, by rw [hlen1]; exact hc1, hc2, ⟨?_, Nat.le_trans hok.out.1 hlen, hok.out.2, (HLi.out.below HWr.out.2).cell⟩⟩, HWr.out.2⟩
        rw [hlen1]; exact Reads.of_own HOW.out

end Go.Proofs.YtpoafhgbhnblmaaGreatDoor
namespace Go.Proofs.YtpoafhgbhnblmaaGreatDoor
open Go.RowKit Go.Pub
theorem block_info : (Tryz.prog.info? 46).map (fun i => (i.zero, i.size, i.bytes)) = some (some (.agg #[.int .i64 0, .int .i64 0, .string ⟨#[]⟩, .string ⟨#[]⟩, .string ⟨#[]⟩, .string ⟨#[]⟩, .string ⟨#[]⟩, .slice none 0 0, .slice none 0 0, .slice none 0 0, .slice none 0 0]), 11, 192) := by kernel_rfl
theorem range_info : (Tryz.prog.info? 34).map (fun i => (i.zero, i.size, i.bytes)) = some (some (.agg #[.int .i64 0, .int .i64 0]), 2, 16) := by kernel_rfl
/-- What a caller of blockAt may lean on. -/
def AtP (n d : Nat) (zs : List ByteArray) (A : Option Addr) (c : Nat) (MM : Int) : Prop :=
  ∀ (i B : Nat) (W : World) (A9 : Option Addr) (c9 : Nat) (A10 : Option Addr) (c10 : Nat), i < zs.length → blankB (ln zs i) = false → B ≤ W.heap.size → LinesAt W A zs MM → AttR W (Rg B W) (markM (ln zs i)).att A9 A10 →
    Calls Tryz.prog 39 #[.slice A zs.length c, .int .i64 i, .agg ((markM (ln zs i)).cells (.slice A9 (markM (ln zs i)).att.cl.length c9) (.slice A10 (markM (ln zs i)).att.pr.length c10)), .int .i64 d] W (BkPost B (atN n zs i (markM (ln zs i))) W)
/-- The loop's state. -/
def BlRel (n : Nat) (zs : List ByteArray) (w : World) (v7 v8 v9 : Value) (wr : World) : Prop :=
  ∃ (i : Nat) (bs : List BkT) (rs : List (Nat × Nat)), v9 = .int .i64 i ∧ i ≤ zs.length ∧ Hid (KOwn wr w.heap.size (fun g => v8.ownBlock = some g) v7 bs) ∧ wr.ownsRow w.heap.size 34 2 v8 rs.length (rngs rs) ∧ bs.length ≤ i ∧ rs.length ≤ i ∧ Below w.heap.size w wr ∧
    Hid (blocksN n zs = (restT (atN n zs) zs i).map fun p => (bs ++ p.1, rs ++ p.2))
theorem KOwn.own {w : World} {base : Nat} {E : Nat → Prop} {v : Value} {bs : List BkT} (h : KOwn w base E v bs) : ∃ A c, v = .slice A bs.length c := by
  obtain ⟨S, vs, hS, hk, ho⟩ := h
  exact own_slice ho
theorem blocks_step (n : Nat) (zs : List ByteArray) (i : Nat) (h : i < zs.length) (hb : blankB (ln zs i) = false) : restT (atN n zs) zs i =
    match atN n zs i (markM (ln zs i)) with
    | none => none
    | some (b, tq) => (restT (atN n zs) zs tq).map fun r => (b :: r.1, (i, tq) :: r.2) :=
  restT_step _ _ (fun i r h e => (atN_bd n zs i r h e).1) i h hb
theorem rngs_snoc (rs : List (Nat × Nat)) (i t : Nat) : rngs rs ++ [.int .i64 (i : Nat), .int .i64 (t : Nat)] = rngs (rs ++ [(i, t)]) := by
  unfold rngs; rw [List.flatMap_append]; rfl
set_option maxRecDepth 100000 in
set_option maxHeartbeats 4000000 in
theorem n_blocks (n d : Nat) (hnd : n + d = 16) (zs : List ByteArray) (A : Option Addr) (c : Nat) (MM : Int) (w : World) (hL : LinesAt w A zs MM) (HA : n ≠ 0 → AtP n d zs A c MM) :
    Calls Tryz.prog 30 #[.slice A zs.length c, .int .i64 d] w (BksPost (blocksN n zs) w) := by
  obtain ⟨i0, hi0, hz0, hz1, hz2⟩ := info_parts block_info
  obtain ⟨j0, hj0, hy0, hy1, hy2⟩ := info_parts range_info
  have HL := Lib.hid hL
  have HAt := Lib.hid HA
  have hlen := hL.len
  have hwp := hL.pos
  have HM : Hid (∀ i W, Calls Tryz.prog 38 #[.string (ln zs i)] W fun e w' => ∃ A c D d, e = .returned (.agg ((markM (ln zs i)).cells (.slice A (markM (ln zs i)).att.cl.length c) (.slice D (markM (ln zs i)).att.pr.length d))) ∧ AttR w' (Rg W.heap.size w') (markM (ln zs i)).att A D ∧ Below W.heap.size W w') := Lib.hid fun i W => (m_of (ln zs i) W (Nat.le_trans (ln_size hL.sz i) (by decide))).mono fun e w' h => by
    obtain ⟨⟨_, rfl, C, P, rfl, o⟩, b⟩ := h
    obtain ⟨A1, c1, A2, c2, rfl, rfl, h⟩ := AttR.of_own o
    exact ⟨A1, c1, A2, c2, rfl, h, b⟩
  have HR0 : Hid (blocksN n zs = (restT (atN n zs) zs 0).map fun p => ([] ++ p.1, [] ++ p.2)) := Lib.hid (by
    rw [blocksN_rest]; cases restT (atN n zs) zs 0 <;> rfl)
  have HK := Lib.hid fun i => mark_kinds (ln zs i)
  have hd15 : decide (15 < (d : Int)) = decide (n = 0) := decide_eq_decide.2 (by omega)
  clear hL HA
  go_enter Tryz.func30, Tryz.ntmps30
  go_wp2_with fail
  go_loopw [7, 8, 9] (fun v7 v8 v9 wr => BlRel n zs w v7 v8 v9 wr) (fun _ _ v9 _ => zs.length - (intOf v9).toNat)
  case atStart => exact ⟨0, [], [], rfl, Nat.zero_le _, Lib.hid (KOwn.nil _ _ _), World.ownsRow_nil _ _ _ _, Nat.le_refl _, Nat.le_refl _, Below.refl _ _, HR0⟩
  case round =>
    obtain ⟨i, bs, rs, rfl, hi, HKO, hrng, hbi, hri, hbw, HR⟩ := hrel
    have hzr := hbw.size
    have HLr := Lib.hid (HL.out.below hbw)
    obtain ⟨A7, c7, rfl⟩ := HKO.out.own
    obtain ⟨A8, c8, rfl⟩ := own_slice hrng
    by_cases hlt : i < zs.length
    · obtain ⟨b, off, rfl, hb, hcell⟩ := HLr.out.get (by omega)
      have hc0 := hcell i hlt
      have hKi := HK.out i
      clear hcell
      go_wp2_with fail
      ((with_reducible refine (HM.out _ _).mono ?_))
      rintro e w1 ⟨A1, c1, A2, c2, rfl, hat, b1⟩
      have hz1' := b1.size
      cases hbl : blankB (ln zs i) with
      | true =>
        have hk1 : (markM (ln zs i)).kind = 1 := hKi.1 hbl
        have HRn : Hid (blocksN n zs = (restT (atN n zs) zs (i + 1)).map fun p => (bs ++ p.1, rs ++ p.2)) := Lib.hid (by rw [HR.out, restT_blank _ _ _ hlt hbl])
        have kk : (((markM (ln zs i)).kind : Nat) : Int) = 1 := by omega
        unfold MkL.cells
        rw [kk]
        go_wp2_with fail
        go_roundw
        case rel =>
          have hbb := fun o => b1.alloc b1.size o
          exact ⟨i + 1, bs, rs, by go_num, by omega, Lib.hid (HKO.out.below (hbb _)), own_below hrng (hbb _), by omega, by omega, hbw.trans ((hbb _).mono hzr), HRn⟩
        case measure => simp [intOf]; omega
      | false =>
        have hk := hKi.2 hbl
        have hst := Lib.hid (blocks_step n zs i hlt hbl)
        have hk1 : ((((markM (ln zs i)).kind : Nat) : Int) == 1) = false := by rw [beq_eq_false_iff_ne]; omega
        have HAi : Hid (n ≠ 0 → ∀ (W : World) (A9 : Option Addr) (c9 : Nat) (A10 : Option Addr) (c10 : Nat), wr.heap.size ≤ W.heap.size → LinesAt W (some ⟨b, off, none⟩) zs MM → AttR W (Rg wr.heap.size W) (markM (ln zs i)).att A9 A10 →
          Calls Tryz.prog 39 #[.slice (some ⟨b, off, none⟩) zs.length c, .int .i64 i, .agg ((markM (ln zs i)).cells (.slice A9 (markM (ln zs i)).att.cl.length c9) (.slice A10 (markM (ln zs i)).att.pr.length c10)), .int .i64 d] W (BkPost wr.heap.size (atN n zs i (markM (ln zs i))) W)) := Lib.hid fun h0 W A9 c9 A10 c10 h1 h2 h3 => HAt.out h0 i wr.heap.size W A9 c9 A10 c10 hlt hbl h1 h2 h3
        have hto : Hid (∀ r, atN n zs i (markM (ln zs i)) = some r → i < r.2 ∧ r.2 ≤ zs.length) := Lib.hid fun r e => atN_bd n zs i r hlt e
        have hn0 : Hid (n = 0 → atN n zs i (markM (ln zs i)) = none) := Lib.hid fun e => by subst e; rfl
        generalize atN n zs i (markM (ln zs i)) = R at *
        clear hKi HM hk HK HAt
        generalize markM (ln zs i) = m at *
        unfold MkL.cells at HAi ⊢
        by_cases hn : n = 0
        · have hRn := hn0.out hn
          have HE : Hid (blocksN n zs = none) := Lib.hid (by rw [HR.out, hst.out, hRn]; rfl)
          rw [decide_eq_true hn] at hd15
          clear HAi
          go_wp2_with fail
          go_ret3
          exact ⟨hbw.trans ((b1.alloc b1.size _).mono hzr), by rw [HE.out]; rfl⟩
        · rw [decide_eq_false hn] at hd15
          go_wp2_with fail
          ((with_reducible refine (HAi.out hn _ A1 c1 A2 c2 (by simp; omega) (HLr.out.below (b1.alloc b1.size _)) (hat.below ((Below.refl _ _).alloc (Nat.le_refl _) _))).mono ?_))
          rintro e w2 ⟨b2, hp⟩
          have hz2' := b2.size
          have b12 : Below wr.heap.size wr w2 := (b1.alloc b1.size _).trans (b2.mono (by simp; omega))
          clear b2 b1 hat hn0
          cases R with
          | none =>
            obtain ⟨v, u, ⟨i0, i1, s2, s3, s4, s5, s6, A7, n7, c7, A8, n8, c8, A9, n9, c9, A10, n10, c10, rfl⟩, rfl⟩ := hp
            have HE : Hid (blocksN n zs = none) := Lib.hid (by rw [HR.out, hst.out]; rfl)
            clear HAi HR hst
            go_wp2_with fail
            go_ret3
            exact ⟨hbw.trans ((b12.alloc b12.size _).mono hzr), by rw [HE.out]; rfl⟩
          | some r =>
            obtain ⟨bk, tq⟩ := r
            obtain ⟨v, rfl, hrep⟩ := hp
            have hab := hrep.form
            obtain ⟨f0, f1, f2, f3, f4, f5, f6, A9, n9, c9, A10, n10, c10, A11, n11, c11, A12, n12, c12, rfl⟩ := hrep.form
            have hto' := hto.out _ rfl
            simp only [] at hto'
            obtain ⟨S, vs, hS, hkk, hown⟩ := HKO.out
            have hown2 := own_below hown b12
            have hrng2 := own_below hrng b12
            have hsz12 := b12.size
            have hv7 := hown.lt
            have hv8 := hrng.lt
            have HREP := Lib.hid hrep
            have HKK := Lib.hid hkk
            have HSS := Lib.hid hS
            have hne78 := own_ne hown2 hrng2 (by decide)
            have HNX : Hid (blocksN n zs = (restT (atN n zs) zs tq).map fun p => ((bs ++ [bk]) ++ p.1, (rs ++ [(i, tq)]) ++ p.2)) := Lib.hid (by
              rw [HR.out, hst.out]
              simp only []
              cases restT (atN n zs) zs tq with
              | none => rfl
              | some q => simp)
            clear HAi HR hst hrep hkk hS hown hrng hto HKO
            go_wp2_with (at_builtin; refine wpList_append_lies _ rfl _ _ 25 rfl w.heap.size 46 i0 _ 11 192 Tryz.underlying25 hi0 hz0 hz1 hz2 rfl (by decide) _ _ _ rfl ((hown2.alloc _).alloc _) ⟨w2.heap.size + 1, 0, none⟩ 1 1 _ rfl hab.len ?c1 hab.one (by decide) ?c3 ?c4 ?c5 (w2.heap.size + 2) ?c6 ?_)
            case c3 => unfold maxLen; omega
            case c4 => omega
            case c5 => simp; omega
            case c6 => simp
            intro g7 cap7 w3 hown3 hgrow hlies hlt3
            have hrng3 := ((hrng2.alloc (.cells #[.int .i64 f0, .int .i64 f1, .string f2, .string f3, .string f4, .string f5, .string f6, .slice A9 n9 c9, .slice A10 n10 c10, .slice A11 n11 c11, .slice A12 n12 c12] 46)).alloc (.cells #[.int .i64 f0, .int .i64 f1, .string f2, .string f3, .string f4, .string f5, .string f6, .slice A9 n9 c9, .slice A10 n10 c10, .slice A11 n11 c11, .slice A12 n12 c12] 46)).kept hgrow (own_ne hrng2 hown2 (by decide))
            have HKO3 := Lib.hid (KOwn.push HSS.out HKK.out (b12.alloc b12.size (.cells #[.int .i64 f0, .int .i64 f1, .string f2, .string f3, .string f4, .string f5, .string f6, .slice A9 n9 c9, .slice A10 n10 c10, .slice A11 n11 c11, .slice A12 n12 c12] 46)) (fun k h => (hv7 k h).2) (fun k h => (hv8 k h).2) hzr (by simp; omega) (HREP.out.low ((Below.refl _ _).alloc (Nat.le_refl _) _)) hown3 hgrow hlies (by simp))
            have hbw3 : Below w.heap.size w w3 := (((hbw.trans (b12.mono hzr)).alloc (by omega) (.cells #[.int .i64 f0, .int .i64 f1, .string f2, .string f3, .string f4, .string f5, .string f6, .slice A9 n9 c9, .slice A10 n10 c10, .slice A11 n11 c11, .slice A12 n12 c12] 46)).alloc (by simp; omega) (.cells #[.int .i64 f0, .int .i64 f1, .string f2, .string f3, .string f4, .string f5, .string f6, .slice A9 n9 c9, .slice A10 n10 c10, .slice A11 n11 c11, .slice A12 n12 c12] 46)).grown hgrow (by simp; omega) (fun k hk => (hv7 k hk).1)
            have hz3 := hbw3.size
            have hne3 := own_ne hown3 hrng3 (by decide)
            clear hown2 hrng2 hgrow hlies HSS HKK HREP hv7 hv8 b12 hown3 hab hne78 hz2' hsz12
            go_wp2_with (at_builtin; refine wpList_append_lies _ rfl _ _ 30 rfl w.heap.size 34 j0 _ 2 16 Tryz.underlying30 hj0 hy0 hy1 hy2 rfl (by decide) _ _ _ rfl (hrng3.alloc _) ⟨w3.heap.size, 0, none⟩ 1 1 [.int .i64 i, .int .i64 tq] rfl rfl ?d1 ?d2 (by decide) ?d3 ?d4 ?d5 (w3.heap.size + 1) ?d6 ?_)
            case d1 => exact World.news_of_block (t := 34) (fr := (0, 0)) (cs := #[.int .i64 i, .int .i64 tq]) (heap_alloc_new w3 _)
            case d2 => intro u hu; simp at hu; rcases hu with rfl | rfl <;> rfl
            case d3 => unfold maxLen; omega
            case d4 => omega
            case d5 => simp; omega
            case d6 => simp
            intro g8 cap8 w4 hown4 hgrow4 hlies4 hlt4
            have HKO4 := Lib.hid ((HKO3.out.below ((Below.refl _ _).alloc (Nat.le_refl _) (.cells #[.int .i64 i, .int .i64 tq] 34))).kept hgrow4 hne3 hlies4 (by simp))
            have hbw4 : Below w.heap.size w w4 := (hbw3.alloc hz3 (.cells #[.int .i64 i, .int .i64 tq] 34)).grown hgrow4 (by simp; omega) (fun k hk => (hrng3.lt k hk).1)
            clear hgrow4 hlies4 hrng3 HKO3 hne3
            go_wp2_with fail
            go_roundw
            case rel =>
              refine ⟨tq, bs ++ [bk], rs ++ [(i, tq)], rfl, hto'.2, ?_, ?_, by simp; omega, by simp; omega, hbw4, HNX⟩
              · have h := HKO4.out
                exact Lib.hid h
              · rw [List.length_append, ← rngs_snoc]; exact hown4
            case measure => simp [intOf]; omega
    · have HE : Hid (blocksN n zs = some (bs, rs)) := Lib.hid (by rw [HR.out, restT_end _ _ _ (by omega)]; simp)
      go_wp2_with fail
      go_ret3
      refine ⟨hbw, ?_⟩
      rw [HE.out]
      exact ⟨_, _, _, rfl, HKO.out.kids, ReadsS.of_own hrng⟩

end Go.Proofs.YtpoafhgbhnblmaaGreatDoor
