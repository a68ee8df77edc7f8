/-
  Texts of the proof, put together (what this law reaches): NsB, NsR, NsC, NsP, MkU.
-/
import Derived.Test.YtpoafhgbhnblmaaGreatDoorD14
import Derived.Test.YtpoafhgbhnblmaaGreatDoorD07
import Derived.Test.YtpoafhgbhnblmaaGreatDoorD09
import Derived.Deep.AppendLies
import Derived.Test.YtpoafhgbhnblmaaGreatDoorD13
import Derived.Deep.CutRange
import Derived.Deep.DeepCutAuto
import Derived.Test.YtpoafhgbhnblmaaGreatDoorD03
import Derived.Test.YtpoafhgbhnblmaaGreatDoorD12
import Derived.Test.YtpoafhgbhnblmaaGreatDoorD11
set_option linter.unusedVariables false
set_option linter.unusedSimpArgs false
namespace Go.Pub
open Go.RowKit
/-- As Reads, the memory's block being one of S. -/
def ReadsS (w : World) (S : Nat → Prop) (size : Nat) (A : Option Addr) (n : Nat) (xs : List Value) : Prop :=
  (xs.length = n * size ∧ n ≤ maxLen) ∧ (0 < n → ∃ ad, A = some ad ∧ S ad.block ∧ ∀ j u, xs[j]? = some u → w.cell? (ad.add j) = some u)
section
variable {w w' : World} {S S' : Nat → Prop} {size n B : Nat} {A : Option Addr} {xs : List Value}
theorem ReadsS.none_ : ReadsS w S size A 0 [] := ⟨⟨by simp, Nat.zero_le _⟩, fun h => absurd h (by omega)⟩
theorem ReadsS.keep (h : ReadsS w S size A n xs) (hk : ∀ g, S g → w'.heap[g]? = w.heap[g]?) (hS : ∀ g, S g → S' g) : ReadsS w' S' size A n xs :=
  ⟨h.1, fun hn => by
    obtain ⟨ad, e, hb, hc⟩ := h.2 hn
    exact ⟨ad, e, hS _ hb, fun j u hu => (World.cell?_of_block (hk _ (by rw [block_of_add]; exact hb))).trans (hc j u hu)⟩⟩
theorem ReadsS.row (h : ReadsS w S size A n xs) (hn : 0 < n) (hs : 0 < size) : ∃ b off, A = some ⟨b, off, none⟩ ∧ S b ∧ ∀ j u, xs[j]? = some u → w.cell? ⟨b, off + j, none⟩ = some u := by
  obtain ⟨ad, e, hb, hc⟩ := h.2 hn
  obtain ⟨b, off, sp⟩ := ad
  have hl : 0 < xs.length := by rw [h.1.1]; exact Nat.mul_pos hn hs
  have h0 := hc 0 _ (List.getElem?_eq_getElem hl)
  obtain rfl : sp = none := by simpa [Addr.add] using World.cell?_spot h0
  refine ⟨b, off, e, hb, fun j u hu => ?_⟩
  have := hc j u hu
  unfold Addr.add at this
  by_cases hj : j = 0
  · subst hj; simpa using this
  · simpa [hj] using this
theorem ReadsS.block {g : Nat} {t : TypeId} {cs : Array Value} (h : w.heap[g]? = some (.cells cs t (0, 0))) (hS : S g) (hl : cs.size = n * size) (hn : n ≤ maxLen) : ReadsS w S size (some ⟨g, 0, none⟩) n cs.toList := by
  refine ⟨⟨by rw [Array.length_toList]; exact hl, hn⟩, fun _ => ⟨_, rfl, hS, fun j u hj => ?_⟩⟩
  have := cell_of_row w g j _ t (0, 0) h
  unfold Addr.add
  by_cases h0 : j = 0
  · subst h0; rw [if_pos rfl, this]; simpa using hj
  · rw [if_neg h0]
    show w.cell? ⟨g, 0 + j, none⟩ = _
    rw [Nat.zero_add, this]; simpa using hj
theorem ReadsS.of_own {base c : Nat} {e : TypeId} (h : w.ownsRow base e size (.slice A n c) n xs) : ReadsS w (fun g => base ≤ g ∧ g < w.heap.size) size A n xs := by
  refine ⟨⟨h.1, ?_⟩, fun hn => ?_⟩
  · rcases h.2 with ⟨_, h0⟩ | ⟨g, cap, cur, _, _, _, h1, h2, _⟩
    · omega
    · exact Nat.le_trans h1 h2
  obtain ⟨g, cap, hv, hg1, hlt⟩ := h.form hn
  have hA : A = some ⟨g, 0, none⟩ := by injection hv
  subst hA
  exact ⟨_, rfl, ⟨hg1, hlt⟩, h.cells (g := g) rfl⟩
end
/-- The cells of a Text. -/
def textC (s : ByteArray) : List Value := [.int .i64 1, .string s, .string ⟨#[]⟩, .string ⟨#[]⟩, .string ⟨#[]⟩, .slice none 0 0, .slice none 0 0, .slice none 0 0, .slice none 0 0, .slice none 0 0]
/-- The inlines that stand for a source text. -/
def SrcV (w : World) (S : Nat → Prop) (v : Value) (s : ByteArray) : Prop := if s.size = 0 then v = .slice none 0 0 else ∃ A c, v = .slice A 1 c ∧ ReadsS w S 10 A 1 (textC s)
theorem SrcV.keep {w w' : World} {S S' : Nat → Prop} {v : Value} {s : ByteArray} (h : SrcV w S v s) (hk : ∀ g, S g → w'.heap[g]? = w.heap[g]?) (hS : ∀ g, S g → S' g) : SrcV w' S' v s := by
  unfold SrcV at h ⊢
  by_cases hz : s.size = 0
  · rw [if_pos hz] at h ⊢; exact h
  · rw [if_neg hz] at h ⊢
    obtain ⟨A, c, e, hr⟩ := h
    exact ⟨A, c, e, hr.keep hk hS⟩
end Go.Pub
namespace Go.Proofs.YtpoafhgbhnblmaaGreatDoor
open Go.RowKit Go.Pub
/-- What lies in a block's cells behind its attributes and lists. -/
structure AttR (w : World) (S : Nat → Prop) (a : AttrL) (A1 A2 : Option Addr) : Prop where
  cls : ReadsS w S 1 A1 a.cl.length (strs a.cl)
  prs : ReadsS w S 2 A2 a.pr.length (prs a.pr)
  c32 : a.cl.length ≤ 32
  p32 : a.pr.length ≤ 32
theorem AttR.keep {w w' : World} {S S' : Nat → Prop} {a : AttrL} {A1 A2 : Option Addr} (h : AttR w S a A1 A2) (hk : ∀ g, S g → w'.heap[g]? = w.heap[g]?) (hS : ∀ g, S g → S' g) : AttR w' S' a A1 A2 :=
  ⟨h.cls.keep hk hS, h.prs.keep hk hS, h.c32, h.p32⟩
theorem AttR.empty (w : World) (S : Nat → Prop) (A1 A2 : Option Addr) : AttR w S emptyA A1 A2 := ⟨ReadsS.none_, ReadsS.none_, by decide, by decide⟩
mutual
/-- The cells of a block. -/
inductive RepB (w : World) (S : Nat → Prop) : Array Value → BkT → Prop
  | mk (kind level : Nat) (info text dest title : ByteArray) (att : AttrL) (line : ByteArray) (kids : List BkT) (A1 A2 A4 : Option Addr) (c1 c2 c4 : Nat) (vL : Value) (vs : List (Array Value)) :
      AttR w S att A1 A2 → SrcV w S vL line → RepK w S vs kids → ReadsS w S 11 A4 kids.length (vs.flatMap Array.toList) →
      RepB w S #[.int .i64 kind, .int .i64 level, .string info, .string text, .string dest, .string title, .string att.id, .slice A1 att.cl.length c1, .slice A2 att.pr.length c2, vL, .slice A4 kids.length c4] (.mk kind level info text dest title att line kids)
/-- The cells of blocks, one after another. -/
inductive RepK (w : World) (S : Nat → Prop) : List (Array Value) → List BkT → Prop
  | nil : RepK w S [] []
  | cons (v : Array Value) (b : BkT) (vs : List (Array Value)) (bs : List BkT) : RepB w S v b → RepK w S vs bs → RepK w S (v :: vs) (b :: bs)
end

mutual
theorem RepB.keep {w w' : World} {S S' : Nat → Prop} (hk : ∀ g, S g → w'.heap[g]? = w.heap[g]?) (hS : ∀ g, S g → S' g) : ∀ {v : Array Value} {b : BkT}, RepB w S v b → RepB w' S' v b
  | _, _, .mk kind level info text dest title att line kids A1 A2 A4 c1 c2 c4 vL vs ha hl hr hc =>
    .mk kind level info text dest title att line kids A1 A2 A4 c1 c2 c4 vL vs (ha.keep hk hS) (hl.keep hk hS) (RepK.keep hk hS hr) (hc.keep hk hS)
theorem RepK.keep {w w' : World} {S S' : Nat → Prop} (hk : ∀ g, S g → w'.heap[g]? = w.heap[g]?) (hS : ∀ g, S g → S' g) : ∀ {vs : List (Array Value)} {bs : List BkT}, RepK w S vs bs → RepK w' S' vs bs
  | _, _, .nil => .nil
  | _, _, .cons v b vs bs h1 h2 => .cons v b vs bs (RepB.keep hk hS h1) (RepK.keep hk hS h2)
end
theorem RepK.len {w : World} {S : Nat → Prop} {vs : List (Array Value)} {bs : List BkT} (h : RepK w S vs bs) : vs.length = bs.length := by
  induction bs generalizing vs with
  | nil => cases h; rfl
  | cons b bs ih =>
    cases h with
    | cons v b vs bs h1 h2 => rw [List.length_cons, List.length_cons, ih h2]
theorem RepK.snoc {w : World} {S : Nat → Prop} {vs : List (Array Value)} {bs : List BkT} {v : Array Value} {b : BkT} (h : RepK w S vs bs) (hb : RepB w S v b) : RepK w S (vs ++ [v]) (bs ++ [b]) := by
  induction bs generalizing vs with
  | nil => cases h; exact .cons _ _ _ _ hb .nil
  | cons b' bs ih =>
    cases h with
    | cons v' b' vs bs h1 h2 => exact .cons _ _ _ _ h1 (ih h2)
theorem RepB.size {w : World} {S : Nat → Prop} {v : Array Value} {b : BkT} (h : RepB w S v b) : v.size = 11 := by
  cases h; rfl
theorem RepK.at_ {w : World} {S : Nat → Prop} : ∀ {vs : List (Array Value)} {bs : List BkT}, RepK w S vs bs → ∀ (k : Nat) (hk : k < bs.length), ∃ (v : Array Value), RepB w S v bs[k] ∧ ∀ i, i < 11 → (vs.flatMap Array.toList)[k * 11 + i]? = v[i]?
  | _, _, .nil, k, hk => absurd hk (by simp)
  | _, _, .cons v b vs bs h1 h2, 0, hk => ⟨v, h1, fun i hi => by
      have hl : v.toList.length = 11 := by rw [Array.length_toList]; exact h1.size
      rw [List.flatMap_cons, List.getElem?_append_left (by omega), Nat.zero_mul, Nat.zero_add, Array.getElem?_toList]⟩
  | _, _, .cons v b vs bs h1 h2, k + 1, hk => by
    obtain ⟨u, hu, hc⟩ := RepK.at_ h2 k (by simpa using hk)
    refine ⟨u, hu, fun i hi => ?_⟩
    have hl : v.toList.length = 11 := by rw [Array.length_toList]; exact h1.size
    rw [List.flatMap_cons, List.getElem?_append_right (by omega), hl, show (k + 1) * 11 + i - 11 = k * 11 + i by omega]
    exact hc i hi
/-- A slice of blocks. -/
def KidsV (w : World) (S : Nat → Prop) (v : Value) (bs : List BkT) : Prop := ∃ A c vs, v = .slice A bs.length c ∧ RepK w S vs bs ∧ ReadsS w S 11 A bs.length (vs.flatMap Array.toList)
theorem KidsV.keep {w w' : World} {S S' : Nat → Prop} {v : Value} {bs : List BkT} (h : KidsV w S v bs) (hk : ∀ g, S g → w'.heap[g]? = w.heap[g]?) (hS : ∀ g, S g → S' g) : KidsV w' S' v bs := by
  obtain ⟨A, c, vs, e, h1, h2⟩ := h
  exact ⟨A, c, vs, e, RepK.keep hk hS h1, h2.keep hk hS⟩
theorem KidsV.none_ (w : World) (S : Nat → Prop) : KidsV w S (.slice none 0 0) [] := ⟨none, 0, [], rfl, .nil, ReadsS.none_⟩
/-- What is new since there were B blocks. -/
def Rg (B : Nat) (w' : World) (g : Nat) : Prop := B ≤ g ∧ g < w'.heap.size
def rngs (rs : List (Nat × Nat)) : List Value := rs.flatMap fun r => [.int .i64 r.1, .int .i64 r.2]
def bkErr : Value := .tuple #[.slice none 0 0, .slice none 0 0, .int .i64 11]
/-- A block's cells. -/
def AnyB (v : Array Value) : Prop := ∃ (i0 i1 : Int) (s2 s3 s4 s5 s6 : ByteArray) (A7 : Option Addr) (n7 c7 : Nat) (A8 : Option Addr) (n8 c8 : Nat) (A9 : Option Addr) (n9 c9 : Nat) (A10 : Option Addr) (n10 c10 : Nat),
    v = #[.int .i64 i0, .int .i64 i1, .string s2, .string s3, .string s4, .string s5, .string s6, .slice A7 n7 c7, .slice A8 n8 c8, .slice A9 n9 c9, .slice A10 n10 c10]
/-- The block that is returned and the line behind it. -/
def BkPost (B : Nat) (r : Option (BkT × Nat)) (w : World) (e : Ending) (w' : World) : Prop :=
  Below w.heap.size w w' ∧ match r with
  | none => ∃ (v : Array Value) (u : Int), AnyB v ∧ e = .returned (.tuple #[.agg v, .int .i64 u, .int .i64 11])
  | some p => ∃ v, e = .returned (.tuple #[.agg v, .int .i64 p.2, .int .i64 0]) ∧ RepB w' (Rg B w') v p.1
theorem RepB.form {w : World} {S : Nat → Prop} {v : Array Value} {b : BkT} (h : RepB w S v b) : AnyB v := by
  cases h with
  | mk kind level info text dest title att line kids A1 A2 A4 c1 c2 c4 vL vs ha hl hr hc =>
    unfold SrcV at hl
    by_cases hz : line.size = 0
    · rw [if_pos hz] at hl; subst hl
      exact ⟨_, _, _, _, _, _, _, _, _, _, _, _, _, _, _, _, _, _, _, rfl⟩
    · rw [if_neg hz] at hl
      obtain ⟨A, c, rfl, hl⟩ := hl
      exact ⟨_, _, _, _, _, _, _, _, _, _, _, _, _, _, _, _, _, _, _, rfl⟩
theorem AnyB.len {v : Array Value} (h : AnyB v) : v.toList.length = 1 * 11 := by
  obtain ⟨i0, i1, s2, s3, s4, s5, s6, A7, n7, c7, A8, n8, c8, A9, n9, c9, A10, n10, c10, rfl⟩ := h
  rfl
theorem AnyB.one {v : Array Value} (h : AnyB v) : ∀ u ∈ v.toList, u.oneCell' = true := by
  obtain ⟨i0, i1, s2, s3, s4, s5, s6, A7, n7, c7, A8, n8, c8, A9, n9, c9, A10, n10, c10, rfl⟩ := h
  intro u hu
  simp only [List.mem_cons, List.not_mem_nil, or_false] at hu
  rcases hu with rfl | rfl | rfl | rfl | rfl | rfl | rfl | rfl | rfl | rfl | rfl <;> rfl
/-- Blocks in a row that the call owns; none of what is read of them lies in the row or in E. -/
def KOwn (w : World) (base : Nat) (E : Nat → Prop) (v : Value) (bs : List BkT) : Prop :=
  ∃ (S : Nat → Prop) (vs : List (Array Value)), (∀ g, S g → base ≤ g ∧ g < w.heap.size ∧ v.ownBlock ≠ some g ∧ ¬ E g) ∧ RepK w S vs bs ∧ w.ownsRow base 46 11 v bs.length (vs.flatMap Array.toList)
section
variable {w w' : World} {base : Nat} {E E' : Nat → Prop} {v : Value} {bs : List BkT}
theorem KOwn.nil (w : World) (base : Nat) (E : Nat → Prop) : KOwn w base E (.slice none 0 0) [] := ⟨fun _ => False, [], fun _ h => h.elim, .nil, World.ownsRow_nil _ _ _ _⟩
theorem KOwn.below (h : KOwn w base E v bs) (hb : Below w.heap.size w w') : KOwn w' base E v bs := by
  obtain ⟨S, vs, hS, hk, ho⟩ := h
  exact ⟨S, vs, fun g hg => ⟨(hS g hg).1, Nat.lt_of_lt_of_le (hS g hg).2.1 hb.size, (hS g hg).2.2⟩, hk.keep (fun g hg => hb.block g (hS g hg).2.1) fun _ h => h, own_below ho hb⟩
/-- Another row grows. -/
theorem KOwn.kept {g2 H : Nat} {v2 : Value} (h : KOwn w base (fun g => v2.ownBlock = some g) v bs) (hg : w.grownBy w' v2.ownBlock) (hne : v.ownBlock = none ∨ v.ownBlock ≠ v2.ownBlock) (hlies : v2.ownBlock = some g2 ∨ g2 = H) (hH : w.heap.size ≤ H) : KOwn w' base (fun g => some g2 = some g) v bs := by
  obtain ⟨S, vs, hS, hk, ho⟩ := h
  refine ⟨S, vs, fun g hs => ⟨(hS g hs).1, Nat.lt_of_lt_of_le (hS g hs).2.1 hg.size, (hS g hs).2.2.1, fun e => ?_⟩, hk.keep (fun g hs => hg.block g (hS g hs).2.1 fun e => (hS g hs).2.2.2 e.symm) fun _ h => h, ho.kept hg hne⟩
  injection e with e
  rcases hlies with hl | hl
  · exact (hS g hs).2.2.2 (by rw [hl, e])
  · have := (hS g hs).2.1; omega
/-- A block more. -/
theorem KOwn.push {S : Nat → Prop} {vs : List (Array Value)} {W1 w2 : World} {vb : Array Value} {b : BkT} {g cap H B : Nat} {tmp : Obj} (hS : ∀ g, S g → base ≤ g ∧ g < w.heap.size ∧ v.ownBlock ≠ some g ∧ ¬ E g) (hk : RepK w S vs bs) (hbl : Below w.heap.size w W1)
    (hv : ∀ k, v.ownBlock = some k → k < B) (hE : ∀ k, E k → k < B) (hB : base ≤ B) (hBw : B ≤ W1.heap.size)
    (hb : RepB W1 (Rg B W1) vb b) (hown : w2.ownsRow base 46 11 (.slice (some ⟨g, 0, none⟩) (bs.length + 1) cap) (bs.length + 1) (vs.flatMap Array.toList ++ vb.toList))
    (hgrow : (W1.alloc tmp).grownBy w2 v.ownBlock) (hlies : v.ownBlock = some g ∨ g = H) (hH : W1.heap.size ≤ H) :
    KOwn w2 base E (.slice (some ⟨g, 0, none⟩) (bs.length + 1) cap) (bs ++ [b]) := by
  have hsz := hgrow.size
  have hkeep : ∀ k, k < W1.heap.size → v.ownBlock ≠ some k → w2.heap[k]? = W1.heap[k]? := fun k hk hne =>
    (hgrow.block k (by simp; omega) fun e => hne e.symm).trans (Below.heap_alloc W1 tmp k hk)
  refine ⟨fun x => S x ∨ Rg B W1 x, vs ++ [vb], ?_, ?_, ?_⟩
  · rintro x (hx | hx)
    · have h1 := hS x hx
      have h2 := hbl.size
      refine ⟨h1.1, by simp at hsz; omega, ?_, h1.2.2.2⟩
      intro e
      have : g = x := by simpa [Value.ownBlock] using e
      subst this
      rcases hlies with hl | hl
      · exact h1.2.2.1 hl
      · omega
    · obtain ⟨h1, h2⟩ := hx
      refine ⟨by omega, by simp at hsz; omega, ?_, fun e => by have := hE x e; omega⟩
      intro e
      have : g = x := by simpa [Value.ownBlock] using e
      subst this
      rcases hlies with hl | hl
      · have := hv _ hl; omega
      · omega
  · refine RepK.snoc (hk.keep (fun x hx => ?_) fun _ h => .inl h) (hb.keep (fun x hx => hkeep x hx.2 fun e => ?_) fun _ h => .inr h)
    · have h1 := hS x hx
      have h2 := hbl.size
      exact (hkeep x (by omega) h1.2.2.1).trans (hbl.block x h1.2.1)
    · have := hv _ e
      have := hx.1
      omega
  · rw [List.flatMap_append, List.length_append]
    simpa using hown
theorem KOwn.kids (h : KOwn w base E v bs) : KidsV w (Rg base w) v bs := by
  obtain ⟨S, vs, hS, hk, ho⟩ := h
  obtain ⟨A, c, rfl⟩ := own_slice ho
  exact ⟨A, c, vs, rfl, hk.keep (fun _ _ => rfl) fun g hg => ⟨(hS g hg).1, (hS g hg).2.1⟩, ReadsS.of_own ho⟩
end
theorem KidsV.get {w : World} {S : Nat → Prop} {v : Value} {bs : List BkT} (h : KidsV w S v bs) (hn : 0 < bs.length) : ∃ g off c, v = .slice (some ⟨g, off, none⟩) bs.length c ∧ S g ∧ ∀ k (hk : k < bs.length), ∃ vb, RepB w S vb bs[k] ∧ ∀ i, i < 11 → w.cell? ⟨g, off + (k * 11 + i), none⟩ = vb[i]? := by
  obtain ⟨A, c, vs, rfl, hk, hr⟩ := h
  obtain ⟨g, off, rfl, hg, hc⟩ := hr.row hn (by decide)
  refine ⟨g, off, c, rfl, hg, fun k hlt => ?_⟩
  obtain ⟨vb, h1, h2⟩ := hk.at_ k hlt
  refine ⟨vb, h1, fun i hi => ?_⟩
  have hs := h1.size
  rw [Array.getElem?_eq_getElem (by omega)]
  exact hc _ _ (by rw [h2 i hi, Array.getElem?_eq_getElem (by omega)])
theorem KidsV.below {w w' : World} {B : Nat} {v : Value} {bs : List BkT} (h : KidsV w (Rg B w) v bs) (hb : Below w.heap.size w w') : KidsV w' (Rg B w') v bs :=
  h.keep (fun g hg => hb.block g hg.2) fun g hg => ⟨hg.1, Nat.lt_of_lt_of_le hg.2 hb.size⟩
theorem RepB.low {w w' : World} {B : Nat} {v : Array Value} {b : BkT} (h : RepB w (Rg B w) v b) (hb : Below w.heap.size w w') : RepB w' (Rg B w') v b :=
  h.keep (fun g hg => hb.block g hg.2) fun g hg => ⟨hg.1, Nat.lt_of_lt_of_le hg.2 hb.size⟩
theorem AttR.of_own {w : World} {B : Nat} {a : AttrL} {vC vP : Value} (h : OwnA w B a vC vP) : ∃ A1 c1 A2 c2, vC = .slice A1 a.cl.length c1 ∧ vP = .slice A2 a.pr.length c2 ∧ AttR w (Rg B w) a A1 A2 := by
  obtain ⟨A1, c1, rfl⟩ := own_slice h.cls
  obtain ⟨A2, c2, rfl⟩ := own_slice h.prs
  exact ⟨A1, c1, A2, c2, rfl, rfl, ReadsS.of_own h.cls, ReadsS.of_own h.prs, h.c32, h.p32⟩
theorem AttR.below {w w' : World} {B : Nat} {a : AttrL} {A1 A2 : Option Addr} (h : AttR w (Rg B w) a A1 A2) (hb : Below w.heap.size w w') : AttR w' (Rg B w') a A1 A2 :=
  h.keep (fun g hg => hb.block g hg.2) fun g hg => ⟨hg.1, Nat.lt_of_lt_of_le hg.2 hb.size⟩
/-- Lines in memory. -/
structure LinesAt (w : World) (A : Option Addr) (zs : List ByteArray) (m : Int) : Prop where
  rd : Reads w w.heap.size 1 A zs.length (strs zs)
  len : zs.length ≤ 10000
  sz : ∀ z ∈ zs, z.size ≤ 100000
  cell : w.cell? ⟨0, 0, none⟩ = some (.int .i64 m)
theorem LinesAt.below {w w' : World} {A : Option Addr} {zs : List ByteArray} {m : Int} (h : LinesAt w A zs m) (hb : Below w.heap.size w w') : LinesAt w' A zs m :=
  ⟨(h.rd.below hb).more hb.size, h.len, h.sz, (hb.cell (p := ⟨0, 0, none⟩) (World.block_lt_of_cell? _ _ h.cell)).trans h.cell⟩
theorem LinesAt.pos {w : World} {A : Option Addr} {zs : List ByteArray} {m : Int} (h : LinesAt w A zs m) : 0 < w.heap.size := World.block_lt_of_cell? _ _ h.cell
/-- A line. -/
theorem LinesAt.get {w : World} {A : Option Addr} {zs : List ByteArray} {m : Int} (h : LinesAt w A zs m) (hn : 0 < zs.length) : ∃ b off, A = some ⟨b, off, none⟩ ∧ b < w.heap.size ∧ ∀ k, k < zs.length → w.cell? ⟨b, off + k, none⟩ = some (.string (ln zs k)) := by
  obtain ⟨b, off, e, hb, hc⟩ := reads_get h.rd hn
  exact ⟨b, off, e, hb, fun k hk => by rw [hc k hk, ln_at zs k hk]⟩
/-- Some of the lines. -/
theorem LinesAt.cut {w : World} {b off : Nat} {zs : List ByteArray} {m : Int} (h : LinesAt w (some ⟨b, off, none⟩) zs m) (i k : Nat) (hi : i ≤ k) (hk : k ≤ zs.length) : LinesAt w (some ⟨b, off + i, none⟩) (cutL zs i k) m := by
  have hl := cutL_len zs i k hi hk
  refine ⟨⟨by rw [strs_len]; omega, fun hn => ?_⟩, by have := h.len; omega, fun z hz => h.sz z (List.mem_of_mem_drop (List.mem_of_mem_take hz)), h.cell⟩
  obtain ⟨b', off', e, hb, hc⟩ := h.get (by omega)
  obtain ⟨rfl, rfl⟩ : b = b' ∧ off = off' := by injection e with e; injection e with e1 e2; exact ⟨e1, e2⟩
  refine ⟨_, rfl, hb, fun j u hu => ?_⟩
  have hj : j < (cutL zs i k).length := by rw [← strs_len]; exact (List.getElem?_eq_some_iff.1 hu).1
  rw [strs_at _ j hj] at hu
  cases hu
  rw [ln_at _ j hj, ln_cut zs i k j (by omega)]
  have := hc (i + j) (by omega)
  unfold Addr.add
  by_cases h0 : j = 0
  · subst h0; rw [if_pos rfl]; simpa using this
  · rw [if_neg h0]; rw [← Nat.add_assoc] at this; exact this
theorem LinesAt.cut' {w : World} {b off : Nat} {zs : List ByteArray} {m : Int} (h : LinesAt w (some ⟨b, off, none⟩) zs m) (i k : Nat) (hi : i ≤ k) (hk : k ≤ zs.length) (A' : Option Addr) (hA : A' = some ⟨b, off + i, none⟩ ∨ k = i) : LinesAt w A' (cutL zs i k) m := by
  rcases hA with rfl | rfl
  · exact h.cut i k hi hk
  · have e : cutL zs k k = [] := by unfold cutL; simp
    rw [e]
    exact ⟨Reads.none_, by decide, fun z hz => absurd hz (by simp), h.cell⟩
theorem ln_size {zs : List ByteArray} {n : Nat} (h : ∀ z ∈ zs, z.size ≤ n) (k : Nat) : (ln zs k).size ≤ n := by
  rcases Nat.lt_or_ge k zs.length with hk | hk
  · rw [← ln_at zs k hk]; exact h _ (List.getElem_mem hk)
  · unfold ln; rw [List.getD_eq_getElem?_getD, List.getElem?_eq_none hk]; exact Nat.zero_le _
end Go.Proofs.YtpoafhgbhnblmaaGreatDoor
namespace Go.Proofs.YtpoafhgbhnblmaaGreatDoor
open Go.RowKit Go.Pub
theorem quoteAt_ret {W : World} {g : Nat} {x0 x1 x2 x3 x4 x5 x6 x7 x8 x9 x10 : Value} {u7 : Value} {u8 : Value} {P : Ending → World → Prop} {act : Act} (hr : Blk W g 46 #[x0, x1, x2, x3, x4, x5, x6, x7, x8, x9, x10]) (h6 : act.tmps.getD 6 undef = .pointer (some ⟨g, 0, none⟩)) (h7 : act.tmps.getD 7 undef = u7) (h8 : act.tmps.getD 8 undef = u8) (hd : act.defers = []) (hP : P (.returned (.tuple #[.agg #[x0, x1, x2, x3, x4, x5, x6, x7, x8, x9, x10], u7, u8])) W) : bodyPost Tryz.prog Tryz.f70 P Exit.ret act W := by
  have c0 : W.cell? ⟨g, 0, none⟩ = some x0 := hr.cell 0
  have c1 : W.cell? ⟨g, 1, none⟩ = some x1 := hr.cell 1
  have c2 : W.cell? ⟨g, 2, none⟩ = some x2 := hr.cell 2
  have c3 : W.cell? ⟨g, 3, none⟩ = some x3 := hr.cell 3
  have c4 : W.cell? ⟨g, 4, none⟩ = some x4 := hr.cell 4
  have c5 : W.cell? ⟨g, 5, none⟩ = some x5 := hr.cell 5
  have c6 : W.cell? ⟨g, 6, none⟩ = some x6 := hr.cell 6
  have c7 : W.cell? ⟨g, 7, none⟩ = some x7 := hr.cell 7
  have c8 : W.cell? ⟨g, 8, none⟩ = some x8 := hr.cell 8
  have c9 : W.cell? ⟨g, 9, none⟩ = some x9 := hr.cell 9
  have c10 : W.cell? ⟨g, 10, none⟩ = some x10 := hr.cell 10
  refine bodyPost_ret (v := .tuple #[.agg #[x0, x1, x2, x3, x4, x5, x6, x7, x8, x9, x10], u7, u8]) ?_ hd hP
  rw [Array.getD_eq_getD_getElem?] at h6 h7 h8
  simp [results, Tryz.results70, go_sem, h6, h7, h8, c0, c1, c2, c3, c4, c5, c6, c7, c8, c9, c10]
theorem fenceAt_ret {W : World} {g : Nat} {x0 x1 x2 x3 x4 x5 x6 x7 x8 x9 x10 : Value} {u7 : Value} {u8 : Value} {P : Ending → World → Prop} {act : Act} (hr : Blk W g 46 #[x0, x1, x2, x3, x4, x5, x6, x7, x8, x9, x10]) (h6 : act.tmps.getD 6 undef = .pointer (some ⟨g, 0, none⟩)) (h7 : act.tmps.getD 7 undef = u7) (h8 : act.tmps.getD 8 undef = u8) (hd : act.defers = []) (hP : P (.returned (.tuple #[.agg #[x0, x1, x2, x3, x4, x5, x6, x7, x8, x9, x10], u7, u8])) W) : bodyPost Tryz.prog Tryz.f71 P Exit.ret act W := by
  have c0 : W.cell? ⟨g, 0, none⟩ = some x0 := hr.cell 0
  have c1 : W.cell? ⟨g, 1, none⟩ = some x1 := hr.cell 1
  have c2 : W.cell? ⟨g, 2, none⟩ = some x2 := hr.cell 2
  have c3 : W.cell? ⟨g, 3, none⟩ = some x3 := hr.cell 3
  have c4 : W.cell? ⟨g, 4, none⟩ = some x4 := hr.cell 4
  have c5 : W.cell? ⟨g, 5, none⟩ = some x5 := hr.cell 5
  have c6 : W.cell? ⟨g, 6, none⟩ = some x6 := hr.cell 6
  have c7 : W.cell? ⟨g, 7, none⟩ = some x7 := hr.cell 7
  have c8 : W.cell? ⟨g, 8, none⟩ = some x8 := hr.cell 8
  have c9 : W.cell? ⟨g, 9, none⟩ = some x9 := hr.cell 9
  have c10 : W.cell? ⟨g, 10, none⟩ = some x10 := hr.cell 10
  refine bodyPost_ret (v := .tuple #[.agg #[x0, x1, x2, x3, x4, x5, x6, x7, x8, x9, x10], u7, u8]) ?_ hd hP
  rw [Array.getD_eq_getD_getElem?] at h6 h7 h8
  simp [results, Tryz.results71, go_sem, h6, h7, h8, c0, c1, c2, c3, c4, c5, c6, c7, c8, c9, c10]
theorem divAt_ret {W : World} {g : Nat} {x0 x1 x2 x3 x4 x5 x6 x7 x8 x9 x10 : Value} {u9 : Value} {u10 : Value} {P : Ending → World → Prop} {act : Act} (hr : Blk W g 46 #[x0, x1, x2, x3, x4, x5, x6, x7, x8, x9, x10]) (h8 : act.tmps.getD 8 undef = .pointer (some ⟨g, 0, none⟩)) (h9 : act.tmps.getD 9 undef = u9) (h10 : act.tmps.getD 10 undef = u10) (hd : act.defers = []) (hP : P (.returned (.tuple #[.agg #[x0, x1, x2, x3, x4, x5, x6, x7, x8, x9, x10], u9, u10])) W) : bodyPost Tryz.prog Tryz.f74 P Exit.ret act W := by
  have c0 : W.cell? ⟨g, 0, none⟩ = some x0 := hr.cell 0
  have c1 : W.cell? ⟨g, 1, none⟩ = some x1 := hr.cell 1
  have c2 : W.cell? ⟨g, 2, none⟩ = some x2 := hr.cell 2
  have c3 : W.cell? ⟨g, 3, none⟩ = some x3 := hr.cell 3
  have c4 : W.cell? ⟨g, 4, none⟩ = some x4 := hr.cell 4
  have c5 : W.cell? ⟨g, 5, none⟩ = some x5 := hr.cell 5
  have c6 : W.cell? ⟨g, 6, none⟩ = some x6 := hr.cell 6
  have c7 : W.cell? ⟨g, 7, none⟩ = some x7 := hr.cell 7
  have c8 : W.cell? ⟨g, 8, none⟩ = some x8 := hr.cell 8
  have c9 : W.cell? ⟨g, 9, none⟩ = some x9 := hr.cell 9
  have c10 : W.cell? ⟨g, 10, none⟩ = some x10 := hr.cell 10
  refine bodyPost_ret (v := .tuple #[.agg #[x0, x1, x2, x3, x4, x5, x6, x7, x8, x9, x10], u9, u10]) ?_ hd hP
  rw [Array.getD_eq_getD_getElem?] at h8 h9 h10
  simp [results, Tryz.results74, go_sem, h8, h9, h10, c0, c1, c2, c3, c4, c5, c6, c7, c8, c9, c10]
theorem listAt_ret {W : World} {g : Nat} {x0 x1 x2 x3 x4 x5 x6 x7 x8 x9 x10 : Value} {u9 : Value} {u10 : Value} {P : Ending → World → Prop} {act : Act} (hr : Blk W g 46 #[x0, x1, x2, x3, x4, x5, x6, x7, x8, x9, x10]) (h8 : act.tmps.getD 8 undef = .pointer (some ⟨g, 0, none⟩)) (h9 : act.tmps.getD 9 undef = u9) (h10 : act.tmps.getD 10 undef = u10) (hd : act.defers = []) (hP : P (.returned (.tuple #[.agg #[x0, x1, x2, x3, x4, x5, x6, x7, x8, x9, x10], u9, u10])) W) : bodyPost Tryz.prog Tryz.f76 P Exit.ret act W := by
  have c0 : W.cell? ⟨g, 0, none⟩ = some x0 := hr.cell 0
  have c1 : W.cell? ⟨g, 1, none⟩ = some x1 := hr.cell 1
  have c2 : W.cell? ⟨g, 2, none⟩ = some x2 := hr.cell 2
  have c3 : W.cell? ⟨g, 3, none⟩ = some x3 := hr.cell 3
  have c4 : W.cell? ⟨g, 4, none⟩ = some x4 := hr.cell 4
  have c5 : W.cell? ⟨g, 5, none⟩ = some x5 := hr.cell 5
  have c6 : W.cell? ⟨g, 6, none⟩ = some x6 := hr.cell 6
  have c7 : W.cell? ⟨g, 7, none⟩ = some x7 := hr.cell 7
  have c8 : W.cell? ⟨g, 8, none⟩ = some x8 := hr.cell 8
  have c9 : W.cell? ⟨g, 9, none⟩ = some x9 := hr.cell 9
  have c10 : W.cell? ⟨g, 10, none⟩ = some x10 := hr.cell 10
  refine bodyPost_ret (v := .tuple #[.agg #[x0, x1, x2, x3, x4, x5, x6, x7, x8, x9, x10], u9, u10]) ?_ hd hP
  rw [Array.getD_eq_getD_getElem?] at h8 h9 h10
  simp [results, Tryz.results76, go_sem, h8, h9, h10, c0, c1, c2, c3, c4, c5, c6, c7, c8, c9, c10]
theorem tableAt_ret {W : World} {g : Nat} {x0 x1 x2 x3 x4 x5 x6 x7 x8 x9 x10 : Value} {u7 : Value} {u8 : Value} {P : Ending → World → Prop} {act : Act} (hr : Blk W g 46 #[x0, x1, x2, x3, x4, x5, x6, x7, x8, x9, x10]) (h6 : act.tmps.getD 6 undef = .pointer (some ⟨g, 0, none⟩)) (h7 : act.tmps.getD 7 undef = u7) (h8 : act.tmps.getD 8 undef = u8) (hd : act.defers = []) (hP : P (.returned (.tuple #[.agg #[x0, x1, x2, x3, x4, x5, x6, x7, x8, x9, x10], u7, u8])) W) : bodyPost Tryz.prog Tryz.f78 P Exit.ret act W := by
  have c0 : W.cell? ⟨g, 0, none⟩ = some x0 := hr.cell 0
  have c1 : W.cell? ⟨g, 1, none⟩ = some x1 := hr.cell 1
  have c2 : W.cell? ⟨g, 2, none⟩ = some x2 := hr.cell 2
  have c3 : W.cell? ⟨g, 3, none⟩ = some x3 := hr.cell 3
  have c4 : W.cell? ⟨g, 4, none⟩ = some x4 := hr.cell 4
  have c5 : W.cell? ⟨g, 5, none⟩ = some x5 := hr.cell 5
  have c6 : W.cell? ⟨g, 6, none⟩ = some x6 := hr.cell 6
  have c7 : W.cell? ⟨g, 7, none⟩ = some x7 := hr.cell 7
  have c8 : W.cell? ⟨g, 8, none⟩ = some x8 := hr.cell 8
  have c9 : W.cell? ⟨g, 9, none⟩ = some x9 := hr.cell 9
  have c10 : W.cell? ⟨g, 10, none⟩ = some x10 := hr.cell 10
  refine bodyPost_ret (v := .tuple #[.agg #[x0, x1, x2, x3, x4, x5, x6, x7, x8, x9, x10], u7, u8]) ?_ hd hP
  rw [Array.getD_eq_getD_getElem?] at h6 h7 h8
  simp [results, Tryz.results78, go_sem, h6, h7, h8, c0, c1, c2, c3, c4, c5, c6, c7, c8, c9, c10]
theorem blockAt_ret {W : World} {g : Nat} {x0 x1 x2 x3 x4 x5 x6 x7 x8 x9 x10 : Value} {u9 : Value} {u10 : Value} {P : Ending → World → Prop} {act : Act} (hr : Blk W g 46 #[x0, x1, x2, x3, x4, x5, x6, x7, x8, x9, x10]) (h8 : act.tmps.getD 8 undef = .pointer (some ⟨g, 0, none⟩)) (h9 : act.tmps.getD 9 undef = u9) (h10 : act.tmps.getD 10 undef = u10) (hd : act.defers = []) (hP : P (.returned (.tuple #[.agg #[x0, x1, x2, x3, x4, x5, x6, x7, x8, x9, x10], u9, u10])) W) : bodyPost Tryz.prog Tryz.f39 P Exit.ret act W := by
  have c0 : W.cell? ⟨g, 0, none⟩ = some x0 := hr.cell 0
  have c1 : W.cell? ⟨g, 1, none⟩ = some x1 := hr.cell 1
  have c2 : W.cell? ⟨g, 2, none⟩ = some x2 := hr.cell 2
  have c3 : W.cell? ⟨g, 3, none⟩ = some x3 := hr.cell 3
  have c4 : W.cell? ⟨g, 4, none⟩ = some x4 := hr.cell 4
  have c5 : W.cell? ⟨g, 5, none⟩ = some x5 := hr.cell 5
  have c6 : W.cell? ⟨g, 6, none⟩ = some x6 := hr.cell 6
  have c7 : W.cell? ⟨g, 7, none⟩ = some x7 := hr.cell 7
  have c8 : W.cell? ⟨g, 8, none⟩ = some x8 := hr.cell 8
  have c9 : W.cell? ⟨g, 9, none⟩ = some x9 := hr.cell 9
  have c10 : W.cell? ⟨g, 10, none⟩ = some x10 := hr.cell 10
  refine bodyPost_ret (v := .tuple #[.agg #[x0, x1, x2, x3, x4, x5, x6, x7, x8, x9, x10], u9, u10]) ?_ hd hP
  rw [Array.getD_eq_getD_getElem?] at h8 h9 h10
  simp [results, Tryz.results39, go_sem, h8, h9, h10, c0, c1, c2, c3, c4, c5, c6, c7, c8, c9, c10]
theorem paraAt_ret {W : World} {g : Nat} {x0 x1 x2 x3 x4 x5 x6 x7 x8 x9 x10 : Value} {u5 : Value} {P : Ending → World → Prop} {act : Act} (hr : Blk W g 46 #[x0, x1, x2, x3, x4, x5, x6, x7, x8, x9, x10]) (h4 : act.tmps.getD 4 undef = .pointer (some ⟨g, 0, none⟩)) (h5 : act.tmps.getD 5 undef = u5) (hd : act.defers = []) (hP : P (.returned (.tuple #[.agg #[x0, x1, x2, x3, x4, x5, x6, x7, x8, x9, x10], u5])) W) : bodyPost Tryz.prog Tryz.f79 P Exit.ret act W := by
  have c0 : W.cell? ⟨g, 0, none⟩ = some x0 := hr.cell 0
  have c1 : W.cell? ⟨g, 1, none⟩ = some x1 := hr.cell 1
  have c2 : W.cell? ⟨g, 2, none⟩ = some x2 := hr.cell 2
  have c3 : W.cell? ⟨g, 3, none⟩ = some x3 := hr.cell 3
  have c4 : W.cell? ⟨g, 4, none⟩ = some x4 := hr.cell 4
  have c5 : W.cell? ⟨g, 5, none⟩ = some x5 := hr.cell 5
  have c6 : W.cell? ⟨g, 6, none⟩ = some x6 := hr.cell 6
  have c7 : W.cell? ⟨g, 7, none⟩ = some x7 := hr.cell 7
  have c8 : W.cell? ⟨g, 8, none⟩ = some x8 := hr.cell 8
  have c9 : W.cell? ⟨g, 9, none⟩ = some x9 := hr.cell 9
  have c10 : W.cell? ⟨g, 10, none⟩ = some x10 := hr.cell 10
  refine bodyPost_ret (v := .tuple #[.agg #[x0, x1, x2, x3, x4, x5, x6, x7, x8, x9, x10], u5]) ?_ hd hP
  rw [Array.getD_eq_getD_getElem?] at h4 h5
  simp [results, Tryz.results79, go_sem, h4, h5, c0, c1, c2, c3, c4, c5, c6, c7, c8, c9, c10]
theorem rowOf_ret {W : World} {g : Nat} {x0 x1 x2 x3 x4 x5 x6 x7 x8 x9 x10 : Value} {P : Ending → World → Prop} {act : Act} (hr : Blk W g 46 #[x0, x1, x2, x3, x4, x5, x6, x7, x8, x9, x10]) (h4 : act.tmps.getD 4 undef = .pointer (some ⟨g, 0, none⟩)) (hd : act.defers = []) (hP : P (.returned (.agg #[x0, x1, x2, x3, x4, x5, x6, x7, x8, x9, x10])) W) : bodyPost Tryz.prog Tryz.f121 P Exit.ret act W := by
  have c0 : W.cell? ⟨g, 0, none⟩ = some x0 := hr.cell 0
  have c1 : W.cell? ⟨g, 1, none⟩ = some x1 := hr.cell 1
  have c2 : W.cell? ⟨g, 2, none⟩ = some x2 := hr.cell 2
  have c3 : W.cell? ⟨g, 3, none⟩ = some x3 := hr.cell 3
  have c4 : W.cell? ⟨g, 4, none⟩ = some x4 := hr.cell 4
  have c5 : W.cell? ⟨g, 5, none⟩ = some x5 := hr.cell 5
  have c6 : W.cell? ⟨g, 6, none⟩ = some x6 := hr.cell 6
  have c7 : W.cell? ⟨g, 7, none⟩ = some x7 := hr.cell 7
  have c8 : W.cell? ⟨g, 8, none⟩ = some x8 := hr.cell 8
  have c9 : W.cell? ⟨g, 9, none⟩ = some x9 := hr.cell 9
  have c10 : W.cell? ⟨g, 10, none⟩ = some x10 := hr.cell 10
  refine bodyPost_ret (v := .agg #[x0, x1, x2, x3, x4, x5, x6, x7, x8, x9, x10]) ?_ hd hP
  rw [Array.getD_eq_getD_getElem?] at h4
  simp [results, Tryz.results121, go_sem, h4, c0, c1, c2, c3, c4, c5, c6, c7, c8, c9, c10]
theorem closing_ret {W : World} {g : Nat} {x y z u : Value} {P : Ending → World → Prop} {act : Act} (hr : Blk W g 43 #[x, y, z]) (h6 : act.tmps.getD 6 undef = u) (h7 : act.tmps.getD 7 undef = .pointer (some ⟨g, 0, none⟩)) (hd : act.defers = []) (hP : P (.returned (.tuple #[u, .agg #[x, y, z]])) W) : bodyPost Tryz.prog Tryz.f72 P Exit.ret act W := by
  have c0 : W.cell? ⟨g, 0, none⟩ = some x := hr.cell 0
  have c1 : W.cell? ⟨g, 1, none⟩ = some y := hr.cell 1
  have c2 : W.cell? ⟨g, 2, none⟩ = some z := hr.cell 2
  refine bodyPost_ret (v := .tuple #[u, .agg #[x, y, z]]) ?_ hd hP
  rw [Array.getD_eq_getD_getElem?] at h6 h7
  simp [results, Tryz.results72, go_sem, h6, h7, c0, c1, c2]
end Go.Proofs.YtpoafhgbhnblmaaGreatDoor
namespace Go.Proofs.YtpoafhgbhnblmaaGreatDoor
open Go.RowKit Go.Pub
theorem joinN_take (zs : List ByteArray) (k : Nat) (h : k < zs.length) : joinN (zs.take (k + 1)) = joinN (zs.take k) ++ (bytesL zs[k] ++ [10]) := by
  unfold joinN
  rw [List.take_succ_eq_append_getElem h, List.flatMap_append]
  simp
theorem joinN_len (zs : List ByteArray) (M : Nat) (hM : ∀ z ∈ zs, z.size ≤ M) : ∀ k, (joinN (zs.take k)).length ≤ k * (M + 1) := by
  intro k
  induction k with
  | zero => simp [joinN]
  | succ k ih =>
    by_cases h : k < zs.length
    · rw [joinN_take zs k h, List.length_append, List.length_append, bytesL_length]
      have := hM zs[k] (List.getElem_mem h)
      have e : (k + 1) * (M + 1) = k * (M + 1) + (M + 1) := Nat.succ_mul _ _
      simp only [List.length_singleton]
      omega
    · rw [List.take_of_length_le (by omega)]
      rw [List.take_of_length_le (by omega)] at ih
      exact Nat.le_trans ih (Nat.mul_le_mul_right _ (by omega))
def JnRel (zs : List ByteArray) (w : World) (i : Value) (wr : World) : Prop :=
  ∃ (k : Nat) (acc : List UInt8), i = .int .i64 k ∧ k ≤ zs.length ∧ Lib.IsBuilderF 158 5 w.heap.size w.heap.size (Lib.byteCells acc) wr ∧ Below w.heap.size w wr ∧ Hid (acc = joinN (zs.take k)) ∧ w.heap.size < wr.heap.size
set_option maxRecDepth 100000 in
set_option maxHeartbeats 4000000 in
theorem l_join (zs : List ByteArray) (A : Option Addr) (c B : Nat) (w : World) (hr : Reads w B 1 A zs.length (strs zs)) (hB : B ≤ w.heap.size) (hl : zs.length ≤ 10000) (hM : ∀ z ∈ zs, z.size ≤ 100000) :
    Calls Tryz.prog 116 #[.slice A zs.length c] w fun e w' => e = .returned (.string (mk (joinN zs))) ∧ Below w.heap.size w w' := by
  have HX : Hid (joinN zs = joinN (zs.take zs.length)) := Lib.hid (by rw [List.take_length])
  have HL := Lib.hid (joinN_len zs 100000 hM)
  have HM := Lib.hid hM
  have HRd := Lib.hid hr
  have hI0 := Lib.hid (Lib.IsBuilderF.of (Lib.fresh_isBuilder 158 5 w))
  have hB0 : Hid (∀ x y z, Below w.heap.size w (w.alloc (.cells x y z))) := Lib.hid fun _ _ _ => (Below.refl _ w).alloc (Nat.le_refl _) _
  generalize joinN zs = R at *
  clear hr hM
  go_enter Tryz.func116, Tryz.ntmps116
  go_wp2_with fail
  go_loopw [8] (fun v wr => JnRel zs w v wr) (fun v _ => zs.length - (intOf v).toNat)
  case atStart => exact ⟨0, [], rfl, by omega, hI0.out, hB0.out _ _ _, Lib.hid rfl, by simp⟩
  case round =>
    clear hI0 hB0
    obtain ⟨k, acc, rfl, hk, hI, hbw, Hacc, hsz⟩ := hrel
    have hal : acc.length ≤ k * 100001 := by rw [Hacc.out]; exact HL.out k
    by_cases hlt : k < zs.length
    · obtain ⟨b, off, rfl, hbB, hcell⟩ := reads_get HRd.out (by omega)
      have hc : wr.cell? ⟨b, off + k, none⟩ = some (.string zs[k]) := (hbw.cell (p := ⟨b, off + k, none⟩) (by show b < _; omega)).trans (hcell k hlt)
      have hst := Lib.hid (joinN_take zs k hlt)
      have hzk := HM.out zs[k] (List.getElem_mem hlt)
      have hkm : k * 100001 ≤ 10000 * 100001 := Nat.mul_le_mul_right _ (by omega)
      have HS : Hid (Lib.strCells zs[k] = Lib.byteCells (bytesL zs[k])) := Lib.hid (by rw [Lib.strCells_eq]; rfl)
      have hzl := bytesL_length zs[k]
      generalize zs[k] = z at *
      clear hcell
      go_wp2_with fail
      refine (writeString_k w.heap.size w.heap.size _ z _ hI (by rw [Lib.byteCells_length]; omega) (by omega)).mono ?_
      rintro e W1 ⟨rfl, h1, b2, _⟩
      have hz2 := b2.size
      rw [HS.out, ← Lib.byteCells_append] at h1
      go_wp2_with fail
      refine (writeByte_k w.heap.size w.heap.size _ 10 _ (Or.inr h1) (by rw [Lib.byteCells_length, List.length_append, hzl]; omega) (by omega)).mono ?_
      rintro e W2 ⟨rfl, h2, b3, _⟩
      have hz3 := b3.size
      replace h2 : Lib.BuilderAtF 158 5 w.heap.size w.heap.size (Value.pointer (some { block := w.heap.size, off := 0 })) (Lib.byteCells (acc ++ bytesL z ++ [10])) W2 := by
        rw [Lib.byteCells_append]; exact h2
      go_wp2_with fail
      go_roundw
      case rel =>
        exact ⟨k + 1, acc ++ (bytesL z ++ [10]), by go_num, by omega, by rw [← List.append_assoc]; exact Or.inr h2, (hbw.trans b2).trans b3, Lib.hid (by rw [hst.out, Hacc.out]), by omega⟩
      case measure => simp [intOf]; omega
    · have HF : Hid (acc = R) := Lib.hid (by rw [Hacc.out, HX.out, show k = zs.length by omega])
      go_wp2_with fail
      refine (Tryz.Builder_String_any_k w.heap.size w.heap.size acc _ hI (by omega)).mono ?_
      rintro e W1 ⟨rfl, h1, b1, _⟩
      go_wp2_with fail
      go_ret
      exact ⟨by rw [← HF.out]; rfl, hbw.trans b1⟩

end Go.Proofs.YtpoafhgbhnblmaaGreatDoor
namespace Go.Proofs.YtpoafhgbhnblmaaGreatDoor
open Go.RowKit Go.Pub
theorem contTo_bd (zs : List ByteArray) (i : Nat) (m : MkL) (h : i < zs.length) : i + 1 ≤ contTo zs i m ∧ contTo zs i m ≤ zs.length := by
  have h1 := lastN_le (fun j => !blankB (ln zs j)) (i + 1) (seek (contStop zs m) zs.length (i + 1) - (i + 1))
  have h2 := seek_spec (contStop zs m) zs.length (i + 1) (by omega)
  unfold contTo
  omega
theorem contL_bd (zs : List ByteArray) (i : Nat) (m : MkL) (h : i < zs.length) : i + 1 ≤ (contL zs i m).2 ∧ (contL zs i m).2 ≤ zs.length := by
  have := contTo_bd zs i m h
  unfold contL
  by_cases hn : contNo zs i m = true
  · rw [if_pos hn]; exact ⟨Nat.le_refl _, h⟩
  · rw [if_neg hn]; exact this
theorem nextNB_bd (zs : List ByteArray) (i : Nat) (h : i ≤ zs.length) : i ≤ nextNB zs i ∧ nextNB zs i ≤ zs.length := by
  have := seek_spec (fun j => !blankB (ln zs j)) zs.length i h
  exact ⟨this.1, this.2.1⟩
/-- One round of a list's items. -/
theorem itemsF_fuel (rec : List ByteArray → Option (List BkT)) (zs : List ByteArray) : ∀ (f g i : Nat) (m : MkL), i < zs.length → zs.length - i ≤ f → zs.length - i ≤ g → itemsF rec zs f i m = itemsF rec zs g i m
  | 0, _, i, m, h, hf, _ => absurd h (by omega)
  | _ + 1, 0, i, m, h, _, hg => absurd h (by omega)
  | f + 1, g + 1, i, m, h, hf, hg => by
    unfold itemsF
    have hb := contL_bd zs i m h
    have hn := nextNB_bd zs (contL zs i m).2 hb.2
    cases hr : rec (contL zs i m).1 with
    | none => rfl
    | some kids =>
      simp only []
      by_cases hc : nextNB zs (contL zs i m).2 < zs.length ∧ sameR m (markM (ln zs (nextNB zs (contL zs i m).2))) = true
      · rw [if_pos hc, if_pos hc, itemsF_fuel rec zs f g _ _ hc.1 (by omega) (by omega)]
      · rw [if_neg hc, if_neg hc]
def itemsT (rec : List ByteArray → Option (List BkT)) (zs : List ByteArray) (i : Nat) (m : MkL) : Option (List BkT × Nat) := itemsF rec zs (zs.length - i) i m
theorem itemsT_step (rec : List ByteArray → Option (List BkT)) (zs : List ByteArray) (i : Nat) (m : MkL) (h : i < zs.length) : itemsT rec zs i m =
    match rec (contL zs i m).1 with
    | none => none
    | some kids =>
      if nextNB zs (contL zs i m).2 < zs.length ∧ sameR m (markM (ln zs (nextNB zs (contL zs i m).2))) = true then
        (itemsT rec zs (nextNB zs (contL zs i m).2) (markM (ln zs (nextNB zs (contL zs i m).2)))).map fun r => (kidB 9 kids :: r.1, r.2)
      else some ([kidB 9 kids], (contL zs i m).2) := by
  have hb := contL_bd zs i m h
  have hn := nextNB_bd zs (contL zs i m).2 hb.2
  unfold itemsT
  obtain ⟨f, hf⟩ : ∃ f, zs.length - i = f + 1 := ⟨zs.length - i - 1, by omega⟩
  rw [hf]
  conv => lhs; unfold itemsF
  cases hr : rec (contL zs i m).1 with
  | none => rfl
  | some kids =>
    simp only []
    by_cases hc : nextNB zs (contL zs i m).2 < zs.length ∧ sameR m (markM (ln zs (nextNB zs (contL zs i m).2))) = true
    · rw [if_pos hc, if_pos hc, itemsF_fuel rec zs f (zs.length - nextNB zs (contL zs i m).2) _ _ hc.1 (by omega) (by omega)]
    · rw [if_neg hc, if_neg hc]
theorem itemsF_bd (rec : List ByteArray → Option (List BkT)) (zs : List ByteArray) : ∀ (f i : Nat) (m : MkL) (r : List BkT × Nat), i < zs.length → itemsF rec zs f i m = some r → i < r.2 ∧ r.2 ≤ zs.length
  | 0, i, m, r, h, e => by cases e
  | f + 1, i, m, r, h, e => by
    have hb := contL_bd zs i m h
    have hn := nextNB_bd zs (contL zs i m).2 hb.2
    unfold itemsF at e
    cases hr : rec (contL zs i m).1 with
    | none => rw [hr] at e; cases e
    | some kids =>
      rw [hr] at e
      simp only [] at e
      by_cases hc : nextNB zs (contL zs i m).2 < zs.length ∧ sameR m (markM (ln zs (nextNB zs (contL zs i m).2))) = true
      · rw [if_pos hc] at e
        cases hi : itemsF rec zs f (nextNB zs (contL zs i m).2) (markM (ln zs (nextNB zs (contL zs i m).2))) with
        | none => rw [hi] at e; cases e
        | some q =>
          rw [hi] at e
          injection e with e
          subst e
          have := itemsF_bd rec zs f _ _ q hc.1 hi
          exact ⟨by show i < q.2; omega, this.2⟩
      · rw [if_neg hc] at e
        injection e with e
        subst e
        exact ⟨by show i < (contL zs i m).2; omega, hb.2⟩
theorem opt_map_some {α β : Type} {o : Option α} {f : α → β} {b : β} (h : o.map f = some b) : ∃ a, o = some a ∧ b = f a := by
  cases o with
  | none => cases h
  | some a => injection h with h; exact ⟨a, rfl, h.symm⟩
theorem min_close (zs : List ByteArray) (m : MkL) (i : Nat) (h : i < zs.length) : i < min (closeI zs m (i + 1) + 1) zs.length ∧ min (closeI zs m (i + 1) + 1) zs.length ≤ zs.length := by
  have := seek_spec (closeP zs m) zs.length (i + 1) (by omega)
  unfold closeI
  omega
/-- A block ends behind its line. -/
theorem blockT_bd (rec1 rec2 : List ByteArray → Option (List BkT)) (d2 d3 : Bool) (zs : List ByteArray) (i : Nat) (h : i < zs.length) (r : BkT × Nat) (e : blockT rec1 rec2 d2 d3 zs i (markM (ln zs i)) = some r) : i < r.2 ∧ r.2 ≤ zs.length := by
  have hk : kindOf zs i = (markM (ln zs i)).kind := rfl
  generalize markM (ln zs i) = m at *
  unfold blockT at e
  by_cases h2 : m.kind = 2
  · rw [if_pos h2] at e; injection e with e; subst e; exact ⟨Nat.lt_succ_self _, h⟩
  rw [if_neg h2] at e
  by_cases h3 : m.kind = 3
  · rw [if_pos h3] at e; injection e with e; subst e; exact ⟨Nat.lt_succ_self _, h⟩
  rw [if_neg h3] at e
  by_cases h11 : m.kind = 11
  · rw [if_pos h11] at e; injection e with e; subst e; exact ⟨Nat.lt_succ_self _, h⟩
  rw [if_neg h11] at e
  by_cases h4 : m.kind = 4
  · rw [if_pos h4] at e
    obtain ⟨k, _, rfl⟩ := opt_map_some e
    obtain ⟨s1, s2, s3, s4⟩ := seek_spec (fun j => !decide (kindOf zs j = 4)) zs.length i (by omega)
    refine ⟨?_, s2⟩
    show i < seek (fun j => !decide (kindOf zs j = 4)) zs.length i
    rcases Nat.lt_or_ge i (seek (fun j => !decide (kindOf zs j = 4)) zs.length i) with hl | hl
    · exact hl
    · have ei : seek (fun j => !decide (kindOf zs j = 4)) zs.length i = i := by omega
      have := s4 (by omega)
      rw [ei, hk, h4] at this
      cases this
  rw [if_neg h4] at e
  by_cases h7 : m.kind = 7
  · rw [if_pos h7] at e; injection e with e; subst e; exact min_close zs m i h
  rw [if_neg h7] at e
  by_cases h8 : m.kind = 8
  · rw [if_pos h8] at e; injection e with e; subst e; exact min_close zs m i h
  rw [if_neg h8] at e
  by_cases h9 : m.kind = 9
  · rw [if_pos h9] at e
    obtain ⟨k, _, rfl⟩ := opt_map_some e
    exact min_close zs m i h
  rw [if_neg h9] at e
  by_cases h10 : m.kind = 10
  · rw [if_pos h10] at e
    obtain ⟨k, _, rfl⟩ := opt_map_some e
    have := contL_bd zs i m h
    exact ⟨by show i < (contL zs i m).2; omega, this.2⟩
  rw [if_neg h10] at e
  by_cases h56 : m.kind = 5 ∨ m.kind = 6
  · rw [if_pos h56] at e
    by_cases hd : d2 = true
    · rw [if_pos hd] at e
      obtain ⟨q, hq, rfl⟩ := opt_map_some e
      exact itemsF_bd rec2 zs _ i m q h hq
    · rw [if_neg hd] at e; cases e
  rw [if_neg h56] at e
  by_cases ht : headAt zs i = true
  · rw [if_pos ht] at e
    by_cases hd : d3 = true
    · rw [if_pos hd] at e
      injection e with e
      subst e
      have hi : i + 1 < zs.length := by
        unfold headAt at ht
        rw [Bool.and_eq_true, decide_eq_true_eq] at ht
        exact ht.1
      have := seek_spec (fun j => !decide (kindOf zs j = 0)) zs.length (i + 2) (by omega)
      exact ⟨by show i < seek _ _ _; omega, this.2.1⟩
    · rw [if_neg hd] at e; cases e
  · rw [if_neg ht] at e
    injection e with e
    subst e
    have := seek_spec (fun j => !decide (kindOf zs j = 0) || headAt zs j) zs.length (i + 1) (by omega)
    exact ⟨by show i < seek _ _ _; omega, this.2.1⟩
theorem loopT_fuel (at_ : Nat → MkL → Option (BkT × Nat)) (zs : List ByteArray) (hat : ∀ i r, i < zs.length → at_ i (markM (ln zs i)) = some r → i < r.2) : ∀ (f g i : Nat), zs.length - i ≤ f → zs.length - i ≤ g → loopT at_ zs f i = loopT at_ zs g i
  | 0, 0, i, _, _ => rfl
  | 0, g + 1, i, hf, _ => by
    unfold loopT; rw [if_pos (by omega)]
  | f + 1, 0, i, _, hg => by
    conv => lhs; unfold loopT
    rw [if_pos (by omega)]; rfl
  | f + 1, g + 1, i, hf, hg => by
    unfold loopT
    by_cases h : zs.length ≤ i
    · rw [if_pos h, if_pos h]
    · rw [if_neg h, if_neg h]
      by_cases hb : blankB (ln zs i) = true
      · rw [if_pos hb, if_pos hb, loopT_fuel at_ zs hat f g (i + 1) (by omega) (by omega)]
      · rw [if_neg hb, if_neg hb]
        cases hm : at_ i (markM (ln zs i)) with
        | none => rfl
        | some r =>
          obtain ⟨b, tq⟩ := r
          have := hat i _ (by omega) hm
          simp only [] at this ⊢
          rw [loopT_fuel at_ zs hat f g tq (by omega) (by omega)]
/-- The rest of the loop from line i on. -/
def restT (at_ : Nat → MkL → Option (BkT × Nat)) (zs : List ByteArray) (i : Nat) : Option (List BkT × List (Nat × Nat)) := loopT at_ zs (zs.length - i) i
theorem restT_end (at_ : Nat → MkL → Option (BkT × Nat)) (zs : List ByteArray) (i : Nat) (h : zs.length ≤ i) : restT at_ zs i = some ([], []) := by
  unfold restT
  rw [show zs.length - i = 0 by omega]; rfl
theorem restT_blank (at_ : Nat → MkL → Option (BkT × Nat)) (zs : List ByteArray) (i : Nat) (h : i < zs.length) (hb : blankB (ln zs i) = true) : restT at_ zs i = restT at_ zs (i + 1) := by
  unfold restT
  obtain ⟨f, hf⟩ : ∃ f, zs.length - i = f + 1 := ⟨zs.length - i - 1, by omega⟩
  rw [hf]
  conv => lhs; unfold loopT
  rw [if_neg (by omega), if_pos hb, show zs.length - (i + 1) = f by omega]
theorem restT_step (at_ : Nat → MkL → Option (BkT × Nat)) (zs : List ByteArray) (hat : ∀ i r, i < zs.length → at_ i (markM (ln zs i)) = some r → i < r.2) (i : Nat) (h : i < zs.length) (hb : blankB (ln zs i) = false) : restT at_ zs i =
    match at_ i (markM (ln zs i)) with
    | none => none
    | some (b, tq) => (restT at_ zs tq).map fun r => (b :: r.1, (i, tq) :: r.2) := by
  unfold restT
  obtain ⟨f, hf⟩ : ∃ f, zs.length - i = f + 1 := ⟨zs.length - i - 1, by omega⟩
  rw [hf]
  conv => lhs; unfold loopT
  rw [if_neg (by omega), if_neg (by rw [hb]; exact Bool.false_ne_true)]
  cases hm : at_ i (markM (ln zs i)) with
  | none => rfl
  | some r =>
    obtain ⟨b, tq⟩ := r
    have := hat i _ h hm
    simp only [] at this ⊢
    rw [loopT_fuel at_ zs hat f (zs.length - tq) tq (by omega) (by omega)]
/-- The levels' blocks. -/
def atN : Nat → List ByteArray → Nat → MkL → Option (BkT × Nat)
  | 0, _ => fun _ _ => none
  | 1, zs => blockT (fun l => (blocksN 0 l).map (·.1)) (fun _ => none) false false zs
  | n + 2, zs => blockT (fun l => (blocksN (n + 1) l).map (·.1)) (fun l => (blocksN n l).map (·.1)) true (decide (1 ≤ n)) zs
theorem blocksN_rest (n : Nat) (zs : List ByteArray) : blocksN n zs = restT (atN n zs) zs 0 := by
  match n with
  | 0 => rfl
  | 1 => rfl
  | n + 2 => rfl
theorem atN_one (zs : List ByteArray) : atN 1 zs = blockT (fun l => (blocksN 0 l).map (·.1)) (fun _ => none) false false zs := rfl
theorem atN_two (n : Nat) (zs : List ByteArray) : atN (n + 2) zs = blockT (fun l => (blocksN (n + 1) l).map (·.1)) (fun l => (blocksN n l).map (·.1)) true (decide (1 ≤ n)) zs := rfl
theorem atN_bd (n : Nat) (zs : List ByteArray) (i : Nat) (r : BkT × Nat) (h : i < zs.length) (e : atN n zs i (markM (ln zs i)) = some r) : i < r.2 ∧ r.2 ≤ zs.length := by
  match n with
  | 0 => cases e
  | 1 => rw [atN_one] at e; exact blockT_bd _ _ _ _ zs i h r e
  | n + 2 => rw [atN_two] at e; exact blockT_bd _ _ _ _ zs i h r e
end Go.Proofs.YtpoafhgbhnblmaaGreatDoor
namespace Go.Proofs.YtpoafhgbhnblmaaGreatDoor
open Go.RowKit Go.Pub
theorem closes_ret {W : World} {g : Nat} {x y z u : Value} {P : Ending → World → Prop} {act : Act} (hr : Blk W g 43 #[x, y, z]) (h4 : act.tmps.getD 4 undef = .pointer (some ⟨g, 0, none⟩))
    (h5 : act.tmps.getD 5 undef = u) (hd : act.defers = []) (hP : P (.returned (.tuple #[.agg #[x, y, z], u])) W) : bodyPost Tryz.prog Tryz.f117 P Exit.ret act W := by
  have c0 : W.cell? ⟨g, 0, none⟩ = some x := hr.cell 0
  have c1 : W.cell? ⟨g, 1, none⟩ = some y := hr.cell 1
  have c2 : W.cell? ⟨g, 2, none⟩ = some z := hr.cell 2
  refine bodyPost_ret (v := .tuple #[.agg #[x, y, z], u]) ?_ hd hP
  rw [Array.getD_eq_getD_getElem?] at h4 h5
  simp [results, Tryz.results117, go_sem, h4, h5, c0, c1, c2]
theorem cl_none {r : AttrL × Bool} {b : Bool} {w w' : World} (hr : r = (emptyA, b)) (hb : Below w.heap.size w w') : ClPost r w (.returned (.tuple #[.agg #[.string ⟨#[]⟩, .slice none 0 0, .slice none 0 0], .bool b])) w' := by
  subst hr; exact ⟨⟨_, _, rfl, ownA_empty _ _ hb.size⟩, hb⟩
theorem cl_some {r : AttrL × Bool} {a : AttrL} {b : Bool} {vC vP : Value} {w w' : World} (hr : r = (a, b)) (ho : OwnA w' w.heap.size a vC vP) (hb : Below w.heap.size w w') : ClPost r w (.returned (.tuple #[.agg #[.string a.id, vC, vP], .bool b])) w' := by
  subst hr; exact ⟨⟨_, _, rfl, ho⟩, hb⟩
/-- The parameter's block, and the result's, still empty. -/
structure CW (w : World) (MK : Array Value) (W : World) : Prop where
  mrk : Blk W w.heap.size 74 MK
  at_ : Blk W (w.heap.size + 1) 43 #[.string ⟨#[]⟩, .slice none 0 0, .slice none 0 0]
  bel : Below w.heap.size w W
def cw0 (w : World) (MK : Array Value) : World := (w.alloc (.cells MK 74)).alloc (.cells #[.string ⟨#[]⟩, .slice none 0 0, .slice none 0 0] 43)
theorem cw_start (w : World) (MK : Array Value) : CW w MK (cw0 w MK) := by
  refine ⟨(Blk.new w _ _).alloc _, ?_, ((Below.refl _ w).alloc (Nat.le_refl _) _).alloc (by simp) _⟩
  have := Blk.new (w.alloc (.cells MK 74)) 43 #[.string ⟨#[]⟩, .slice none 0 0, .slice none 0 0]
  unfold cw0
  simpa using this
theorem CW.next {w W W' : World} {MK : Array Value} (h : CW w MK W) (hb : Below W.heap.size W W') : CW w MK W' :=
  ⟨h.mrk.below hb h.mrk.lt, h.at_.below hb h.at_.lt, h.bel.trans (hb.mono h.bel.size)⟩
theorem CW.facts {w W : World} {MK : Array Value} (h : CW w MK W) : W.cell? ⟨w.heap.size, 1, none⟩ = MK[1]? ∧ W.cell? ⟨w.heap.size, 2, none⟩ = MK[2]? ∧
    W.cell? ⟨w.heap.size + 1, 0, none⟩ = some (.string ⟨#[]⟩) ∧ W.cell? ⟨w.heap.size + 1, 1, none⟩ = some (.slice none 0 0) ∧ W.cell? ⟨w.heap.size + 1, 2, none⟩ = some (.slice none 0 0) ∧
    W.frozen? ⟨w.heap.size + 1, 0, none⟩ = false ∧ W.frozen? ⟨w.heap.size + 1, 1, none⟩ = false ∧ W.frozen? ⟨w.heap.size + 1, 2, none⟩ = false ∧ w.heap.size + 1 < W.heap.size :=
  ⟨h.mrk.cell 1, h.mrk.cell 2, h.at_.cell 0, h.at_.cell 1, h.at_.cell 2, h.at_.frozen 0, h.at_.frozen 1, h.at_.frozen 2, h.at_.lt⟩
theorem CW.done {w W : World} {MK : Array Value} (h : CW w MK W) (x y z : Value) : Blk (((W.setCell ⟨w.heap.size + 1, 0, none⟩ x).setCell ⟨w.heap.size + 1, 1, none⟩ y).setCell ⟨w.heap.size + 1, 2, none⟩ z) (w.heap.size + 1) 43 #[x, y, z] ∧
    Below w.heap.size w (((W.setCell ⟨w.heap.size + 1, 0, none⟩ x).setCell ⟨w.heap.size + 1, 1, none⟩ y).setCell ⟨w.heap.size + 1, 2, none⟩ z) :=
  ⟨blk3 h.at_ rfl x y z, below3 h.bel (Nat.le_succ _) x y z⟩
set_option maxRecDepth 100000 in
set_option maxHeartbeats 2000000 in
theorem m_closes (s : ByteArray) (K N o : Int) (ch s4 s5 s6 s7 s8 : ByteArray) (A9 : Option Addr) (n9 c9 : Nat) (A10 : Option Addr) (n10 c10 : Nat) (w : World) (hs : s.size ≤ 1000000) :
    Calls Tryz.prog 117 #[.string s, .agg #[.int .i64 K, .int .i64 N, .string ch, .int .i64 o, .string s4, .string s5, .string s6, .string s7, .string s8, .slice A9 n9 c9, .slice A10 n10 c10]] w (ClPost (closesM s K N ch) w) := by
  have HI := Lib.hid fun W => t_indent s W hs
  have hil : indA s 0 ≤ s.size := indA_le s
  have hcz : (s.extract (indA s 0) s.size).size = s.size - indA s 0 := by rw [ByteArray.size_extract]; omega
  have HR : Hid (closesM s K N ch = if 3 < indA s 0 then (emptyA, false) else closeD (s.extract (indA s 0) s.size) K N ch) := Lib.hid rfl
  have HS := Lib.hid (cw_start w #[.int .i64 K, .int .i64 N, .string ch, .int .i64 o, .string s4, .string s5, .string s6, .string s7, .string s8, .slice A9 n9 c9, .slice A10 n10 c10])
  generalize closesM s K N ch = R at *
  generalize indA s 0 = ind at *
  have hili : (ind : Int) ≤ (s.size : Int) := by omega
  by_cases hi : 3 < ind
  · have HF : Hid (R = (emptyA, false)) := Lib.hid (by rw [HR.out, if_pos hi])
    have d1 : decide (3 < (ind : Int)) = true := decide_eq_true (by omega)
    have d2 : decide (3 < ind) = true := decide_eq_true hi
    clear HR
    go_enter Tryz.func117, Tryz.ntmps117
    go_wp2_with fail
    ((with_reducible refine (HI.out _).mono ?_))
    rintro e w' ⟨rfl, rfl⟩
    go_wp2_with fail
    exact closes_ret HS.out.at_ rfl rfl rfl (cl_none HF.out HS.out.bel)
  have d1 : decide (3 < (ind : Int)) = false := decide_eq_false (by omega)
  have d2 : decide (3 < ind) = false := decide_eq_false hi
  have HR2 : Hid (R = closeD (s.extract ind s.size) K N ch) := Lib.hid (by rw [HR.out, if_neg hi])
  clear HR
  generalize hcc : s.extract ind s.size = c at *
  have hcs : c.size ≤ 1000000 := by omega
  clear hcz
  by_cases h7 : K = 7
  · subst h7
    by_cases hg1 : ch.size = 1
    case neg =>
      have HF : Hid (R = (emptyA, false)) := Lib.hid (by rw [HR2.out]; unfold closeD; rw [if_pos rfl, decide_eq_false (fun h => hg1 h.1)]; rfl)
      have e1 : ((ch.size : Int) != 1) = true := by rw [bne_iff_ne]; omega
      have e2 : (ch.size != 1) = true := by rw [bne_iff_ne]; omega
      clear HR2
      go_enter Tryz.func117, Tryz.ntmps117
      go_wp2_with fail
      ((with_reducible refine (HI.out _).mono ?_))
      rintro e w' ⟨rfl, rfl⟩
      go_wp2_with fail
      exact closes_ret HS.out.at_ rfl rfl rfl (cl_none HF.out HS.out.bel)
    have e1 : ((ch.size : Int) != 1) = false := by rw [bne_eq_false_iff_eq]; omega
    have e2 : (ch.size != 1) = false := by rw [bne_eq_false_iff_eq]; omega
    by_cases hg2 : N < 1
    · have HF : Hid (R = (emptyA, false)) := Lib.hid (by rw [HR2.out]; unfold closeD; rw [if_pos rfl, decide_eq_false (fun h => by omega)]; rfl)
      have e3 : decide (N < 1) = true := decide_eq_true hg2
      clear HR2
      go_enter Tryz.func117, Tryz.ntmps117
      go_wp2_with fail
      ((with_reducible refine (HI.out _).mono ?_))
      rintro e w' ⟨rfl, rfl⟩
      go_wp2_with fail
      exact closes_ret HS.out.at_ rfl rfl rfl (cl_none HF.out HS.out.bel)
    have e3 : decide (N < 1) = false := decide_eq_false hg2
    have h01 : 0 < ch.size := by omega
    have hgb := get_bt ch 0 h01
    have hb256 := bt_lt ch 0
    have HF0 : Hid (R = (emptyA, decide (N ≤ (firstN c (· != bt ch 0) : Int)) && blankB (c.extract (firstN c (· != bt ch 0)) c.size))) := Lib.hid (by rw [HR2.out]; unfold closeD; rw [if_pos rfl, decide_eq_true ⟨hg1, by omega⟩]; rfl)
    clear HR2
    have HRn := Lib.hid fun W => m_run c (bt ch 0) hb256 W hcs
    have hnl := firstN_le c (· != bt ch 0)
    generalize firstN c (· != bt ch 0) = n at *
    generalize bt ch 0 = q at *
    have hxz : (c.extract n c.size).size ≤ 1000000 := by rw [ByteArray.size_extract]; omega
    have HBl := Lib.hid fun W => t_blank (c.extract n c.size) W hxz
    generalize blankB (c.extract n c.size) = bb at *
    by_cases hn : N ≤ (n : Int)
    · have e4 : decide (N ≤ (n : Int)) = true := decide_eq_true hn
      have HF : Hid (R = (emptyA, bb)) := Lib.hid (by rw [HF0.out, e4]; rfl)
      clear HF0
      go_enter Tryz.func117, Tryz.ntmps117
      go_wp2_with fail
      ((with_reducible refine (HI.out _).mono ?_))
      rintro e w' ⟨rfl, rfl⟩
      go_wp2_with fail
      ((with_reducible refine (HRn.out _).mono ?_))
      rintro e w1 ⟨rfl, b1⟩
      have hC := HS.out.next b1
      obtain ⟨k1, k2, a0, a1, a2, f0, f1, f2, hlt⟩ := hC.facts
      have HC := Lib.hid hC
      simp at k1 k2
      clear b1 hC
      go_wp2_with fail
      ((with_reducible refine (HBl.out _).mono ?_))
      rintro e w2 ⟨rfl, rfl⟩
      go_wp2_with fail
      have hD := HC.out.done (.string ⟨#[]⟩) (.slice none 0 0) (.slice none 0 0)
      exact closes_ret hD.1 rfl rfl rfl (cl_none HF.out hD.2)
    · have e4 : decide (N ≤ (n : Int)) = false := decide_eq_false hn
      have HF : Hid (R = (emptyA, false)) := Lib.hid (by rw [HF0.out, e4]; rfl)
      clear HF0
      go_enter Tryz.func117, Tryz.ntmps117
      go_wp2_with fail
      ((with_reducible refine (HI.out _).mono ?_))
      rintro e w' ⟨rfl, rfl⟩
      go_wp2_with fail
      ((with_reducible refine (HRn.out _).mono ?_))
      rintro e w1 ⟨rfl, b1⟩
      have hC := HS.out.next b1
      obtain ⟨k1, k2, a0, a1, a2, f0, f1, f2, hlt⟩ := hC.facts
      have HC := Lib.hid hC
      simp at k1 k2
      clear b1 hC
      go_wp2_with fail
      have hD := HC.out.done (.string ⟨#[]⟩) (.slice none 0 0) (.slice none 0 0)
      exact closes_ret hD.1 rfl rfl rfl (cl_none HF.out hD.2)
  have z7 : (K == 7) = false := by rw [beq_eq_false_iff_ne]; exact h7
  by_cases h8 : K = 8
  · subst h8
    have HP : Hid (∀ W, Calls Tryz.prog 108 #[.string c, .string ⟨#[36, 36]⟩] W fun e w' => e = .returned (.bool (Lib.hasPrefix (bytesL c) [36, 36])) ∧ W = w') := Lib.hid fun W => (Tryz.strings_HasPrefix c ⟨#[36, 36]⟩ W).mono fun e w' ⟨h, h'⟩ => ⟨h, h'.symm⟩
    have HR3 : Hid (R = if Lib.hasPrefix (bytesL c) [36, 36] = true then optA (onlyR (c.extract 2 c.size)) else (emptyA, false)) := Lib.hid (by rw [HR2.out]; unfold closeD; rw [if_neg (by decide), if_pos rfl])
    have hpl : Lib.hasPrefix (bytesL c) [36, 36] = true → 2 ≤ c.size := fun h => pre_len h
    clear HR2
    generalize Lib.hasPrefix (bytesL c) [36, 36] = p at *
    cases p with
    | false =>
      have HF : Hid (R = (emptyA, false)) := Lib.hid (by rw [HR3.out]; rfl)
      clear HR3
      go_enter Tryz.func117, Tryz.ntmps117
      go_wp2_with fail
      ((with_reducible refine (HI.out _).mono ?_))
      rintro e w' ⟨rfl, rfl⟩
      go_wp2_with fail
      ((with_reducible refine (HP.out _).mono ?_))
      rintro e w' ⟨rfl, rfl⟩
      go_wp2_with fail
      exact closes_ret HS.out.at_ rfl rfl rfl (cl_none HF.out HS.out.bel)
    | true =>
      have h2 := hpl rfl
      have hxz : (c.extract 2 c.size).size ≤ 1000000 := by rw [ByteArray.size_extract]; omega
      have HO := Lib.hid fun W => m_only (c.extract 2 c.size) W hxz
      have HF0 : Hid (R = optA (onlyR (c.extract 2 c.size))) := Lib.hid (by rw [HR3.out]; rfl)
      clear HR3 hpl
      generalize onlyR (c.extract 2 c.size) = O at *
      go_enter Tryz.func117, Tryz.ntmps117
      go_wp2_with fail
      ((with_reducible refine (HI.out _).mono ?_))
      rintro e w' ⟨rfl, rfl⟩
      go_wp2_with fail
      ((with_reducible refine (HP.out _).mono ?_))
      rintro e w' ⟨rfl, rfl⟩
      go_wp2_with fail
      ((with_reducible refine (HO.out _).mono ?_))
      rintro e w1 ⟨⟨a, vC, vP, b, rfl, ho, hO, hb0⟩, b1⟩
      have HF : Hid (R = (a, b)) := Lib.hid (by
        rw [HF0.out, hO]
        cases b with
        | true => rfl
        | false => rw [hb0 rfl]; rfl)
      obtain ⟨AC, cC, rfl⟩ := own_slice ho.cls
      obtain ⟨AP, cP, rfl⟩ := own_slice ho.prs
      have hC := HS.out.next b1
      have ho' : OwnA w1 (w.heap.size + 2) a (.slice AC a.cl.length cC) (.slice AP a.pr.length cP) := by
        have e : (cw0 w #[.int .i64 8, .int .i64 N, .string ch, .int .i64 o, .string s4, .string s5, .string s6, .string s7, .string s8, .slice A9 n9 c9, .slice A10 n10 c10]).heap.size = w.heap.size + 2 := by unfold cw0; simp
        rw [← e]; exact ho
      have HO' := Lib.hid ho'
      obtain ⟨k1, k2, a0, a1, a2, f0, f1, f2, hlt⟩ := hC.facts
      have HC := Lib.hid hC
      clear b1 hC ho ho' hO hb0 HF0
      go_wp2_with fail
      have hD := HC.out.done (.string a.id) (.slice AC a.cl.length cC) (.slice AP a.pr.length cP)
      exact closes_ret hD.1 rfl rfl rfl (cl_some HF.out (ownA_low (ownA_far HO'.out (grown3 _ _ _ _ _) (by omega)) (by omega)) hD.2)
  have z8 : (K == 8) = false := by rw [beq_eq_false_iff_ne]; exact h8
  by_cases h9 : K = 9
  · subst h9
    have HF0 : Hid (R = (emptyA, decide (1 ≤ N) && (decide ((firstN c (· != 58) : Int) = N) && blankB (c.extract (firstN c (· != 58)) c.size)))) := Lib.hid (by rw [HR2.out]; unfold closeD; rw [if_neg (by decide), if_neg (by decide), if_pos rfl])
    clear HR2
    have HRn : Hid (∀ W, Calls Tryz.prog 102 #[.string c, .int .u8 58] W fun e w' => e = .returned (.int .i64 (firstN c (· != 58))) ∧ Below W.heap.size W w') := Lib.hid fun W => m_run c 58 (by omega) W hcs
    have hnl := firstN_le c (· != 58)
    generalize firstN c (· != 58) = n at *
    have hxz : (c.extract n c.size).size ≤ 1000000 := by rw [ByteArray.size_extract]; omega
    have HBl := Lib.hid fun W => t_blank (c.extract n c.size) W hxz
    generalize blankB (c.extract n c.size) = bb at *
    have htest : (decide (1 ≤ N) = false ∧ Hid (R = (emptyA, false))) ∨ (decide (1 ≤ N) = true ∧ ((n : Int) == N) = false ∧ Hid (R = (emptyA, false))) ∨ (decide (1 ≤ N) = true ∧ ((n : Int) == N) = true ∧ Hid (R = (emptyA, bb))) := by
      by_cases g1 : 1 ≤ N
      · by_cases g2 : (n : Int) = N
        · right; right; exact ⟨decide_eq_true g1, by rw [beq_iff_eq]; exact g2, Lib.hid (by rw [HF0.out, decide_eq_true g1, decide_eq_true g2]; rfl)⟩
        · right; left; exact ⟨decide_eq_true g1, by rw [beq_eq_false_iff_ne]; exact g2, Lib.hid (by rw [HF0.out, decide_eq_true g1, decide_eq_false g2]; rfl)⟩
      · left; exact ⟨decide_eq_false g1, Lib.hid (by rw [HF0.out, decide_eq_false g1]; rfl)⟩
    clear HF0
    rcases htest with ⟨g1, HF⟩ | ⟨g1, g2, HF⟩ | ⟨g1, g2, HF⟩
    · go_enter Tryz.func117, Tryz.ntmps117
      go_wp2_with fail
      ((with_reducible refine (HI.out _).mono ?_))
      rintro e w' ⟨rfl, rfl⟩
      go_wp2_with fail
      ((with_reducible refine (HRn.out _).mono ?_))
      rintro e w1 ⟨rfl, b1⟩
      have hC := HS.out.next b1
      obtain ⟨k1, k2, a0, a1, a2, f0, f1, f2, hlt⟩ := hC.facts
      have HC := Lib.hid hC
      simp at k1 k2
      clear b1 hC
      go_wp2_with fail
      have hD := HC.out.done (.string ⟨#[]⟩) (.slice none 0 0) (.slice none 0 0)
      exact closes_ret hD.1 rfl rfl rfl (cl_none HF.out hD.2)
    · go_enter Tryz.func117, Tryz.ntmps117
      go_wp2_with fail
      ((with_reducible refine (HI.out _).mono ?_))
      rintro e w' ⟨rfl, rfl⟩
      go_wp2_with fail
      ((with_reducible refine (HRn.out _).mono ?_))
      rintro e w1 ⟨rfl, b1⟩
      have hC := HS.out.next b1
      obtain ⟨k1, k2, a0, a1, a2, f0, f1, f2, hlt⟩ := hC.facts
      have HC := Lib.hid hC
      simp at k1 k2
      clear b1 hC
      go_wp2_with fail
      have hD := HC.out.done (.string ⟨#[]⟩) (.slice none 0 0) (.slice none 0 0)
      exact closes_ret hD.1 rfl rfl rfl (cl_none HF.out hD.2)
    · go_enter Tryz.func117, Tryz.ntmps117
      go_wp2_with fail
      ((with_reducible refine (HI.out _).mono ?_))
      rintro e w' ⟨rfl, rfl⟩
      go_wp2_with fail
      ((with_reducible refine (HRn.out _).mono ?_))
      rintro e w1 ⟨rfl, b1⟩
      have hC := HS.out.next b1
      obtain ⟨k1, k2, a0, a1, a2, f0, f1, f2, hlt⟩ := hC.facts
      have HC := Lib.hid hC
      simp at k1 k2
      clear b1 hC
      go_wp2_with fail
      ((with_reducible refine (HBl.out _).mono ?_))
      rintro e w2 ⟨rfl, rfl⟩
      go_wp2_with fail
      have hD := HC.out.done (.string ⟨#[]⟩) (.slice none 0 0) (.slice none 0 0)
      exact closes_ret hD.1 rfl rfl rfl (cl_none HF.out hD.2)
  have z9 : (K == 9) = false := by rw [beq_eq_false_iff_ne]; exact h9
  have HF : Hid (R = (emptyA, false)) := Lib.hid (by rw [HR2.out]; unfold closeD; rw [if_neg h7, if_neg h8, if_neg h9])
  clear HR2
  go_enter Tryz.func117, Tryz.ntmps117
  go_wp2_with fail
  ((with_reducible refine (HI.out _).mono ?_))
  rintro e w' ⟨rfl, rfl⟩
  go_wp2_with fail
  exact closes_ret HS.out.at_ rfl rfl rfl (cl_none HF.out HS.out.bel)

end Go.Proofs.YtpoafhgbhnblmaaGreatDoor
