/-
  Texts of the proof, put together (what this law reaches): EmD, EmE.
-/
import Derived.Test.YtfnloonmeilhlaaGreatDoorT06
import Derived.Test.YtfnloonmeilhlaaGreatDoorT08
import Derived.Deep.DeepCutAuto
import Derived.BigQuiet
set_option linter.unusedVariables false
set_option linter.unusedSimpArgs false
namespace Go.Pub
open Go.RowKit
def citVT (l : List CitL) : List Value := l.flatMap fun c => [.string c.key, .string c.pre, .string c.suf, .bool c.bare]
mutual
/-- The cells of an inline. -/
inductive RepI (w : World) (S : Nat → Prop) : Array Value → InT → Prop
  | mk (kind : Int) (text dest title : ByteArray) (att : AttrL) (args : List ByteArray) (cites : List CitL) (kids : List InT) (A1 A2 A3 A4 A5 : Option Addr) (c1 c2 c3 c4 c5 : Nat) (vs : List (Array Value)) :
      ReadsS w S 1 A1 att.cl.length (strs att.cl) → ReadsS w S 2 A2 att.pr.length (prs att.pr) → ReadsS w S 1 A3 args.length (strs args) → ReadsS w S 4 A4 cites.length (citVT cites) →
      RepIs w S vs kids → ReadsS w S 10 A5 kids.length (vs.flatMap Array.toList) →
      RepI w S #[.int .i64 kind, .string text, .string dest, .string title, .string att.id, .slice A1 att.cl.length c1, .slice A2 att.pr.length c2, .slice A3 args.length c3, .slice A4 cites.length c4, .slice A5 kids.length c5] (.mk kind text dest title att args cites kids)
/-- The cells of inlines, one after another. -/
inductive RepIs (w : World) (S : Nat → Prop) : List (Array Value) → List InT → Prop
  | nil : RepIs w S [] []
  | cons (v : Array Value) (b : InT) (vs : List (Array Value)) (bs : List InT) : RepI w S v b → RepIs w S vs bs → RepIs w S (v :: vs) (b :: bs)
end
mutual
theorem RepI.keep {w w' : World} {S S' : Nat → Prop} (hk : ∀ g, S g → w'.heap[g]? = w.heap[g]?) (hS : ∀ g, S g → S' g) : ∀ {v : Array Value} {b : InT}, RepI w S v b → RepI w' S' v b
  | _, _, .mk kind text dest title att args cites kids A1 A2 A3 A4 A5 c1 c2 c3 c4 c5 vs h1 h2 h3 h4 h5 h6 =>
    .mk kind text dest title att args cites kids A1 A2 A3 A4 A5 c1 c2 c3 c4 c5 vs (h1.keep hk hS) (h2.keep hk hS) (h3.keep hk hS) (h4.keep hk hS) (RepIs.keep hk hS h5) (h6.keep hk hS)
theorem RepIs.keep {w w' : World} {S S' : Nat → Prop} (hk : ∀ g, S g → w'.heap[g]? = w.heap[g]?) (hS : ∀ g, S g → S' g) : ∀ {vs : List (Array Value)} {bs : List InT}, RepIs w S vs bs → RepIs w' S' vs bs
  | _, _, .nil => .nil
  | _, _, .cons v b vs bs h1 h2 => .cons v b vs bs (RepI.keep hk hS h1) (RepIs.keep hk hS h2)
end
theorem RepIs.len {w : World} {S : Nat → Prop} {vs : List (Array Value)} {bs : List InT} (h : RepIs w S vs bs) : vs.length = bs.length := by
  induction bs generalizing vs with
  | nil => cases h; rfl
  | cons b bs ih =>
    cases h with
    | cons v b vs bs h1 h2 => rw [List.length_cons, List.length_cons, ih h2]
theorem RepIs.snoc {w : World} {S : Nat → Prop} {vs : List (Array Value)} {bs : List InT} {v : Array Value} {b : InT} (h : RepIs w S vs bs) (hb : RepI w S v b) : RepIs w S (vs ++ [v]) (bs ++ [b]) := by
  induction bs generalizing vs with
  | nil => cases h; exact .cons _ _ _ _ hb .nil
  | cons b' bs ih =>
    cases h with
    | cons v' b' vs bs h1 h2 => exact .cons _ _ _ _ h1 (ih h2)
theorem RepI.size {w : World} {S : Nat → Prop} {v : Array Value} {b : InT} (h : RepI w S v b) : v.size = 10 := by
  cases h; rfl
theorem RepI.one {w : World} {S : Nat → Prop} {v : Array Value} {b : InT} (h : RepI w S v b) : ∀ u ∈ v.toList, u.oneCell' = true := by
  cases h
  intro u hu
  simp only [List.mem_cons, List.not_mem_nil, or_false] at hu
  rcases hu with rfl | rfl | rfl | rfl | rfl | rfl | rfl | rfl | rfl | rfl <;> rfl
theorem RepIs.at_ {w : World} {S : Nat → Prop} : ∀ {vs : List (Array Value)} {bs : List InT}, RepIs w S vs bs → ∀ (k : Nat) (hk : k < bs.length), ∃ (v : Array Value), RepI w S v bs[k] ∧ ∀ i, i < 10 → (vs.flatMap Array.toList)[k * 10 + i]? = v[i]?
  | _, _, .nil, k, hk => absurd hk (by simp)
  | _, _, .cons v b vs bs h1 h2, 0, hk => ⟨v, h1, fun i hi => by
      have hl : v.toList.length = 10 := by rw [Array.length_toList]; exact h1.size
      rw [List.flatMap_cons, List.getElem?_append_left (by omega), Nat.zero_mul, Nat.zero_add, Array.getElem?_toList]⟩
  | _, _, .cons v b vs bs h1 h2, k + 1, hk => by
    obtain ⟨u, hu, hc⟩ := RepIs.at_ h2 k (by simpa using hk)
    refine ⟨u, hu, fun i hi => ?_⟩
    have hl : v.toList.length = 10 := by rw [Array.length_toList]; exact h1.size
    rw [List.flatMap_cons, List.getElem?_append_right (by omega), hl, show (k + 1) * 10 + i - 10 = k * 10 + i by omega]
    exact hc i hi
theorem RepI.zero (w : World) (S : Nat → Prop) : RepI w S #[.int .i64 0, .string ⟨#[]⟩, .string ⟨#[]⟩, .string ⟨#[]⟩, .string ⟨#[]⟩, .slice none 0 0, .slice none 0 0, .slice none 0 0, .slice none 0 0, .slice none 0 0] zeroT :=
  .mk 0 ⟨#[]⟩ ⟨#[]⟩ ⟨#[]⟩ noAt [] [] [] none none none none none 0 0 0 0 0 [] ReadsS.none_ ReadsS.none_ ReadsS.none_ ReadsS.none_ .nil ReadsS.none_
/-- A list of rows of z cells. -/
theorem flatz_len (z : Nat) : ∀ (vs : List (Array Value)), (∀ v ∈ vs, v.size = z) → (vs.flatMap Array.toList).length = vs.length * z
  | [], _ => by simp
  | v :: vs, h => by
    rw [List.flatMap_cons, List.length_append, Array.length_toList, h v (by simp), flatz_len z vs fun u hu => h u (List.mem_cons_of_mem _ hu), List.length_cons, Nat.add_mul, Nat.one_mul, Nat.add_comm]
theorem flatz_get (z : Nat) : ∀ (vs : List (Array Value)), (∀ v ∈ vs, v.size = z) → ∀ i j, i < vs.length → j < z → (vs.flatMap Array.toList)[i * z + j]? = (vs.getD i #[])[j]?
  | [], _, i, j, hi, _ => absurd hi (by simp)
  | v :: vs, h, 0, j, hi, hj => by
    have hl : v.toList.length = z := by rw [Array.length_toList]; exact h v (by simp)
    rw [List.flatMap_cons, List.getElem?_append_left (by omega), Nat.zero_mul, Nat.zero_add, Array.getElem?_toList]; rfl
  | v :: vs, h, i + 1, j, hi, hj => by
    have hl : v.toList.length = z := by rw [Array.length_toList]; exact h v (by simp)
    rw [List.flatMap_cons, List.getElem?_append_right (by rw [hl, Nat.add_mul]; omega), hl, show (i + 1) * z + j - z = i * z + j by rw [Nat.add_mul]; omega]
    rw [flatz_get z vs (fun u hu => h u (List.mem_cons_of_mem _ hu)) i j (by simpa using hi) hj]
    simp
theorem flatz_set (z : Nat) : ∀ (vs : List (Array Value)), (∀ v ∈ vs, v.size = z) → ∀ i j u, i < vs.length → j < z → (vs.flatMap Array.toList).set (i * z + j) u = (vs.set i ((vs.getD i #[]).setIfInBounds j u)).flatMap Array.toList
  | [], _, i, j, u, hi, _ => absurd hi (by simp)
  | v :: vs, h, 0, j, u, hi, hj => by
    have hl : v.toList.length = z := by rw [Array.length_toList]; exact h v (by simp)
    rw [List.flatMap_cons, List.set_append_left _ _ (by omega), Nat.zero_mul, Nat.zero_add]
    simp
  | v :: vs, h, i + 1, j, u, hi, hj => by
    have hl : v.toList.length = z := by rw [Array.length_toList]; exact h v (by simp)
    rw [List.flatMap_cons, List.set_append_right _ _ (by rw [hl, Nat.add_mul]; omega), hl, show (i + 1) * z + j - z = i * z + j by rw [Nat.add_mul]; omega]
    rw [flatz_set z vs (fun u hu => h u (List.mem_cons_of_mem _ hu)) i j u (by simpa using hi) hj]
    simp
/-- The cells of an element. -/
def elC (r : Array Value) (e : ElL) : Array Value := r ++ #[.bool e.run, .int .i64 e.pc, .int .i64 e.left, .int .i64 e.before, .int .i64 e.next]
def RepE (w : World) (S : Nat → Prop) (v : Array Value) (e : ElL) : Prop := ∃ r, RepI w S r e.t ∧ v = elC r e
theorem RepE.size {w : World} {S : Nat → Prop} {v : Array Value} {e : ElL} (h : RepE w S v e) : v.size = 15 := by
  obtain ⟨r, h, rfl⟩ := h
  unfold elC; simp [h.size]
theorem RepE.keep {w w' : World} {S S' : Nat → Prop} {v : Array Value} {e : ElL} (h : RepE w S v e) (hk : ∀ g, S g → w'.heap[g]? = w.heap[g]?) (hS : ∀ g, S g → S' g) : RepE w' S' v e := by
  obtain ⟨r, h, rfl⟩ := h
  exact ⟨r, h.keep hk hS, rfl⟩
theorem RepE.cells {w : World} {S : Nat → Prop} {v : Array Value} {e : ElL} (h : RepE w S v e) : v[10]? = some (.bool e.run) ∧ v[11]? = some (.int .i64 e.pc) ∧ v[12]? = some (.int .i64 e.left) ∧ v[13]? = some (.int .i64 e.before) ∧ v[14]? = some (.int .i64 e.next) := by
  obtain ⟨r, h, rfl⟩ := h
  obtain ⟨t, run, pc, left, before, next⟩ := e
  cases h
  exact ⟨rfl, rfl, rfl, rfl, rfl⟩
theorem RepE.setBf {w : World} {S : Nat → Prop} {v : Array Value} {e : ElL} (h : RepE w S v e) (b : Nat) : RepE w S (v.setIfInBounds 13 (.int .i64 b)) { e with before := b } := by
  obtain ⟨r, h, rfl⟩ := h
  obtain ⟨t, run, pc, left, before, next⟩ := e
  refine ⟨r, h, ?_⟩
  cases h; rfl
theorem RepE.setN {w : World} {S : Nat → Prop} {v : Array Value} {e : ElL} (h : RepE w S v e) (b : Nat) : RepE w S (v.setIfInBounds 14 (.int .i64 b)) { e with next := b } := by
  obtain ⟨r, h, rfl⟩ := h
  obtain ⟨t, run, pc, left, before, next⟩ := e
  refine ⟨r, h, ?_⟩
  cases h; rfl
theorem RepE.setLf {w : World} {S : Nat → Prop} {v : Array Value} {e : ElL} (h : RepE w S v e) (b : Nat) : RepE w S (v.setIfInBounds 12 (.int .i64 b)) { e with left := b } := by
  obtain ⟨r, h, rfl⟩ := h
  obtain ⟨t, run, pc, left, before, next⟩ := e
  refine ⟨r, h, ?_⟩
  cases h; rfl
/-- The cells of elements. -/
def RepEs (w : World) (S : Nat → Prop) (vs : List (Array Value)) (xs : List ElL) : Prop := vs.length = xs.length ∧ ∀ i, i < xs.length → RepE w S (vs.getD i #[]) (elX xs i)
theorem RepEs.sizes {w : World} {S : Nat → Prop} {vs : List (Array Value)} {xs : List ElL} (h : RepEs w S vs xs) : ∀ v ∈ vs, v.size = 15 := by
  intro v hv
  obtain ⟨i, hi, rfl⟩ := List.mem_iff_getElem.1 hv
  have := (h.2 i (by rw [← h.1]; exact hi)).size
  rwa [List.getD_eq_getElem?_getD, List.getElem?_eq_getElem hi] at this
theorem RepEs.keep {w w' : World} {S S' : Nat → Prop} {vs : List (Array Value)} {xs : List ElL} (h : RepEs w S vs xs) (hk : ∀ g, S g → w'.heap[g]? = w.heap[g]?) (hS : ∀ g, S g → S' g) : RepEs w' S' vs xs :=
  ⟨h.1, fun i hi => (h.2 i hi).keep hk hS⟩
theorem RepEs.set {w : World} {S : Nat → Prop} {vs : List (Array Value)} {xs : List ElL} (h : RepEs w S vs xs) (i : Nat) {v : Array Value} {e : ElL} (hv : RepE w S v e) : RepEs w S (vs.set i v) (xs.set i e) := by
  refine ⟨by simp [h.1], fun j hj => ?_⟩
  rw [List.length_set] at hj
  rw [elX_set, List.getD_eq_getElem?_getD, List.getElem?_set]
  by_cases hij : i = j
  · subst hij
    rw [if_pos rfl, if_pos (by rw [h.1]; exact hj), if_pos ⟨rfl, hj⟩]; exact hv
  · rw [if_neg hij, if_neg (fun h => hij h.1.symm), ← List.getD_eq_getElem?_getD]
    exact h.2 j hj
theorem RepEs.snoc {w : World} {S : Nat → Prop} {vs : List (Array Value)} {xs : List ElL} (h : RepEs w S vs xs) {v : Array Value} {e : ElL} (hv : RepE w S v e) : RepEs w S (vs ++ [v]) (xs ++ [e]) := by
  refine ⟨by simp [h.1], fun j hj => ?_⟩
  rw [elX_app, List.getD_eq_getElem?_getD]
  rw [List.length_append, List.length_singleton] at hj
  by_cases hij : j = xs.length
  · rw [if_pos hij, hij, ← h.1, List.getElem?_append_right (Nat.le_refl _)]
    simpa using hv
  · rw [if_neg hij, List.getElem?_append_left (by rw [h.1]; omega), ← List.getD_eq_getElem?_getD]
    exact h.2 j (by omega)
def intsV (l : List Nat) : List Value := l.map fun x : Nat => Value.int .i64 (x : Int)
def trips (l : List (Nat × Nat × Nat)) : List Value := l.flatMap fun x => [.int .i64 x.1, .int .i64 x.2.1, .int .i64 x.2.2]
theorem intsV_len (l : List Nat) : (intsV l).length = l.length := by unfold intsV; simp
end Go.Pub
namespace Go.Proofs.YtfnloonmeilhlaaGreatDoor
open Go.RowKit Go.Pub
/-- Rows of two kinds lie in two blocks. -/
theorem own_apart {w : World} {b1 b2 n1 n2 s1 s2 : Nat} {e1 e2 : TypeId} {v1 v2 : Value} {x1 x2 : List Value} (h1 : w.ownsRow b1 e1 s1 v1 n1 x1) (h2 : w.ownsRow b2 e2 s2 v2 n2 x2) (hne : e1 ≠ e2) : v1.ownBlock = none ∨ v1.ownBlock ≠ v2.ownBlock := by
  rcases h1.2 with ⟨rfl, _⟩ | ⟨g, cap, cur, rfl, _, hg, _⟩
  · exact .inl rfl
  · right
    rcases h2.2 with ⟨rfl, _⟩ | ⟨g', cap', cur', rfl, _, hg', _⟩
    · simp [Value.ownBlock]
    · intro e
      simp only [Value.ownBlock, Option.some.injEq] at e
      subst e
      rw [hg] at hg'
      injection hg' with hg'
      injection hg' with _ e
      exact hne e
theorem own_blk {w : World} {b n s g : Nat} {e t : TypeId} {v : Value} {x : List Value} {cs : Array Value} (h1 : w.ownsRow b e s v n x) (h2 : Blk w g t cs) (hne : e ≠ t) : v.ownBlock ≠ some g := by
  rcases h1.2 with ⟨rfl, _⟩ | ⟨g', cap, cur, rfl, _, hg, _⟩
  · simp [Value.ownBlock]
  · intro e'
    simp only [Value.ownBlock, Option.some.injEq] at e'
    subst e'
    unfold Blk at h2
    rw [hg] at h2
    injection h2 with h2
    injection h2 with _ e
    exact hne e
/-- The state's cells. -/
structure StC (w : World) (p : Nat) (L vE : Value) (vO : Nat → Value) (vP : Value) : Prop where
  blk : ∃ cs, Blk w p 57 cs ∧ cs.size = 21
  c0 : w.cell? ⟨p, 0, none⟩ = some L
  c1 : w.cell? ⟨p, 1, none⟩ = some vE
  cO : ∀ j, j < 18 → w.cell? ⟨p, 2 + j, none⟩ = some (vO j)
  cP : w.cell? ⟨p, 20, none⟩ = some vP
/-- The state in memory. -/
structure EmR (w : World) (base p : Nat) (L vE : Value) (vO : Nat → Value) (vP : Value) (S : Nat → Prop) (vs : List (Array Value)) (st : EmS) : Prop where
  bp : base ≤ p
  cel : StC w p L vE vO vP
  els : w.ownsRow base 67 15 vE st.xs.length (vs.flatMap Array.toList)
  rep : RepEs w S vs st.xs
  ops : ∀ j, j < 18 → w.ownsRow base 3 1 (vO j) (st.ops j).length (intsV (st.ops j))
  prs : w.ownsRow base 42 3 vP st.prs.length (trips st.prs)
  apart : ∀ j k, j < 18 → k < 18 → j ≠ k → (vO j).ownBlock = none ∨ (vO j).ownBlock ≠ (vO k).ownBlock
  low : ∀ g, g < base → S g
  fro : ∀ g, S g → g < w.heap.size ∧ (base ≤ g → g ≠ p ∧ vE.ownBlock ≠ some g ∧ (∀ j, j < 18 → (vO j).ownBlock ≠ some g) ∧ vP.ownBlock ≠ some g)
section
variable {w w' : World} {base p : Nat} {L vE vP : Value} {vO : Nat → Value} {S : Nat → Prop} {vs : List (Array Value)} {st : EmS}
theorem StC.lt (h : StC w p L vE vO vP) : p < w.heap.size := World.block_lt_of_cell? _ _ h.c0
theorem StC.frozen (h : StC w p L vE vO vP) (i : Nat) : w.frozen? ⟨p, i, none⟩ = false := by
  obtain ⟨cs, hb, _⟩ := h.blk
  exact Blk.frozen hb i
theorem StC.keep (h : StC w p L vE vO vP) (hk : w'.heap[p]? = w.heap[p]?) : StC w' p L vE vO vP := by
  obtain ⟨cs, hb, hs⟩ := h.blk
  exact ⟨⟨cs, hk.trans hb, hs⟩, (World.cell?_of_block hk).trans h.c0, (World.cell?_of_block hk).trans h.c1, fun j hj => (World.cell?_of_block hk).trans (h.cO j hj), (World.cell?_of_block hk).trans h.cP⟩
theorem EmR.notS (h : EmR w base p L vE vO vP S vs st) {g : Nat} (hg : S g) : g ≠ p ∧ vE.ownBlock ≠ some g ∧ (∀ j, j < 18 → (vO j).ownBlock ≠ some g) ∧ vP.ownBlock ≠ some g := by
  rcases Nat.lt_or_ge g base with hlt | hge
  · refine ⟨by have := h.bp; omega, fun e => ?_, fun j hj e => ?_, fun e => ?_⟩
    · have := (h.els.lt g e).1; omega
    · have := ((h.ops j hj).lt g e).1; omega
    · have := (h.prs.lt g e).1; omega
  · exact (h.fro g hg).2 hge
/-- What is made beside the state leaves it. -/
theorem EmR.below (h : EmR w base p L vE vO vP S vs st) (hb : Below w.heap.size w w') : EmR w' base p L vE vO vP S vs st :=
  ⟨h.bp, h.cel.keep (hb.block p h.cel.lt), own_below h.els hb, h.rep.keep (fun g hg => hb.block g (h.fro g hg).1) fun _ h => h, fun j hj => own_below (h.ops j hj) hb, own_below h.prs hb, h.apart, h.low,
    fun g hg => ⟨Nat.lt_of_lt_of_le (h.fro g hg).1 hb.size, (h.fro g hg).2⟩⟩
/-- More is known to stay. -/
theorem EmR.more {S' : Nat → Prop} (h : EmR w base p L vE vO vP S vs st) (hS : ∀ g, S g → S' g) (hn : ∀ g, S' g → S g ∨ (g < w.heap.size ∧ base ≤ g ∧ g ≠ p ∧ vE.ownBlock ≠ some g ∧ (∀ j, j < 18 → (vO j).ownBlock ≠ some g) ∧ vP.ownBlock ≠ some g)) : EmR w base p L vE vO vP S' vs st :=
  ⟨h.bp, h.cel, h.els, h.rep.keep (fun _ _ => rfl) hS, h.ops, h.prs, h.apart, fun g hg => hS g (h.low g hg), fun g hg => by
    rcases hn g hg with hs | ⟨h1, h2, h3⟩
    · exact h.fro g hs
    · exact ⟨h1, fun _ => h3⟩⟩
/-- What was made since the state lay in memory is none of its blocks. -/
theorem EmR.moreNew {w0 : World} (h : EmR w0 base p L vE vO vP S vs st) (hb : Below w0.heap.size w0 w) (hbase : base ≤ w0.heap.size) : EmR w base p L vE vO vP (fun g => S g ∨ (w0.heap.size ≤ g ∧ g < w.heap.size)) vs st := by
  refine (h.below hb).more (fun _ h => .inl h) fun g hg => ?_
  rcases hg with hg | ⟨h1, h2⟩
  · exact .inl hg
  · refine .inr ⟨h2, by omega, by have := h.cel.lt; omega, fun e => ?_, fun j hj e => ?_, fun e => ?_⟩
    · have := (h.els.lt g e).2; omega
    · have := ((h.ops j hj).lt g e).2; omega
    · have := (h.prs.lt g e).2; omega
/-- The elements' row, written out. -/
theorem EmR.row (h : EmR w base p L vE vO vP S vs st) (hn : 0 < st.xs.length) : ∃ g cap, vE = .slice (some ⟨g, 0, none⟩) st.xs.length cap ∧ base ≤ g ∧ g < w.heap.size ∧ g ≠ p ∧ (∀ i, w.frozen? ⟨g, i, none⟩ = false) ∧
    ∀ i, i < st.xs.length → ∃ v, RepE w S v (elX st.xs i) ∧ vs.getD i #[] = v ∧ ∀ j, j < 15 → w.cell? ⟨g, i * 15 + j, none⟩ = v[j]? := by
  obtain ⟨g, cap, rfl, h1, h2⟩ := h.els.form hn
  obtain ⟨cs, hb, _⟩ := h.cel.blk
  have hgp : g ≠ p := fun e => own_blk h.els hb (by decide) (by rw [e]; rfl)
  refine ⟨g, cap, rfl, h1, h2, hgp, fun i => h.els.frozenAt i, fun i hi => ⟨_, h.rep.2 i hi, rfl, fun j hj => ?_⟩⟩
  rw [h.els.cellAt _ (by have := Nat.mul_le_mul_right 15 (show i + 1 ≤ st.xs.length from hi); omega), flatz_get 15 vs h.rep.sizes i j (by rw [h.rep.1]; exact hi) hj]
/-- Another block, or the elements' row alone, changes. -/
theorem EmR.storeE (h : EmR w base p L vE vO vP S vs st) {g cap : Nat} (hv : vE = .slice (some ⟨g, 0, none⟩) st.xs.length cap) (i j : Nat) (hi : i < st.xs.length) (hj : j < 15) (u : Value) (e : ElL)
    (he : ∀ v, RepE w S v (elX st.xs i) → RepE w S (v.setIfInBounds j u) e) :
    EmR (w.setCell ⟨g, i * 15 + j, none⟩ u) base p L vE vO vP S (vs.set i ((vs.getD i #[]).setIfInBounds j u)) { st with xs := st.xs.set i e } ∧ Below base w (w.setCell ⟨g, i * 15 + j, none⟩ u) := by
  subst hv
  obtain ⟨cs, hb, _⟩ := h.cel.blk
  have hgp : g ≠ p := fun e => own_blk h.els hb (by decide) (by rw [e]; rfl)
  have hbg : base ≤ g := (h.els.lt g rfl).1
  obtain ⟨h1, h2⟩ := h.els.stored (i * 15 + j) u
  rw [flatz_set 15 vs h.rep.sizes i j u (by rw [h.rep.1]; exact hi) hj] at h1
  refine ⟨⟨h.bp, h.cel.keep (Below.heap_setCell w ⟨g, i * 15 + j, none⟩ u p (by exact fun e => hgp e.symm)), ?_, ?_, fun k hk => ?_, ?_, h.apart, h.low, fun k hk => ?_⟩, (Below.refl _ w).setCell (p := ⟨g, i * 15 + j, none⟩) hbg u⟩
  · show World.ownsRow _ _ _ _ _ (List.set _ _ _).length _
    rw [List.length_set]; exact h1
  · exact (h.rep.set i (he _ (h.rep.2 i hi))).keep (fun k hk => Below.heap_setCell w ⟨g, i * 15 + j, none⟩ u k (by
      have := (h.notS hk).2.1
      exact fun e => this (by rw [e]; rfl))) fun _ h => h
  · exact (h.ops k hk).kept h2 (own_apart (h.ops k hk) h.els (by decide))
  · exact h.prs.kept h2 (own_apart h.prs h.els (by decide))
  · exact ⟨by simpa [World.setCell] using (h.fro k hk).1, (h.fro k hk).2⟩
end
end Go.Proofs.YtfnloonmeilhlaaGreatDoor
namespace Go.Proofs.YtfnloonmeilhlaaGreatDoor
open Go.RowKit Go.Pub
set_option maxRecDepth 100000 in
set_option maxHeartbeats 1000000 in
theorem e_isRun (kind n : Int) (x1 x2 x3 x4 x5 x6 x7 x8 x9 x10 : Value) (ch : ByteArray) (o c i : Bool) (a b : Int) (w : World) :
    Calls Tryz.prog 18 #[.agg #[.int .i64 kind, x1, x2, x3, x4, x5, x6, x7, x8, x9, x10, .string ch, .int .i64 n, .bool o, .bool c, .bool i, .int .i64 a, .int .i64 b]] w fun e w' => e = .returned (.bool (runBit kind ch n)) ∧ Below w.heap.size w w' := by
  have HE : Hid (runBit kind ch n = (decide (kind = 1) && (((decide (ch.toList = [42]) || decide (ch.toList = [95])) && (decide (1 ≤ n) && decide (n ≤ 262144))) || (decide (ch.toList = [126]) && decide (n = 2))))) := Lib.hid rfl
  generalize runBit kind ch n = R at *
  by_cases hk : kind = 1
  · subst hk
    by_cases h1 : ch.toList = [42]
    · have q1 : (ch.toList == [42]) = true := beq_iff_eq.2 h1
      by_cases h2 : 1 ≤ n
      · have d1 : decide (n ≥ 1) = true := decide_eq_true h2
        have hE : Hid (R = decide (n ≤ 262144)) := Lib.hid (by rw [HE.out, h1]; simp [h2])
        clear HE
        go_enter Tryz.func18, Tryz.ntmps18
        go_wp2_with fail
        go_ret
        exact ⟨by rw [hE.out]; rfl, (Below.refl _ w).alloc (Nat.le_refl _) _⟩
      · have d1 : decide (n ≥ 1) = false := decide_eq_false h2
        have hE : Hid (R = false) := Lib.hid (by rw [HE.out, h1]; simp [h2])
        clear HE
        go_enter Tryz.func18, Tryz.ntmps18
        go_wp2_with fail
        go_ret
        exact ⟨by rw [hE.out]; rfl, (Below.refl _ w).alloc (Nat.le_refl _) _⟩
    · have q1 : (ch.toList == [42]) = false := beq_eq_false_iff_ne.2 h1
      by_cases h1' : ch.toList = [95]
      · have q2 : (ch.toList == [95]) = true := beq_iff_eq.2 h1'
        by_cases h2 : 1 ≤ n
        · have d1 : decide (n ≥ 1) = true := decide_eq_true h2
          have hE : Hid (R = decide (n ≤ 262144)) := Lib.hid (by rw [HE.out, h1']; simp [h2])
          clear HE
          go_enter Tryz.func18, Tryz.ntmps18
          go_wp2_with fail
          go_ret
          exact ⟨by rw [hE.out]; rfl, (Below.refl _ w).alloc (Nat.le_refl _) _⟩
        · have d1 : decide (n ≥ 1) = false := decide_eq_false h2
          have hE : Hid (R = false) := Lib.hid (by rw [HE.out, h1']; simp [h2])
          clear HE
          go_enter Tryz.func18, Tryz.ntmps18
          go_wp2_with fail
          go_ret
          exact ⟨by rw [hE.out]; rfl, (Below.refl _ w).alloc (Nat.le_refl _) _⟩
      · have q2 : (ch.toList == [95]) = false := beq_eq_false_iff_ne.2 h1'
        by_cases h3 : ch.toList = [126]
        · have q3 : (ch.toList == [126]) = true := beq_iff_eq.2 h3
          have hE : Hid (R = (n == 2)) := Lib.hid (by rw [HE.out, h3]; simp; by_cases h : n = 2 <;> simp [h])
          clear HE
          go_enter Tryz.func18, Tryz.ntmps18
          go_wp2_with fail
          go_ret
          exact ⟨by rw [hE.out]; rfl, (Below.refl _ w).alloc (Nat.le_refl _) _⟩
        · have q3 : (ch.toList == [126]) = false := beq_eq_false_iff_ne.2 h3
          have hE : Hid (R = false) := Lib.hid (by rw [HE.out]; simp [h1, h1', h3])
          clear HE
          go_enter Tryz.func18, Tryz.ntmps18
          go_wp2_with fail
          go_ret
          exact ⟨by rw [hE.out]; rfl, (Below.refl _ w).alloc (Nat.le_refl _) _⟩
  · have hE : Hid (R = false) := Lib.hid (by rw [HE.out]; simp [hk])
    have q0 : (kind != 1) = true := bne_iff_ne.2 hk
    clear HE
    go_enter Tryz.func18, Tryz.ntmps18
    go_wp2_with fail
    go_ret
    exact ⟨by rw [hE.out]; rfl, (Below.refl _ w).alloc (Nat.le_refl _) _⟩

set_option maxRecDepth 100000 in
set_option maxHeartbeats 1000000 in
theorem e_char (ch : ByteArray) (w : World) : Calls Tryz.prog 44 #[.string ch] w fun e w' => e = .returned (.int .i64 (charNum ch : Nat)) ∧ w = w' := by
  have HE : Hid (charNum ch = if ch.toList = [42] then 0 else if ch.toList = [95] then 1 else 2) := Lib.hid rfl
  generalize charNum ch = R at *
  by_cases h1 : ch.toList = [42]
  · have q1 : (ch.toList == [42]) = true := beq_iff_eq.2 h1
    obtain rfl : R = 0 := by rw [HE.out, if_pos h1]
    go_enter Tryz.func44, Tryz.ntmps44
    go_wp2_with fail
    go_ret
    exact ⟨rfl, rfl⟩
  · have q1 : (ch.toList == [42]) = false := beq_eq_false_iff_ne.2 h1
    by_cases h2 : ch.toList = [95]
    · have q2 : (ch.toList == [95]) = true := beq_iff_eq.2 h2
      obtain rfl : R = 1 := by rw [HE.out, if_neg h1, if_pos h2]
      go_enter Tryz.func44, Tryz.ntmps44
      go_wp2_with fail
      go_ret
      exact ⟨rfl, rfl⟩
    · have q2 : (ch.toList == [95]) = false := beq_eq_false_iff_ne.2 h2
      obtain rfl : R = 2 := by rw [HE.out, if_neg h1, if_neg h2]
      go_enter Tryz.func44, Tryz.ntmps44
      go_wp2_with fail
      go_ret
      exact ⟨rfl, rfl⟩

end Go.Proofs.YtfnloonmeilhlaaGreatDoor
