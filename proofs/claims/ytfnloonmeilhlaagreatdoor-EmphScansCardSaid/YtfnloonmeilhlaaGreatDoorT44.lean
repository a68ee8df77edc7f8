/-
  Texts of the proof, put together (what this law reaches): ScAN, ScE, ScAO, Row.
-/
import Derived.Test.YtfnloonmeilhlaaGreatDoorT43
import Derived.Laws.OwnMore
import Derived.Test.YtfnloonmeilhlaaGreatDoorT24
import Derived.Deep.Onto
import Derived.Great.BuildSlice
import Derived.Laws.Tables
import Derived.Below
import Derived.ChangeSame
import Derived.ProofKit
set_option linter.unusedVariables false
set_option linter.unusedSimpArgs false
namespace Go.Proofs.YtfnloonmeilhlaaGreatDoor
open Go.RowKit Go.Pub
theorem piece_info : (Tryz.prog.info? 34).map (fun i => (i.zero, i.size, i.bytes)) = some (some (.agg zPc), 18, 248) := by kernel_rfl
/-- The cells of a piece, and what lies behind them. -/
def PcV (w : World) (S : Nat → Prop) (v : Array Value) (p : PcL) : Prop := ∃ A1 c1 A2 c2, v = pcC p A1 c1 A2 c2 ∧ InR w S p.inl A1 A2
def RepP (w : World) (S : Nat → Prop) : List (Array Value) → List PcL → Prop
  | [], [] => True
  | v :: vs, p :: ps => PcV w S v p ∧ RepP w S vs ps
  | _, _ => False
section
variable {w w' : World} {S S' : Nat → Prop}
theorem PcV.keep {v : Array Value} {p : PcL} (h : PcV w S v p) (hk : ∀ g, S g → w'.heap[g]? = w.heap[g]?) (hS : ∀ g, S g → S' g) : PcV w' S' v p := by
  obtain ⟨A1, c1, A2, c2, e, hr⟩ := h
  exact ⟨A1, c1, A2, c2, e, hr.keep hk hS⟩
theorem PcV.size {v : Array Value} {p : PcL} (h : PcV w S v p) : v.toList.length = 18 := by
  obtain ⟨A1, c1, A2, c2, rfl, hr⟩ := h; rfl
theorem RepP.keep (hk : ∀ g, S g → w'.heap[g]? = w.heap[g]?) (hS : ∀ g, S g → S' g) : ∀ {vs : List (Array Value)} {ps : List PcL}, RepP w S vs ps → RepP w' S' vs ps
  | [], [], _ => trivial
  | v :: vs, p :: ps, h => ⟨h.1.keep hk hS, RepP.keep hk hS h.2⟩
  | [], _ :: _, h => h.elim
  | _ :: _, [], h => h.elim
theorem RepP.snoc {v : Array Value} {p : PcL} (hv : PcV w S v p) : ∀ {vs : List (Array Value)} {ps : List PcL}, RepP w S vs ps → RepP w S (vs ++ [v]) (ps ++ [p])
  | [], [], _ => ⟨hv, trivial⟩
  | _ :: _, _ :: _, h => ⟨h.1, RepP.snoc hv h.2⟩
  | [], _ :: _, h => h.elim
  | _ :: _, [], h => h.elim
theorem RepP.split {q : PcL} : ∀ {vs : List (Array Value)} {ps : List PcL}, RepP w S vs (ps ++ [q]) → ∃ vk vq, vs = vk ++ [vq] ∧ RepP w S vk ps ∧ PcV w S vq q
  | [], [], h => h.elim
  | [v], [], h => ⟨[], v, rfl, trivial, h.1⟩
  | _ :: _ :: _, [], h => h.2.elim
  | [], _ :: _, h => h.elim
  | v :: vs, p :: ps, h => by
    obtain ⟨vk, vq, rfl, h1, h2⟩ := RepP.split h.2
    exact ⟨v :: vk, vq, rfl, ⟨h.1, h1⟩, h2⟩
theorem RepP.flat : ∀ {vs : List (Array Value)} {ps : List PcL}, RepP w S vs ps → (vs.flatMap Array.toList).length = ps.length * 18
  | [], [], _ => rfl
  | v :: vs, p :: ps, h => by
    rw [List.flatMap_cons, List.length_append, h.1.size, RepP.flat h.2, List.length_cons]; omega
  | [], _ :: _, h => h.elim
  | _ :: _, [], h => h.elim
theorem RepP.at_ : ∀ {vs : List (Array Value)} {ps : List PcL}, RepP w S vs ps → ∀ (k : Nat) (hk : k < ps.length), ∃ v, PcV w S v ps[k] ∧ ∀ i, i < 18 → (vs.flatMap Array.toList)[k * 18 + i]? = v[i]?
  | [], [], _, k, hk => absurd hk (by simp)
  | v :: vs, p :: ps, h, 0, hk => ⟨v, h.1, fun i hi => by
      have hl := h.1.size
      rw [List.flatMap_cons, List.getElem?_append_left (by omega), Nat.zero_mul, Nat.zero_add, Array.getElem?_toList]⟩
  | v :: vs, p :: ps, h, k + 1, hk => by
    obtain ⟨u, hu, hc⟩ := RepP.at_ h.2 k (by simpa using hk)
    refine ⟨u, hu, fun i hi => ?_⟩
    have hl := h.1.size
    rw [List.flatMap_cons, List.getElem?_append_right (by omega), hl, show (k + 1) * 18 + i - 18 = k * 18 + i by omega]
    exact hc i hi
  | [], _ :: _, h, _, _ => h.elim
  | _ :: _, [], h, _, _ => h.elim
end
/-- Pieces in a row that the call owns; none of what is read of them lies in the row. -/
def PcOwn (w : World) (base : Nat) (v : Value) (ps : List PcL) : Prop :=
  ∃ (S : Nat → Prop) (vs : List (Array Value)), (∀ g, S g → base ≤ g ∧ g < w.heap.size ∧ v.ownBlock ≠ some g) ∧ RepP w S vs ps ∧ w.ownsRow base 34 18 v ps.length (vs.flatMap Array.toList)
section
variable {w w' : World} {base : Nat} {v : Value} {ps : List PcL}
theorem PcOwn.nil (w : World) (base : Nat) : PcOwn w base (.slice none 0 0) [] := ⟨fun _ => False, [], fun _ h => h.elim, trivial, World.ownsRow_nil _ _ _ _⟩
theorem PcOwn.below (h : PcOwn w base v ps) (hb : Below w.heap.size w w') : PcOwn w' base v ps := by
  obtain ⟨S, vs, hS, hk, ho⟩ := h
  exact ⟨S, vs, fun g hg => ⟨(hS g hg).1, Nat.lt_of_lt_of_le (hS g hg).2.1 hb.size, (hS g hg).2.2⟩, hk.keep (fun g hg => hb.block g (hS g hg).2.1) fun _ h => h, own_below ho hb⟩
theorem PcOwn.form {q : PcL} (h : PcOwn w base v (ps ++ [q])) : ∃ g cap, v = .slice (some ⟨g, 0, none⟩) (ps.length + 1) cap ∧ base ≤ g ∧ g < w.heap.size := by
  obtain ⟨S, vs, hS, hk, ho⟩ := h
  obtain ⟨g, cap, e, h1, h2⟩ := ho.form (by simp)
  exact ⟨g, cap, by rw [e, List.length_append]; rfl, h1, h2⟩
/-- What the last piece's cells hold. -/
theorem PcOwn.last {q : PcL} {g cap : Nat} (h : PcOwn w base (.slice (some ⟨g, 0, none⟩) (ps.length + 1) cap) (ps ++ [q])) : w.cell? ⟨g, ps.length * 18 + 16, none⟩ = some (.int .i64 q.bg) ∧ w.cell? ⟨g, ps.length * 18 + 17, none⟩ = some (.int .i64 q.nd) ∧ w.cell? ⟨g, ps.length * 18 + 2, none⟩ = some (.string q.inl.text) ∧ ∀ j, w.frozen? ⟨g, j, none⟩ = false := by
  obtain ⟨S, vs, hS, hk, ho⟩ := h
  obtain ⟨vk, vq, rfl, h1, A1, c1, A2, c2, rfl, h3⟩ := hk.split
  rw [List.length_append, List.length_singleton] at ho
  have hf := h1.flat
  have at_ : ∀ j, j < 18 → w.cell? ⟨g, ps.length * 18 + j, none⟩ = (pcC q A1 c1 A2 c2)[j]? := fun j hj => by
    rw [ho.cellAt _ (by omega), List.flatMap_append, List.getElem?_append_right (by omega), hf, show ps.length * 18 + j - ps.length * 18 = j by omega]
    simp [List.flatMap_cons]
  exact ⟨at_ 16 (by omega), at_ 17 (by omega), at_ 2 (by omega), ho.frozenAt⟩
/-- The last piece gets longer. -/
theorem PcOwn.join {q : PcL} {g cap : Nat} (h : PcOwn w base (.slice (some ⟨g, 0, none⟩) (ps.length + 1) cap) (ps ++ [q])) (e : Nat) (t : ByteArray) :
    PcOwn ((w.setCell ⟨g, ps.length * 18 + 17, none⟩ (.int .i64 e)).setCell ⟨g, ps.length * 18 + 2, none⟩ (.string t)) base (.slice (some ⟨g, 0, none⟩) (ps.length + 1) cap) (ps ++ [{ q with nd := e, inl := { q.inl with text := t } }]) := by
  obtain ⟨S, vs, hS, hk, ho⟩ := h
  obtain ⟨vk, vq, rfl, h1, A1, c1, A2, c2, rfl, h3⟩ := hk.split
  rw [List.length_append, List.length_singleton] at ho
  have hf := h1.flat
  have o1 := (ho.stored (ps.length * 18 + 17) (.int .i64 e)).1
  have o2 := (o1.stored (ps.length * 18 + 2) (.string t)).1
  have hne : ∀ k, S k → k ≠ g := fun k hk e => (hS k hk).2.2 (by rw [e]; rfl)
  have hkp : ∀ k, S k → ((w.setCell ⟨g, ps.length * 18 + 17, none⟩ (.int .i64 e)).setCell ⟨g, ps.length * 18 + 2, none⟩ (.string t)).heap[k]? = w.heap[k]? := fun k hk => (Below.heap_setCell _ ⟨g, _, none⟩ _ k (hne k hk)).trans (Below.heap_setCell _ ⟨g, _, none⟩ _ k (hne k hk))
  refine ⟨S, vk ++ [pcC { q with nd := e, inl := { q.inl with text := t } } A1 c1 A2 c2], fun k hk => ⟨(hS k hk).1, by simp [World.setCell]; exact (hS k hk).2.1, (hS k hk).2.2⟩, RepP.snoc ⟨A1, c1, A2, c2, rfl, ?_⟩ (h1.keep hkp fun _ h => h), ?_⟩
  · have h4 := InR.keep (x := q.inl) h3 hkp fun _ h => h
    exact ⟨h4.args, h4.cites⟩
  · rw [List.length_append, List.length_singleton]
    rw [List.flatMap_append, List.set_append_right _ _ (by omega), List.set_append_right _ _ (by omega), hf, show ps.length * 18 + 17 - ps.length * 18 = 17 by omega, show ps.length * 18 + 2 - ps.length * 18 = 2 by omega] at o2
    rw [List.flatMap_append]
    exact o2
/-- A piece more. -/
theorem PcOwn.push {W1 w2 : World} {p : PcL} {vp : Array Value} {g cap n : Nat} {xs : List Value} (hb : ∃ (S : Nat → Prop) (vs : List (Array Value)), (∀ g, S g → base ≤ g ∧ g < w.heap.size ∧ v.ownBlock ≠ some g) ∧ RepP w S vs ps ∧ xs = vs.flatMap Array.toList) (hbl : Below w.heap.size w W1) (hw : base ≤ w.heap.size)
    (hv : ∀ k, v.ownBlock = some k → k < w.heap.size) (hp : PcV W1 (Rg w.heap.size W1) vp p) (hn : n = ps.length + 1)
    (hown : w2.ownsRow base 34 18 (.slice (some ⟨g, 0, none⟩) n cap) n (xs ++ vp.toList))
    (hkeep : ∀ k, k < W1.heap.size → v.ownBlock ≠ some k → w2.heap[k]? = W1.heap[k]?) (hsz : W1.heap.size ≤ w2.heap.size) (hlies : v.ownBlock = some g ∨ W1.heap.size ≤ g) : PcOwn w2 base (.slice (some ⟨g, 0, none⟩) n cap) (ps ++ [p]) := by
  obtain ⟨S, vs, hS, hr, rfl⟩ := hb
  subst hn
  have h0 := hbl.size
  refine ⟨fun x => S x ∨ Rg w.heap.size W1 x, vs ++ [vp], ?_, ?_, ?_⟩
  · rintro x (hx | hx)
    · have h1 := hS x hx
      refine ⟨h1.1, by omega, fun e => ?_⟩
      obtain rfl : g = x := by simpa [Value.ownBlock] using e
      rcases hlies with hl | hl
      · exact h1.2.2 hl
      · omega
    · obtain ⟨h1, h2⟩ := hx
      refine ⟨by omega, by omega, fun e => ?_⟩
      obtain rfl : g = x := by simpa [Value.ownBlock] using e
      rcases hlies with hl | hl
      · have := hv _ hl; omega
      · omega
  · refine RepP.snoc (hp.keep (fun x hx => hkeep x hx.2 fun e => by have := hv _ e; have := hx.1; omega) fun _ h => .inr h) (hr.keep (fun x hx => ?_) fun _ h => .inl h)
    have h1 := hS x hx
    exact (hkeep x (by omega) h1.2.2).trans (hbl.block x h1.2.1)
  · rw [List.flatMap_append, List.length_append]
    simpa [List.flatMap_cons] using hown
end
end Go.Proofs.YtfnloonmeilhlaaGreatDoor
namespace Go.Pub
theorem scanF_end {s : ByteArray} {f i : Nat} {j : Bool} {acc : List PcL} (hi : s.size ≤ i) : scanF s f i j acc = acc := by
  cases f with
  | zero => rfl
  | succ f => unfold scanF; rw [if_neg (by omega)]
end Go.Pub
namespace Go.Pub
theorem covP_bg (p : PcL) : ∀ (l : List PcL) (a b : Nat), covP (l ++ [p]) a b → p.bg < b ∧ p.nd = b
  | [], a, b, h => by
    obtain ⟨h1, h2, h3⟩ := h
    have h4 : p.nd = b := h3
    omega
  | q :: l, a, b, h => covP_bg p l q.nd b h.2.2
theorem scanF_step {s : ByteArray} {f i : Nat} {j : Bool} {acc R : List PcL} {p : PcL} {pl : Bool} (h : scanF s f i j acc = R) (hf : s.size - i ≤ f) (hi : i < s.size) (hp : pieceA s i = (p, pl)) (hnd : i < p.nd) (x : List PcL) (hx : (if (pl && j) = true then joinP s acc p.nd else acc ++ [p]) = x) : ∃ f, scanF s f p.nd pl x = R ∧ s.size - p.nd ≤ f := by
  obtain ⟨g, rfl⟩ : ∃ g, f = g + 1 := ⟨f - 1, by omega⟩
  unfold scanF at h
  rw [if_pos hi] at h
  simp only [hp] at h
  exact ⟨g, by rw [← hx]; exact h, by omega⟩
end Go.Pub
namespace Go.Proofs.YtfnloonmeilhlaaGreatDoor
open Go.RowKit Go.Pub
/-- The pieces of a string, in new memory. -/
def ScanPost (s : ByteArray) (w : World) (e : Ending) (w' : World) : Prop :=
  Below w.heap.size w w' ∧ ∃ v, e = .returned v ∧ PcOwn w' w.heap.size v (scanP s)
structure ScW (s : ByteArray) (W1 : World) (i : Nat) (j : Bool) (acc : List PcL) (v : Value) (wr : World) : Prop where
  rest : ∃ f, scanF s f i j acc = scanP s ∧ s.size - i ≤ f
  ne : j = true → acc ≠ []
  len : acc.length ≤ i
  cov : covP acc 0 i
  own : PcOwn wr W1.heap.size v acc
  bel : Below W1.heap.size W1 wr
theorem ScW.start (s : ByteArray) (W1 : World) : ScW s W1 0 false [] (.slice none 0 0) W1 := ⟨⟨s.size, rfl, by omega⟩, by simp, Nat.le_refl _, rfl, PcOwn.nil _ _, Below.refl _ _⟩
theorem ScW.more {s : ByteArray} {W1 wr W2 w3 : World} {i g cap n : Nat} {j : Bool} {acc : List PcL} {v : Value} {p : PcL} {pl : Bool} {vp : Array Value} {xs : List Value} {t2 : Obj} (h : ScW s W1 i j acc v wr) (hi : i < s.size) (hp : pieceA s i = (p, pl)) (hj : (pl && j) = false)
    (q2 : Below wr.heap.size wr W2) (hv : PcV W2 (Rg wr.heap.size W2) vp p) (hx : ∃ (S : Nat → Prop) (vs : List (Array Value)), (∀ g, S g → W1.heap.size ≤ g ∧ g < wr.heap.size ∧ v.ownBlock ≠ some g) ∧ RepP wr S vs acc ∧ xs = vs.flatMap Array.toList) (hl : ∀ k, v.ownBlock = some k → W1.heap.size ≤ k ∧ k < wr.heap.size) (hn : n = acc.length + 1)
    (hown : w3.ownsRow W1.heap.size 34 18 (.slice (some ⟨g, 0, none⟩) n cap) n (xs ++ vp.toList)) (hg : (W2.alloc t2).grownBy w3 v.ownBlock) (hlies : v.ownBlock = some g ∨ g = W2.heap.size + 1) : ScW s W1 p.nd pl (acc ++ [p]) (.slice (some ⟨g, 0, none⟩) n cap) w3 := by
  obtain ⟨⟨f, h1, h2⟩, h3, h4, h5, h6, h7⟩ := h
  obtain ⟨b1, b2, b3⟩ := pieceA_bd s i hi
  rw [hp] at b1 b2 b3
  change p.bg = i at b1
  change i < p.nd at b2
  change p.nd ≤ s.size at b3
  have hz0 := h7.size
  have hz2 := q2.size
  have hz3 := hg.size
  simp at hz3
  have hk : ∀ k, k < W2.heap.size → v.ownBlock ≠ some k → w3.heap[k]? = W2.heap[k]? := fun k hk hne => (hg.block k (by simp; omega) fun e => hne e.symm).trans (Below.heap_alloc _ _ k hk)
  refine ⟨scanF_step h1 h2 hi hp b2 _ (by rw [hj]; rfl), fun _ => by simp, by simp; omega, covP_snoc p acc 0 i h5 b1 (by omega), ?_, ?_⟩
  · exact PcOwn.push hx q2 hz0 (fun k hk => (hl k hk).2) hv hn hown hk (by omega) (by
      rcases hlies with h | h
      · exact .inl h
      · exact .inr (by omega))
  · exact ((h7.trans (q2.mono hz0)).alloc (by omega) t2).grown hg (by simp; omega) fun k hk => (hl k hk).1
theorem ScW.drew {s : ByteArray} {W1 W : World} {i : Nat} {j : Bool} {acc : List PcL} {v : Value} (h : ScW s W1 i j acc v W) : ScW s W1 i j acc v W.drew :=
  ⟨h.rest, h.ne, h.len, h.cov, h.own.below (below_drewN (Below.refl _ _) 1), below_drewN h.bel 1⟩
theorem cell_off (V : World) {g j k : Nat} (h : j ≠ k) (v : Value) : (V.setCell ⟨g, j, none⟩ v).cell? ⟨g, k, none⟩ = V.cell? ⟨g, k, none⟩ := by
  apply World.cell?_setCell_other
  intro e
  injection e with _ e2 _
  exact h e2
set_option maxRecDepth 100000 in
theorem pc_fillO (p : PcL) (A1 : Option Addr) (c1 : Nat) (A2 : Option Addr) (c2 : Nat) : Instr.fill (fun i => some (i * 18, 18)) ((Array.range (1 * 18)).map ((Value.agg zPc).cells[· % (Value.agg zPc).cells.size]!)) [(0, .agg (pcC p A1 c1 A2 c2))] = some (pcC p A1 c1 A2 c2) := by kernel_rfl

/-- A slice of one piece is laid. -/
theorem wpList_pcSliceO {ops : Array Oper} {rest : List Oper} {o : Oper} {a : Act} {w : World} {Q : Exit → Act → World → Prop} (hg : o.guard = none) (x : Operand) (ho : o.op = .buildSlice 23 1 #[(0, x)])
    (p : PcL) (A1 : Option Addr) (c1 : Nat) (A2 : Option Addr) (c2 : Nat) (hx : a.eval x = .agg (pcC p A1 c1 A2 c2))
    (h : wpList Tryz.prog ops Q rest (a.put o.dst (.slice (some ⟨w.heap.size, 0, none⟩) 1 1)) (w.alloc (.cells (pcC p A1 c1 A2 c2) 34))) : wpList Tryz.prog ops Q (o :: rest) a w := by
  obtain ⟨i0, hi0, hz0, hz1, hz2⟩ := info_parts piece_info
  refine wpList_buildSlice hg 23 34 1 _ ho _ i0 (.agg zPc) Tryz.underlying23 hi0 hz0 (by rw [hz1]; decide) (by rw [hz1]; decide) ?_ h
  rw [hz1]
  have e : (#[((0 : Nat), x)].map fun (q : Nat × Operand) => (q.1, a.eval q.2)).toList = [(0, a.eval x)] := by simp
  rw [hx] at e
  show Instr.fill _ _ (#[((0 : Nat), x)].map fun (q : Nat × Operand) => (q.1, a.eval q.2)).toList = _
  rw [e]
  exact pc_fillO p A1 c1 A2 c2
set_option maxRecDepth 100000 in
set_option maxHeartbeats 4000000 in
theorem s_Scan (s : ByteArray) (m : Int) (w : World) (hs : s.size ≤ 1000000) (hm : w.cell? ⟨0, 0, none⟩ = some (.int .i64 m)) : Calls Tryz.prog 5 #[.string s] w (ScanPost s w) := by
  have h0w : 0 < w.heap.size := World.block_lt_of_cell? _ _ hm
  have HPs := Lib.hid fun W => s_Pieces s W hs
  obtain ⟨i0, hi0, hz0, hz1, hz2⟩ := info_parts piece_info
  have HBD := Lib.hid fun (i : Nat) (hi : i < s.size) => pieceA_bd s i hi
  go_enter Tryz.func5, Tryz.ntmps5
  go_wp2_with fail
  ((with_reducible refine (HPs.out _).mono ?_))
  rintro e W1 ⟨g, b1, b2, rfl, hg1, hgb, hrd, hbl⟩
  have HM : Hid (∀ i, i < s.size → ∀ W, Below W1.heap.size W1 W → Calls Tryz.prog 16 #[.int .i64 i, .pointer (some ⟨g, 0, none⟩)] W (PcPost (pieceA s i).1 (pieceA s i).2 W)) := Lib.hid fun i hi W hbW => s_next s i g b1 b2 m (Rg w.heap.size W1) W hs hi (hgb.below hbW hgb.lt) (hrd.keep (fun k hk => hbW.block k hk.2) fun k hk => hk) (fun k hk => Nat.lt_of_lt_of_le hk.2 hbW.size) ((hbW.cell (p := ⟨0, 0, none⟩) (Nat.lt_of_lt_of_le h0w hbl.size)).trans ((hbl.cell (p := ⟨0, 0, none⟩) h0w).trans hm))
  have HB1 := Lib.hid hbl
  have HZ1 := Lib.hid (ScW.start s W1)
  clear hgb hrd hbl hm h0w HPs hg1
  go_wp2_with fail
  go_loopw [3, 5, 6] (fun v3 v5 v6 wr => ∃ (i : Nat) (j : Bool) (acc : List PcL), v6 = .int .i64 i ∧ v5 = .bool j ∧ i ≤ s.size ∧ Hid (ScW s W1 i j acc v3 wr)) (fun _ _ v6 _ => s.size - (intOf v6).toNat)
  case atStart => exact ⟨0, false, [], rfl, rfl, Nat.zero_le _, HZ1⟩
  case round =>
    clear HZ1
    obtain ⟨i, j, acc, rfl, rfl, hi, HS⟩ := hrel
    by_cases hl : i < s.size
    · obtain ⟨hb1, hb2, hb3⟩ := HBD.out i hl
      have HNX := Lib.hid (HM.out i hl wr HS.out.bel)
      obtain ⟨p, pl, hP⟩ : ∃ p pl, pieceA s i = (p, pl) := ⟨_, _, rfl⟩
      rw [hP] at HNX hb1 hb2 hb3
      have HPQ := Lib.hid hP
      clear hP hb1
      obtain ⟨S, vs, hS, hr, ho⟩ := HS.out.own
      have hlen := HS.out.len
      obtain ⟨A, c, rfl⟩ := own_slice ho
      go_wp2_with fail
      ((with_reducible refine (HNX.out).mono ?_))
      rintro e W2 ⟨q2, A1, c1, A2, c2, rfl, hir⟩
      have HPV : Hid (PcV W2 (Rg wr.heap.size W2) (pcC p A1 c1 A2 c2) p) := Lib.hid ⟨A1, c1, A2, c2, rfl, hir⟩
      have hlt := ho.lt
      have HXS : Hid (∃ (S : Nat → Prop) (vs' : List (Array Value)), (∀ g, S g → W1.heap.size ≤ g ∧ g < wr.heap.size ∧ (Value.slice A acc.length c).ownBlock ≠ some g) ∧ RepP wr S vs' acc ∧ vs.flatMap Array.toList = vs'.flatMap Array.toList) := Lib.hid ⟨S, vs, hS, hr, rfl⟩
      have HLT := Lib.hid hlt
      have HOW := Lib.hid ho
      have Q0 := Lib.hid q2
      clear hS hr ho hir q2 hlt HNX
      go_upto_region 7 with (refine wpList_store_row rfl 34 (.tmp 7) _ rfl _ _ rfl rfl _ _ (Blk.new W2 34 _) pc_size (by rfl) (by simp [pcC, Value.oneCell']) ?_)
      have KB : Hid (Blk ((W2.alloc (.cells #[.int .i64 0, .int .i64 0, .string ⟨#[]⟩, .string ⟨#[]⟩, .string ⟨#[]⟩, .string ⟨#[]⟩, .slice none 0 0, .slice none 0 0, .slice none 0 0, .slice none 0 0, .slice none 0 0, .string ⟨#[]⟩, .int .i64 0, .bool false, .bool false, .bool false, .int .i64 0, .int .i64 0] 34)).setRow W2.heap.size (pcC p A1 c1 A2 c2)) W2.heap.size 34 (pcC p A1 c1 A2 c2)) := Lib.hid (row_blk (Blk.new W2 34 _) _)
      have KS : Hid (((W2.alloc (.cells #[.int .i64 0, .int .i64 0, .string ⟨#[]⟩, .string ⟨#[]⟩, .string ⟨#[]⟩, .string ⟨#[]⟩, .slice none 0 0, .slice none 0 0, .slice none 0 0, .slice none 0 0, .slice none 0 0, .string ⟨#[]⟩, .int .i64 0, .bool false, .bool false, .bool false, .int .i64 0, .int .i64 0] 34)).setRow W2.heap.size (pcC p A1 c1 A2 c2)).heap.size = W2.heap.size + 1) := Lib.hid (by rw [row_size, World.size_alloc])
      have K2 : Hid (Below W2.heap.size W2 ((W2.alloc (.cells #[.int .i64 0, .int .i64 0, .string ⟨#[]⟩, .string ⟨#[]⟩, .string ⟨#[]⟩, .string ⟨#[]⟩, .slice none 0 0, .slice none 0 0, .slice none 0 0, .slice none 0 0, .slice none 0 0, .string ⟨#[]⟩, .int .i64 0, .bool false, .bool false, .bool false, .int .i64 0, .int .i64 0] 34)).setRow W2.heap.size (pcC p A1 c1 A2 c2))) := Lib.hid (row_below ((Below.refl _ W2).alloc (Nat.le_refl _) _) (Nat.le_refl _) _)
      have KG : Hid (wr.heap.size ≤ W2.heap.size) := Lib.hid Q0.out.size
      generalize ((W2.alloc (.cells #[.int .i64 0, .int .i64 0, .string ⟨#[]⟩, .string ⟨#[]⟩, .string ⟨#[]⟩, .string ⟨#[]⟩, .slice none 0 0, .slice none 0 0, .slice none 0 0, .slice none 0 0, .slice none 0 0, .string ⟨#[]⟩, .int .i64 0, .bool false, .bool false, .bool false, .int .i64 0, .int .i64 0] 34)).setRow W2.heap.size (pcC p A1 c1 A2 c2)) = X at *
      have Q2 : Hid (Below wr.heap.size wr X) := Lib.hid (Q0.out.trans (K2.out.mono KG.out))
      replace HPV : Hid (PcV X (Rg wr.heap.size X) (pcC p A1 c1 A2 c2) p) := Lib.hid (HPV.out.keep (fun g hg => K2.out.block g hg.2) fun g hg => ⟨hg.1, Nat.lt_of_lt_of_le hg.2 K2.out.size⟩)
      have ho2 := own_below HOW.out Q2.out
      clear K2 Q0 HOW
      generalize W2.heap.size = gP at *
      clear W2
      by_cases hj : (pl && j) = true
      · obtain ⟨rfl, rfl⟩ : pl = true ∧ j = true := by simpa using hj
        clear ho2
        obtain ⟨k, q, rfl⟩ := snoc_of acc (HS.out.ne rfl)
        obtain ⟨hq1, hq2⟩ := covP_bg q k 0 i HS.out.cov
        have hO2 := HS.out.own.below Q2.out
        obtain ⟨gr, cap, he, hgr1, hgr2⟩ := hO2.form
        rw [he] at hO2 ⊢
        have HO2 := Lib.hid hO2
        have hX : Hid (Below W1.heap.size W1 X) := Lib.hid (HS.out.bel.trans (Q2.out.mono HS.out.bel.size))
        have hne : gr ≠ gP := by
          have hrow := HS.out.own.form
          obtain ⟨gr', cap', he', _, hlt'⟩ := hrow
          rw [he'] at he
          injection he with he1 _ _
          injection he1 with he1
          injection he1 with he1 _ _
          have := KG.out
          omega
        have HBX := KB
        have HGR := Lib.hid hgr1
        clear hj hO2 he HLT HXS HPV hgr1 hgr2 KB KG KS
        obtain ⟨x16, x17, x2, xf⟩ := HO2.out.last
        have f17 := xf (k.length * 18 + 17)
        have HFR := Lib.hid xf
        have xnd : X.cell? ⟨gP, 17, none⟩ = some (.int .i64 p.nd) := HBX.out.cell 17
        rw [List.length_append, List.length_singleton] at hlen
        clear xf
        go_upto_region 10 with fail
        have HO3 := Lib.hid (HO2.out.join p.nd (s.extract q.bg p.nd))
        have hX3 := Lib.hid (hX.out.setCell (p := ⟨gr, k.length * 18 + 17, none⟩) HGR.out (.int .i64 p.nd))
        have y16 : (X.setCell ⟨gr, k.length * 18 + 17, none⟩ (.int .i64 p.nd)).cell? ⟨gr, k.length * 18 + 16, none⟩ = some (.int .i64 q.bg) := by
          rw [cell_off _ (by omega)]; exact x16
        have y2 : (X.setCell ⟨gr, k.length * 18 + 17, none⟩ (.int .i64 p.nd)).cell? ⟨gr, k.length * 18 + 2, none⟩ = some (.string q.inl.text) := by
          rw [cell_off _ (by omega)]; exact x2
        have ynd : (X.setCell ⟨gr, k.length * 18 + 17, none⟩ (.int .i64 p.nd)).cell? ⟨gP, 17, none⟩ = some (.int .i64 p.nd) := by
          rw [World.cell?_setCell_far _ _ _ _ hne]; exact xnd
        have yf : (X.setCell ⟨gr, k.length * 18 + 17, none⟩ (.int .i64 p.nd)).frozen? ⟨gr, k.length * 18 + 2, none⟩ = false := by
          rw [World.frozen?_setCell]; exact HFR.out _
        clear x16 x2 x17 xnd f17 HO2 HBX hX HFR
        generalize X.setCell ⟨gr, k.length * 18 + 17, none⟩ (.int .i64 p.nd) = V at *
        have hbd1 : q.bg ≤ p.nd := by omega
        have z16 : (V.setCell ⟨gr, k.length * 18 + 2, none⟩ (.string (s.extract q.bg p.nd))).cell? ⟨gr, k.length * 18 + 16, none⟩ = some (.int .i64 q.bg) := by
          rw [cell_off _ (by omega)]; exact y16
        have znd : (V.setCell ⟨gr, k.length * 18 + 2, none⟩ (.string (s.extract q.bg p.nd))).cell? ⟨gP, 17, none⟩ = some (.int .i64 p.nd) := by
          rw [World.cell?_setCell_far _ _ _ _ hne]; exact ynd
        have HN : Hid (ScW s W1 p.nd true (k ++ [{ q with nd := p.nd, inl := { q.inl with text := s.extract q.bg p.nd } }]) (.slice (some ⟨gr, 0, none⟩) (k.length + 1) cap) (V.setCell ⟨gr, k.length * 18 + 2, none⟩ (.string (s.extract q.bg p.nd)))) := Lib.hid (by
          obtain ⟨⟨f, h1, h2⟩, h3, h4, h5, h6, h7⟩ := HS.out
          exact ⟨scanF_step h1 h2 hl HPQ.out hb2 _ (by rw [show (true && true) = true from rfl, if_pos rfl, joinP_snoc]), fun _ => by simp, by simp at h4 ⊢; omega, covP_last s q p.nd k 0 i h5 (by omega), HO3.out, hX3.out.setCell (p := ⟨gr, k.length * 18 + 2, none⟩) HGR.out _⟩)
        clear HS HPQ HO3 hX3 HGR
        refine wp_region_held_drew (S := fun W' => W'.cell? ⟨gr, k.length * 18 + 16, none⟩ = some (.int .i64 q.bg) ∧ W'.cell? ⟨gP, 17, none⟩ = some (.int .i64 p.nd)) (by kernel_rfl) ⟨y16, ynd⟩ (fun hHeld => ?_)
        refine tk 0 (.pointer (some ⟨gr, k.length * 18, none⟩)) rfl hHeld (fun W' hSw => ?_) ?_
        · go_simp
        refine tk 1 (.string s) rfl hHeld (fun W' hSw => ?_) ?_
        · go_simp
        refine tk 2 (.pointer (some ⟨gr, k.length * 18, none⟩)) rfl hHeld (fun W' hSw => ?_) ?_
        · go_simp
        refine tk 3 (.pointer (some ⟨gr, k.length * 18, none⟩)) rfl hHeld (fun W' hSw => ?_) ?_
        · go_simp
        refine tk 4 (.pointer (some ⟨gr, k.length * 18 + 16, none⟩)) rfl hHeld (fun W' hSw => ?_) ?_
        · go_simp
        refine tk 5 (.int .i64 q.bg) rfl hHeld (fun W' hSw => ?_) ?_
        · obtain ⟨h16, hnd⟩ := hSw
          go_simp
        refine tk 6 (.pointer (some ⟨gP, 17, none⟩)) rfl hHeld (fun W' hSw => ?_) ?_
        · go_simp
        refine tk 7 (.int .i64 p.nd) rfl hHeld (fun W' hSw => ?_) ?_
        · obtain ⟨h16, hnd⟩ := hSw
          go_simp
        refine tk 8 (.string (s.extract q.bg p.nd)) rfl hHeld (fun W' hSw => ?_) ?_
        · go_simp
        refine tk 9 (.pointer (some ⟨gr, k.length * 18, none⟩)) rfl hHeld (fun W' hSw => ?_) ?_
        · go_simp
        refine tk 10 (.pointer (some ⟨gr, k.length * 18 + 1, none⟩)) rfl hHeld (fun W' hSw => ?_) ?_
        · go_simp
        refine tk 11 (.pointer (some ⟨gr, k.length * 18 + 2, none⟩)) rfl hHeld (fun W' hSw => ?_) ?_
        · go_simp
        refine rd1 12 rfl (fun K hK => ?_)
        go_simp
        refine hK.out _ _ ⟨z16, znd⟩ (fun hHeld => ?_)
        clear hK K
        refine wpAnyH_done (by kernel_rfl) ?_ _
        go_wp2_with fail
        go_roundw
        case rel => exact ⟨p.nd, true, _, rfl, rfl, hb3, Lib.hid HN.out.drew⟩
        case measure => simp [intOf]; omega
      · have HJ : Hid ((pl && j) = false) := Lib.hid (by simpa using hj)
        have hzX : W1.heap.size ≤ X.heap.size := Nat.le_trans HS.out.bel.size Q2.out.size
        cases pl <;> cases j
        case true.true => exact absurd rfl hj
        all_goals
          clear hj
          go_wp2_with (first | (refine wpList_load_row rfl 34 (.tmp 7) rfl gP rfl 34 _ _ _ KB.out Tryz.underlying34 rfl pc_size ?_) | (refine wpList_pcSliceO rfl (.tmp 49) rfl p A1 c1 A2 c2 rfl ?_) | (at_builtin; refine wpList_append_lies _ rfl _ _ 23 rfl W1.heap.size 34 i0 _ 18 248 Tryz.underlying23 hi0 hz0 hz1 hz2 rfl (by decide) _ _ _ rfl (ho2.alloc _) ⟨X.heap.size, 0, none⟩ 1 1 (pcC p A1 c1 A2 c2).toList rfl rfl ?c1 ?c2 (by decide) ?c3 ?c4 ?c5 (X.heap.size + 1) ?c6 ?_))
          try case c1 => exact World.news_of_block (t := 34) (fr := (0, 0)) (cs := pcC p A1 c1 A2 c2) (heap_alloc_new X (.cells (pcC p A1 c1 A2 c2) 34))
          try case c2 => intro u hu; simp [pcC] at hu; rcases hu with rfl | rfl | rfl | rfl | rfl | rfl | rfl | rfl | rfl | rfl | rfl | rfl | rfl | rfl | rfl | rfl | rfl | rfl <;> rfl
          try case c3 => unfold maxLen; omega
          try case c4 => omega
          try case c5 => simp; omega
          try case c6 => simp
          intro g7 cap7 w3 hown3 hgrow hlies hlt3
          have xnd : w3.cell? ⟨gP, 17, none⟩ = some (.int .i64 p.nd) := ((KB.out.alloc (.cells (pcC p A1 c1 A2 c2) 34)).grown hgrow (fun e => by have := HLT.out _ e.symm; have := KG.out; omega)).cell 17
          have HN := Lib.hid (HS.out.more hl HPQ.out HJ.out Q2.out HPV.out HXS.out HLT.out rfl hown3 hgrow hlies)
          clear hown3 hgrow hlies ho2 HPV HXS HLT Q2 HS HPQ KB KG KS
          go_wp2_with fail
          go_roundw
          case rel => exact ⟨p.nd, _, acc ++ [p], rfl, rfl, hb3, HN⟩
          case measure => simp [intOf]; omega
    · obtain ⟨⟨f, h1, h2⟩, h3, h4, h5, h6, h7⟩ := HS.out
      have HE : Hid (PcOwn wr W1.heap.size _ (scanP s)) := Lib.hid (by rw [← h1, scanF_end (by omega)]; exact h6)
      have HB := Lib.hid (HB1.out.trans (h7.mono HB1.out.size))
      clear h1 h2 h3 h4 h5 h6 h7 HS
      go_wp2_with fail
      go_ret
      refine ⟨HB.out, _, rfl, ?_⟩
      obtain ⟨S, vs, hS, hk, ho⟩ := HE.out
      exact ⟨S, vs, fun g hg => ⟨Nat.le_trans HB1.out.size (hS g hg).1, (hS g hg).2⟩, hk, World.ownsRow.mono ho HB1.out.size⟩

end Go.Proofs.YtfnloonmeilhlaaGreatDoor
namespace Go.Pub
open Go.RowKit Go.WideShapes Go.ChangeShapes
section
variable {H : Type} {enc : TypeId × Value → H} {P : Program}
theorem post_of_below {f : Func} {s : ChangeSpec} {apart fresh handsOn again : Bool} {W W' : World} {args : Array Value} {v : Value} {ds gs : List (DataW H)} {before pa pv : List MemPlace}
    (hW : DataW.Whole enc P f.params.toList s.vars apart W args.toList ds gs before)
    (hres : ∀ (b : Nat) (sp : Nat → Bool) (hd : Bool), DataW.TrodAll enc P W' b sp hd f.resultTypes.toList (v.resultList f.resultTypes.size) (s.fn H (ds ++ gs)).results [])
    (hargs : ∀ sp : Nat → Bool, (∀ p ∈ before, sp p.block = true) → DataW.TrodAll enc P W' 0 sp true f.params.toList args.toList (s.fn H (ds ++ gs)).args pa)
    (hvars : ∀ sp : Nat → Bool, (∀ p ∈ before, sp p.block = true) → DataW.TrodVars enc P W' sp s.vars (s.fn H (ds ++ gs)).vars pv)
    (hps : before = pa ++ pv) (hb : Below W.heap.size W W')
    (hok : ∀ (j : Nat) (t : TypeId) (r : Value), f.resultTypes[j]? = some t → (v.resultList f.resultTypes.size)[j]? = some r → Value.okWide P W' .any 0 t r) :
    s.post enc P f apart fresh handsOn again W args v W' := by
  have hlt : ∀ p ∈ before, p.block < W.heap.size := fun p hp => hW.lt p hp
  have hold : ∀ p ∈ before, (fun b => decide (b < W.heap.size)) p.block = true := fun p hp => by simpa using hlt p hp
  refine ⟨ds, gs, before, [], pa, pv, hW, hres _ _ _, hargs _ hold, hvars _ hold, World.keptBut_mono (fun p hp => ⟨hp, ?_⟩) (hb.frame (· ∈ before)), fun _ => ?_⟩
  · rw [hps, List.mem_append] at hp
    exact Or.inr hp
  · obtain ⟨_, _, _, _, _, hz, hn⟩ := hW
    refine ⟨hok, _, _, ([] ++ pa) ++ pv, ⟨[] ++ pa, pv, trodAll_append (hargs _ (fun _ _ => rfl)) (hres _ _ _), hvars _ (fun _ _ => rfl), rfl, ?_, ?_⟩, ?_⟩
    · intro b off hp
      have hin : MemPlace.cell b off ∈ before := by rw [hps]; simpa using hp
      rw [hb.frozen (hlt _ hin)]
      exact hz b off hin
    · intro ha
      have := hn ha
      rw [hps] at this
      simpa using this
    · intro p hp _
      rw [hps]
      simpa using hp
end
end Go.Pub
