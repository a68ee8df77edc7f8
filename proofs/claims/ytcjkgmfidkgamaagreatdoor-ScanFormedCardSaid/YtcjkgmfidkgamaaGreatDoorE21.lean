/-
  Texts of the proof, put together (what this law reaches): ScAN, ScAP, ScAQ.
-/
import Derived.Test.YtcjkgmfidkgamaaGreatDoorE20
import Derived.Laws.OwnMore
import Derived.Test.YtcjkgmfidkgamaaGreatDoorE04
set_option linter.unusedVariables false
set_option linter.unusedSimpArgs false
namespace Go.Proofs.YtcjkgmfidkgamaaGreatDoor
open Go.RowKit Go.Pub
theorem piece_info : (Tryz.prog.info? 36).map (fun i => (i.zero, i.size, i.bytes)) = some (some (.agg zPc), 18, 248) := by kernel_rfl
/-- The cells of a piece, and what lies behind them. -/
def PcV (w : World) (S : Nat → Prop) (v : Array Value) (p : PcL) : Prop := ∃ A1 c1 A2 c2, v = pcC p A1 c1 A2 c2 ∧ InR w S p.inl A1 A2
def RepP (w : World) (S : Nat → Prop) : List (Array Value) → List PcL → Prop
  | [], [] => True
  | v :: vs, p :: ps => PcV w S v p ∧ RepP w S vs ps
  | _, _ => False
section
variable {w w' : World} {S S' : Nat → Prop}
theorem PcV.keep {v : Array Value} {p : PcL} (h : PcV w S v p) (hk : ∀ g, S g → w'.heap[g]? = w.heap[g]?) (hS : ∀ g, S g → S' g) : PcV w' S' v p := by
  obtain ⟨A1, c1, A2, c2, e, hr⟩ := h
  exact ⟨A1, c1, A2, c2, e, hr.keep hk hS⟩
theorem PcV.size {v : Array Value} {p : PcL} (h : PcV w S v p) : v.toList.length = 18 := by
  obtain ⟨A1, c1, A2, c2, rfl, hr⟩ := h; rfl
theorem RepP.keep (hk : ∀ g, S g → w'.heap[g]? = w.heap[g]?) (hS : ∀ g, S g → S' g) : ∀ {vs : List (Array Value)} {ps : List PcL}, RepP w S vs ps → RepP w' S' vs ps
  | [], [], _ => trivial
  | v :: vs, p :: ps, h => ⟨h.1.keep hk hS, RepP.keep hk hS h.2⟩
  | [], _ :: _, h => h.elim
  | _ :: _, [], h => h.elim
theorem RepP.snoc {v : Array Value} {p : PcL} (hv : PcV w S v p) : ∀ {vs : List (Array Value)} {ps : List PcL}, RepP w S vs ps → RepP w S (vs ++ [v]) (ps ++ [p])
  | [], [], _ => ⟨hv, trivial⟩
  | _ :: _, _ :: _, h => ⟨h.1, RepP.snoc hv h.2⟩
  | [], _ :: _, h => h.elim
  | _ :: _, [], h => h.elim
theorem RepP.split {q : PcL} : ∀ {vs : List (Array Value)} {ps : List PcL}, RepP w S vs (ps ++ [q]) → ∃ vk vq, vs = vk ++ [vq] ∧ RepP w S vk ps ∧ PcV w S vq q
  | [], [], h => h.elim
  | [v], [], h => ⟨[], v, rfl, trivial, h.1⟩
  | _ :: _ :: _, [], h => h.2.elim
  | [], _ :: _, h => h.elim
  | v :: vs, p :: ps, h => by
    obtain ⟨vk, vq, rfl, h1, h2⟩ := RepP.split h.2
    exact ⟨v :: vk, vq, rfl, ⟨h.1, h1⟩, h2⟩
theorem RepP.flat : ∀ {vs : List (Array Value)} {ps : List PcL}, RepP w S vs ps → (vs.flatMap Array.toList).length = ps.length * 18
  | [], [], _ => rfl
  | v :: vs, p :: ps, h => by
    rw [List.flatMap_cons, List.length_append, h.1.size, RepP.flat h.2, List.length_cons]; omega
  | [], _ :: _, h => h.elim
  | _ :: _, [], h => h.elim
theorem RepP.at_ : ∀ {vs : List (Array Value)} {ps : List PcL}, RepP w S vs ps → ∀ (k : Nat) (hk : k < ps.length), ∃ v, PcV w S v ps[k] ∧ ∀ i, i < 18 → (vs.flatMap Array.toList)[k * 18 + i]? = v[i]?
  | [], [], _, k, hk => absurd hk (by simp)
  | v :: vs, p :: ps, h, 0, hk => ⟨v, h.1, fun i hi => by
      have hl := h.1.size
      rw [List.flatMap_cons, List.getElem?_append_left (by omega), Nat.zero_mul, Nat.zero_add, Array.getElem?_toList]⟩
  | v :: vs, p :: ps, h, k + 1, hk => by
    obtain ⟨u, hu, hc⟩ := RepP.at_ h.2 k (by simpa using hk)
    refine ⟨u, hu, fun i hi => ?_⟩
    have hl := h.1.size
    rw [List.flatMap_cons, List.getElem?_append_right (by omega), hl, show (k + 1) * 18 + i - 18 = k * 18 + i by omega]
    exact hc i hi
  | [], _ :: _, h, _, _ => h.elim
  | _ :: _, [], h, _, _ => h.elim
end
/-- Pieces in a row that the call owns; none of what is read of them lies in the row. -/
def PcOwn (w : World) (base : Nat) (v : Value) (ps : List PcL) : Prop :=
  ∃ (S : Nat → Prop) (vs : List (Array Value)), (∀ g, S g → base ≤ g ∧ g < w.heap.size ∧ v.ownBlock ≠ some g) ∧ RepP w S vs ps ∧ w.ownsRow base 36 18 v ps.length (vs.flatMap Array.toList)
section
variable {w w' : World} {base : Nat} {v : Value} {ps : List PcL}
theorem PcOwn.nil (w : World) (base : Nat) : PcOwn w base (.slice none 0 0) [] := ⟨fun _ => False, [], fun _ h => h.elim, trivial, World.ownsRow_nil _ _ _ _⟩
theorem PcOwn.below (h : PcOwn w base v ps) (hb : Below w.heap.size w w') : PcOwn w' base v ps := by
  obtain ⟨S, vs, hS, hk, ho⟩ := h
  exact ⟨S, vs, fun g hg => ⟨(hS g hg).1, Nat.lt_of_lt_of_le (hS g hg).2.1 hb.size, (hS g hg).2.2⟩, hk.keep (fun g hg => hb.block g (hS g hg).2.1) fun _ h => h, own_below ho hb⟩
theorem PcOwn.form {q : PcL} (h : PcOwn w base v (ps ++ [q])) : ∃ g cap, v = .slice (some ⟨g, 0, none⟩) (ps.length + 1) cap ∧ base ≤ g ∧ g < w.heap.size := by
  obtain ⟨S, vs, hS, hk, ho⟩ := h
  obtain ⟨g, cap, e, h1, h2⟩ := ho.form (by simp)
  exact ⟨g, cap, by rw [e, List.length_append]; rfl, h1, h2⟩
/-- What the last piece's cells hold. -/
theorem PcOwn.last {q : PcL} {g cap : Nat} (h : PcOwn w base (.slice (some ⟨g, 0, none⟩) (ps.length + 1) cap) (ps ++ [q])) : w.cell? ⟨g, ps.length * 18 + 16, none⟩ = some (.int .i64 q.bg) ∧ w.cell? ⟨g, ps.length * 18 + 17, none⟩ = some (.int .i64 q.nd) ∧ w.cell? ⟨g, ps.length * 18 + 2, none⟩ = some (.string q.inl.text) ∧ ∀ j, w.frozen? ⟨g, j, none⟩ = false := by
  obtain ⟨S, vs, hS, hk, ho⟩ := h
  obtain ⟨vk, vq, rfl, h1, A1, c1, A2, c2, rfl, h3⟩ := hk.split
  rw [List.length_append, List.length_singleton] at ho
  have hf := h1.flat
  have at_ : ∀ j, j < 18 → w.cell? ⟨g, ps.length * 18 + j, none⟩ = (pcC q A1 c1 A2 c2)[j]? := fun j hj => by
    rw [ho.cellAt _ (by omega), List.flatMap_append, List.getElem?_append_right (by omega), hf, show ps.length * 18 + j - ps.length * 18 = j by omega]
    simp [List.flatMap_cons]
  exact ⟨at_ 16 (by omega), at_ 17 (by omega), at_ 2 (by omega), ho.frozenAt⟩
/-- The last piece gets longer. -/
theorem PcOwn.join {q : PcL} {g cap : Nat} (h : PcOwn w base (.slice (some ⟨g, 0, none⟩) (ps.length + 1) cap) (ps ++ [q])) (e : Nat) (t : ByteArray) :
    PcOwn ((w.setCell ⟨g, ps.length * 18 + 17, none⟩ (.int .i64 e)).setCell ⟨g, ps.length * 18 + 2, none⟩ (.string t)) base (.slice (some ⟨g, 0, none⟩) (ps.length + 1) cap) (ps ++ [{ q with nd := e, inl := { q.inl with text := t } }]) := by
  obtain ⟨S, vs, hS, hk, ho⟩ := h
  obtain ⟨vk, vq, rfl, h1, A1, c1, A2, c2, rfl, h3⟩ := hk.split
  rw [List.length_append, List.length_singleton] at ho
  have hf := h1.flat
  have o1 := (ho.stored (ps.length * 18 + 17) (.int .i64 e)).1
  have o2 := (o1.stored (ps.length * 18 + 2) (.string t)).1
  have hne : ∀ k, S k → k ≠ g := fun k hk e => (hS k hk).2.2 (by rw [e]; rfl)
  have hkp : ∀ k, S k → ((w.setCell ⟨g, ps.length * 18 + 17, none⟩ (.int .i64 e)).setCell ⟨g, ps.length * 18 + 2, none⟩ (.string t)).heap[k]? = w.heap[k]? := fun k hk => (Below.heap_setCell _ ⟨g, _, none⟩ _ k (hne k hk)).trans (Below.heap_setCell _ ⟨g, _, none⟩ _ k (hne k hk))
  refine ⟨S, vk ++ [pcC { q with nd := e, inl := { q.inl with text := t } } A1 c1 A2 c2], fun k hk => ⟨(hS k hk).1, by simp [World.setCell]; exact (hS k hk).2.1, (hS k hk).2.2⟩, RepP.snoc ⟨A1, c1, A2, c2, rfl, ?_⟩ (h1.keep hkp fun _ h => h), ?_⟩
  · have h4 := InR.keep (x := q.inl) h3 hkp fun _ h => h
    exact ⟨h4.args, h4.cites⟩
  · rw [List.length_append, List.length_singleton]
    rw [List.flatMap_append, List.set_append_right _ _ (by omega), List.set_append_right _ _ (by omega), hf, show ps.length * 18 + 17 - ps.length * 18 = 17 by omega, show ps.length * 18 + 2 - ps.length * 18 = 2 by omega] at o2
    rw [List.flatMap_append]
    exact o2
/-- A piece more. -/
theorem PcOwn.push {W1 w2 : World} {p : PcL} {vp : Array Value} {g cap n : Nat} {xs : List Value} (hb : ∃ (S : Nat → Prop) (vs : List (Array Value)), (∀ g, S g → base ≤ g ∧ g < w.heap.size ∧ v.ownBlock ≠ some g) ∧ RepP w S vs ps ∧ xs = vs.flatMap Array.toList) (hbl : Below w.heap.size w W1) (hw : base ≤ w.heap.size)
    (hv : ∀ k, v.ownBlock = some k → k < w.heap.size) (hp : PcV W1 (Rg w.heap.size W1) vp p) (hn : n = ps.length + 1)
    (hown : w2.ownsRow base 36 18 (.slice (some ⟨g, 0, none⟩) n cap) n (xs ++ vp.toList))
    (hkeep : ∀ k, k < W1.heap.size → v.ownBlock ≠ some k → w2.heap[k]? = W1.heap[k]?) (hsz : W1.heap.size ≤ w2.heap.size) (hlies : v.ownBlock = some g ∨ W1.heap.size ≤ g) : PcOwn w2 base (.slice (some ⟨g, 0, none⟩) n cap) (ps ++ [p]) := by
  obtain ⟨S, vs, hS, hr, rfl⟩ := hb
  subst hn
  have h0 := hbl.size
  refine ⟨fun x => S x ∨ Rg w.heap.size W1 x, vs ++ [vp], ?_, ?_, ?_⟩
  · rintro x (hx | hx)
    · have h1 := hS x hx
      refine ⟨h1.1, by omega, fun e => ?_⟩
      obtain rfl : g = x := by simpa [Value.ownBlock] using e
      rcases hlies with hl | hl
      · exact h1.2.2 hl
      · omega
    · obtain ⟨h1, h2⟩ := hx
      refine ⟨by omega, by omega, fun e => ?_⟩
      obtain rfl : g = x := by simpa [Value.ownBlock] using e
      rcases hlies with hl | hl
      · have := hv _ hl; omega
      · omega
  · refine RepP.snoc (hp.keep (fun x hx => hkeep x hx.2 fun e => by have := hv _ e; have := hx.1; omega) fun _ h => .inr h) (hr.keep (fun x hx => ?_) fun _ h => .inl h)
    have h1 := hS x hx
    exact (hkeep x (by omega) h1.2.2).trans (hbl.block x h1.2.1)
  · rw [List.flatMap_append, List.length_append]
    simpa [List.flatMap_cons] using hown
end
end Go.Proofs.YtcjkgmfidkgamaaGreatDoor
namespace Go.Pub
def pcNum (p : PcL) : List Nat := [p.kind, p.inl.kind, p.n, p.opn.toNat, p.clo.toNat, p.bg, p.nd]
def citBare (c : CitL) : List Nat := [c.bare.toNat]
set_option maxRecDepth 100000 in
theorem ex_s1 : (scanP ⟨#[97, 42]⟩).map pcNum = [[0, 1, 0, 0, 0, 0, 1], [1, 0, 1, 0, 1, 1, 2]] ∧ (scanP ⟨#[97, 42]⟩).map (fun p => p.inl.text) = [⟨#[97]⟩, ⟨#[]⟩] ∧ (scanP ⟨#[97, 42]⟩).map (fun p => p.ch) = [⟨#[]⟩, ⟨#[42]⟩] := by decide +kernel

set_option maxRecDepth 100000 in
theorem ex_s2 : (scanP ⟨#[91, 120, 93]⟩).map pcNum = [[2, 0, 0, 0, 0, 0, 1], [0, 1, 0, 0, 0, 1, 2], [3, 0, 0, 0, 0, 2, 3]] := by decide +kernel

set_option maxRecDepth 100000 in
theorem ex_s3 : (scanP ⟨#[97, 32, 10, 32, 98]⟩).map pcNum = [[0, 1, 0, 0, 0, 0, 1], [0, 2, 0, 0, 0, 1, 4], [0, 1, 0, 0, 0, 4, 5]] := by decide +kernel

set_option maxRecDepth 100000 in
theorem ex_s4 : (scanP ⟨#[126, 126, 126]⟩).map pcNum = [[0, 1, 0, 0, 0, 0, 3]] ∧ (scanP ⟨#[126, 126, 126]⟩).map (fun p => p.inl.text) = [⟨#[126, 126, 126]⟩] := by decide +kernel

set_option maxRecDepth 100000 in
theorem ex_c1 : (citesI ⟨#[115, 101, 101, 32, 64, 110, 103, 44, 32, 112, 46, 32, 51, 59, 32, 45, 64, 108, 105]⟩).map (List.map citBare) = some [[0], [1]] ∧ (citesI ⟨#[115, 101, 101, 32, 64, 110, 103, 44, 32, 112, 46, 32, 51, 59, 32, 45, 64, 108, 105]⟩).map (List.map fun c => [c.key, c.pre, c.suf]) = some [[⟨#[110, 103]⟩, ⟨#[115, 101, 101]⟩, ⟨#[44, 32, 112, 46, 32, 51]⟩], [⟨#[108, 105]⟩, ⟨#[]⟩, ⟨#[]⟩]] := by decide +kernel

set_option maxRecDepth 100000 in
theorem ex_c2 : (citesI ⟨#[97, 64, 98]⟩).isNone = true := by decide +kernel

set_option maxRecDepth 100000 in
theorem ex_f1 : flankL ⟨#[95]⟩ 97 98 = (false, false) := by decide +kernel

set_option maxRecDepth 100000 in
theorem ex_f2 : flankL ⟨#[42]⟩ 97 98 = (true, true) := by decide +kernel

end Go.Pub
namespace Go.Proofs.YtcjkgmfidkgamaaGreatDoor
open Go.RowKit Go.Pub
structure PcAt (w : World) (g o : Nat) (p : PcL) : Prop where
  kind : w.cell? ⟨g, o, none⟩ = some (.int .i64 p.kind)
  ik : w.cell? ⟨g, o + 1, none⟩ = some (.int .i64 p.inl.kind)
  text : w.cell? ⟨g, o + 2, none⟩ = some (.string p.inl.text)
  ch : w.cell? ⟨g, o + 11, none⟩ = some (.string p.ch)
  num : w.cell? ⟨g, o + 12, none⟩ = some (.int .i64 p.n)
  opn : w.cell? ⟨g, o + 13, none⟩ = some (.bool p.opn)
  clo : w.cell? ⟨g, o + 14, none⟩ = some (.bool p.clo)
  img : w.cell? ⟨g, o + 15, none⟩ = some (.bool p.img)
  bg : w.cell? ⟨g, o + 16, none⟩ = some (.int .i64 p.bg)
  nd : w.cell? ⟨g, o + 17, none⟩ = some (.int .i64 p.nd)
theorem PcOwn.shape {w : World} {base : Nat} {v : Value} {ps : List PcL} (h : PcOwn w base v ps) : ∃ A c, v = .slice A ps.length c := by
  obtain ⟨S, vs, hS, hk, ho⟩ := h
  exact own_slice ho
/-- The pieces at their places. -/
theorem PcOwn.look {w : World} {base : Nat} {A : Option Addr} {n c : Nat} {ps : List PcL} (h : PcOwn w base (.slice A n c) ps) (hn : 0 < ps.length) : ∃ g, A = some ⟨g, 0, none⟩ ∧ n = ps.length ∧ base ≤ g ∧ g < w.heap.size ∧ ∀ k (hk : k < ps.length), PcAt w g (k * 18) ps[k] := by
  obtain ⟨S, vs, hS, hr, ho⟩ := h
  obtain ⟨g, cap, e, h1, h2⟩ := ho.form hn
  injection e with e1 e2 e3
  subst e1 e2 e3
  refine ⟨g, rfl, rfl, h1, h2, fun k hk => ?_⟩
  obtain ⟨v, ⟨A1, c1, A2, c2, rfl, _⟩, hat⟩ := hr.at_ k hk
  have cell : ∀ i, i < 18 → w.cell? ⟨g, k * 18 + i, none⟩ = (pcC ps[k] A1 c1 A2 c2)[i]? := fun i hi => (ho.cellAt _ (by omega)).trans (hat i hi)
  exact ⟨cell 0 (by omega), cell 1 (by omega), cell 2 (by omega), cell 11 (by omega), cell 12 (by omega), cell 13 (by omega), cell 14 (by omega), cell 15 (by omega), cell 16 (by omega), cell 17 (by omega)⟩
set_option maxRecDepth 100000 in
set_option maxHeartbeats 1000000 in
/-- One piece, with that text, from the start to n. -/
theorem s_one {w : World} {base : Nat} {v : Value} {p : PcL} (k n : Nat) (t : ByteArray) (h : PcOwn w base v [p]) (h1 : p.kind = 0) (h2 : p.inl.kind = k) (h3 : p.inl.text = t) (h4 : p.bg = 0) (h5 : p.nd = n) :
    Calls Tryz.prog 19 #[v, .int .i64 k, .string t, .int .i64 n] w fun e w' => e = .returned (.bool true) ∧ w = w' := by
  obtain ⟨A, c, rfl⟩ := h.shape
  obtain ⟨g, rfl, hl, _, _, hat⟩ := h.look (by simp)
  obtain ⟨c0, c1, c2, _, _, _, _, _, c16, c17⟩ := hat 0 (by simp)
  simp only [List.getElem_cons_zero, h1, h2, h3, h4, h5, Nat.zero_mul, Nat.zero_add] at c0 c1 c2 c16 c17
  have e1 : ([p] : List PcL).length = 1 := rfl
  rw [e1]
  clear h hat hl h1 h2 h3 h4 h5
  have z0 : (((0 : Nat) : Int) == 0) = true := rfl
  have zk : ((k : Int) == (k : Int)) = true := beq_self_eq_true _
  have zt : (t.toList == t.toList) = true := beq_self_eq_true _
  go_enter Tryz.func19, Tryz.ntmps19
  go_wp2_with fail
  go_ret
  exact ⟨rfl, rfl⟩

end Go.Proofs.YtcjkgmfidkgamaaGreatDoor
