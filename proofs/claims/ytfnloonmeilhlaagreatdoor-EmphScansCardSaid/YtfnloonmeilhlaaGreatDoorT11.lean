/-
  Texts of the proof, put together (what this law reaches): EmF, EmG, EmH, EmJ.
-/
import Derived.Test.YtfnloonmeilhlaaGreatDoorT09
import Derived.Test.YtfnloonmeilhlaaGreatDoorT10
import Derived.Deep.MidRow
import Derived.Great.BuildSlice
import Derived.Deep.RegionHeld3
import Derived.Deep.WholeRow
import Derived.Deep.QuietTactic
set_option linter.unusedVariables false
set_option linter.unusedSimpArgs false
namespace Go.Proofs.YtfnloonmeilhlaaGreatDoor
open Go.RowKit Go.Pub
set_option maxRecDepth 100000 in
theorem elem_info : (Tryz.prog.info? 67).map (fun i => (i.zero, i.size, i.bytes)) = some (some (.agg #[.int .i64 0, .string ⟨#[]⟩, .string ⟨#[]⟩, .string ⟨#[]⟩, .string ⟨#[]⟩, .slice none 0 0, .slice none 0 0, .slice none 0 0, .slice none 0 0, .slice none 0 0, .bool false, .int .i64 0, .int .i64 0, .int .i64 0, .int .i64 0]), 15, 232) := by kernel_rfl

section
variable {w w' : World} {base p : Nat} {L vE vP : Value} {vO : Nat → Value} {S : Nat → Prop} {vs : List (Array Value)} {st : EmS}
theorem StC.set1 (h : StC w p L vE vO vP) (v : Value) : StC (w.setCell ⟨p, 1, none⟩ v) p L v vO vP := by
  obtain ⟨cs, hb, hs⟩ := h.blk
  have hb' := Blk.set_ hb 1 v
  have hc : ∀ j, w.cell? ⟨p, j, none⟩ = cs[j]? := fun j => Blk.cell hb j
  have hc' : ∀ j, (w.setCell ⟨p, 1, none⟩ v).cell? ⟨p, j, none⟩ = (cs.setIfInBounds 1 v)[j]? := fun j => Blk.cell hb' j
  refine ⟨⟨_, hb', by simpa using hs⟩, ?_, ?_, fun j hj => ?_, ?_⟩
  · rw [hc', Array.getElem?_setIfInBounds_ne (by omega), ← hc]; exact h.c0
  · rw [hc', Array.getElem?_setIfInBounds_self_of_lt (by omega)]
  · rw [hc', Array.getElem?_setIfInBounds_ne (by omega), ← hc]; exact h.cO j hj
  · rw [hc', Array.getElem?_setIfInBounds_ne (by omega), ← hc]; exact h.cP
theorem StC.setP (h : StC w p L vE vO vP) (v : Value) : StC (w.setCell ⟨p, 20, none⟩ v) p L vE vO v := by
  obtain ⟨cs, hb, hs⟩ := h.blk
  have hb' := Blk.set_ hb 20 v
  have hc : ∀ j, w.cell? ⟨p, j, none⟩ = cs[j]? := fun j => Blk.cell hb j
  have hc' : ∀ j, (w.setCell ⟨p, 20, none⟩ v).cell? ⟨p, j, none⟩ = (cs.setIfInBounds 20 v)[j]? := fun j => Blk.cell hb' j
  refine ⟨⟨_, hb', by simpa using hs⟩, ?_, ?_, fun j hj => ?_, ?_⟩
  · rw [hc', Array.getElem?_setIfInBounds_ne (by omega), ← hc]; exact h.c0
  · rw [hc', Array.getElem?_setIfInBounds_ne (by omega), ← hc]; exact h.c1
  · rw [hc', Array.getElem?_setIfInBounds_ne (by omega), ← hc]; exact h.cO j hj
  · rw [hc', Array.getElem?_setIfInBounds_self_of_lt (by omega)]
theorem StC.setO (h : StC w p L vE vO vP) (k : Nat) (hk : k < 18) (v : Value) : StC (w.setCell ⟨p, 2 + k, none⟩ v) p L vE (fun j => if j = k then v else vO j) vP := by
  obtain ⟨cs, hb, hs⟩ := h.blk
  have hb' := Blk.set_ hb (2 + k) v
  have hc : ∀ j, w.cell? ⟨p, j, none⟩ = cs[j]? := fun j => Blk.cell hb j
  have hc' : ∀ j, (w.setCell ⟨p, 2 + k, none⟩ v).cell? ⟨p, j, none⟩ = (cs.setIfInBounds (2 + k) v)[j]? := fun j => Blk.cell hb' j
  refine ⟨⟨_, hb', by simpa using hs⟩, ?_, ?_, fun j hj => ?_, ?_⟩
  · rw [hc', Array.getElem?_setIfInBounds_ne (by omega), ← hc]; exact h.c0
  · rw [hc', Array.getElem?_setIfInBounds_ne (by omega), ← hc]; exact h.c1
  · by_cases hjk : j = k
    · subst hjk; rw [if_pos rfl, hc', Array.getElem?_setIfInBounds_self_of_lt (by omega)]
    · rw [if_neg hjk, hc', Array.getElem?_setIfInBounds_ne (by omega), ← hc]; exact h.cO j hj
  · rw [hc', Array.getElem?_setIfInBounds_ne (by omega), ← hc]; exact h.cP
/-- An element more in the row. -/
theorem EmR.pushE {w2 : World} {v : Array Value} {e : ElL} {g cap H : Nat} (h : EmR w base p L vE vO vP S vs st) (hbase : base ≤ w.heap.size) (hv : RepE w S v e)
    (hown : w2.ownsRow base 67 15 (.slice (some ⟨g, 0, none⟩) (st.xs.length + 1) cap) (st.xs.length + 1) (vs.flatMap Array.toList ++ v.toList)) (hgrow : w.grownBy w2 vE.ownBlock) (hlies : vE.ownBlock = some g ∨ g = H) (hH : w.heap.size ≤ H) :
    EmR (w2.setCell ⟨p, 1, none⟩ (.slice (some ⟨g, 0, none⟩) (st.xs.length + 1) cap)) base p L (.slice (some ⟨g, 0, none⟩) (st.xs.length + 1) cap) vO vP S (vs ++ [v]) { st with xs := st.xs ++ [e] } ∧
      Below base w (w2.setCell ⟨p, 1, none⟩ (.slice (some ⟨g, 0, none⟩) (st.xs.length + 1) cap)) ∧ ∀ k, S k → (w2.setCell ⟨p, 1, none⟩ (.slice (some ⟨g, 0, none⟩) (st.xs.length + 1) cap)).heap[k]? = w.heap[k]? := by
  have hpl := h.cel.lt
  obtain ⟨cs, hbk, _⟩ := h.cel.blk
  have hEp : vE.ownBlock ≠ some p := own_blk h.els hbk (by decide)
  have hcel : StC w2 p L vE vO vP := h.cel.keep (hgrow.block p hpl (fun e => hEp e.symm))
  have hrows : ∀ k, S k → (w2.setCell ⟨p, 1, none⟩ (.slice (some ⟨g, 0, none⟩) (st.xs.length + 1) cap)).heap[k]? = w.heap[k]? := fun k hk => by
    obtain ⟨n1, n2, -⟩ := h.notS hk
    exact (Below.heap_setCell w2 ⟨p, 1, none⟩ _ k n1).trans (hgrow.block k (h.fro k hk).1 (fun e => n2 e.symm))
  obtain ⟨cs2, hbk2, _⟩ := hcel.blk
  have hkeepO : ∀ {n s : Nat} {t : TypeId} {u : Value} {x : List Value}, w.ownsRow base t s u n x → t ≠ 67 → t ≠ 57 → (w2.setCell ⟨p, 1, none⟩ (.slice (some ⟨g, 0, none⟩) (st.xs.length + 1) cap)).ownsRow base t s u n x := fun ho h1 h2 => by
    have a1 := ho.kept hgrow (own_apart ho h.els h1)
    have hne := own_blk a1 hbk2 h2
    exact a1.kept (row := some p) ⟨rfl, rfl, rfl, by simp [World.setCell], fun k _ hk => Below.heap_setCell w2 ⟨p, 1, none⟩ _ k (fun e => hk (by rw [e]))⟩ (.inr hne)
  have hgp : g ≠ p := fun e => own_blk hown hbk2 (by decide) (by rw [e]; rfl)
  have hbg : Below base w w2 := ⟨hgrow.os, hgrow.tape, hgrow.output, hgrow.size, fun k hk => hgrow.block k (by omega) (fun e => by have := (h.els.lt k e.symm).1; omega)⟩
  refine ⟨⟨h.bp, hcel.set1 _, ?_, ?_, fun j hj => hkeepO (h.ops j hj) (by decide) (by decide), hkeepO h.prs (by decide) (by decide), h.apart, h.low, fun k hk => ⟨?_, fun hbk => ?_⟩⟩, hbg.setCell (p := ⟨p, 1, none⟩) h.bp _, hrows⟩
  · show World.ownsRow _ _ _ _ _ (st.xs ++ [e]).length _
    rw [List.length_append, List.length_singleton, List.flatMap_append]
    have e2 : [v].flatMap Array.toList = v.toList := by simp
    rw [e2]
    exact hown.kept (row := some p) ⟨rfl, rfl, rfl, by simp [World.setCell], fun k _ hk => Below.heap_setCell w2 ⟨p, 1, none⟩ _ k (fun e => hk (by rw [e]))⟩ (.inr (fun e => hgp (by simpa [Value.ownBlock] using e)))
  · exact (h.rep.snoc hv).keep hrows fun _ h => h
  · have := (h.fro k hk).1
    have := hgrow.size
    simp [World.setCell]; omega
  · obtain ⟨n1, n2, n3, n4⟩ := h.notS hk
    refine ⟨n1, fun e => ?_, n3, n4⟩
    have e' : g = k := by simpa [Value.ownBlock] using e
    subst e'
    rcases hlies with hl | hl
    · exact n2 hl
    · have := (h.fro g hk).1; omega
end
end Go.Proofs.YtfnloonmeilhlaaGreatDoor
namespace Go.Proofs.YtfnloonmeilhlaaGreatDoor
open Go.RowKit Go.Pub
def InsPost (base p : Nat) (L : Value) (vO : Nat → Value) (vP : Value) (S : Nat → Prop) (st st' : EmS) (w : World) (e : Ending) (w' : World) : Prop :=
  ∃ vE' vs', e = .returned (.int .i64 (st.xs.length : Nat)) ∧ EmR w' base p L vE' vO vP S vs' st' ∧ Below base w w' ∧ ∀ q, S q → w'.heap[q]? = w.heap[q]?
section
variable {w w' : World} {base p g n cap : Nat} {L vP : Value} {vO : Nat → Value} {S : Nat → Prop} {vs : List (Array Value)} {st : EmS}
/-- The cells of an element. -/
theorem EmR.at_ (h : EmR w base p L (.slice (some ⟨g, 0, none⟩) n cap) vO vP S vs st) (i : Nat) (hi : i < st.xs.length) :
    w.cell? ⟨g, i * 15 + 11, none⟩ = some (.int .i64 (elX st.xs i).pc) ∧ w.cell? ⟨g, i * 15 + 12, none⟩ = some (.int .i64 (elX st.xs i).left) ∧
      w.cell? ⟨g, i * 15 + 13, none⟩ = some (.int .i64 (bf st.xs i)) ∧ w.cell? ⟨g, i * 15 + 14, none⟩ = some (.int .i64 (nx st.xs i)) := by
  obtain ⟨g', cap', e, -, -, -, -, h1⟩ := h.row (by omega)
  injection e with e e2 e3
  injection e with e
  injection e with e
  subst e
  obtain ⟨v, hv, -, hc⟩ := h1 i hi
  obtain ⟨c0, c1, c2, c3, c4⟩ := hv.cells
  exact ⟨(hc 11 (by decide)).trans c1, (hc 12 (by decide)).trans c2, (hc 13 (by decide)).trans c3, (hc 14 (by decide)).trans c4⟩
theorem own_len {base m size n c : Nat} {a : Addr} {e : TypeId} {xs : List Value} (h : w.ownsRow base e size (.slice (some a) n c) m xs) : n = m := by
  rcases h.2 with ⟨e, _⟩ | ⟨g', cap', cur, e, _⟩
  · injection e with e; cases e
  · injection e
theorem EmR.frE (h : EmR w base p L (.slice (some ⟨g, 0, none⟩) n cap) vO vP S vs st) (j : Nat) : w.frozen? ⟨g, j, none⟩ = false := by
  have he := own_len h.els
  subst he
  exact h.els.frozenAt j
theorem EmR.stE (h : EmR w base p L (.slice (some ⟨g, 0, none⟩) n cap) vO vP S vs st) (i j : Nat) (u : Value) (e : ElL) (hi : i < st.xs.length) (hj : j < 15)
    (he : ∀ v, RepE w S v (elX st.xs i) → RepE w S (v.setIfInBounds j u) e) :
    (∃ vs', EmR (w.setCell ⟨g, i * 15 + j, none⟩ u) base p L (.slice (some ⟨g, 0, none⟩) n cap) vO vP S vs' { st with xs := st.xs.set i e }) ∧ Below base w (w.setCell ⟨g, i * 15 + j, none⟩ u) ∧ ∀ q, S q → (w.setCell ⟨g, i * 15 + j, none⟩ u).heap[q]? = w.heap[q]? := by
  have hl := own_len h.els
  subst hl
  obtain ⟨h1, h2⟩ := h.storeE rfl i j hi hj u e he
  exact ⟨⟨_, h1⟩, h2, fun q hq => Below.heap_setCell w ⟨g, i * 15 + j, none⟩ u q (by
    have := (h.notS hq).2.1
    exact fun e => this (by rw [e]; rfl))⟩
theorem EmR.stN (h : EmR w base p L (.slice (some ⟨g, 0, none⟩) n cap) vO vP S vs st) (i b : Nat) (hi : i < st.xs.length) :
    (∃ vs', EmR (w.setCell ⟨g, i * 15 + 14, none⟩ (.int .i64 b)) base p L (.slice (some ⟨g, 0, none⟩) n cap) vO vP S vs' { st with xs := setN st.xs i b }) ∧ Below base w (w.setCell ⟨g, i * 15 + 14, none⟩ (.int .i64 b)) ∧ ∀ q, S q → (w.setCell ⟨g, i * 15 + 14, none⟩ (.int .i64 b)).heap[q]? = w.heap[q]? :=
  h.stE i 14 _ _ hi (by decide) fun v hv => hv.setN b
theorem EmR.stB (h : EmR w base p L (.slice (some ⟨g, 0, none⟩) n cap) vO vP S vs st) (i b : Nat) (hi : i < st.xs.length) :
    (∃ vs', EmR (w.setCell ⟨g, i * 15 + 13, none⟩ (.int .i64 b)) base p L (.slice (some ⟨g, 0, none⟩) n cap) vO vP S vs' { st with xs := setBf st.xs i b }) ∧ Below base w (w.setCell ⟨g, i * 15 + 13, none⟩ (.int .i64 b)) ∧ ∀ q, S q → (w.setCell ⟨g, i * 15 + 13, none⟩ (.int .i64 b)).heap[q]? = w.heap[q]? :=
  h.stE i 13 _ _ hi (by decide) fun v hv => hv.setBf b
theorem EmR.stL (h : EmR w base p L (.slice (some ⟨g, 0, none⟩) n cap) vO vP S vs st) (i b : Nat) (hi : i < st.xs.length) :
    (∃ vs', EmR (w.setCell ⟨g, i * 15 + 12, none⟩ (.int .i64 b)) base p L (.slice (some ⟨g, 0, none⟩) n cap) vO vP S vs' { st with xs := setLf st.xs i b }) ∧ Below base w (w.setCell ⟨g, i * 15 + 12, none⟩ (.int .i64 b)) ∧ ∀ q, S q → (w.setCell ⟨g, i * 15 + 12, none⟩ (.int .i64 b)).heap[q]? = w.heap[q]? :=
  h.stE i 12 _ _ hi (by decide) fun v hv => hv.setLf b
theorem EmR.ne (h : EmR w base p L (.slice (some ⟨g, 0, none⟩) n cap) vO vP S vs st) : g ≠ p := by
  obtain ⟨cs, hb, _⟩ := h.cel.blk
  exact fun e => own_blk h.els hb (by decide) (by rw [e]; rfl)
theorem EmR.drew (h : EmR w base p L (.slice (some ⟨g, 0, none⟩) n cap) vO vP S vs st) : EmR w.drew base p L (.slice (some ⟨g, 0, none⟩) n cap) vO vP S vs st := h.below (Below.refl _ w).drew
end
set_option maxRecDepth 100000 in
theorem elem_fill (x0 x1 x2 x3 x4 x5 x6 x7 x8 x9 x10 x11 x12 x13 x14 : Value) : Instr.fill (fun i => some (i * 15, 15)) ((Array.range (1 * 15)).map ((Value.agg #[.int .i64 0, .string ⟨#[]⟩, .string ⟨#[]⟩, .string ⟨#[]⟩, .string ⟨#[]⟩, .slice none 0 0, .slice none 0 0, .slice none 0 0, .slice none 0 0, .slice none 0 0, .bool false, .int .i64 0, .int .i64 0, .int .i64 0, .int .i64 0]).cells[· % (Value.agg #[.int .i64 0, .string ⟨#[]⟩, .string ⟨#[]⟩, .string ⟨#[]⟩, .string ⟨#[]⟩, .slice none 0 0, .slice none 0 0, .slice none 0 0, .slice none 0 0, .slice none 0 0, .bool false, .int .i64 0, .int .i64 0, .int .i64 0, .int .i64 0]).cells.size]!)) [(0, .agg #[x0, x1, x2, x3, x4, x5, x6, x7, x8, x9, x10, x11, x12, x13, x14])] = some #[x0, x1, x2, x3, x4, x5, x6, x7, x8, x9, x10, x11, x12, x13, x14] := by kernel_rfl

theorem elem_size : (Tryz.prog.info? 67).map (·.size) = some 15 := by
  obtain ⟨i0, hi0, hz0, hz1, hz2⟩ := info_parts elem_info
  rw [hi0]; show some i0.size = _; rw [hz1]
/-- A slice of one element is laid. -/
theorem wp_elSlice {o : Oper} {a : Act} {w : World} {K : Act → World → Prop} {Q : Exit → Act → World → Prop} (x : Operand) (ho : o.op = .buildSlice 51 1 #[(0, x)])
    (x0 x1 x2 x3 x4 x5 x6 x7 x8 x9 x10 x11 x12 x13 x14 : Value) (hx : a.eval x = .agg #[x0, x1, x2, x3, x4, x5, x6, x7, x8, x9, x10, x11, x12, x13, x14])
    (h : K (a.put o.dst (.slice (some ⟨w.heap.size, 0, none⟩) 1 1)) (w.alloc (.cells #[x0, x1, x2, x3, x4, x5, x6, x7, x8, x9, x10, x11, x12, x13, x14] 67))) : o.wp Tryz.prog a w K Q := by
  obtain ⟨i0, hi0, hz0, hz1, hz2⟩ := info_parts elem_info
  refine wp_buildSlice 51 67 1 _ ho _ i0 _ Tryz.underlying51 hi0 hz0 (by rw [hz1]; decide) (by rw [hz1]; decide) ?_ h
  rw [hz1]
  have e : (#[((0 : Nat), x)].map fun (q : Nat × Operand) => (q.1, a.eval q.2)).toList = [(0, a.eval x)] := by simp
  rw [hx] at e
  show Instr.fill _ _ (#[((0 : Nat), x)].map fun (q : Nat × Operand) => (q.1, a.eval q.2)).toList = _
  rw [e]
  exact elem_fill x0 x1 x2 x3 x4 x5 x6 x7 x8 x9 x10 x11 x12 x13 x14
/-- The same at a step of a region that draws. -/
theorem step_elSlice {ops : Array Oper} {o : Oper} {a : Act} {w : World} {K : Act → World → Prop} {Q : Exit → Act → World → Prop} {E : Prop} (hgd : o.guard = none) (x : Operand) (ho : o.op = .buildSlice 51 1 #[(0, x)])
    (x0 x1 x2 x3 x4 x5 x6 x7 x8 x9 x10 x11 x12 x13 x14 : Value) (hx : a.eval x = .agg #[x0, x1, x2, x3, x4, x5, x6, x7, x8, x9, x10, x11, x12, x13, x14])
    (h : K (a.put o.dst (.slice (some ⟨w.heap.size, 0, none⟩) 1 1)) (w.alloc (.cells #[x0, x1, x2, x3, x4, x5, x6, x7, x8, x9, x10, x11, x12, x13, x14] 67))) :
    if Region.wanted o (yielded ops a.tmps) = true then Oper.wp Tryz.prog o a w K Q else E := by
  have hw : Region.wanted o (yielded ops a.tmps) = true := by simp [Region.wanted, hgd]
  rw [if_pos hw]
  exact wp_elSlice x ho x0 x1 x2 x3 x4 x5 x6 x7 x8 x9 x10 x11 x12 x13 x14 hx h
theorem range_block {w : World} {b : Nat} {cs : Array Value} {t : TypeId} (h : w.heap[b]? = some (.cells cs t (0, 0))) : w.rangeAt b 0 cs.toList := fun j v hj => by
  rw [Nat.zero_add, cell_of_row w b j cs t (0, 0) h]
  simpa using hj
set_option maxRecDepth 100000 in
set_option maxHeartbeats 4000000 in
theorem e_insert {base p : Nat} {L vE vP : Value} {vO : Nat → Value} {S : Nat → Prop} {vs : List (Array Value)} {st : EmS} (w : World) (h : EmR w base p L vE vO vP S vs st) (hbase : base ≤ w.heap.size)
    (x0 x1 x2 x3 x4 x5 x6 x7 x8 x9 : Value) (t : InT) (run : Bool) (pc left b0 n0 k : Nat) (hr : RepI w S #[x0, x1, x2, x3, x4, x5, x6, x7, x8, x9] t)
    (hk : k < st.xs.length) (hb : bf st.xs k ≤ st.xs.length) (hl : st.xs.length ≤ 1000000000) (e0 : ElL) (he0 : e0 = { t := t, run := run, pc := pc, left := left, before := b0, next := n0 }) :
    Calls Tryz.prog 19 #[.pointer (some ⟨p, 0, none⟩), .agg #[x0, x1, x2, x3, x4, x5, x6, x7, x8, x9, .bool run, .int .i64 pc, .int .i64 left, .int .i64 b0, .int .i64 n0], .int .i64 k] w
      (InsPost base p L vO vP S st { st with xs := insX st.xs e0 k } w) := by
  obtain ⟨i0, hi0, hz0, hz1, hz2⟩ := info_parts elem_info
  obtain ⟨g, cap, rfl, hbg, hgl, hgp, hfr, hrows⟩ := h.row (by omega)
  have c1 : w.cell? ⟨p, 1, none⟩ = some (.slice (some ⟨g, 0, none⟩) st.xs.length cap) := h.cel.c1
  have hpl := h.cel.lt
  obtain ⟨v, hv, -, hvc⟩ := hrows k hk
  have ck : w.cell? ⟨g, k * 15 + 13, none⟩ = some (.int .i64 (bf st.xs k)) := (hvc 13 (by decide)).trans hv.cells.2.2.2.1
  have hkn : (k : Int) < (st.xs.length : Int) := by omega
  generalize hbk : bf st.xs k = b at *
  have HH := Lib.hid h
  have HR := Lib.hid hr
  have HB := Lib.hid hbk
  have HE0 := Lib.hid he0
  clear h hr hrows hv hvc hfr hbk he0
  go_enter Tryz.func19, Tryz.ntmps19
  go_wp2_with fail
  have HM : Hid (EmR (w.alloc (.cells #[x0, x1, x2, x3, x4, x5, x6, x7, x8, x9, .bool run, .int .i64 pc, .int .i64 left, .int .i64 b, .int .i64 k] 67)) base p L (.slice (some ⟨g, 0, none⟩) st.xs.length cap) vO vP S vs st ∧ Below w.heap.size w (w.alloc (.cells #[x0, x1, x2, x3, x4, x5, x6, x7, x8, x9, .bool run, .int .i64 pc, .int .i64 left, .int .i64 b, .int .i64 k] 67))) := Lib.hid (by
    have hb : Below w.heap.size w (w.alloc (.cells #[x0, x1, x2, x3, x4, x5, x6, x7, x8, x9, .bool run, .int .i64 pc, .int .i64 left, .int .i64 b, .int .i64 k] 67)) := (Below.refl _ w).alloc (Nat.le_refl _) _
    exact ⟨HH.out.below hb, hb⟩)
  have xS : (w.alloc (.cells #[x0, x1, x2, x3, x4, x5, x6, x7, x8, x9, .bool run, .int .i64 pc, .int .i64 left, .int .i64 b, .int .i64 k] 67)).heap[w.heap.size]? = some (.cells #[x0, x1, x2, x3, x4, x5, x6, x7, x8, x9, .bool run, .int .i64 pc, .int .i64 left, .int .i64 b, .int .i64 k] 67 (0, 0)) := heap_alloc_new w _
  have hsz0 : (w.alloc (.cells #[x0, x1, x2, x3, x4, x5, x6, x7, x8, x9, .bool run, .int .i64 pc, .int .i64 left, .int .i64 b, .int .i64 k] 67)).heap.size = w.heap.size + 1 := World.size_alloc _ _
  have hsz1 := Nat.le_of_eq hsz0
  have hsz2 := Nat.le_of_eq hsz0.symm
  clear hsz0
  generalize w.alloc (.cells #[x0, x1, x2, x3, x4, x5, x6, x7, x8, x9, .bool run, .int .i64 pc, .int .i64 left, .int .i64 b, .int .i64 k] 67) = W1 at *
  have k1 : W1.cell? ⟨p, 1, none⟩ = some (.slice (some ⟨g, 0, none⟩) st.xs.length cap) := HM.out.1.cel.c1
  have f1 := HM.out.1.cel.frozen 1
  have hpl1 : p < W1.heap.size := by omega
  have HO : Hid (∀ u ∈ [x0, x1, x2, x3, x4, x5, x6, x7, x8, x9, .bool run, .int .i64 pc, .int .i64 left, .int .i64 b, .int .i64 k], u.oneCell' = true) := Lib.hid (fun u hu => by
    have h10 := HR.out.one
    simp only [List.mem_cons, List.not_mem_nil, or_false] at hu h10
    rcases hu with rfl | rfl | rfl | rfl | rfl | rfl | rfl | rfl | rfl | rfl | rfl | rfl | rfl | rfl | rfl
    all_goals first | rfl | exact h10 _ (by simp))
  have k2' : (W1.drew.alloc (.cells #[x0, x1, x2, x3, x4, x5, x6, x7, x8, x9, .bool run, .int .i64 pc, .int .i64 left, .int .i64 b, .int .i64 k] 67)).cell? ⟨p, 1, none⟩ = some (.slice (some ⟨g, 0, none⟩) st.xs.length cap) := (World.cell?_alloc_lt W1 _ ⟨p, 1, none⟩ hpl1).trans k1
  have HFZ : Hid (∀ w2, (W1.drew.alloc (.cells #[x0, x1, x2, x3, x4, x5, x6, x7, x8, x9, .bool run, .int .i64 pc, .int .i64 left, .int .i64 b, .int .i64 k] 67)).grownBy w2 (Value.slice (some ⟨g, 0, none⟩) st.xs.length cap).ownBlock → w2.frozen? ⟨p, 1, none⟩ = false) := Lib.hid fun w2 hg =>
    (World.frozen?_of_block (hg.block p (by show p < (W1.drew.alloc _).heap.size; rw [World.size_alloc]; show p < W1.heap.size + 1; omega) (fun e => hgp (by simpa [Value.ownBlock] using e.symm)))).trans ((World.frozen?_of_block (Below.heap_alloc W1.drew _ p hpl1)).trans f1)
  have HBG : Hid (∀ w2, (W1.drew.alloc (.cells #[x0, x1, x2, x3, x4, x5, x6, x7, x8, x9, .bool run, .int .i64 pc, .int .i64 left, .int .i64 b, .int .i64 k] 67)).grownBy w2 (Value.slice (some ⟨g, 0, none⟩) st.xs.length cap).ownBlock → w2.heap[w.heap.size]? = some (.cells #[x0, x1, x2, x3, x4, x5, x6, x7, x8, x9, .bool run, .int .i64 pc, .int .i64 left, .int .i64 b, .int .i64 k] 67 (0, 0))) := Lib.hid fun w2 hg =>
    (hg.block w.heap.size (by show w.heap.size < (W1.drew.alloc _).heap.size; rw [World.size_alloc]; show w.heap.size < W1.heap.size + 1; omega) (fun e => absurd (show g = w.heap.size by simpa [Value.ownBlock] using e.symm) (by omega))).trans ((Below.heap_alloc W1.drew _ _ (by show w.heap.size < W1.heap.size; omega)).trans xS)
  have HPU : Hid (∀ w2 g2 cap2, w2.ownsRow base 67 15 (.slice (some ⟨g2, 0, none⟩) (st.xs.length + 1) cap2) (st.xs.length + 1) (vs.flatMap Array.toList ++ [x0, x1, x2, x3, x4, x5, x6, x7, x8, x9, .bool run, .int .i64 pc, .int .i64 left, .int .i64 b, .int .i64 k]) →
      (W1.drew.alloc (.cells #[x0, x1, x2, x3, x4, x5, x6, x7, x8, x9, .bool run, .int .i64 pc, .int .i64 left, .int .i64 b, .int .i64 k] 67)).grownBy w2 (Value.slice (some ⟨g, 0, none⟩) st.xs.length cap).ownBlock → ((Value.slice (some ⟨g, 0, none⟩) st.xs.length cap).ownBlock = some g2 ∨ g2 = W1.heap.size + 1) →
      EmR (w2.setCell ⟨p, 1, none⟩ (.slice (some ⟨g2, 0, none⟩) (st.xs.length + 1) cap2)) base p L (.slice (some ⟨g2, 0, none⟩) (st.xs.length + 1) cap2) vO vP S (vs ++ [#[x0, x1, x2, x3, x4, x5, x6, x7, x8, x9, .bool run, .int .i64 pc, .int .i64 left, .int .i64 b, .int .i64 k]]) { st with xs := st.xs ++ [{ e0 with before := b, next := k }] } ∧
        Below base w (w2.setCell ⟨p, 1, none⟩ (.slice (some ⟨g2, 0, none⟩) (st.xs.length + 1) cap2)) ∧ ∀ q, S q → (w2.setCell ⟨p, 1, none⟩ (.slice (some ⟨g2, 0, none⟩) (st.xs.length + 1) cap2)).heap[q]? = w.heap[q]?) := Lib.hid fun w2 g2 cap2 hown hgrow hlies => by
    have hal : Below W1.heap.size W1 (W1.drew.alloc (.cells #[x0, x1, x2, x3, x4, x5, x6, x7, x8, x9, .bool run, .int .i64 pc, .int .i64 left, .int .i64 b, .int .i64 k] 67)) := (Below.refl _ W1).drew.alloc (Nat.le_refl _) _
    have h2 := HM.out.1.below hal
    have hR2 : RepI (W1.drew.alloc (.cells #[x0, x1, x2, x3, x4, x5, x6, x7, x8, x9, .bool run, .int .i64 pc, .int .i64 left, .int .i64 b, .int .i64 k] 67)) S #[x0, x1, x2, x3, x4, x5, x6, x7, x8, x9] t :=
      HR.out.keep (fun q hq => (hal.block q (by have := (HH.out.fro q hq).1; omega)).trans (HM.out.2.block q (HH.out.fro q hq).1)) fun _ h => h
    have := h2.pushE (H := W1.heap.size + 1) (v := #[x0, x1, x2, x3, x4, x5, x6, x7, x8, x9, .bool run, .int .i64 pc, .int .i64 left, .int .i64 b, .int .i64 k]) (e := { e0 with before := b, next := k }) (by rw [World.size_alloc]; show base ≤ W1.heap.size + 1; omega) ⟨_, by rw [HE0.out]; exact hR2, by rw [HE0.out]; rfl⟩ hown hgrow hlies (by rw [World.size_alloc]; exact Nat.le_refl _)
    exact ⟨this.1, (HM.out.2.mono hbase).trans ((hal.mono (by omega)).trans this.2.1), fun q hq => (this.2.2 q hq).trans ((hal.block q (by have := (HH.out.fro q hq).1; omega)).trans (HM.out.2.block q (HH.out.fro q hq).1))⟩
  refine wp_region_held_drew (S := fun W' => W'.heap[w.heap.size]? = some (.cells #[x0, x1, x2, x3, x4, x5, x6, x7, x8, x9, .bool run, .int .i64 pc, .int .i64 left, .int .i64 b, .int .i64 k] 67 (0, 0))) (by kernel_rfl) xS (fun hHeld => ?_)
  refine tk 0 (.pointer (some ⟨p, 0, none⟩)) rfl hHeld (fun W' hSw => ?_) ?_
  · go_simp
  refine tk 1 (.pointer (some ⟨p, 0, none⟩)) rfl hHeld (fun W' hSw => ?_) ?_
  · go_simp
  refine tk 2 (.pointer (some ⟨p, 0, none⟩)) rfl hHeld (fun W' hSw => ?_) ?_
  · go_simp
  refine tk 3 (.pointer (some ⟨p, 1, none⟩)) rfl hHeld (fun W' hSw => ?_) ?_
  · go_simp
  refine wpAnyH_take (i := 5) (v := .agg #[x0, x1, x2, x3, x4, x5, x6, x7, x8, x9, .bool run, .int .i64 pc, .int .i64 left, .int .i64 b, .int .i64 k]) rfl (by kernel_rfl) (by kernel_rfl) (by kernel_rfl) (fun _ _ _ h => h) (yieldsIf_load_mid (by kernel_rfl) 67 (.tmp 4) rfl w.heap.size 0 rfl [x0, x1, x2, x3, x4, x5, x6, x7, x8, x9, .bool run, .int .i64 pc, .int .i64 left, .int .i64 b, .int .i64 k] _ (fun W' hSw => range_block hSw) Tryz.underlying67 rfl elem_size) hHeld ?_
  refine wpAnyH_ready (rs := [4, 6]) (by kernel_rfl) (by simp) (AllReadyH.cons rfl (fun K hK => ?_) (AllReadyH.cons rfl (fun K hK => ?_) AllReadyH.nil))
  go_simp
  refine hK.out _ _ xS (fun hHeld => ?_)
  clear hK K
  refine rd1 6 rfl (fun K hK => ?_)
  refine step_elSlice rfl (.tmp 29) rfl x0 x1 x2 x3 x4 x5 x6 x7 x8 x9 (.bool run) (.int .i64 pc) (.int .i64 left) (.int .i64 b) (.int .i64 k) rfl ?_
  have xS2 : (W1.drew.alloc (.cells #[x0, x1, x2, x3, x4, x5, x6, x7, x8, x9, .bool run, .int .i64 pc, .int .i64 left, .int .i64 b, .int .i64 k] 67)).heap[w.heap.size]? = some (.cells #[x0, x1, x2, x3, x4, x5, x6, x7, x8, x9, .bool run, .int .i64 pc, .int .i64 left, .int .i64 b, .int .i64 k] 67 (0, 0)) := (Below.heap_alloc W1.drew _ _ (by show w.heap.size < W1.heap.size; omega)).trans xS
  refine hK.out _ _ xS2 (fun hHeld => ?_)
  clear hK K
  refine rd1 7 rfl (fun K hK => ?_)
  refine step_append_lies _ rfl (.tmp 28) (.tmp 30) 51 rfl base 67 i0 _ 15 232 Tryz.underlying51 hi0 hz0 hz1 hz2 rfl (by decide) _ _ _ rfl (HM.out.1.els.alloc _) ⟨W1.heap.size, 0, none⟩ 1 1 [x0, x1, x2, x3, x4, x5, x6, x7, x8, x9, .bool run, .int .i64 pc, .int .i64 left, .int .i64 b, .int .i64 k] rfl rfl ?c1 ?c2 (by decide) ?c3 ?c4 ?c5 (W1.heap.size + 1) ?c6 ?_
  case c1 => exact World.news_of_block (t := 67) (fr := (0, 0)) (cs := #[x0, x1, x2, x3, x4, x5, x6, x7, x8, x9, .bool run, .int .i64 pc, .int .i64 left, .int .i64 b, .int .i64 k]) (heap_alloc_new W1.drew _)
  case c2 => exact HO.out
  case c3 => unfold maxLen; omega
  case c4 => omega
  case c5 => simp; omega
  case c6 => simp
  intro g2 cap2 w2 hown hgrow0 hlies hlt2
  have hgrow : (W1.drew.alloc (.cells #[x0, x1, x2, x3, x4, x5, x6, x7, x8, x9, .bool run, .int .i64 pc, .int .i64 left, .int .i64 b, .int .i64 k] 67)).grownBy w2 (Value.slice (some ⟨g, 0, none⟩) st.xs.length cap).ownBlock := hgrow0
  clear hgrow0
  have hpush := HPU.out _ g2 cap2 hown hgrow hlies
  have q1 : w2.cell? ⟨p, 1, none⟩ = some (.slice (some ⟨g, 0, none⟩) st.xs.length cap) := (hgrow.cell k2' (fun e => hgp (by simpa [Value.ownBlock] using e.symm)))
  have q2 : w2.frozen? ⟨p, 1, none⟩ = false := HFZ.out _ hgrow
  have hBg : w2.heap[w.heap.size]? = some (.cells #[x0, x1, x2, x3, x4, x5, x6, x7, x8, x9, .bool run, .int .i64 pc, .int .i64 left, .int .i64 b, .int .i64 k] 67 (0, 0)) := HBG.out _ hgrow
  have HPp := Lib.hid hpush
  clear hpush hown hgrow
  refine hK.out _ _ hBg (fun hHeld => ?_)
  clear hK K
  refine rd1 8 rfl (fun K hK => ?_)
  go_simp
  refine hK.out _ _ hBg (fun hHeld => ?_)
  clear hK K
  refine rd1 9 rfl (fun K hK => ?_)
  go_simp
  refine hK.out _ _ hBg (fun hHeld => ?_)
  clear hK K
  refine rd1 10 rfl (fun K hK => ?_)
  go_simp
  have hBs : (w2.setCell ⟨p, 1, none⟩ (.slice (some ⟨g2, 0, none⟩) (st.xs.length + 1) cap2)).heap[w.heap.size]? = some (.cells #[x0, x1, x2, x3, x4, x5, x6, x7, x8, x9, .bool run, .int .i64 pc, .int .i64 left, .int .i64 b, .int .i64 k] 67 (0, 0)) := (Below.heap_setCell w2 ⟨p, 1, none⟩ _ _ (by show w.heap.size ≠ p; omega)).trans hBg
  refine hK.out _ _ hBs (fun hHeld => ?_)
  clear hK K
  refine wpAnyH_done (by kernel_rfl) ?_ _
  rotate_left
  refine step_elSlice rfl (.tmp 29) rfl x0 x1 x2 x3 x4 x5 x6 x7 x8 x9 (.bool run) (.int .i64 pc) (.int .i64 left) (.int .i64 b) (.int .i64 k) rfl ?_
  have xS2 : (W1.drew.alloc (.cells #[x0, x1, x2, x3, x4, x5, x6, x7, x8, x9, .bool run, .int .i64 pc, .int .i64 left, .int .i64 b, .int .i64 k] 67)).heap[w.heap.size]? = some (.cells #[x0, x1, x2, x3, x4, x5, x6, x7, x8, x9, .bool run, .int .i64 pc, .int .i64 left, .int .i64 b, .int .i64 k] 67 (0, 0)) := (Below.heap_alloc W1.drew _ _ (by show w.heap.size < W1.heap.size; omega)).trans xS
  refine hK.out _ _ xS2 (fun hHeld => ?_)
  clear hK K
  refine rd1 4 rfl (fun K hK => ?_)
  have k2 := (World.cell?_alloc_lt W1 (.cells #[x0, x1, x2, x3, x4, x5, x6, x7, x8, x9, .bool run, .int .i64 pc, .int .i64 left, .int .i64 b, .int .i64 k] 67) ⟨p, 1, none⟩ hpl1).trans k1
  go_simp
  refine hK.out _ _ xS2 (fun hHeld => ?_)
  clear hK K
  refine rd1 7 rfl (fun K hK => ?_)
  refine step_append_lies _ rfl (.tmp 28) (.tmp 30) 51 rfl base 67 i0 _ 15 232 Tryz.underlying51 hi0 hz0 hz1 hz2 rfl (by decide) _ _ _ rfl (HM.out.1.els.alloc _) ⟨W1.heap.size, 0, none⟩ 1 1 [x0, x1, x2, x3, x4, x5, x6, x7, x8, x9, .bool run, .int .i64 pc, .int .i64 left, .int .i64 b, .int .i64 k] rfl rfl ?d1 ?d2 (by decide) ?d3 ?d4 ?d5 (W1.heap.size + 1) ?d6 ?_
  case d1 => exact World.news_of_block (t := 67) (fr := (0, 0)) (cs := #[x0, x1, x2, x3, x4, x5, x6, x7, x8, x9, .bool run, .int .i64 pc, .int .i64 left, .int .i64 b, .int .i64 k]) (heap_alloc_new W1.drew _)
  case d2 => exact HO.out
  case d3 => unfold maxLen; omega
  case d4 => omega
  case d5 => simp; omega
  case d6 => simp
  intro g2 cap2 w2 hown hgrow0 hlies hlt2
  have hgrow : (W1.drew.alloc (.cells #[x0, x1, x2, x3, x4, x5, x6, x7, x8, x9, .bool run, .int .i64 pc, .int .i64 left, .int .i64 b, .int .i64 k] 67)).grownBy w2 (Value.slice (some ⟨g, 0, none⟩) st.xs.length cap).ownBlock := hgrow0
  clear hgrow0
  have hpush := HPU.out _ g2 cap2 hown hgrow hlies
  have q1 : w2.cell? ⟨p, 1, none⟩ = some (.slice (some ⟨g, 0, none⟩) st.xs.length cap) := (hgrow.cell k2' (fun e => hgp (by simpa [Value.ownBlock] using e.symm)))
  have q2 : w2.frozen? ⟨p, 1, none⟩ = false := HFZ.out _ hgrow
  have hBg : w2.heap[w.heap.size]? = some (.cells #[x0, x1, x2, x3, x4, x5, x6, x7, x8, x9, .bool run, .int .i64 pc, .int .i64 left, .int .i64 b, .int .i64 k] 67 (0, 0)) := HBG.out _ hgrow
  have HPp := Lib.hid hpush
  clear hpush hown hgrow
  refine hK.out _ _ hBg (fun hHeld => ?_)
  clear hK K
  refine rd1 8 rfl (fun K hK => ?_)
  go_simp
  refine hK.out _ _ hBg (fun hHeld => ?_)
  clear hK K
  refine rd1 9 rfl (fun K hK => ?_)
  go_simp
  refine hK.out _ _ hBg (fun hHeld => ?_)
  clear hK K
  refine rd1 10 rfl (fun K hK => ?_)
  go_simp
  have hBs : (w2.setCell ⟨p, 1, none⟩ (.slice (some ⟨g2, 0, none⟩) (st.xs.length + 1) cap2)).heap[w.heap.size]? = some (.cells #[x0, x1, x2, x3, x4, x5, x6, x7, x8, x9, .bool run, .int .i64 pc, .int .i64 left, .int .i64 b, .int .i64 k] 67 (0, 0)) := (Below.heap_setCell w2 ⟨p, 1, none⟩ _ _ (by show w.heap.size ≠ p; omega)).trans hBg
  refine hK.out _ _ hBs (fun hHeld => ?_)
  clear hK K
  refine wpAnyH_done (by kernel_rfl) ?_ _
  all_goals
    have hg2 : g2 ≠ w.heap.size := by
      rcases hlies with hl | hl
      · have : g = g2 := by simpa [Value.ownBlock] using (show (Value.slice (some ⟨g, 0, none⟩) st.xs.length cap).ownBlock = some g2 from hl)
        omega
      · omega
    have hg2' := hg2.symm
    clear hlies
    obtain ⟨hEm, hBel, hKp⟩ := HPp.out
    have m2 : (w2.setCell ⟨p, 1, none⟩ (.slice (some ⟨g2, 0, none⟩) (st.xs.length + 1) cap2)).cell? ⟨w.heap.size, 13, none⟩ = some (.int .i64 b) := by rw [cell_of_row _ _ 13 _ _ _ hBs]; rfl
    clear HPp hBs hHeld hBg q1 q2 HBG HFZ HPU HM xS xS2 k1 k2' f1
    generalize w2.setCell ⟨p, 1, none⟩ (.slice (some ⟨g2, 0, none⟩) (st.xs.length + 1) cap2) = W3 at *
    have m1 := hEm.cel.c1
    have hlen : (st.xs ++ [{ e0 with before := b, next := k }]).length = st.xs.length + 1 := by simp
    obtain ⟨-, -, -, mb⟩ := hEm.at_ b (by rw [hlen]; omega)
    obtain ⟨-, -, mk, -⟩ := hEm.at_ k (by rw [hlen]; omega)
    have fz := hEm.frE
    have hne := hEm.ne
    have hne' := hne.symm
    have hbl : (b : Int) < (st.xs.length : Int) + 1 := by omega
    have hkl : (k : Int) < (st.xs.length : Int) + 1 := by omega
    have hb0 : (0 : Int) ≤ (b : Int) := by omega
    have hk0 : (0 : Int) ≤ (k : Int) := by omega
    have HEm := Lib.hid hEm
    have HBel := Lib.hid hBel
    have HKp := Lib.hid hKp
    clear hEm hBel hlen hKp
    go_wp2_with fail
    go_region_held3 (fun w' => w'.cell? ⟨p, 1, none⟩ = some (.slice (some ⟨g2, 0, none⟩) (st.xs.length + 1) cap2) ∧ w'.cell? ⟨w.heap.size, 13, none⟩ = some (.int .i64 b)) (go_keep) (fail)
    go_wp2_with fail
    go_ret
    obtain ⟨⟨v1, s1⟩, s2⟩ := HEm.out.drew.stN b st.xs.length (by simp; omega)
    obtain ⟨⟨v2, s3⟩, s4⟩ := s1.stB k st.xs.length (by show k < (setN _ _ _).length; rw [len_setN]; simp; omega)
    refine ⟨.slice (some ⟨g2, 0, none⟩) (st.xs.length + 1) cap2, v2, rfl, ?_, HBel.out.trans ((Below.refl base W3).drew.trans (s2.1.trans s4.1)), fun q hq => (s4.2 q hq).trans ((s2.2 q hq).trans (HKp.out q hq))⟩
    unfold insX
    have hb' : (elX st.xs k).before = b := HB.out
    rw [hb']
    exact s3

end Go.Proofs.YtfnloonmeilhlaaGreatDoor
namespace Go.Proofs.YtfnloonmeilhlaaGreatDoor
open Go.RowKit Go.Pub
theorem RepI.open_ {w : World} {S : Nat → Prop} {v : Array Value} {t : InT} (h : RepI w S v t) : ∃ x0 x1 x2 x3 x4 x5 x6 x7 x8 x9, v = #[x0, x1, x2, x3, x4, x5, x6, x7, x8, x9] := by
  cases h
  exact ⟨_, _, _, _, _, _, _, _, _, _, rfl⟩
section
variable {w w' : World} {base p g n cap : Nat} {L vP : Value} {vO : Nat → Value} {S : Nat → Prop} {vs : List (Array Value)} {st : EmS}
theorem EmR.cells15 (h : EmR w base p L (.slice (some ⟨g, 0, none⟩) n cap) vO vP S vs st) (i : Nat) (hi : i < st.xs.length) :
    ∃ x0 x1 x2 x3 x4 x5 x6 x7 x8 x9, RepI w S #[x0, x1, x2, x3, x4, x5, x6, x7, x8, x9] (elX st.xs i).t ∧
      w.rangeAt g (i * 15) [x0, x1, x2, x3, x4, x5, x6, x7, x8, x9, .bool (runX st.xs i), .int .i64 (pX st.xs i), .int .i64 (lfX st.xs i), .int .i64 (bf st.xs i), .int .i64 (nx st.xs i)] ∧
      (∀ u ∈ [x0, x1, x2, x3, x4, x5, x6, x7, x8, x9, .bool (runX st.xs i), .int .i64 (pX st.xs i), .int .i64 (lfX st.xs i), .int .i64 (bf st.xs i), .int .i64 (nx st.xs i)], u.oneCell' = true) := by
  obtain ⟨g', cap', e, -, -, -, -, h1⟩ := h.row (by omega)
  injection e with e e2 e3
  injection e with e
  injection e with e
  subst e
  obtain ⟨v, ⟨r, hr, rfl⟩, -, hc⟩ := h1 i hi
  obtain ⟨x0, x1, x2, x3, x4, x5, x6, x7, x8, x9, rfl⟩ := RepI.open_ hr
  refine ⟨x0, x1, x2, x3, x4, x5, x6, x7, x8, x9, hr, fun j u hj => ?_, fun u hu => ?_⟩
  · have hl : j < 15 := by
      have := (List.getElem?_eq_some_iff.1 hj).1
      simpa using this
    rw [hc j hl, ← hj]
    unfold elC
    rw [← Array.getElem?_toList]
    rfl
  · have h10 := hr.one
    simp only [List.mem_cons, List.not_mem_nil, or_false] at hu h10
    rcases hu with rfl | rfl | rfl | rfl | rfl | rfl | rfl | rfl | rfl | rfl | rfl | rfl | rfl | rfl | rfl
    all_goals first | rfl | exact h10 _ (by simp)
end
/-- The state has changed, its elements lie where they lay. -/
def UpdPost (base p : Nat) (L vE : Value) (vO : Nat → Value) (vP : Value) (S : Nat → Prop) (st' : EmS) (w : World) (e : Ending) (w' : World) : Prop :=
  ∃ vs', e = .returned (.tuple #[]) ∧ EmR w' base p L vE vO vP S vs' st' ∧ Below base w w' ∧ ∀ q, S q → w'.heap[q]? = w.heap[q]?
set_option maxRecDepth 100000 in
set_option maxHeartbeats 4000000 in
theorem e_remove {base p g n cap : Nat} {L vP : Value} {vO : Nat → Value} {S : Nat → Prop} {vs : List (Array Value)} {st : EmS} (w : World) (h : EmR w base p L (.slice (some ⟨g, 0, none⟩) n cap) vO vP S vs st) (hbase : base ≤ w.heap.size)
    (k : Nat) (hk : k < st.xs.length) (hb : bf st.xs k < st.xs.length) (hx : nx st.xs k < st.xs.length) :
    Calls Tryz.prog 66 #[.pointer (some ⟨p, 0, none⟩), .int .i64 k] w (UpdPost base p L (.slice (some ⟨g, 0, none⟩) n cap) vO vP S { st with xs := rmX st.xs k } w) := by
  have hn := own_len h.els
  subst hn
  obtain ⟨x0, x1, x2, x3, x4, x5, x6, x7, x8, x9, hr, hrg, h1⟩ := h.cells15 k hk
  have hgl := (h.els.lt g rfl).2
  have c1 : w.cell? ⟨p, 1, none⟩ = some (.slice (some ⟨g, 0, none⟩) st.xs.length cap) := h.cel.c1
  have hkn : (k : Int) < (st.xs.length : Int) := by omega
  have hbn : (bf st.xs k : Int) < (st.xs.length : Int) := by omega
  have hxn : (nx st.xs k : Int) < (st.xs.length : Int) := by omega
  have HE : Hid (rmX st.xs k = setBf (setN st.xs (bf st.xs k) (nx st.xs k)) (nx st.xs k) (bf st.xs k)) := Lib.hid rfl
  generalize hbk : bf st.xs k = b at *
  generalize hnk : nx st.xs k = m at *
  generalize runX st.xs k = q1 at *
  generalize pX st.xs k = q2 at *
  generalize lfX st.xs k = q3 at *
  have HH := Lib.hid h
  have HG := Lib.hid hrg
  have H1 := Lib.hid h1
  have hb0 : (0 : Int) ≤ (b : Int) := by omega
  have hm0 : (0 : Int) ≤ (m : Int) := by omega
  clear h hr hrg h1 hbk hnk
  go_enter Tryz.func66, Tryz.ntmps66
  go_wp2_with (first | (refine wpList_load_mid rfl 67 (.tmp 10) rfl g (k * 15) rfl _ _ HG.out Tryz.underlying67 rfl elem_size ?_) | (refine wpList_store_row rfl 67 (.tmp 4) (.tmp 11) rfl w.heap.size _ rfl rfl 67 _ (Blk.new _ _ _) elem_size (by rfl) (by simpa using H1.out) ?_; rw [World.setRow_alloc_new]))
  have hB1 : Below w.heap.size w (w.alloc (.cells #[x0, x1, x2, x3, x4, x5, x6, x7, x8, x9, .bool q1, .int .i64 q2, .int .i64 q3, .int .i64 b, .int .i64 m] 67)) := (Below.refl _ w).alloc (Nat.le_refl _) _
  have hK1 := Blk.new w 67 #[x0, x1, x2, x3, x4, x5, x6, x7, x8, x9, .bool q1, .int .i64 q2, .int .i64 q3, .int .i64 b, .int .i64 m]
  generalize w.alloc (.cells #[x0, x1, x2, x3, x4, x5, x6, x7, x8, x9, .bool q1, .int .i64 q2, .int .i64 q3, .int .i64 b, .int .i64 m] 67) = W1 at *
  have hE1 := HH.out.below hB1
  have HB1 := Lib.hid hB1
  have m1 := hE1.cel.c1
  have m2 : W1.cell? ⟨w.heap.size, 13, none⟩ = some (.int .i64 b) := hK1.cell 13
  have m3 : W1.cell? ⟨w.heap.size, 14, none⟩ = some (.int .i64 m) := hK1.cell 14
  obtain ⟨-, -, -, mb⟩ := hE1.at_ b (by omega)
  obtain ⟨-, -, mm, -⟩ := hE1.at_ m (by omega)
  have fz := hE1.frE
  have hne := hE1.ne
  have hne' := hne.symm
  have hgn : g ≠ w.heap.size := by omega
  have hgn' := hgn.symm
  have HE1 := Lib.hid hE1
  clear hE1 hB1 hK1 c1
  go_region_held3 (fun w' => w'.cell? ⟨p, 1, none⟩ = some (.slice (some ⟨g, 0, none⟩) st.xs.length cap) ∧ w'.cell? ⟨w.heap.size, 13, none⟩ = some (.int .i64 b) ∧ w'.cell? ⟨w.heap.size, 14, none⟩ = some (.int .i64 m)) (go_keep) (fail)
  go_wp2_with fail
  go_region_held3 (fun w' => w'.cell? ⟨p, 1, none⟩ = some (.slice (some ⟨g, 0, none⟩) st.xs.length cap) ∧ w'.cell? ⟨w.heap.size, 13, none⟩ = some (.int .i64 b) ∧ w'.cell? ⟨w.heap.size, 14, none⟩ = some (.int .i64 m)) (go_keep) (fail)
  go_wp2_with fail
  go_end0
  obtain ⟨⟨v1, s1⟩, s2⟩ := HE1.out.drew.stN b m (by omega)
  obtain ⟨⟨v2, s3⟩, s4⟩ := s1.drew.stB m b (by show m < (setN _ _ _).length; rw [len_setN]; omega)
  refine ⟨v2, rfl, ?_, (HB1.out.mono hbase).trans ((Below.refl base W1).drew.trans (s2.1.trans ((Below.refl base _).drew.trans s4.1))), fun q hq => (s4.2 q hq).trans ((s2.2 q hq).trans (HB1.out.block q (HH.out.fro q hq).1))⟩
  rw [HE.out]
  exact s3

end Go.Proofs.YtfnloonmeilhlaaGreatDoor
namespace Go.Pub
open Go.RowKit
/-- The cells of a piece. -/
def pcW (r : Array Value) (p : PcT) : Array Value := #[.int .i64 p.kind] ++ r ++ #[.string p.ch, .int .i64 p.n, .bool p.opn, .bool p.clo, .bool p.img, .int .i64 p.bg, .int .i64 p.nd]
def RepPc (w : World) (S : Nat → Prop) (v : Array Value) (p : PcT) : Prop := ∃ r, RepI w S r p.inl ∧ v = pcW r p
/-- Pieces that are read. -/
def PcsR (w : World) (S : Nat → Prop) (L : Value) (ps : List PcT) : Prop :=
  ∃ (A : Option Addr) (c : Nat) (vs : List (Array Value)), L = .slice A ps.length c ∧ vs.length = ps.length ∧ (∀ i, i < ps.length → RepPc w S (vs.getD i #[]) (pcX ps i)) ∧ ReadsS w S 18 A ps.length (vs.flatMap Array.toList)
section
variable {w w' : World} {S S' : Nat → Prop} {L : Value} {ps : List PcT}
theorem RepI.opn {w : World} {S : Nat → Prop} {v : Array Value} {t : InT} (h : RepI w S v t) : ∃ x0 x1 x2 x3 x4 x5 x6 x7 x8 x9, v = #[x0, x1, x2, x3, x4, x5, x6, x7, x8, x9] := by
  cases h
  exact ⟨_, _, _, _, _, _, _, _, _, _, rfl⟩
theorem RepPc.keep {v : Array Value} {p : PcT} (h : RepPc w S v p) (hk : ∀ g, S g → w'.heap[g]? = w.heap[g]?) (hS : ∀ g, S g → S' g) : RepPc w' S' v p := by
  obtain ⟨r, hr, e⟩ := h
  exact ⟨r, hr.keep hk hS, e⟩
theorem RepPc.size {v : Array Value} {p : PcT} (h : RepPc w S v p) : v.size = 18 := by
  obtain ⟨r, hr, rfl⟩ := h
  unfold pcW; simp [hr.size]
theorem PcsR.keep (h : PcsR w S L ps) (hk : ∀ g, S g → w'.heap[g]? = w.heap[g]?) (hS : ∀ g, S g → S' g) : PcsR w' S' L ps := by
  obtain ⟨A, c, vs, e, hl, hr, hm⟩ := h
  exact ⟨A, c, vs, e, hl, fun i hi => (hr i hi).keep hk hS, hm.keep hk hS⟩
set_option maxHeartbeats 2000000 in
theorem PcsR.opn (h : PcsR w S L ps) (hn : 0 < ps.length) : ∃ b off c, L = .slice (some ⟨b, off, none⟩) ps.length c ∧ S b ∧ ∀ i, i < ps.length → ∃ x0 x1 x2 x3 x4 x5 x6 x7 x8 x9, RepI w S #[x0, x1, x2, x3, x4, x5, x6, x7, x8, x9] (pcX ps i).inl ∧
    w.rangeAt b (off + i * 18) [.int .i64 (pcX ps i).kind, x0, x1, x2, x3, x4, x5, x6, x7, x8, x9, .string (pcX ps i).ch, .int .i64 (pcX ps i).n, .bool (pcX ps i).opn, .bool (pcX ps i).clo, .bool (pcX ps i).img, .int .i64 (pcX ps i).bg, .int .i64 (pcX ps i).nd] ∧
    (∀ u ∈ [Value.int .i64 (pcX ps i).kind, x0, x1, x2, x3, x4, x5, x6, x7, x8, x9, .string (pcX ps i).ch, .int .i64 (pcX ps i).n, .bool (pcX ps i).opn, .bool (pcX ps i).clo, .bool (pcX ps i).img, .int .i64 (pcX ps i).bg, .int .i64 (pcX ps i).nd], u.oneCell' = true) := by
  obtain ⟨A, c, vs, e, hl, hr, hm⟩ := h
  obtain ⟨b, off, rfl, hb, hc⟩ := hm.row hn (by decide)
  have hs : ∀ v ∈ vs, v.size = 18 := fun v hv => by
    obtain ⟨i, hi, rfl⟩ := List.mem_iff_getElem.1 hv
    have := (hr i (by omega)).size
    rwa [List.getD_eq_getElem?_getD, List.getElem?_eq_getElem hi] at this
  refine ⟨b, off, c, e, hb, fun i hi => ?_⟩
  obtain ⟨r, hri, he⟩ := hr i hi
  generalize pcX ps i = P at *
  clear hr hm
  obtain ⟨x0, x1, x2, x3, x4, x5, x6, x7, x8, x9, rfl⟩ := hri.opn
  refine ⟨x0, x1, x2, x3, x4, x5, x6, x7, x8, x9, hri, fun j u hj => ?_, fun u hu => ?_⟩
  · have hj18 : j < 18 := by
      have := (List.getElem?_eq_some_iff.1 hj).1
      simpa using this
    have h1 := flatz_get 18 vs hs i j (by omega) hj18
    rw [Nat.add_assoc]
    refine hc (i * 18 + j) u ?_
    rw [h1, he, ← hj]
    unfold pcW
    rw [← Array.getElem?_toList]
    rfl
  · have h10 := hri.one
    have hu' : u = .int .i64 P.kind ∨ u ∈ [x0, x1, x2, x3, x4, x5, x6, x7, x8, x9] ∨ u ∈ [Value.string P.ch, .int .i64 P.n, .bool P.opn, .bool P.clo, .bool P.img, .int .i64 P.bg, .int .i64 P.nd] := by
      rcases List.mem_cons.1 hu with hu | hu
      · exact .inl hu
      · exact .inr (List.mem_append.1 (show u ∈ [x0, x1, x2, x3, x4, x5, x6, x7, x8, x9] ++ [Value.string P.ch, .int .i64 P.n, .bool P.opn, .bool P.clo, .bool P.img, .int .i64 P.bg, .int .i64 P.nd] from hu))
    rcases hu' with rfl | hu' | hu'
    · rfl
    · exact h10 u hu'
    · simp only [List.mem_cons, List.not_mem_nil, or_false] at hu'
      rcases hu' with rfl | rfl | rfl | rfl | rfl | rfl | rfl <;> rfl

end
end Go.Pub
namespace Go.Proofs.YtfnloonmeilhlaaGreatDoor
open Go.RowKit Go.Pub
theorem pcE_size : (Tryz.prog.info? 34).map (·.size) = some 18 := by kernel_rfl
theorem quiet_l {P : Program} {f : FuncId} {args : Array Value} {w : World} {n : Nat} {v : Value}
    (h : Calls P f args (w.drewN n) fun e w' => e = .returned v ∧ w.drewN n = w') : Calls P f args (w.drewN n) fun e w'' => e = .returned v ∧ ∃ m, w'' = w.drewN m :=
  h.mono fun _ _ ⟨he, hm⟩ => ⟨he, n, hm.symm⟩
theorem charNum_lt (c : ByteArray) : charNum c < 3 := by
  unfold charNum
  split
  · omega
  · split <;> omega
set_option maxRecDepth 100000 in
set_option maxHeartbeats 4000000 in
theorem e_openersLike (p : Nat) (kind n : Int) (x1 x2 x3 x4 x5 x6 x7 x8 x9 x10 : Value) (ch : ByteArray) (o c i : Bool) (a b : Int) (w : World) (hn : 1 ≤ n) (hn2 : n ≤ 262144) :
    Calls Tryz.prog 21 #[.pointer (some ⟨p, 0, none⟩), .agg #[.int .i64 kind, x1, x2, x3, x4, x5, x6, x7, x8, x9, x10, .string ch, .int .i64 n, .bool o, .bool c, .bool i, .int .i64 a, .int .i64 b]] w
      fun e w' => e = .returned (.pointer (some ⟨p, 2 + ((charNum ch * 3 + n.toNat % 3) * 2 + (if c = true then 1 else 0)), none⟩)) ∧ Below w.heap.size w w' := by
  have hc := charNum_lt ch
  have HC := Lib.hid fun W => e_char ch W
  obtain ⟨m, rfl⟩ : ∃ m : Nat, n = m := ⟨n.toNat, by omega⟩
  rw [Int.toNat_natCast]
  have hc3 : (charNum ch : Int) < 3 := by omega
  have hc0 : (0 : Int) ≤ (charNum ch : Int) := by omega
  obtain ⟨r, hr⟩ : ∃ r, r = m % 3 := ⟨_, rfl⟩
  have hr3 : r < 3 := by omega
  have hm3 : (m : Int) % 3 = (r : Int) := by omega
  have hr3' : (r : Int) < 3 := by omega
  have hr0' : (0 : Int) ≤ (r : Int) := by omega
  rw [← hr]
  clear hr
  generalize charNum ch = q at *
  cases c
  · go_enter Tryz.func21, Tryz.ntmps21
    go_wp2_with fail
    go_quiet ((go_at_call 44; exact quiet_l (HC.out _)))
    go_wp2_with fail
    go_ret
    have e1 : 2 + q * 6 + r * 2 = 2 + (q * 3 + r) * 2 := by omega
    exact ⟨by show Ending.returned (.pointer (some ⟨p, 2 + q * 6 + r * 2, none⟩)) = _; rw [e1], below_drewN ((Below.refl _ w).alloc (Nat.le_refl _) _) _⟩
  · go_enter Tryz.func21, Tryz.ntmps21
    go_wp2_with fail
    go_quiet ((go_at_call 44; exact quiet_l (HC.out _)))
    go_wp2_with fail
    go_ret
    have e1 : 2 + q * 6 + r * 2 + 1 = 2 + ((q * 3 + r) * 2 + 1) := by omega
    exact ⟨by show Ending.returned (.pointer (some ⟨p, 2 + q * 6 + r * 2 + 1, none⟩)) = _; rw [e1], below_drewN ((Below.refl _ w).alloc (Nat.le_refl _) _) _⟩

end Go.Proofs.YtfnloonmeilhlaaGreatDoor
