/-
  Texts of the proof, put together (what this law reaches): EmE, Tk, EmF, EmG, EmH, EmJ, EmK.
-/
import Derived.Test.YtfnloonmeilhlaaP03
import Derived.Deep.DeepCutAuto
import Derived.BigQuiet
import Derived.Deep.RegionHeld
import Derived.Deep.MidRow
import Derived.Great.BuildSlice
import Derived.Deep.RegionHeld3
import Derived.Deep.WholeRow
import Derived.Deep.QuietTactic
import Derived.Deep.CutRange
import Derived.WalkMore
set_option linter.unusedVariables false
set_option linter.unusedSimpArgs false
namespace Go.Proofs.Ytfnloonmeilhlaa
open Go.RowKit Go.Pub
set_option maxRecDepth 100000 in
set_option maxHeartbeats 1000000 in
theorem e_isRun (kind n : Int) (x1 x2 x3 x4 x5 x6 x7 x8 x9 x10 : Value) (ch : ByteArray) (o c i : Bool) (a b : Int) (w : World) :
    Calls Try.prog 31 #[.agg #[.int .i64 kind, x1, x2, x3, x4, x5, x6, x7, x8, x9, x10, .string ch, .int .i64 n, .bool o, .bool c, .bool i, .int .i64 a, .int .i64 b]] w fun e w' => e = .returned (.bool (runBit kind ch n)) ∧ Below w.heap.size w w' := by
  have HE : Hid (runBit kind ch n = (decide (kind = 1) && (((decide (ch.toList = [42]) || decide (ch.toList = [95])) && (decide (1 ≤ n) && decide (n ≤ 262144))) || (decide (ch.toList = [126]) && decide (n = 2))))) := Lib.hid rfl
  generalize runBit kind ch n = R at *
  by_cases hk : kind = 1
  · subst hk
    by_cases h1 : ch.toList = [42]
    · have q1 : (ch.toList == [42]) = true := beq_iff_eq.2 h1
      by_cases h2 : 1 ≤ n
      · have d1 : decide (n ≥ 1) = true := decide_eq_true h2
        have hE : Hid (R = decide (n ≤ 262144)) := Lib.hid (by rw [HE.out, h1]; simp [h2])
        clear HE
        go_enter Try.func31, Try.ntmps31
        go_wp2_with fail
        go_ret
        exact ⟨by rw [hE.out]; rfl, (Below.refl _ w).alloc (Nat.le_refl _) _⟩
      · have d1 : decide (n ≥ 1) = false := decide_eq_false h2
        have hE : Hid (R = false) := Lib.hid (by rw [HE.out, h1]; simp [h2])
        clear HE
        go_enter Try.func31, Try.ntmps31
        go_wp2_with fail
        go_ret
        exact ⟨by rw [hE.out]; rfl, (Below.refl _ w).alloc (Nat.le_refl _) _⟩
    · have q1 : (ch.toList == [42]) = false := beq_eq_false_iff_ne.2 h1
      by_cases h1' : ch.toList = [95]
      · have q2 : (ch.toList == [95]) = true := beq_iff_eq.2 h1'
        by_cases h2 : 1 ≤ n
        · have d1 : decide (n ≥ 1) = true := decide_eq_true h2
          have hE : Hid (R = decide (n ≤ 262144)) := Lib.hid (by rw [HE.out, h1']; simp [h2])
          clear HE
          go_enter Try.func31, Try.ntmps31
          go_wp2_with fail
          go_ret
          exact ⟨by rw [hE.out]; rfl, (Below.refl _ w).alloc (Nat.le_refl _) _⟩
        · have d1 : decide (n ≥ 1) = false := decide_eq_false h2
          have hE : Hid (R = false) := Lib.hid (by rw [HE.out, h1']; simp [h2])
          clear HE
          go_enter Try.func31, Try.ntmps31
          go_wp2_with fail
          go_ret
          exact ⟨by rw [hE.out]; rfl, (Below.refl _ w).alloc (Nat.le_refl _) _⟩
      · have q2 : (ch.toList == [95]) = false := beq_eq_false_iff_ne.2 h1'
        by_cases h3 : ch.toList = [126]
        · have q3 : (ch.toList == [126]) = true := beq_iff_eq.2 h3
          have hE : Hid (R = (n == 2)) := Lib.hid (by rw [HE.out, h3]; simp; by_cases h : n = 2 <;> simp [h])
          clear HE
          go_enter Try.func31, Try.ntmps31
          go_wp2_with fail
          go_ret
          exact ⟨by rw [hE.out]; rfl, (Below.refl _ w).alloc (Nat.le_refl _) _⟩
        · have q3 : (ch.toList == [126]) = false := beq_eq_false_iff_ne.2 h3
          have hE : Hid (R = false) := Lib.hid (by rw [HE.out]; simp [h1, h1', h3])
          clear HE
          go_enter Try.func31, Try.ntmps31
          go_wp2_with fail
          go_ret
          exact ⟨by rw [hE.out]; rfl, (Below.refl _ w).alloc (Nat.le_refl _) _⟩
  · have hE : Hid (R = false) := Lib.hid (by rw [HE.out]; simp [hk])
    have q0 : (kind != 1) = true := bne_iff_ne.2 hk
    clear HE
    go_enter Try.func31, Try.ntmps31
    go_wp2_with fail
    go_ret
    exact ⟨by rw [hE.out]; rfl, (Below.refl _ w).alloc (Nat.le_refl _) _⟩

set_option maxRecDepth 100000 in
set_option maxHeartbeats 1000000 in
theorem e_char (ch : ByteArray) (w : World) : Calls Try.prog 49 #[.string ch] w fun e w' => e = .returned (.int .i64 (charNum ch : Nat)) ∧ w = w' := by
  have HE : Hid (charNum ch = if ch.toList = [42] then 0 else if ch.toList = [95] then 1 else 2) := Lib.hid rfl
  generalize charNum ch = R at *
  by_cases h1 : ch.toList = [42]
  · have q1 : (ch.toList == [42]) = true := beq_iff_eq.2 h1
    obtain rfl : R = 0 := by rw [HE.out, if_pos h1]
    go_enter Try.func49, Try.ntmps49
    go_wp2_with fail
    go_ret
    exact ⟨rfl, rfl⟩
  · have q1 : (ch.toList == [42]) = false := beq_eq_false_iff_ne.2 h1
    by_cases h2 : ch.toList = [95]
    · have q2 : (ch.toList == [95]) = true := beq_iff_eq.2 h2
      obtain rfl : R = 1 := by rw [HE.out, if_neg h1, if_pos h2]
      go_enter Try.func49, Try.ntmps49
      go_wp2_with fail
      go_ret
      exact ⟨rfl, rfl⟩
    · have q2 : (ch.toList == [95]) = false := beq_eq_false_iff_ne.2 h2
      obtain rfl : R = 2 := by rw [HE.out, if_neg h1, if_neg h2]
      go_enter Try.func49, Try.ntmps49
      go_wp2_with fail
      go_ret
      exact ⟨rfl, rfl⟩

end Go.Proofs.Ytfnloonmeilhlaa
namespace Go.Proofs.Ytfnloonmeilhlaa
open Go.RowKit Go.Pub
section
variable {P : Program} {ops : Array Oper} {Q : Exit → Act → World → Prop} {S : World → Prop} {fuel : Nat} {listed : Array Bool} {a : Act} {w : World}
/-- An operation that only reads is taken first. -/
theorem tk (i : Nat) (v : Value) {oi : Oper} (hi : ops[i]? = some oi) (hS : S w) (hy : ∀ w, S w → (execOp a.eval oi).run P w = .ok (.value v) w)
    (h : wpAnyH P .any ops Q S fuel (listed.setIfInBounds i true) (a.put oi.dst v) w)
    (hs : Region.noSelect ops = true := by kernel_rfl) (hf : Region.free .any ops listed i = true := by kernel_rfl) (hr : (Region.ready .any ops listed).contains i = true := by kernel_rfl)
    (hw : Region.wanted oi (yielded ops a.tmps) = true := by kernel_rfl) (hQ : ∀ c a w, Q (.panic c) (a.put oi.dst v) w → Q (.panic c) a w := by exact fun _ _ _ h => h) : wpAnyH P .any ops Q S (fuel + 1) listed a w :=
  wpAnyH_take hi hs hf hr hQ (Or.inl ⟨hw, hy⟩) hS h
/-- The one that is ready. -/
theorem rd1 (i : Nat) {o : Oper} (ho : ops[i]? = some o) (h : ∀ K' : Act → World → Prop, Shut (∀ a w, S w → (S w → wpAnyH P .any ops Q S fuel (listed.setIfInBounds i true) a w) → K' a w) → if Region.wanted o (yielded ops a.tmps) = true then Oper.wp P o a w K' Q else K' (a.put o.dst undef) w)
    (hr : Region.ready .any ops listed = [i] := by kernel_rfl) : wpAnyH P .any ops Q S (fuel + 1) listed a w :=
  wpAnyH_ready hr (by simp) (AllReadyH.cons ho h AllReadyH.nil)
end
end Go.Proofs.Ytfnloonmeilhlaa
namespace Go.Proofs.Ytfnloonmeilhlaa
open Go.RowKit Go.Pub
set_option maxRecDepth 100000 in
theorem elem_info : (Try.prog.info? 76).map (fun i => (i.zero, i.size, i.bytes)) = some (some (.agg #[.int .i64 0, .string ⟨#[]⟩, .string ⟨#[]⟩, .string ⟨#[]⟩, .string ⟨#[]⟩, .slice none 0 0, .slice none 0 0, .slice none 0 0, .slice none 0 0, .slice none 0 0, .bool false, .int .i64 0, .int .i64 0, .int .i64 0, .int .i64 0]), 15, 232) := by kernel_rfl

section
variable {w w' : World} {base p : Nat} {L vE vP : Value} {vO : Nat → Value} {S : Nat → Prop} {vs : List (Array Value)} {st : EmS}
theorem StC.set1 (h : StC w p L vE vO vP) (v : Value) : StC (w.setCell ⟨p, 1, none⟩ v) p L v vO vP := by
  obtain ⟨cs, hb, hs⟩ := h.blk
  have hb' := Blk.set_ hb 1 v
  have hc : ∀ j, w.cell? ⟨p, j, none⟩ = cs[j]? := fun j => Blk.cell hb j
  have hc' : ∀ j, (w.setCell ⟨p, 1, none⟩ v).cell? ⟨p, j, none⟩ = (cs.setIfInBounds 1 v)[j]? := fun j => Blk.cell hb' j
  refine ⟨⟨_, hb', by simpa using hs⟩, ?_, ?_, fun j hj => ?_, ?_⟩
  · rw [hc', Array.getElem?_setIfInBounds_ne (by omega), ← hc]; exact h.c0
  · rw [hc', Array.getElem?_setIfInBounds_self_of_lt (by omega)]
  · rw [hc', Array.getElem?_setIfInBounds_ne (by omega), ← hc]; exact h.cO j hj
  · rw [hc', Array.getElem?_setIfInBounds_ne (by omega), ← hc]; exact h.cP
theorem StC.setP (h : StC w p L vE vO vP) (v : Value) : StC (w.setCell ⟨p, 20, none⟩ v) p L vE vO v := by
  obtain ⟨cs, hb, hs⟩ := h.blk
  have hb' := Blk.set_ hb 20 v
  have hc : ∀ j, w.cell? ⟨p, j, none⟩ = cs[j]? := fun j => Blk.cell hb j
  have hc' : ∀ j, (w.setCell ⟨p, 20, none⟩ v).cell? ⟨p, j, none⟩ = (cs.setIfInBounds 20 v)[j]? := fun j => Blk.cell hb' j
  refine ⟨⟨_, hb', by simpa using hs⟩, ?_, ?_, fun j hj => ?_, ?_⟩
  · rw [hc', Array.getElem?_setIfInBounds_ne (by omega), ← hc]; exact h.c0
  · rw [hc', Array.getElem?_setIfInBounds_ne (by omega), ← hc]; exact h.c1
  · rw [hc', Array.getElem?_setIfInBounds_ne (by omega), ← hc]; exact h.cO j hj
  · rw [hc', Array.getElem?_setIfInBounds_self_of_lt (by omega)]
theorem StC.setO (h : StC w p L vE vO vP) (k : Nat) (hk : k < 18) (v : Value) : StC (w.setCell ⟨p, 2 + k, none⟩ v) p L vE (fun j => if j = k then v else vO j) vP := by
  obtain ⟨cs, hb, hs⟩ := h.blk
  have hb' := Blk.set_ hb (2 + k) v
  have hc : ∀ j, w.cell? ⟨p, j, none⟩ = cs[j]? := fun j => Blk.cell hb j
  have hc' : ∀ j, (w.setCell ⟨p, 2 + k, none⟩ v).cell? ⟨p, j, none⟩ = (cs.setIfInBounds (2 + k) v)[j]? := fun j => Blk.cell hb' j
  refine ⟨⟨_, hb', by simpa using hs⟩, ?_, ?_, fun j hj => ?_, ?_⟩
  · rw [hc', Array.getElem?_setIfInBounds_ne (by omega), ← hc]; exact h.c0
  · rw [hc', Array.getElem?_setIfInBounds_ne (by omega), ← hc]; exact h.c1
  · by_cases hjk : j = k
    · subst hjk; rw [if_pos rfl, hc', Array.getElem?_setIfInBounds_self_of_lt (by omega)]
    · rw [if_neg hjk, hc', Array.getElem?_setIfInBounds_ne (by omega), ← hc]; exact h.cO j hj
  · rw [hc', Array.getElem?_setIfInBounds_ne (by omega), ← hc]; exact h.cP
/-- An element more in the row. -/
theorem EmR.pushE {w2 : World} {v : Array Value} {e : ElL} {g cap H : Nat} (h : EmR w base p L vE vO vP S vs st) (hbase : base ≤ w.heap.size) (hv : RepE w S v e)
    (hown : w2.ownsRow base 76 15 (.slice (some ⟨g, 0, none⟩) (st.xs.length + 1) cap) (st.xs.length + 1) (vs.flatMap Array.toList ++ v.toList)) (hgrow : w.grownBy w2 vE.ownBlock) (hlies : vE.ownBlock = some g ∨ g = H) (hH : w.heap.size ≤ H) :
    EmR (w2.setCell ⟨p, 1, none⟩ (.slice (some ⟨g, 0, none⟩) (st.xs.length + 1) cap)) base p L (.slice (some ⟨g, 0, none⟩) (st.xs.length + 1) cap) vO vP S (vs ++ [v]) { st with xs := st.xs ++ [e] } ∧
      Below base w (w2.setCell ⟨p, 1, none⟩ (.slice (some ⟨g, 0, none⟩) (st.xs.length + 1) cap)) ∧ ∀ k, S k → (w2.setCell ⟨p, 1, none⟩ (.slice (some ⟨g, 0, none⟩) (st.xs.length + 1) cap)).heap[k]? = w.heap[k]? := by
  have hpl := h.cel.lt
  obtain ⟨cs, hbk, _⟩ := h.cel.blk
  have hEp : vE.ownBlock ≠ some p := own_blk h.els hbk (by decide)
  have hcel : StC w2 p L vE vO vP := h.cel.keep (hgrow.block p hpl (fun e => hEp e.symm))
  have hrows : ∀ k, S k → (w2.setCell ⟨p, 1, none⟩ (.slice (some ⟨g, 0, none⟩) (st.xs.length + 1) cap)).heap[k]? = w.heap[k]? := fun k hk => by
    obtain ⟨n1, n2, -⟩ := h.notS hk
    exact (Below.heap_setCell w2 ⟨p, 1, none⟩ _ k n1).trans (hgrow.block k (h.fro k hk).1 (fun e => n2 e.symm))
  obtain ⟨cs2, hbk2, _⟩ := hcel.blk
  have hkeepO : ∀ {n s : Nat} {t : TypeId} {u : Value} {x : List Value}, w.ownsRow base t s u n x → t ≠ 76 → t ≠ 69 → (w2.setCell ⟨p, 1, none⟩ (.slice (some ⟨g, 0, none⟩) (st.xs.length + 1) cap)).ownsRow base t s u n x := fun ho h1 h2 => by
    have a1 := ho.kept hgrow (own_apart ho h.els h1)
    have hne := own_blk a1 hbk2 h2
    exact a1.kept (row := some p) ⟨rfl, rfl, rfl, by simp [World.setCell], fun k _ hk => Below.heap_setCell w2 ⟨p, 1, none⟩ _ k (fun e => hk (by rw [e]))⟩ (.inr hne)
  have hgp : g ≠ p := fun e => own_blk hown hbk2 (by decide) (by rw [e]; rfl)
  have hbg : Below base w w2 := ⟨hgrow.os, hgrow.tape, hgrow.output, hgrow.size, fun k hk => hgrow.block k (by omega) (fun e => by have := (h.els.lt k e.symm).1; omega)⟩
  refine ⟨⟨h.bp, hcel.set1 _, ?_, ?_, fun j hj => hkeepO (h.ops j hj) (by decide) (by decide), hkeepO h.prs (by decide) (by decide), h.apart, h.low, fun k hk => ⟨?_, fun hbk => ?_⟩⟩, hbg.setCell (p := ⟨p, 1, none⟩) h.bp _, hrows⟩
  · show World.ownsRow _ _ _ _ _ (st.xs ++ [e]).length _
    rw [List.length_append, List.length_singleton, List.flatMap_append]
    have e2 : [v].flatMap Array.toList = v.toList := by simp
    rw [e2]
    exact hown.kept (row := some p) ⟨rfl, rfl, rfl, by simp [World.setCell], fun k _ hk => Below.heap_setCell w2 ⟨p, 1, none⟩ _ k (fun e => hk (by rw [e]))⟩ (.inr (fun e => hgp (by simpa [Value.ownBlock] using e)))
  · exact (h.rep.snoc hv).keep hrows fun _ h => h
  · have := (h.fro k hk).1
    have := hgrow.size
    simp [World.setCell]; omega
  · obtain ⟨n1, n2, n3, n4⟩ := h.notS hk
    refine ⟨n1, fun e => ?_, n3, n4⟩
    have e' : g = k := by simpa [Value.ownBlock] using e
    subst e'
    rcases hlies with hl | hl
    · exact n2 hl
    · have := (h.fro g hk).1; omega
end
end Go.Proofs.Ytfnloonmeilhlaa
namespace Go.Proofs.Ytfnloonmeilhlaa
open Go.RowKit Go.Pub
def InsPost (base p : Nat) (L : Value) (vO : Nat → Value) (vP : Value) (S : Nat → Prop) (st st' : EmS) (w : World) (e : Ending) (w' : World) : Prop :=
  ∃ vE' vs', e = .returned (.int .i64 (st.xs.length : Nat)) ∧ EmR w' base p L vE' vO vP S vs' st' ∧ Below base w w' ∧ ∀ q, S q → w'.heap[q]? = w.heap[q]?
section
variable {w w' : World} {base p g n cap : Nat} {L vP : Value} {vO : Nat → Value} {S : Nat → Prop} {vs : List (Array Value)} {st : EmS}
/-- The cells of an element. -/
theorem EmR.at_ (h : EmR w base p L (.slice (some ⟨g, 0, none⟩) n cap) vO vP S vs st) (i : Nat) (hi : i < st.xs.length) :
    w.cell? ⟨g, i * 15 + 11, none⟩ = some (.int .i64 (elX st.xs i).pc) ∧ w.cell? ⟨g, i * 15 + 12, none⟩ = some (.int .i64 (elX st.xs i).left) ∧
      w.cell? ⟨g, i * 15 + 13, none⟩ = some (.int .i64 (bf st.xs i)) ∧ w.cell? ⟨g, i * 15 + 14, none⟩ = some (.int .i64 (nx st.xs i)) := by
  obtain ⟨g', cap', e, -, -, -, -, h1⟩ := h.row (by omega)
  injection e with e e2 e3
  injection e with e
  injection e with e
  subst e
  obtain ⟨v, hv, -, hc⟩ := h1 i hi
  obtain ⟨c0, c1, c2, c3, c4⟩ := hv.cells
  exact ⟨(hc 11 (by decide)).trans c1, (hc 12 (by decide)).trans c2, (hc 13 (by decide)).trans c3, (hc 14 (by decide)).trans c4⟩
theorem own_len {base m size n c : Nat} {a : Addr} {e : TypeId} {xs : List Value} (h : w.ownsRow base e size (.slice (some a) n c) m xs) : n = m := by
  rcases h.2 with ⟨e, _⟩ | ⟨g', cap', cur, e, _⟩
  · injection e with e; cases e
  · injection e
theorem EmR.frE (h : EmR w base p L (.slice (some ⟨g, 0, none⟩) n cap) vO vP S vs st) (j : Nat) : w.frozen? ⟨g, j, none⟩ = false := by
  have he := own_len h.els
  subst he
  exact h.els.frozenAt j
theorem EmR.stE (h : EmR w base p L (.slice (some ⟨g, 0, none⟩) n cap) vO vP S vs st) (i j : Nat) (u : Value) (e : ElL) (hi : i < st.xs.length) (hj : j < 15)
    (he : ∀ v, RepE w S v (elX st.xs i) → RepE w S (v.setIfInBounds j u) e) :
    (∃ vs', EmR (w.setCell ⟨g, i * 15 + j, none⟩ u) base p L (.slice (some ⟨g, 0, none⟩) n cap) vO vP S vs' { st with xs := st.xs.set i e }) ∧ Below base w (w.setCell ⟨g, i * 15 + j, none⟩ u) ∧ ∀ q, S q → (w.setCell ⟨g, i * 15 + j, none⟩ u).heap[q]? = w.heap[q]? := by
  have hl := own_len h.els
  subst hl
  obtain ⟨h1, h2⟩ := h.storeE rfl i j hi hj u e he
  exact ⟨⟨_, h1⟩, h2, fun q hq => Below.heap_setCell w ⟨g, i * 15 + j, none⟩ u q (by
    have := (h.notS hq).2.1
    exact fun e => this (by rw [e]; rfl))⟩
theorem EmR.stN (h : EmR w base p L (.slice (some ⟨g, 0, none⟩) n cap) vO vP S vs st) (i b : Nat) (hi : i < st.xs.length) :
    (∃ vs', EmR (w.setCell ⟨g, i * 15 + 14, none⟩ (.int .i64 b)) base p L (.slice (some ⟨g, 0, none⟩) n cap) vO vP S vs' { st with xs := setN st.xs i b }) ∧ Below base w (w.setCell ⟨g, i * 15 + 14, none⟩ (.int .i64 b)) ∧ ∀ q, S q → (w.setCell ⟨g, i * 15 + 14, none⟩ (.int .i64 b)).heap[q]? = w.heap[q]? :=
  h.stE i 14 _ _ hi (by decide) fun v hv => hv.setN b
theorem EmR.stB (h : EmR w base p L (.slice (some ⟨g, 0, none⟩) n cap) vO vP S vs st) (i b : Nat) (hi : i < st.xs.length) :
    (∃ vs', EmR (w.setCell ⟨g, i * 15 + 13, none⟩ (.int .i64 b)) base p L (.slice (some ⟨g, 0, none⟩) n cap) vO vP S vs' { st with xs := setBf st.xs i b }) ∧ Below base w (w.setCell ⟨g, i * 15 + 13, none⟩ (.int .i64 b)) ∧ ∀ q, S q → (w.setCell ⟨g, i * 15 + 13, none⟩ (.int .i64 b)).heap[q]? = w.heap[q]? :=
  h.stE i 13 _ _ hi (by decide) fun v hv => hv.setBf b
theorem EmR.stL (h : EmR w base p L (.slice (some ⟨g, 0, none⟩) n cap) vO vP S vs st) (i b : Nat) (hi : i < st.xs.length) :
    (∃ vs', EmR (w.setCell ⟨g, i * 15 + 12, none⟩ (.int .i64 b)) base p L (.slice (some ⟨g, 0, none⟩) n cap) vO vP S vs' { st with xs := setLf st.xs i b }) ∧ Below base w (w.setCell ⟨g, i * 15 + 12, none⟩ (.int .i64 b)) ∧ ∀ q, S q → (w.setCell ⟨g, i * 15 + 12, none⟩ (.int .i64 b)).heap[q]? = w.heap[q]? :=
  h.stE i 12 _ _ hi (by decide) fun v hv => hv.setLf b
theorem EmR.ne (h : EmR w base p L (.slice (some ⟨g, 0, none⟩) n cap) vO vP S vs st) : g ≠ p := by
  obtain ⟨cs, hb, _⟩ := h.cel.blk
  exact fun e => own_blk h.els hb (by decide) (by rw [e]; rfl)
theorem EmR.drew (h : EmR w base p L (.slice (some ⟨g, 0, none⟩) n cap) vO vP S vs st) : EmR w.drew base p L (.slice (some ⟨g, 0, none⟩) n cap) vO vP S vs st := h.below (Below.refl _ w).drew
end
set_option maxRecDepth 100000 in
theorem elem_fill (x0 x1 x2 x3 x4 x5 x6 x7 x8 x9 x10 x11 x12 x13 x14 : Value) : Instr.fill (fun i => some (i * 15, 15)) ((Array.range (1 * 15)).map ((Value.agg #[.int .i64 0, .string ⟨#[]⟩, .string ⟨#[]⟩, .string ⟨#[]⟩, .string ⟨#[]⟩, .slice none 0 0, .slice none 0 0, .slice none 0 0, .slice none 0 0, .slice none 0 0, .bool false, .int .i64 0, .int .i64 0, .int .i64 0, .int .i64 0]).cells[· % (Value.agg #[.int .i64 0, .string ⟨#[]⟩, .string ⟨#[]⟩, .string ⟨#[]⟩, .string ⟨#[]⟩, .slice none 0 0, .slice none 0 0, .slice none 0 0, .slice none 0 0, .slice none 0 0, .bool false, .int .i64 0, .int .i64 0, .int .i64 0, .int .i64 0]).cells.size]!)) [(0, .agg #[x0, x1, x2, x3, x4, x5, x6, x7, x8, x9, x10, x11, x12, x13, x14])] = some #[x0, x1, x2, x3, x4, x5, x6, x7, x8, x9, x10, x11, x12, x13, x14] := by kernel_rfl

theorem elem_size : (Try.prog.info? 76).map (·.size) = some 15 := by
  obtain ⟨i0, hi0, hz0, hz1, hz2⟩ := info_parts elem_info
  rw [hi0]; show some i0.size = _; rw [hz1]
/-- A slice of one element is laid. -/
theorem wp_elSlice {o : Oper} {a : Act} {w : World} {K : Act → World → Prop} {Q : Exit → Act → World → Prop} (x : Operand) (ho : o.op = .buildSlice 63 1 #[(0, x)])
    (x0 x1 x2 x3 x4 x5 x6 x7 x8 x9 x10 x11 x12 x13 x14 : Value) (hx : a.eval x = .agg #[x0, x1, x2, x3, x4, x5, x6, x7, x8, x9, x10, x11, x12, x13, x14])
    (h : K (a.put o.dst (.slice (some ⟨w.heap.size, 0, none⟩) 1 1)) (w.alloc (.cells #[x0, x1, x2, x3, x4, x5, x6, x7, x8, x9, x10, x11, x12, x13, x14] 76))) : o.wp Try.prog a w K Q := by
  obtain ⟨i0, hi0, hz0, hz1, hz2⟩ := info_parts elem_info
  refine wp_buildSlice 63 76 1 _ ho _ i0 _ Try.underlying63 hi0 hz0 (by rw [hz1]; decide) (by rw [hz1]; decide) ?_ h
  rw [hz1]
  have e : (#[((0 : Nat), x)].map fun (q : Nat × Operand) => (q.1, a.eval q.2)).toList = [(0, a.eval x)] := by simp
  rw [hx] at e
  show Instr.fill _ _ (#[((0 : Nat), x)].map fun (q : Nat × Operand) => (q.1, a.eval q.2)).toList = _
  rw [e]
  exact elem_fill x0 x1 x2 x3 x4 x5 x6 x7 x8 x9 x10 x11 x12 x13 x14
/-- The same at a step of a region that draws. -/
theorem step_elSlice {ops : Array Oper} {o : Oper} {a : Act} {w : World} {K : Act → World → Prop} {Q : Exit → Act → World → Prop} {E : Prop} (hgd : o.guard = none) (x : Operand) (ho : o.op = .buildSlice 63 1 #[(0, x)])
    (x0 x1 x2 x3 x4 x5 x6 x7 x8 x9 x10 x11 x12 x13 x14 : Value) (hx : a.eval x = .agg #[x0, x1, x2, x3, x4, x5, x6, x7, x8, x9, x10, x11, x12, x13, x14])
    (h : K (a.put o.dst (.slice (some ⟨w.heap.size, 0, none⟩) 1 1)) (w.alloc (.cells #[x0, x1, x2, x3, x4, x5, x6, x7, x8, x9, x10, x11, x12, x13, x14] 76))) :
    if Region.wanted o (yielded ops a.tmps) = true then Oper.wp Try.prog o a w K Q else E := by
  have hw : Region.wanted o (yielded ops a.tmps) = true := by simp [Region.wanted, hgd]
  rw [if_pos hw]
  exact wp_elSlice x ho x0 x1 x2 x3 x4 x5 x6 x7 x8 x9 x10 x11 x12 x13 x14 hx h
theorem range_block {w : World} {b : Nat} {cs : Array Value} {t : TypeId} (h : w.heap[b]? = some (.cells cs t (0, 0))) : w.rangeAt b 0 cs.toList := fun j v hj => by
  rw [Nat.zero_add, cell_of_row w b j cs t (0, 0) h]
  simpa using hj
set_option maxRecDepth 100000 in
set_option maxHeartbeats 4000000 in
theorem e_insert {base p : Nat} {L vE vP : Value} {vO : Nat → Value} {S : Nat → Prop} {vs : List (Array Value)} {st : EmS} (w : World) (h : EmR w base p L vE vO vP S vs st) (hbase : base ≤ w.heap.size)
    (x0 x1 x2 x3 x4 x5 x6 x7 x8 x9 : Value) (t : InT) (run : Bool) (pc left b0 n0 k : Nat) (hr : RepI w S #[x0, x1, x2, x3, x4, x5, x6, x7, x8, x9] t)
    (hk : k < st.xs.length) (hb : bf st.xs k ≤ st.xs.length) (hl : st.xs.length ≤ 1000000000) (e0 : ElL) (he0 : e0 = { t := t, run := run, pc := pc, left := left, before := b0, next := n0 }) :
    Calls Try.prog 32 #[.pointer (some ⟨p, 0, none⟩), .agg #[x0, x1, x2, x3, x4, x5, x6, x7, x8, x9, .bool run, .int .i64 pc, .int .i64 left, .int .i64 b0, .int .i64 n0], .int .i64 k] w
      (InsPost base p L vO vP S st { st with xs := insX st.xs e0 k } w) := by
  obtain ⟨i0, hi0, hz0, hz1, hz2⟩ := info_parts elem_info
  obtain ⟨g, cap, rfl, hbg, hgl, hgp, hfr, hrows⟩ := h.row (by omega)
  have c1 : w.cell? ⟨p, 1, none⟩ = some (.slice (some ⟨g, 0, none⟩) st.xs.length cap) := h.cel.c1
  have hpl := h.cel.lt
  obtain ⟨v, hv, -, hvc⟩ := hrows k hk
  have ck : w.cell? ⟨g, k * 15 + 13, none⟩ = some (.int .i64 (bf st.xs k)) := (hvc 13 (by decide)).trans hv.cells.2.2.2.1
  have hkn : (k : Int) < (st.xs.length : Int) := by omega
  generalize hbk : bf st.xs k = b at *
  have HH := Lib.hid h
  have HR := Lib.hid hr
  have HB := Lib.hid hbk
  have HE0 := Lib.hid he0
  clear h hr hrows hv hvc hfr hbk he0
  go_enter Try.func32, Try.ntmps32
  go_wp2_with fail
  have HM : Hid (EmR (w.alloc (.cells #[x0, x1, x2, x3, x4, x5, x6, x7, x8, x9, .bool run, .int .i64 pc, .int .i64 left, .int .i64 b, .int .i64 k] 76)) base p L (.slice (some ⟨g, 0, none⟩) st.xs.length cap) vO vP S vs st ∧ Below w.heap.size w (w.alloc (.cells #[x0, x1, x2, x3, x4, x5, x6, x7, x8, x9, .bool run, .int .i64 pc, .int .i64 left, .int .i64 b, .int .i64 k] 76))) := Lib.hid (by
    have hb : Below w.heap.size w (w.alloc (.cells #[x0, x1, x2, x3, x4, x5, x6, x7, x8, x9, .bool run, .int .i64 pc, .int .i64 left, .int .i64 b, .int .i64 k] 76)) := (Below.refl _ w).alloc (Nat.le_refl _) _
    exact ⟨HH.out.below hb, hb⟩)
  have xS : (w.alloc (.cells #[x0, x1, x2, x3, x4, x5, x6, x7, x8, x9, .bool run, .int .i64 pc, .int .i64 left, .int .i64 b, .int .i64 k] 76)).heap[w.heap.size]? = some (.cells #[x0, x1, x2, x3, x4, x5, x6, x7, x8, x9, .bool run, .int .i64 pc, .int .i64 left, .int .i64 b, .int .i64 k] 76 (0, 0)) := heap_alloc_new w _
  have hsz0 : (w.alloc (.cells #[x0, x1, x2, x3, x4, x5, x6, x7, x8, x9, .bool run, .int .i64 pc, .int .i64 left, .int .i64 b, .int .i64 k] 76)).heap.size = w.heap.size + 1 := World.size_alloc _ _
  have hsz1 := Nat.le_of_eq hsz0
  have hsz2 := Nat.le_of_eq hsz0.symm
  clear hsz0
  generalize w.alloc (.cells #[x0, x1, x2, x3, x4, x5, x6, x7, x8, x9, .bool run, .int .i64 pc, .int .i64 left, .int .i64 b, .int .i64 k] 76) = W1 at *
  have k1 : W1.cell? ⟨p, 1, none⟩ = some (.slice (some ⟨g, 0, none⟩) st.xs.length cap) := HM.out.1.cel.c1
  have f1 := HM.out.1.cel.frozen 1
  have hpl1 : p < W1.heap.size := by omega
  have HO : Hid (∀ u ∈ [x0, x1, x2, x3, x4, x5, x6, x7, x8, x9, .bool run, .int .i64 pc, .int .i64 left, .int .i64 b, .int .i64 k], u.oneCell' = true) := Lib.hid (fun u hu => by
    have h10 := HR.out.one
    simp only [List.mem_cons, List.not_mem_nil, or_false] at hu h10
    rcases hu with rfl | rfl | rfl | rfl | rfl | rfl | rfl | rfl | rfl | rfl | rfl | rfl | rfl | rfl | rfl
    all_goals first | rfl | exact h10 _ (by simp))
  have k2' : (W1.drew.alloc (.cells #[x0, x1, x2, x3, x4, x5, x6, x7, x8, x9, .bool run, .int .i64 pc, .int .i64 left, .int .i64 b, .int .i64 k] 76)).cell? ⟨p, 1, none⟩ = some (.slice (some ⟨g, 0, none⟩) st.xs.length cap) := (World.cell?_alloc_lt W1 _ ⟨p, 1, none⟩ hpl1).trans k1
  have HFZ : Hid (∀ w2, (W1.drew.alloc (.cells #[x0, x1, x2, x3, x4, x5, x6, x7, x8, x9, .bool run, .int .i64 pc, .int .i64 left, .int .i64 b, .int .i64 k] 76)).grownBy w2 (Value.slice (some ⟨g, 0, none⟩) st.xs.length cap).ownBlock → w2.frozen? ⟨p, 1, none⟩ = false) := Lib.hid fun w2 hg =>
    (World.frozen?_of_block (hg.block p (by show p < (W1.drew.alloc _).heap.size; rw [World.size_alloc]; show p < W1.heap.size + 1; omega) (fun e => hgp (by simpa [Value.ownBlock] using e.symm)))).trans ((World.frozen?_of_block (Below.heap_alloc W1.drew _ p hpl1)).trans f1)
  have HBG : Hid (∀ w2, (W1.drew.alloc (.cells #[x0, x1, x2, x3, x4, x5, x6, x7, x8, x9, .bool run, .int .i64 pc, .int .i64 left, .int .i64 b, .int .i64 k] 76)).grownBy w2 (Value.slice (some ⟨g, 0, none⟩) st.xs.length cap).ownBlock → w2.heap[w.heap.size]? = some (.cells #[x0, x1, x2, x3, x4, x5, x6, x7, x8, x9, .bool run, .int .i64 pc, .int .i64 left, .int .i64 b, .int .i64 k] 76 (0, 0))) := Lib.hid fun w2 hg =>
    (hg.block w.heap.size (by show w.heap.size < (W1.drew.alloc _).heap.size; rw [World.size_alloc]; show w.heap.size < W1.heap.size + 1; omega) (fun e => absurd (show g = w.heap.size by simpa [Value.ownBlock] using e.symm) (by omega))).trans ((Below.heap_alloc W1.drew _ _ (by show w.heap.size < W1.heap.size; omega)).trans xS)
  have HPU : Hid (∀ w2 g2 cap2, w2.ownsRow base 76 15 (.slice (some ⟨g2, 0, none⟩) (st.xs.length + 1) cap2) (st.xs.length + 1) (vs.flatMap Array.toList ++ [x0, x1, x2, x3, x4, x5, x6, x7, x8, x9, .bool run, .int .i64 pc, .int .i64 left, .int .i64 b, .int .i64 k]) →
      (W1.drew.alloc (.cells #[x0, x1, x2, x3, x4, x5, x6, x7, x8, x9, .bool run, .int .i64 pc, .int .i64 left, .int .i64 b, .int .i64 k] 76)).grownBy w2 (Value.slice (some ⟨g, 0, none⟩) st.xs.length cap).ownBlock → ((Value.slice (some ⟨g, 0, none⟩) st.xs.length cap).ownBlock = some g2 ∨ g2 = W1.heap.size + 1) →
      EmR (w2.setCell ⟨p, 1, none⟩ (.slice (some ⟨g2, 0, none⟩) (st.xs.length + 1) cap2)) base p L (.slice (some ⟨g2, 0, none⟩) (st.xs.length + 1) cap2) vO vP S (vs ++ [#[x0, x1, x2, x3, x4, x5, x6, x7, x8, x9, .bool run, .int .i64 pc, .int .i64 left, .int .i64 b, .int .i64 k]]) { st with xs := st.xs ++ [{ e0 with before := b, next := k }] } ∧
        Below base w (w2.setCell ⟨p, 1, none⟩ (.slice (some ⟨g2, 0, none⟩) (st.xs.length + 1) cap2)) ∧ ∀ q, S q → (w2.setCell ⟨p, 1, none⟩ (.slice (some ⟨g2, 0, none⟩) (st.xs.length + 1) cap2)).heap[q]? = w.heap[q]?) := Lib.hid fun w2 g2 cap2 hown hgrow hlies => by
    have hal : Below W1.heap.size W1 (W1.drew.alloc (.cells #[x0, x1, x2, x3, x4, x5, x6, x7, x8, x9, .bool run, .int .i64 pc, .int .i64 left, .int .i64 b, .int .i64 k] 76)) := (Below.refl _ W1).drew.alloc (Nat.le_refl _) _
    have h2 := HM.out.1.below hal
    have hR2 : RepI (W1.drew.alloc (.cells #[x0, x1, x2, x3, x4, x5, x6, x7, x8, x9, .bool run, .int .i64 pc, .int .i64 left, .int .i64 b, .int .i64 k] 76)) S #[x0, x1, x2, x3, x4, x5, x6, x7, x8, x9] t :=
      HR.out.keep (fun q hq => (hal.block q (by have := (HH.out.fro q hq).1; omega)).trans (HM.out.2.block q (HH.out.fro q hq).1)) fun _ h => h
    have := h2.pushE (H := W1.heap.size + 1) (v := #[x0, x1, x2, x3, x4, x5, x6, x7, x8, x9, .bool run, .int .i64 pc, .int .i64 left, .int .i64 b, .int .i64 k]) (e := { e0 with before := b, next := k }) (by rw [World.size_alloc]; show base ≤ W1.heap.size + 1; omega) ⟨_, by rw [HE0.out]; exact hR2, by rw [HE0.out]; rfl⟩ hown hgrow hlies (by rw [World.size_alloc]; exact Nat.le_refl _)
    exact ⟨this.1, (HM.out.2.mono hbase).trans ((hal.mono (by omega)).trans this.2.1), fun q hq => (this.2.2 q hq).trans ((hal.block q (by have := (HH.out.fro q hq).1; omega)).trans (HM.out.2.block q (HH.out.fro q hq).1))⟩
  refine wp_region_held_drew (S := fun W' => W'.heap[w.heap.size]? = some (.cells #[x0, x1, x2, x3, x4, x5, x6, x7, x8, x9, .bool run, .int .i64 pc, .int .i64 left, .int .i64 b, .int .i64 k] 76 (0, 0))) (by kernel_rfl) xS (fun hHeld => ?_)
  refine tk 0 (.pointer (some ⟨p, 0, none⟩)) rfl hHeld (fun W' hSw => ?_) ?_
  · go_simp
  refine tk 1 (.pointer (some ⟨p, 0, none⟩)) rfl hHeld (fun W' hSw => ?_) ?_
  · go_simp
  refine tk 2 (.pointer (some ⟨p, 0, none⟩)) rfl hHeld (fun W' hSw => ?_) ?_
  · go_simp
  refine tk 3 (.pointer (some ⟨p, 1, none⟩)) rfl hHeld (fun W' hSw => ?_) ?_
  · go_simp
  refine wpAnyH_take (i := 5) (v := .agg #[x0, x1, x2, x3, x4, x5, x6, x7, x8, x9, .bool run, .int .i64 pc, .int .i64 left, .int .i64 b, .int .i64 k]) rfl (by kernel_rfl) (by kernel_rfl) (by kernel_rfl) (fun _ _ _ h => h) (yieldsIf_load_mid (by kernel_rfl) 76 (.tmp 4) rfl w.heap.size 0 rfl [x0, x1, x2, x3, x4, x5, x6, x7, x8, x9, .bool run, .int .i64 pc, .int .i64 left, .int .i64 b, .int .i64 k] _ (fun W' hSw => range_block hSw) Try.underlying76 rfl elem_size) hHeld ?_
  refine wpAnyH_ready (rs := [4, 6]) (by kernel_rfl) (by simp) (AllReadyH.cons rfl (fun K hK => ?_) (AllReadyH.cons rfl (fun K hK => ?_) AllReadyH.nil))
  go_simp
  refine hK.out _ _ xS (fun hHeld => ?_)
  clear hK K
  refine rd1 6 rfl (fun K hK => ?_)
  refine step_elSlice rfl (.tmp 29) rfl x0 x1 x2 x3 x4 x5 x6 x7 x8 x9 (.bool run) (.int .i64 pc) (.int .i64 left) (.int .i64 b) (.int .i64 k) rfl ?_
  have xS2 : (W1.drew.alloc (.cells #[x0, x1, x2, x3, x4, x5, x6, x7, x8, x9, .bool run, .int .i64 pc, .int .i64 left, .int .i64 b, .int .i64 k] 76)).heap[w.heap.size]? = some (.cells #[x0, x1, x2, x3, x4, x5, x6, x7, x8, x9, .bool run, .int .i64 pc, .int .i64 left, .int .i64 b, .int .i64 k] 76 (0, 0)) := (Below.heap_alloc W1.drew _ _ (by show w.heap.size < W1.heap.size; omega)).trans xS
  refine hK.out _ _ xS2 (fun hHeld => ?_)
  clear hK K
  refine rd1 7 rfl (fun K hK => ?_)
  refine step_append_lies _ rfl (.tmp 28) (.tmp 30) 63 rfl base 76 i0 _ 15 232 Try.underlying63 hi0 hz0 hz1 hz2 rfl (by decide) _ _ _ rfl (HM.out.1.els.alloc _) ⟨W1.heap.size, 0, none⟩ 1 1 [x0, x1, x2, x3, x4, x5, x6, x7, x8, x9, .bool run, .int .i64 pc, .int .i64 left, .int .i64 b, .int .i64 k] rfl rfl ?c1 ?c2 (by decide) ?c3 ?c4 ?c5 (W1.heap.size + 1) ?c6 ?_
  case c1 => exact World.news_of_block (t := 76) (fr := (0, 0)) (cs := #[x0, x1, x2, x3, x4, x5, x6, x7, x8, x9, .bool run, .int .i64 pc, .int .i64 left, .int .i64 b, .int .i64 k]) (heap_alloc_new W1.drew _)
  case c2 => exact HO.out
  case c3 => unfold maxLen; omega
  case c4 => omega
  case c5 => simp; omega
  case c6 => simp
  intro g2 cap2 w2 hown hgrow0 hlies hlt2
  have hgrow : (W1.drew.alloc (.cells #[x0, x1, x2, x3, x4, x5, x6, x7, x8, x9, .bool run, .int .i64 pc, .int .i64 left, .int .i64 b, .int .i64 k] 76)).grownBy w2 (Value.slice (some ⟨g, 0, none⟩) st.xs.length cap).ownBlock := hgrow0
  clear hgrow0
  have hpush := HPU.out _ g2 cap2 hown hgrow hlies
  have q1 : w2.cell? ⟨p, 1, none⟩ = some (.slice (some ⟨g, 0, none⟩) st.xs.length cap) := (hgrow.cell k2' (fun e => hgp (by simpa [Value.ownBlock] using e.symm)))
  have q2 : w2.frozen? ⟨p, 1, none⟩ = false := HFZ.out _ hgrow
  have hBg : w2.heap[w.heap.size]? = some (.cells #[x0, x1, x2, x3, x4, x5, x6, x7, x8, x9, .bool run, .int .i64 pc, .int .i64 left, .int .i64 b, .int .i64 k] 76 (0, 0)) := HBG.out _ hgrow
  have HPp := Lib.hid hpush
  clear hpush hown hgrow
  refine hK.out _ _ hBg (fun hHeld => ?_)
  clear hK K
  refine rd1 8 rfl (fun K hK => ?_)
  go_simp
  refine hK.out _ _ hBg (fun hHeld => ?_)
  clear hK K
  refine rd1 9 rfl (fun K hK => ?_)
  go_simp
  refine hK.out _ _ hBg (fun hHeld => ?_)
  clear hK K
  refine rd1 10 rfl (fun K hK => ?_)
  go_simp
  have hBs : (w2.setCell ⟨p, 1, none⟩ (.slice (some ⟨g2, 0, none⟩) (st.xs.length + 1) cap2)).heap[w.heap.size]? = some (.cells #[x0, x1, x2, x3, x4, x5, x6, x7, x8, x9, .bool run, .int .i64 pc, .int .i64 left, .int .i64 b, .int .i64 k] 76 (0, 0)) := (Below.heap_setCell w2 ⟨p, 1, none⟩ _ _ (by show w.heap.size ≠ p; omega)).trans hBg
  refine hK.out _ _ hBs (fun hHeld => ?_)
  clear hK K
  refine wpAnyH_done (by kernel_rfl) ?_ _
  rotate_left
  refine step_elSlice rfl (.tmp 29) rfl x0 x1 x2 x3 x4 x5 x6 x7 x8 x9 (.bool run) (.int .i64 pc) (.int .i64 left) (.int .i64 b) (.int .i64 k) rfl ?_
  have xS2 : (W1.drew.alloc (.cells #[x0, x1, x2, x3, x4, x5, x6, x7, x8, x9, .bool run, .int .i64 pc, .int .i64 left, .int .i64 b, .int .i64 k] 76)).heap[w.heap.size]? = some (.cells #[x0, x1, x2, x3, x4, x5, x6, x7, x8, x9, .bool run, .int .i64 pc, .int .i64 left, .int .i64 b, .int .i64 k] 76 (0, 0)) := (Below.heap_alloc W1.drew _ _ (by show w.heap.size < W1.heap.size; omega)).trans xS
  refine hK.out _ _ xS2 (fun hHeld => ?_)
  clear hK K
  refine rd1 4 rfl (fun K hK => ?_)
  have k2 := (World.cell?_alloc_lt W1 (.cells #[x0, x1, x2, x3, x4, x5, x6, x7, x8, x9, .bool run, .int .i64 pc, .int .i64 left, .int .i64 b, .int .i64 k] 76) ⟨p, 1, none⟩ hpl1).trans k1
  go_simp
  refine hK.out _ _ xS2 (fun hHeld => ?_)
  clear hK K
  refine rd1 7 rfl (fun K hK => ?_)
  refine step_append_lies _ rfl (.tmp 28) (.tmp 30) 63 rfl base 76 i0 _ 15 232 Try.underlying63 hi0 hz0 hz1 hz2 rfl (by decide) _ _ _ rfl (HM.out.1.els.alloc _) ⟨W1.heap.size, 0, none⟩ 1 1 [x0, x1, x2, x3, x4, x5, x6, x7, x8, x9, .bool run, .int .i64 pc, .int .i64 left, .int .i64 b, .int .i64 k] rfl rfl ?d1 ?d2 (by decide) ?d3 ?d4 ?d5 (W1.heap.size + 1) ?d6 ?_
  case d1 => exact World.news_of_block (t := 76) (fr := (0, 0)) (cs := #[x0, x1, x2, x3, x4, x5, x6, x7, x8, x9, .bool run, .int .i64 pc, .int .i64 left, .int .i64 b, .int .i64 k]) (heap_alloc_new W1.drew _)
  case d2 => exact HO.out
  case d3 => unfold maxLen; omega
  case d4 => omega
  case d5 => simp; omega
  case d6 => simp
  intro g2 cap2 w2 hown hgrow0 hlies hlt2
  have hgrow : (W1.drew.alloc (.cells #[x0, x1, x2, x3, x4, x5, x6, x7, x8, x9, .bool run, .int .i64 pc, .int .i64 left, .int .i64 b, .int .i64 k] 76)).grownBy w2 (Value.slice (some ⟨g, 0, none⟩) st.xs.length cap).ownBlock := hgrow0
  clear hgrow0
  have hpush := HPU.out _ g2 cap2 hown hgrow hlies
  have q1 : w2.cell? ⟨p, 1, none⟩ = some (.slice (some ⟨g, 0, none⟩) st.xs.length cap) := (hgrow.cell k2' (fun e => hgp (by simpa [Value.ownBlock] using e.symm)))
  have q2 : w2.frozen? ⟨p, 1, none⟩ = false := HFZ.out _ hgrow
  have hBg : w2.heap[w.heap.size]? = some (.cells #[x0, x1, x2, x3, x4, x5, x6, x7, x8, x9, .bool run, .int .i64 pc, .int .i64 left, .int .i64 b, .int .i64 k] 76 (0, 0)) := HBG.out _ hgrow
  have HPp := Lib.hid hpush
  clear hpush hown hgrow
  refine hK.out _ _ hBg (fun hHeld => ?_)
  clear hK K
  refine rd1 8 rfl (fun K hK => ?_)
  go_simp
  refine hK.out _ _ hBg (fun hHeld => ?_)
  clear hK K
  refine rd1 9 rfl (fun K hK => ?_)
  go_simp
  refine hK.out _ _ hBg (fun hHeld => ?_)
  clear hK K
  refine rd1 10 rfl (fun K hK => ?_)
  go_simp
  have hBs : (w2.setCell ⟨p, 1, none⟩ (.slice (some ⟨g2, 0, none⟩) (st.xs.length + 1) cap2)).heap[w.heap.size]? = some (.cells #[x0, x1, x2, x3, x4, x5, x6, x7, x8, x9, .bool run, .int .i64 pc, .int .i64 left, .int .i64 b, .int .i64 k] 76 (0, 0)) := (Below.heap_setCell w2 ⟨p, 1, none⟩ _ _ (by show w.heap.size ≠ p; omega)).trans hBg
  refine hK.out _ _ hBs (fun hHeld => ?_)
  clear hK K
  refine wpAnyH_done (by kernel_rfl) ?_ _
  all_goals
    have hg2 : g2 ≠ w.heap.size := by
      rcases hlies with hl | hl
      · have : g = g2 := by simpa [Value.ownBlock] using (show (Value.slice (some ⟨g, 0, none⟩) st.xs.length cap).ownBlock = some g2 from hl)
        omega
      · omega
    have hg2' := hg2.symm
    clear hlies
    obtain ⟨hEm, hBel, hKp⟩ := HPp.out
    have m2 : (w2.setCell ⟨p, 1, none⟩ (.slice (some ⟨g2, 0, none⟩) (st.xs.length + 1) cap2)).cell? ⟨w.heap.size, 13, none⟩ = some (.int .i64 b) := by rw [cell_of_row _ _ 13 _ _ _ hBs]; rfl
    clear HPp hBs hHeld hBg q1 q2 HBG HFZ HPU HM xS xS2 k1 k2' f1
    generalize w2.setCell ⟨p, 1, none⟩ (.slice (some ⟨g2, 0, none⟩) (st.xs.length + 1) cap2) = W3 at *
    have m1 := hEm.cel.c1
    have hlen : (st.xs ++ [{ e0 with before := b, next := k }]).length = st.xs.length + 1 := by simp
    obtain ⟨-, -, -, mb⟩ := hEm.at_ b (by rw [hlen]; omega)
    obtain ⟨-, -, mk, -⟩ := hEm.at_ k (by rw [hlen]; omega)
    have fz := hEm.frE
    have hne := hEm.ne
    have hne' := hne.symm
    have hbl : (b : Int) < (st.xs.length : Int) + 1 := by omega
    have hkl : (k : Int) < (st.xs.length : Int) + 1 := by omega
    have hb0 : (0 : Int) ≤ (b : Int) := by omega
    have hk0 : (0 : Int) ≤ (k : Int) := by omega
    have HEm := Lib.hid hEm
    have HBel := Lib.hid hBel
    have HKp := Lib.hid hKp
    clear hEm hBel hlen hKp
    go_wp2_with fail
    go_region_held3 (fun w' => w'.cell? ⟨p, 1, none⟩ = some (.slice (some ⟨g2, 0, none⟩) (st.xs.length + 1) cap2) ∧ w'.cell? ⟨w.heap.size, 13, none⟩ = some (.int .i64 b)) (go_keep) (fail)
    go_wp2_with fail
    go_ret
    obtain ⟨⟨v1, s1⟩, s2⟩ := HEm.out.drew.stN b st.xs.length (by simp; omega)
    obtain ⟨⟨v2, s3⟩, s4⟩ := s1.stB k st.xs.length (by show k < (setN _ _ _).length; rw [len_setN]; simp; omega)
    refine ⟨.slice (some ⟨g2, 0, none⟩) (st.xs.length + 1) cap2, v2, rfl, ?_, HBel.out.trans ((Below.refl base W3).drew.trans (s2.1.trans s4.1)), fun q hq => (s4.2 q hq).trans ((s2.2 q hq).trans (HKp.out q hq))⟩
    unfold insX
    have hb' : (elX st.xs k).before = b := HB.out
    rw [hb']
    exact s3

end Go.Proofs.Ytfnloonmeilhlaa
namespace Go.Proofs.Ytfnloonmeilhlaa
open Go.RowKit Go.Pub
theorem RepI.open_ {w : World} {S : Nat → Prop} {v : Array Value} {t : InT} (h : RepI w S v t) : ∃ x0 x1 x2 x3 x4 x5 x6 x7 x8 x9, v = #[x0, x1, x2, x3, x4, x5, x6, x7, x8, x9] := by
  cases h
  exact ⟨_, _, _, _, _, _, _, _, _, _, rfl⟩
section
variable {w w' : World} {base p g n cap : Nat} {L vP : Value} {vO : Nat → Value} {S : Nat → Prop} {vs : List (Array Value)} {st : EmS}
theorem EmR.cells15 (h : EmR w base p L (.slice (some ⟨g, 0, none⟩) n cap) vO vP S vs st) (i : Nat) (hi : i < st.xs.length) :
    ∃ x0 x1 x2 x3 x4 x5 x6 x7 x8 x9, RepI w S #[x0, x1, x2, x3, x4, x5, x6, x7, x8, x9] (elX st.xs i).t ∧
      w.rangeAt g (i * 15) [x0, x1, x2, x3, x4, x5, x6, x7, x8, x9, .bool (runX st.xs i), .int .i64 (pX st.xs i), .int .i64 (lfX st.xs i), .int .i64 (bf st.xs i), .int .i64 (nx st.xs i)] ∧
      (∀ u ∈ [x0, x1, x2, x3, x4, x5, x6, x7, x8, x9, .bool (runX st.xs i), .int .i64 (pX st.xs i), .int .i64 (lfX st.xs i), .int .i64 (bf st.xs i), .int .i64 (nx st.xs i)], u.oneCell' = true) := by
  obtain ⟨g', cap', e, -, -, -, -, h1⟩ := h.row (by omega)
  injection e with e e2 e3
  injection e with e
  injection e with e
  subst e
  obtain ⟨v, ⟨r, hr, rfl⟩, -, hc⟩ := h1 i hi
  obtain ⟨x0, x1, x2, x3, x4, x5, x6, x7, x8, x9, rfl⟩ := RepI.open_ hr
  refine ⟨x0, x1, x2, x3, x4, x5, x6, x7, x8, x9, hr, fun j u hj => ?_, fun u hu => ?_⟩
  · have hl : j < 15 := by
      have := (List.getElem?_eq_some_iff.1 hj).1
      simpa using this
    rw [hc j hl, ← hj]
    unfold elC
    rw [← Array.getElem?_toList]
    rfl
  · have h10 := hr.one
    simp only [List.mem_cons, List.not_mem_nil, or_false] at hu h10
    rcases hu with rfl | rfl | rfl | rfl | rfl | rfl | rfl | rfl | rfl | rfl | rfl | rfl | rfl | rfl | rfl
    all_goals first | rfl | exact h10 _ (by simp)
end
/-- The state has changed, its elements lie where they lay. -/
def UpdPost (base p : Nat) (L vE : Value) (vO : Nat → Value) (vP : Value) (S : Nat → Prop) (st' : EmS) (w : World) (e : Ending) (w' : World) : Prop :=
  ∃ vs', e = .returned (.tuple #[]) ∧ EmR w' base p L vE vO vP S vs' st' ∧ Below base w w' ∧ ∀ q, S q → w'.heap[q]? = w.heap[q]?
set_option maxRecDepth 100000 in
set_option maxHeartbeats 4000000 in
theorem e_remove {base p g n cap : Nat} {L vP : Value} {vO : Nat → Value} {S : Nat → Prop} {vs : List (Array Value)} {st : EmS} (w : World) (h : EmR w base p L (.slice (some ⟨g, 0, none⟩) n cap) vO vP S vs st) (hbase : base ≤ w.heap.size)
    (k : Nat) (hk : k < st.xs.length) (hb : bf st.xs k < st.xs.length) (hx : nx st.xs k < st.xs.length) :
    Calls Try.prog 59 #[.pointer (some ⟨p, 0, none⟩), .int .i64 k] w (UpdPost base p L (.slice (some ⟨g, 0, none⟩) n cap) vO vP S { st with xs := rmX st.xs k } w) := by
  have hn := own_len h.els
  subst hn
  obtain ⟨x0, x1, x2, x3, x4, x5, x6, x7, x8, x9, hr, hrg, h1⟩ := h.cells15 k hk
  have hgl := (h.els.lt g rfl).2
  have c1 : w.cell? ⟨p, 1, none⟩ = some (.slice (some ⟨g, 0, none⟩) st.xs.length cap) := h.cel.c1
  have hkn : (k : Int) < (st.xs.length : Int) := by omega
  have hbn : (bf st.xs k : Int) < (st.xs.length : Int) := by omega
  have hxn : (nx st.xs k : Int) < (st.xs.length : Int) := by omega
  have HE : Hid (rmX st.xs k = setBf (setN st.xs (bf st.xs k) (nx st.xs k)) (nx st.xs k) (bf st.xs k)) := Lib.hid rfl
  generalize hbk : bf st.xs k = b at *
  generalize hnk : nx st.xs k = m at *
  generalize runX st.xs k = q1 at *
  generalize pX st.xs k = q2 at *
  generalize lfX st.xs k = q3 at *
  have HH := Lib.hid h
  have HG := Lib.hid hrg
  have H1 := Lib.hid h1
  have hb0 : (0 : Int) ≤ (b : Int) := by omega
  have hm0 : (0 : Int) ≤ (m : Int) := by omega
  clear h hr hrg h1 hbk hnk
  go_enter Try.func59, Try.ntmps59
  go_wp2_with (first | (refine wpList_load_mid rfl 76 (.tmp 10) rfl g (k * 15) rfl _ _ HG.out Try.underlying76 rfl elem_size ?_) | (refine wpList_store_row rfl 76 (.tmp 4) (.tmp 11) rfl w.heap.size _ rfl rfl 76 _ (Blk.new _ _ _) elem_size (by rfl) (by simpa using H1.out) ?_; rw [World.setRow_alloc_new]))
  have hB1 : Below w.heap.size w (w.alloc (.cells #[x0, x1, x2, x3, x4, x5, x6, x7, x8, x9, .bool q1, .int .i64 q2, .int .i64 q3, .int .i64 b, .int .i64 m] 76)) := (Below.refl _ w).alloc (Nat.le_refl _) _
  have hK1 := Blk.new w 76 #[x0, x1, x2, x3, x4, x5, x6, x7, x8, x9, .bool q1, .int .i64 q2, .int .i64 q3, .int .i64 b, .int .i64 m]
  generalize w.alloc (.cells #[x0, x1, x2, x3, x4, x5, x6, x7, x8, x9, .bool q1, .int .i64 q2, .int .i64 q3, .int .i64 b, .int .i64 m] 76) = W1 at *
  have hE1 := HH.out.below hB1
  have HB1 := Lib.hid hB1
  have m1 := hE1.cel.c1
  have m2 : W1.cell? ⟨w.heap.size, 13, none⟩ = some (.int .i64 b) := hK1.cell 13
  have m3 : W1.cell? ⟨w.heap.size, 14, none⟩ = some (.int .i64 m) := hK1.cell 14
  obtain ⟨-, -, -, mb⟩ := hE1.at_ b (by omega)
  obtain ⟨-, -, mm, -⟩ := hE1.at_ m (by omega)
  have fz := hE1.frE
  have hne := hE1.ne
  have hne' := hne.symm
  have hgn : g ≠ w.heap.size := by omega
  have hgn' := hgn.symm
  have HE1 := Lib.hid hE1
  clear hE1 hB1 hK1 c1
  go_region_held3 (fun w' => w'.cell? ⟨p, 1, none⟩ = some (.slice (some ⟨g, 0, none⟩) st.xs.length cap) ∧ w'.cell? ⟨w.heap.size, 13, none⟩ = some (.int .i64 b) ∧ w'.cell? ⟨w.heap.size, 14, none⟩ = some (.int .i64 m)) (go_keep) (fail)
  go_wp2_with fail
  go_region_held3 (fun w' => w'.cell? ⟨p, 1, none⟩ = some (.slice (some ⟨g, 0, none⟩) st.xs.length cap) ∧ w'.cell? ⟨w.heap.size, 13, none⟩ = some (.int .i64 b) ∧ w'.cell? ⟨w.heap.size, 14, none⟩ = some (.int .i64 m)) (go_keep) (fail)
  go_wp2_with fail
  go_end0
  obtain ⟨⟨v1, s1⟩, s2⟩ := HE1.out.drew.stN b m (by omega)
  obtain ⟨⟨v2, s3⟩, s4⟩ := s1.drew.stB m b (by show m < (setN _ _ _).length; rw [len_setN]; omega)
  refine ⟨v2, rfl, ?_, (HB1.out.mono hbase).trans ((Below.refl base W1).drew.trans (s2.1.trans ((Below.refl base _).drew.trans s4.1))), fun q hq => (s4.2 q hq).trans ((s2.2 q hq).trans (HB1.out.block q (HH.out.fro q hq).1))⟩
  rw [HE.out]
  exact s3

end Go.Proofs.Ytfnloonmeilhlaa
namespace Go.Pub
open Go.RowKit
/-- The cells of a piece. -/
def pcW (r : Array Value) (p : PcT) : Array Value := #[.int .i64 p.kind] ++ r ++ #[.string p.ch, .int .i64 p.n, .bool p.opn, .bool p.clo, .bool p.img, .int .i64 p.bg, .int .i64 p.nd]
def RepPc (w : World) (S : Nat → Prop) (v : Array Value) (p : PcT) : Prop := ∃ r, RepI w S r p.inl ∧ v = pcW r p
/-- Pieces that are read. -/
def PcsR (w : World) (S : Nat → Prop) (L : Value) (ps : List PcT) : Prop :=
  ∃ (A : Option Addr) (c : Nat) (vs : List (Array Value)), L = .slice A ps.length c ∧ vs.length = ps.length ∧ (∀ i, i < ps.length → RepPc w S (vs.getD i #[]) (pcX ps i)) ∧ ReadsS w S 18 A ps.length (vs.flatMap Array.toList)
section
variable {w w' : World} {S S' : Nat → Prop} {L : Value} {ps : List PcT}
theorem RepI.opn {w : World} {S : Nat → Prop} {v : Array Value} {t : InT} (h : RepI w S v t) : ∃ x0 x1 x2 x3 x4 x5 x6 x7 x8 x9, v = #[x0, x1, x2, x3, x4, x5, x6, x7, x8, x9] := by
  cases h
  exact ⟨_, _, _, _, _, _, _, _, _, _, rfl⟩
theorem RepPc.keep {v : Array Value} {p : PcT} (h : RepPc w S v p) (hk : ∀ g, S g → w'.heap[g]? = w.heap[g]?) (hS : ∀ g, S g → S' g) : RepPc w' S' v p := by
  obtain ⟨r, hr, e⟩ := h
  exact ⟨r, hr.keep hk hS, e⟩
theorem RepPc.size {v : Array Value} {p : PcT} (h : RepPc w S v p) : v.size = 18 := by
  obtain ⟨r, hr, rfl⟩ := h
  unfold pcW; simp [hr.size]
theorem PcsR.keep (h : PcsR w S L ps) (hk : ∀ g, S g → w'.heap[g]? = w.heap[g]?) (hS : ∀ g, S g → S' g) : PcsR w' S' L ps := by
  obtain ⟨A, c, vs, e, hl, hr, hm⟩ := h
  exact ⟨A, c, vs, e, hl, fun i hi => (hr i hi).keep hk hS, hm.keep hk hS⟩
set_option maxHeartbeats 2000000 in
theorem PcsR.opn (h : PcsR w S L ps) (hn : 0 < ps.length) : ∃ b off c, L = .slice (some ⟨b, off, none⟩) ps.length c ∧ S b ∧ ∀ i, i < ps.length → ∃ x0 x1 x2 x3 x4 x5 x6 x7 x8 x9, RepI w S #[x0, x1, x2, x3, x4, x5, x6, x7, x8, x9] (pcX ps i).inl ∧
    w.rangeAt b (off + i * 18) [.int .i64 (pcX ps i).kind, x0, x1, x2, x3, x4, x5, x6, x7, x8, x9, .string (pcX ps i).ch, .int .i64 (pcX ps i).n, .bool (pcX ps i).opn, .bool (pcX ps i).clo, .bool (pcX ps i).img, .int .i64 (pcX ps i).bg, .int .i64 (pcX ps i).nd] ∧
    (∀ u ∈ [Value.int .i64 (pcX ps i).kind, x0, x1, x2, x3, x4, x5, x6, x7, x8, x9, .string (pcX ps i).ch, .int .i64 (pcX ps i).n, .bool (pcX ps i).opn, .bool (pcX ps i).clo, .bool (pcX ps i).img, .int .i64 (pcX ps i).bg, .int .i64 (pcX ps i).nd], u.oneCell' = true) := by
  obtain ⟨A, c, vs, e, hl, hr, hm⟩ := h
  obtain ⟨b, off, rfl, hb, hc⟩ := hm.row hn (by decide)
  have hs : ∀ v ∈ vs, v.size = 18 := fun v hv => by
    obtain ⟨i, hi, rfl⟩ := List.mem_iff_getElem.1 hv
    have := (hr i (by omega)).size
    rwa [List.getD_eq_getElem?_getD, List.getElem?_eq_getElem hi] at this
  refine ⟨b, off, c, e, hb, fun i hi => ?_⟩
  obtain ⟨r, hri, he⟩ := hr i hi
  generalize pcX ps i = P at *
  clear hr hm
  obtain ⟨x0, x1, x2, x3, x4, x5, x6, x7, x8, x9, rfl⟩ := hri.opn
  refine ⟨x0, x1, x2, x3, x4, x5, x6, x7, x8, x9, hri, fun j u hj => ?_, fun u hu => ?_⟩
  · have hj18 : j < 18 := by
      have := (List.getElem?_eq_some_iff.1 hj).1
      simpa using this
    have h1 := flatz_get 18 vs hs i j (by omega) hj18
    rw [Nat.add_assoc]
    refine hc (i * 18 + j) u ?_
    rw [h1, he, ← hj]
    unfold pcW
    rw [← Array.getElem?_toList]
    rfl
  · have h10 := hri.one
    have hu' : u = .int .i64 P.kind ∨ u ∈ [x0, x1, x2, x3, x4, x5, x6, x7, x8, x9] ∨ u ∈ [Value.string P.ch, .int .i64 P.n, .bool P.opn, .bool P.clo, .bool P.img, .int .i64 P.bg, .int .i64 P.nd] := by
      rcases List.mem_cons.1 hu with hu | hu
      · exact .inl hu
      · exact .inr (List.mem_append.1 (show u ∈ [x0, x1, x2, x3, x4, x5, x6, x7, x8, x9] ++ [Value.string P.ch, .int .i64 P.n, .bool P.opn, .bool P.clo, .bool P.img, .int .i64 P.bg, .int .i64 P.nd] from hu))
    rcases hu' with rfl | hu' | hu'
    · rfl
    · exact h10 u hu'
    · simp only [List.mem_cons, List.not_mem_nil, or_false] at hu'
      rcases hu' with rfl | rfl | rfl | rfl | rfl | rfl | rfl <;> rfl

end
end Go.Pub
namespace Go.Proofs.Ytfnloonmeilhlaa
open Go.RowKit Go.Pub
theorem pcE_size : (Try.prog.info? 39).map (·.size) = some 18 := by kernel_rfl
theorem quiet_l {P : Program} {f : FuncId} {args : Array Value} {w : World} {n : Nat} {v : Value}
    (h : Calls P f args (w.drewN n) fun e w' => e = .returned v ∧ w.drewN n = w') : Calls P f args (w.drewN n) fun e w'' => e = .returned v ∧ ∃ m, w'' = w.drewN m :=
  h.mono fun _ _ ⟨he, hm⟩ => ⟨he, n, hm.symm⟩
theorem charNum_lt (c : ByteArray) : charNum c < 3 := by
  unfold charNum
  split
  · omega
  · split <;> omega
set_option maxRecDepth 100000 in
set_option maxHeartbeats 4000000 in
theorem e_openersLike (p : Nat) (kind n : Int) (x1 x2 x3 x4 x5 x6 x7 x8 x9 x10 : Value) (ch : ByteArray) (o c i : Bool) (a b : Int) (w : World) (hn : 1 ≤ n) (hn2 : n ≤ 262144) :
    Calls Try.prog 34 #[.pointer (some ⟨p, 0, none⟩), .agg #[.int .i64 kind, x1, x2, x3, x4, x5, x6, x7, x8, x9, x10, .string ch, .int .i64 n, .bool o, .bool c, .bool i, .int .i64 a, .int .i64 b]] w
      fun e w' => e = .returned (.pointer (some ⟨p, 2 + ((charNum ch * 3 + n.toNat % 3) * 2 + (if c = true then 1 else 0)), none⟩)) ∧ Below w.heap.size w w' := by
  have hc := charNum_lt ch
  have HC := Lib.hid fun W => e_char ch W
  obtain ⟨m, rfl⟩ : ∃ m : Nat, n = m := ⟨n.toNat, by omega⟩
  rw [Int.toNat_natCast]
  have hc3 : (charNum ch : Int) < 3 := by omega
  have hc0 : (0 : Int) ≤ (charNum ch : Int) := by omega
  obtain ⟨r, hr⟩ : ∃ r, r = m % 3 := ⟨_, rfl⟩
  have hr3 : r < 3 := by omega
  have hm3 : (m : Int) % 3 = (r : Int) := by omega
  have hr3' : (r : Int) < 3 := by omega
  have hr0' : (0 : Int) ≤ (r : Int) := by omega
  rw [← hr]
  clear hr
  generalize charNum ch = q at *
  cases c
  · go_enter Try.func34, Try.ntmps34
    go_wp2_with fail
    go_quiet ((go_at_call 49; exact quiet_l (HC.out _)))
    go_wp2_with fail
    go_ret
    have e1 : 2 + q * 6 + r * 2 = 2 + (q * 3 + r) * 2 := by omega
    exact ⟨by show Ending.returned (.pointer (some ⟨p, 2 + q * 6 + r * 2, none⟩)) = _; rw [e1], below_drewN ((Below.refl _ w).alloc (Nat.le_refl _) _) _⟩
  · go_enter Try.func34, Try.ntmps34
    go_wp2_with fail
    go_quiet ((go_at_call 49; exact quiet_l (HC.out _)))
    go_wp2_with fail
    go_ret
    have e1 : 2 + q * 6 + r * 2 + 1 = 2 + ((q * 3 + r) * 2 + 1) := by omega
    exact ⟨by show Ending.returned (.pointer (some ⟨p, 2 + q * 6 + r * 2 + 1, none⟩)) = _; rw [e1], below_drewN ((Below.refl _ w).alloc (Nat.le_refl _) _) _⟩

end Go.Proofs.Ytfnloonmeilhlaa
namespace Go.Pub
theorem take_rev {l : List Nat} {j : Nat} (h : j < l.length) : (l.take (j + 1)).reverse = l[j] :: (l.take j).reverse := by
  rw [List.take_succ_eq_append_getElem h, List.reverse_append]; rfl
theorem sk_ways (z1 z2 z3 z4 o : Bool) (hs : ¬ ((z1 || o) && !z2 && (z3 && !z4)) = true) : (z1 = true ∧ z2 = true) ∨ (z1 = true ∧ z2 = false ∧ z3 = false) ∨ (z1 = true ∧ z2 = false ∧ z3 = true ∧ (!z4) = false) ∨
    (z1 = false ∧ o = false) ∨ (z1 = false ∧ o = true ∧ z2 = true) ∨ (z1 = false ∧ o = true ∧ z2 = false ∧ z3 = false) ∨ (z1 = false ∧ o = true ∧ z2 = false ∧ z3 = true ∧ (!z4) = false) := by
  cases z1 <;> cases z2 <;> cases z3 <;> cases z4 <;> cases o <;> simp_all
theorem sk_ways2 (z1 z2 z3 z4 o : Bool) (hs : ((z1 || o) && !z2 && (z3 && !z4)) = true) : (z1 = true ∧ z2 = false ∧ z3 = true ∧ (!z4) = true) ∨ (z1 = false ∧ o = true ∧ z2 = false ∧ z3 = true ∧ (!z4) = true) := by
  cases z1 <;> cases z2 <;> cases z3 <;> cases z4 <;> cases o <;> simp_all
theorem openerF_sk {c : PcT} {ops : Nat → List Nat} {pv k : Nat} (hs : skipK c k = true) : openerF c ops pv (k + 1) = openerF c ops pv k := by
  rw [openerF, if_pos hs]
theorem openerF_at {c : PcT} {ops : Nat → List Nat} {pv k R : Nat} (hs : skipK c k = false) (h : nearL pv (openerF c ops pv k) (ops (charNum c.ch * 6 + k)).reverse = R) : openerF c ops pv (k + 1) = R := by
  rw [openerF, if_neg (by rw [hs]; decide)]; exact h
end Go.Pub
namespace Go.Proofs.Ytfnloonmeilhlaa
open Go.RowKit Go.Pub
theorem own_form {w : World} {base n s : Nat} {e : TypeId} {v : Value} {xs : List Value} (h : w.ownsRow base e s v n xs) : ∃ A c, v = .slice A n c ∧ n ≤ maxLen ∧ (0 < n → ∃ g, A = some ⟨g, 0, none⟩ ∧ g < w.heap.size ∧ ∀ j u, xs[j]? = some u → w.cell? ⟨g, j, none⟩ = some u) := by
  rcases Nat.eq_zero_or_pos n with h0 | h0
  · subst h0
    rcases h.2 with ⟨e, _⟩ | ⟨g', cap', cur, e, _⟩
    · exact ⟨_, _, e, Nat.zero_le _, fun h => absurd h (by omega)⟩
    · exact ⟨_, _, e, Nat.zero_le _, fun h => absurd h (by omega)⟩
  · obtain ⟨g, cap, e, h1, h2⟩ := h.form h0
    refine ⟨_, _, e, ?_, fun _ => ⟨g, rfl, h2, fun j u hj => ?_⟩⟩
    · rcases h.2 with ⟨_, h0⟩ | ⟨g', cap', cur, _, _, _, h1, h2, _⟩
      · omega
      · exact Nat.le_trans h1 h2
    subst e
    rw [h.cellAt j (by have := (List.getElem?_eq_some_iff.1 hj).1; have := h.1; omega)]
    exact hj
/-- A whole struct is loaded first. -/
theorem tkm {P : Program} {ops : Array Oper} {Q : Exit → Act → World → Prop} {S : World → Prop} {fuel : Nat} {listed : Array Bool} {a : Act} {w : World} (i : Nat) (ty : TypeId) (x : Operand) (b o : Nat) (cs : List Value) (d : TypeDesc) {oi : Oper} (hi : ops[i]? = some oi) (hS : S w)
    (ho : oi.op = .load ty x) (hr : ∀ w, S w → w.rangeAt b o cs) (hu : P.underlying ty = some d) (hd : d.isRow = true) (hz : (P.info? ty).map (·.size) = some cs.length)
    (h : wpAnyH P .any ops Q S fuel (listed.setIfInBounds i true) (a.put oi.dst (.agg cs.toArray)) w)
    (hs : Region.noSelect ops = true := by kernel_rfl) (hf : Region.free .any ops listed i = true := by kernel_rfl) (hrd : (Region.ready .any ops listed).contains i = true := by kernel_rfl)
    (hx : a.eval x = .pointer (some ⟨b, o, none⟩) := by kernel_rfl) (hw : Region.wanted oi (yielded ops a.tmps) = true := by kernel_rfl) (hQ : ∀ c a w, Q (.panic c) (a.put oi.dst (.agg cs.toArray)) w → Q (.panic c) a w := by exact fun _ _ _ h => h) : wpAnyH P .any ops Q S (fuel + 1) listed a w :=
  wpAnyH_take hi hs hf hrd hQ (yieldsIf_load_mid hw ty x ho b o hx cs d hr hu hd hz) hS h
theorem step_store_row' {ops : Array Oper} {o : Oper} {a : Act} {w : World} {K : Act → World → Prop} {Q : Exit → Act → World → Prop} {E : Prop} (hgd : o.guard = none) (ty : TypeId) (x y : Operand) (ho : o.op = .store ty x y)
    (g : Nat) (cells : Array Value) (hx : a.eval x = .pointer (some ⟨g, 0, none⟩)) (hy : a.eval y = .agg cells)
    (t : TypeId) (old : Array Value) (hg : w.heap[g]? = some (.cells old t (0, 0))) (hi : (Try.prog.info? ty).map (·.size) = some cells.size)
    (hold : old.size = cells.size) (h1 : cells.all (·.oneCell') = true)
    (h : K (a.put o.dst undef) (w.setRow g cells)) : if Region.wanted o (yielded ops a.tmps) = true then Oper.wp Try.prog o a w K Q else E := by
  have hw : Region.wanted o (yielded ops a.tmps) = true := by simp [Region.wanted, hgd]
  rw [if_pos hw]
  exact wp_store_row ty x y ho g cells hx hy t old hg hi hold h1 h
set_option maxRecDepth 100000 in
set_option maxHeartbeats 4000000 in
theorem e_opener {base p g n cap : Nat} {L vP : Value} {vO : Nat → Value} {S : Nat → Prop} {vs : List (Array Value)} {st : EmS} {ps : List PcT} (w : World) (h : EmR w base p L (.slice (some ⟨g, 0, none⟩) n cap) vO vP S vs st) (hL : PcsR w S L ps) (hbase : base ≤ w.heap.size)
    (c : Nat) (hc : c < st.xs.length) (hp : pX st.xs c < ps.length) (hn1 : 1 ≤ (pcX ps (pX st.xs c)).n) (hn2 : (pcX ps (pX st.xs c)).n ≤ 262144) (hnl0 : ∀ k x, x ∈ st.ops k → x < st.xs.length) (h0l : st.xs.length ≤ 1000000000) :
    Calls Try.prog 47 #[.pointer (some ⟨p, 0, none⟩), .int .i64 c] w fun e w' => e = .returned (.tuple #[.int .i64 (openA (pcX ps (pX st.xs c)) st.ops (bf st.xs c) : Nat), .bool (decide (0 < openA (pcX ps (pX st.xs c)) st.ops (bf st.xs c)))]) ∧ Below w.heap.size w w' := by
  have hn := own_len h.els
  subst hn
  have hnl : ∀ k, openerF (pcX ps (pX st.xs c)) st.ops (bf st.xs c) k < st.xs.length := fun k => by
    rcases openerF_spec (pcX ps (pX st.xs c)) st.ops (bf st.xs c) k with h | ⟨j, -, -, h, -⟩
    · omega
    · exact hnl0 _ _ h
  obtain ⟨b, off, cl, rfl, hSb, hpc⟩ := hL.opn (by omega)
  obtain ⟨x0, x1, x2, x3, x4, x5, x6, x7, x8, x9, hr, hrg, h1⟩ := hpc _ hp
  have hbl := (h.fro b hSb).1
  have hgl := (h.els.lt g rfl).2
  obtain ⟨cp, -, cb, -⟩ := h.at_ c hc
  have c0 : w.cell? ⟨p, 0, none⟩ = some (.slice (some ⟨b, off, none⟩) ps.length cl) := h.cel.c0
  have c1 : w.cell? ⟨p, 1, none⟩ = some (.slice (some ⟨g, 0, none⟩) st.xs.length cap) := h.cel.c1
  have hcn : (c : Int) < (st.xs.length : Int) := by omega
  have hqn : (pX st.xs c : Int) < (ps.length : Int) := by omega
  have cp : w.cell? ⟨g, c * 15 + 11, none⟩ = some (.int .i64 (pX st.xs c : Nat)) := cp
  have HA : Hid (openA (pcX ps (pX st.xs c)) st.ops (bf st.xs c) = openerF (pcX ps (pX st.xs c)) st.ops (bf st.xs c) 6) := Lib.hid rfl
  generalize hP : pcX ps (pX st.xs c) = P at *
  generalize hq : pX st.xs c = q at *
  generalize hbf : bf st.xs c = pv at *
  obtain ⟨kind, inl, ch, n, o, cc, im, bg, nd⟩ := P
  dsimp only at hrg h1 hn1 hn2
  obtain ⟨m, rfl⟩ : ∃ m : Nat, n = m := ⟨n.toNat, by omega⟩
  have HPV := Lib.hid hbf
  have HN : Hid (∀ k, openerF ⟨kind, inl, ch, (m : Int), o, cc, im, bg, nd⟩ st.ops pv k < st.xs.length) := Lib.hid fun k => hnl k
  have hq0 : (0 : Int) ≤ (q : Int) := by omega
  have HH := Lib.hid h
  have HL := Lib.hid hL
  have HR := Lib.hid hrg
  have H1 := Lib.hid h1
  have HC := Lib.hid fun W => e_char ch W
  clear h hL hrg h1 hr hpc hP hq hbf
  go_enter Try.func47, Try.ntmps47
  go_wp2_with fail
  go_step3
  go_wp2_with fail
  have K0 := Lib.hid fun (W' : World) (hb : Below w.heap.size w W') => (hb.cell (p := ⟨p, 0, none⟩) HH.out.cel.lt).trans c0
  have K1 := Lib.hid fun (W' : World) (hb : Below w.heap.size w W') => (hb.cell (p := ⟨p, 1, none⟩) HH.out.cel.lt).trans c1
  have K2 := Lib.hid fun (W' : World) (hb : Below w.heap.size w W') => (hb.cell (p := ⟨g, c * 15 + 11, none⟩) hgl).trans cp
  have KR := Lib.hid fun (W' : World) (hb : Below w.heap.size w W') => (show W'.rangeAt b (off + q * 18) [.int .i64 kind, x0, x1, x2, x3, x4, x5, x6, x7, x8, x9, .string ch, .int .i64 m, .bool o, .bool cc, .bool im, .int .i64 bg, .int .i64 nd] from fun j v hj => (hb.cell (p := ⟨b, off + q * 18 + j, none⟩) hbl).trans (HR.out j v hj))
  clear c0 c1 cp cb
  refine wp_region_held_drew (S := fun W' => Below w.heap.size w W') (by kernel_rfl) (Below.refl _ w).drew (fun hHeld => ?_)
  refine tk 0 (.pointer (some ⟨p, 0, none⟩)) rfl hHeld (fun W' hSw => ?_) ?_
  · go_simp
  refine tk 1 (.pointer (some ⟨p, 0, none⟩)) rfl hHeld (fun W' hSw => ?_) ?_
  · go_simp
  refine tk 2 (.pointer (some ⟨p, 0, none⟩)) rfl hHeld (fun W' hSw => ?_) ?_
  · go_simp
  refine tk 3 (.slice (some ⟨b, off, none⟩) ps.length cl) rfl hHeld (fun W' hSw => ?_) ?_
  · have := K0.out W' hSw
    go_simp
  refine tk 4 (.pointer (some ⟨p, 0, none⟩)) rfl hHeld (fun W' hSw => ?_) ?_
  · go_simp
  refine tk 5 (.pointer (some ⟨p, 0, none⟩)) rfl hHeld (fun W' hSw => ?_) ?_
  · go_simp
  refine tk 6 (.pointer (some ⟨p, 1, none⟩)) rfl hHeld (fun W' hSw => ?_) ?_
  · go_simp
  refine tk 7 (.slice (some ⟨g, 0, none⟩) st.xs.length cap) rfl hHeld (fun W' hSw => ?_) ?_
  · have := K1.out W' hSw
    go_simp
  refine tk 8 (.int .i64 c) rfl hHeld (fun W' hSw => ?_) ?_
  · go_simp
  refine tk 9 (.pointer (some ⟨g, c * 15, none⟩)) rfl hHeld (fun W' hSw => ?_) ?_
  · go_simp
  refine tk 10 (.pointer (some ⟨g, c * 15 + 11, none⟩)) rfl hHeld (fun W' hSw => ?_) ?_
  · go_simp
  refine tk 11 (.int .i64 q) rfl hHeld (fun W' hSw => ?_) ?_
  · have := K2.out W' hSw
    go_simp
  refine tk 12 (.pointer (some ⟨b, off + q * 18, none⟩)) rfl hHeld (fun W' hSw => ?_) ?_
  · go_simp
  refine tkm 13 39 (.tmp 25) b (off + q * 18) [.int .i64 kind, x0, x1, x2, x3, x4, x5, x6, x7, x8, x9, .string ch, .int .i64 m, .bool o, .bool cc, .bool im, .int .i64 bg, .int .i64 nd] _ rfl hHeld rfl KR.out Try.underlying39 rfl pcE_size ?_
  refine rd1 14 rfl (fun K hK => ?_)
  go_simp
  have B1 : Below w.heap.size w (w.drew.alloc (.cells #[.int .i64 0, .int .i64 0, .string ⟨#[]⟩, .string ⟨#[]⟩, .string ⟨#[]⟩, .string ⟨#[]⟩, .slice none 0 0, .slice none 0 0, .slice none 0 0, .slice none 0 0, .slice none 0 0, .string ⟨#[]⟩, .int .i64 0, .bool false, .bool false, .bool false, .int .i64 0, .int .i64 0] 39)) := (Below.refl _ w).drew.alloc (Nat.le_refl _) _
  refine hK.out _ _ B1 (fun hHeld => ?_)
  clear hK K
  refine rd1 15 rfl (fun K hK => ?_)
  refine step_store_row' rfl 39 (.tmp 6) (.tmp 26) rfl w.heap.size #[.int .i64 kind, x0, x1, x2, x3, x4, x5, x6, x7, x8, x9, .string ch, .int .i64 m, .bool o, .bool cc, .bool im, .int .i64 bg, .int .i64 nd] (by kernel_rfl) (by kernel_rfl) 39 _ (Blk.new w.drew _ _) pcE_size (by rfl) (by simpa using H1.out) ?_
  have HS : (w.alloc (.cells #[.int .i64 0, .int .i64 0, .string ⟨#[]⟩, .string ⟨#[]⟩, .string ⟨#[]⟩, .string ⟨#[]⟩, .slice none 0 0, .slice none 0 0, .slice none 0 0, .slice none 0 0, .slice none 0 0, .string ⟨#[]⟩, .int .i64 0, .bool false, .bool false, .bool false, .int .i64 0, .int .i64 0] 39)).drew.setRow w.heap.size #[.int .i64 kind, x0, x1, x2, x3, x4, x5, x6, x7, x8, x9, .string ch, .int .i64 m, .bool o, .bool cc, .bool im, .int .i64 bg, .int .i64 nd] = (w.alloc (.cells #[.int .i64 kind, x0, x1, x2, x3, x4, x5, x6, x7, x8, x9, .string ch, .int .i64 m, .bool o, .bool cc, .bool im, .int .i64 bg, .int .i64 nd] 39)).drew := World.setRow_alloc_new w.drew _ _ _
  rw [HS]
  clear HS
  have B2 : Below w.heap.size w (w.alloc (.cells #[.int .i64 kind, x0, x1, x2, x3, x4, x5, x6, x7, x8, x9, .string ch, .int .i64 m, .bool o, .bool cc, .bool im, .int .i64 bg, .int .i64 nd] 39)).drew := ((Below.refl _ w).alloc (Nat.le_refl _) _).drew
  refine hK.out _ _ B2 (fun hHeld => ?_)
  clear hK K B1
  refine wpAnyH_done (by kernel_rfl) ?_ _
  have X1 : Blk (w.alloc (.cells #[.int .i64 kind, x0, x1, x2, x3, x4, x5, x6, x7, x8, x9, .string ch, .int .i64 m, .bool o, .bool cc, .bool im, .int .i64 bg, .int .i64 nd] 39)).drew w.heap.size 39 #[.int .i64 kind, x0, x1, x2, x3, x4, x5, x6, x7, x8, x9, .string ch, .int .i64 m, .bool o, .bool cc, .bool im, .int .i64 bg, .int .i64 nd] := Blk.new w _ _
  generalize (w.alloc (.cells #[.int .i64 kind, x0, x1, x2, x3, x4, x5, x6, x7, x8, x9, .string ch, .int .i64 m, .bool o, .bool cc, .bool im, .int .i64 bg, .int .i64 nd] 39)).drew = W1 at *
  go_wp2_with fail
  go_step3
  go_wp2_with fail
  have hB1 := Lib.hid B2
  have HWB := Lib.hid fun (wr : World) (hb : Below W1.heap.size W1 wr) => X1.below hb X1.lt
  have HBW := Lib.hid fun (wr : World) (hb : Below W1.heap.size W1 wr) => (B2.trans (hb.mono B2.size))
  have hWs := B2.size
  clear X1 B2 hHeld K0 K1 K2 KR
  go_loopw [7, 27] (fun v7 v27 wr => ∃ k : Nat, k ≤ 6 ∧ v27 = .int .i64 k ∧ v7 = .int .i64 (openerF ⟨kind, inl, ch, (m : Int), o, cc, im, bg, nd⟩ st.ops pv k : Nat) ∧ Hid (Below W1.heap.size W1 wr)) (fun _ v27 _ => 6 - (intOf v27).toNat)
  case atStart => exact ⟨0, by omega, rfl, rfl, Lib.hid (Below.refl _ _)⟩
  case round =>
    obtain ⟨k, hk6, rfl, rfl, HB⟩ := hrel
    rename World => wo
    have X3 := HWB.out _ HB.out
    have hb3 := HBW.out _ HB.out
    by_cases hk : k < 6
    · have hki : (k : Int) < 6 := by omega
      have hk0 : (0 : Int) ≤ (k : Int) := by omega
      have r2 : wo.cell? ⟨w.heap.size, 11, none⟩ = some (.string ch) := X3.cell 11
      have r3 : wo.cell? ⟨w.heap.size, 12, none⟩ = some (.int .i64 m) := X3.cell 12
      have r4 : wo.cell? ⟨w.heap.size, 13, none⟩ = some (.bool o) := X3.cell 13
      obtain ⟨a, ha⟩ : ∃ a, a = k / 2 := ⟨_, rfl⟩
      obtain ⟨bb, hbb⟩ : ∃ bb, bb = k % 2 := ⟨_, rfl⟩
      obtain ⟨md, hmd⟩ : ∃ md, md = (a + m) % 3 := ⟨_, rfl⟩
      have e1 : (k : Int) / 2 = (a : Int) := by omega
      have e2 : (k : Int) % 2 = (bb : Int) := by omega
      have e3 : ((a : Int) + (m : Int)) % 3 = (md : Int) := by omega
      have ha3 : (a : Int) < 3 := by omega
      have ha0 : (0 : Int) ≤ (a : Int) := by omega
      have hb2 : (bb : Int) < 2 := by omega
      have hb0 : (0 : Int) ≤ (bb : Int) := by omega
      have hsk : skipK ⟨kind, inl, ch, (m : Int), o, cc, im, bg, nd⟩ k = ((decide (bb = 1) || o) && !decide (ch.toList = [126]) && (decide (md = 0) && !decide (a = 0))) := by
        unfold skipK; rw [hmd, ha, hbb]; simp only [Int.toNat_natCast]
      have hjx : charNum ch * 6 + k < 18 := by have := charNum_lt ch; omega
      have hof : 2 + (charNum ch * 6 + k) = 2 + charNum ch * 6 + a * 2 + bb := by omega
      have hem := HH.out.below hb3
      have rO := hem.cel.cO _ hjx
      rw [hof] at rO
      obtain ⟨A, ca, hv, hlm, hA⟩ := own_form (hem.ops _ hjx)
      unfold maxLen at hlm
      rw [hv] at rO
      have HCK : Hid (∀ wr', Below wo.heap.size wo wr' → wr'.cell? ⟨g, c * 15 + 13, none⟩ = some (.int .i64 (pv : Nat)) ∧ wr'.cell? ⟨p, 1, none⟩ = some (.slice (some ⟨g, 0, none⟩) st.xs.length cap)) := Lib.hid fun wr' hb' => by
        have h2 := hem.below hb'
        exact ⟨by rw [← HPV.out]; exact (h2.at_ c hc).2.2.1, h2.cel.c1⟩
      have HS := Lib.hid hsk
      have HA2 := Lib.hid hA
      have HSTEP := Lib.hid fun (R : Nat) => openerF_at (c := ⟨kind, inl, ch, (m : Int), o, cc, im, bg, nd⟩) (ops := st.ops) (pv := pv) (k := k) (R := R)
      have HSK := Lib.hid (openerF_sk (c := ⟨kind, inl, ch, (m : Int), o, cc, im, bg, nd⟩) (ops := st.ops) (pv := pv) (k := k))
      have hNl := HN.out k
      obtain ⟨hc3, hc0⟩ : (charNum ch : Int) < 3 ∧ (0 : Int) ≤ (charNum ch : Int) := by have := charNum_lt ch; omega
      have HB2 := Lib.hid hb3
      clear hem hv hA hsk hof hmd ha hbb X3 hb3
      generalize hlo : st.ops (charNum ch * 6 + k) = lo at *
      clear hlo hjx
      generalize charNum ch = cq at *
      generalize openerF ⟨kind, inl, ch, (m : Int), o, cc, im, bg, nd⟩ st.ops pv k = nr at *
      by_cases hs : skipK ⟨kind, inl, ch, (m : Int), o, cc, im, bg, nd⟩ k = true
      · have HN2 : (((bb : Int) == 1) = true ∧ (ch.toList == [126]) = false ∧ ((md : Int) == 0) = true ∧ ((a : Int) != 0) = true) ∨ (((bb : Int) == 1) = false ∧ o = true ∧ (ch.toList == [126]) = false ∧ ((md : Int) == 0) = true ∧ ((a : Int) != 0) = true) := by
          have hs2 := hs
          rw [HS.out] at hs2
          have q1 : ((bb : Int) == 1) = decide (bb = 1) := by by_cases h : bb = 1 <;> simp [h]; omega
          have q2 : (ch.toList == [126]) = decide (ch.toList = [126]) := by by_cases h : ch.toList = [126] <;> simp [h]
          have q3 : ((md : Int) == 0) = decide (md = 0) := by by_cases h : md = 0 <;> simp [h]
          have q4 : ((a : Int) != 0) = !decide (a = 0) := by by_cases h : a = 0 <;> simp [h]
          rw [q1, q2, q3, q4]
          generalize decide (bb = 1) = z1 at *
          generalize decide (ch.toList = [126]) = z2 at *
          generalize decide (md = 0) = z3 at *
          generalize decide (a = 0) = z4 at *
          exact sk_ways2 z1 z2 z3 z4 o hs2
        rcases HN2 with ⟨g1, g2, g3, g4⟩ | ⟨g1, rfl, g3, g4, g5⟩
        all_goals
          go_wp2_with fail
          go_roundw
          case rel => exact ⟨k + 1, by omega, by go_num, by rw [HSK.out hs], HB⟩
          case measure => simp [intOf]; omega
      · have HN2 : (((bb : Int) == 1) = true ∧ (ch.toList == [126]) = true) ∨ (((bb : Int) == 1) = true ∧ (ch.toList == [126]) = false ∧ ((md : Int) == 0) = false) ∨ (((bb : Int) == 1) = true ∧ (ch.toList == [126]) = false ∧ ((md : Int) == 0) = true ∧ ((a : Int) != 0) = false) ∨
            (((bb : Int) == 1) = false ∧ o = false) ∨ (((bb : Int) == 1) = false ∧ o = true ∧ (ch.toList == [126]) = true) ∨ (((bb : Int) == 1) = false ∧ o = true ∧ (ch.toList == [126]) = false ∧ ((md : Int) == 0) = false) ∨ (((bb : Int) == 1) = false ∧ o = true ∧ (ch.toList == [126]) = false ∧ ((md : Int) == 0) = true ∧ ((a : Int) != 0) = false) := by
          rw [HS.out] at hs
          have q1 : ((bb : Int) == 1) = decide (bb = 1) := by by_cases h : bb = 1 <;> simp [h]; omega
          have q2 : (ch.toList == [126]) = decide (ch.toList = [126]) := by by_cases h : ch.toList = [126] <;> simp [h]
          have q3 : ((md : Int) == 0) = decide (md = 0) := by by_cases h : md = 0 <;> simp [h]
          have q4 : ((a : Int) != 0) = !decide (a = 0) := by by_cases h : a = 0 <;> simp [h]
          rw [q1, q2, q3, q4]
          generalize decide (bb = 1) = z1 at *
          generalize decide (ch.toList = [126]) = z2 at *
          generalize decide (md = 0) = z3 at *
          generalize decide (a = 0) = z4 at *
          exact sk_ways z1 z2 z3 z4 o hs
        rcases HN2 with ⟨g1, g2⟩ | ⟨g1, g2, g3⟩ | ⟨g1, g2, g3, g4⟩ | ⟨g1, rfl⟩ | ⟨g1, rfl, g3⟩ | ⟨g1, rfl, g3, g4⟩ | ⟨g1, rfl, g3, g4, g5⟩
        all_goals
          have hsF : skipK ⟨kind, inl, ch, (m : Int), _, cc, im, bg, nd⟩ k = false := eq_false_of_ne_true hs
          go_wp2_with fail
          go_quiet ((go_at_call 49; exact quiet_l (HC.out _)))
          go_wp2_with fail
          have H4 : Hid (Below W1.heap.size W1 (wo.drewN nq)) := Lib.hid (below_drewN HB.out nq)
          have H5 : Hid (Below wo.heap.size wo (wo.drewN nq)) := Lib.hid (below_drewN (Below.refl _ _) nq)
          generalize wo.drewN nq = wq at *
          clear r2 r3 r4 rO
          go_loopw [7, 12] (fun v7 v12 wx => ∃ m2 : Nat, m2 ≤ lo.length ∧ v7 = .int .i64 (nr : Nat) ∧ v12 = .int .i64 ((m2 : Int) - 1) ∧ Hid (nearL pv nr (lo.take m2).reverse = nearL pv nr lo.reverse) ∧ Hid (Below W1.heap.size W1 wx) ∧ Hid (Below wo.heap.size wo wx)) (fun _ v12 _ => (intOf v12 + 1).toNat)
          case atStart => exact ⟨lo.length, Nat.le_refl _, rfl, rfl, Lib.hid (by rw [List.take_length]), H4, H5⟩
          case round =>
            obtain ⟨m2, hm2, rfl, rfl, HT, H6, H7⟩ := hrel
            rename World => wx
            clear H4 H5
            rcases m2 with _ | j
            · rw [show ((0 : Nat) : Int) - 1 = -1 from rfl]
              go_wp2_with fail
              go_roundw
              case rel => exact ⟨k + 1, by omega, by go_num, by rw [HSTEP.out nr hsF HT.out.symm], H6⟩
              case measure => simp [intOf]; omega
            · rw [show ((j + 1 : Nat) : Int) - 1 = (j : Int) by omega]
              have hj : j < lo.length := hm2
              obtain ⟨gg, hA', hgo, hcell⟩ := HA2.out (by omega)
              subst hA'
              have hcj : wx.cell? ⟨gg, j, none⟩ = some (.int .i64 (lo[j] : Nat)) := (H7.out.cell (p := ⟨gg, j, none⟩) hgo).trans (hcell j _ (by unfold intsV; simp [hj]))
              obtain ⟨hpv, hp1⟩ := HCK.out wx H7.out
              have HT2 : Hid (nearL pv nr (lo[j] :: (lo.take j).reverse) = nearL pv nr lo.reverse) := Lib.hid (by rw [← take_rev hj]; exact HT.out)
              have hjl : (j : Int) < (lo.length : Int) := by omega
              have hj0 : (0 : Int) ≤ (j : Int) := by omega
              clear hcell HT
              generalize lo[j] = x at *
              by_cases hx : x ≤ nr
              · have d1 : decide (x ≤ nr) = true := decide_eq_true hx
                have HR : Hid (nearL pv nr lo.reverse = nr) := Lib.hid (by rw [← HT2.out]; simp [nearL, hx])
                go_wp2_with fail
                go_roundw
                case rel => exact ⟨k + 1, by omega, by go_num, by rw [HSTEP.out nr hsF HR.out], H6⟩
                case measure => simp [intOf]; omega
              · have d1 : decide (x ≤ nr) = false := decide_eq_false hx
                by_cases hy : pv = x
                · have d2 : ((pv : Int) != (x : Int)) = false := by rw [hy]; simp
                  have HR : Hid (nearL pv nr (lo.take j).reverse = nearL pv nr lo.reverse) := Lib.hid (by rw [← HT2.out]; simp [nearL, hx, hy])
                  clear hy
                  go_wp2_with fail
                  go_quiet (fail)
                  go_wp2_with fail
                  go_roundw
                  case rel => exact ⟨j, by omega, rfl, rfl, HR, Lib.hid (below_drewN H6.out _), Lib.hid (below_drewN H7.out _)⟩
                  case measure => simp [intOf]
                · have d2 : ((pv : Int) != (x : Int)) = true := bne_iff_ne.2 (by omega)
                  have HR : Hid (nearL pv nr lo.reverse = x) := Lib.hid (by rw [← HT2.out]; simp [nearL, hx, hy])
                  clear hy
                  go_wp2_with fail
                  go_quiet (fail)
                  go_wp2_with fail
                  go_roundw
                  case rel => exact ⟨k + 1, by omega, by go_num, by rw [HSTEP.out x hsF HR.out], Lib.hid (below_drewN H6.out _)⟩
                  case measure => simp [intOf]; omega
    · obtain rfl : k = 6 := by omega
      generalize openerF ⟨kind, inl, ch, (m : Int), o, cc, im, bg, nd⟩ st.ops pv 6 = R at *
      go_wp2_with fail
      rw [Exit.noGoto_ret]
      refine bodyPost_ret (v := .tuple #[.int .i64 (R : Nat), .bool (decide (0 < R))]) (by simp [results, Try.results47, go_sem]) rfl ⟨?_, HBW.out _ HB.out⟩
      rw [HA.out]

end Go.Proofs.Ytfnloonmeilhlaa
