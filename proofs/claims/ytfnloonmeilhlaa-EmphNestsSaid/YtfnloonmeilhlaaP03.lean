/-
  Texts of the proof, put together (what this law reaches): EmV, EmVA, EmXA, EmXB, ReadS, Blk, EmD.
-/
import Derived.Test.YtfnloonmeilhlaaP02
import Derived.Deep.AppendLies
import Derived.Test.YtfnloonmeilhlaaP01
import Derived.Deep.Draws
import Derived.Laws.Rows
set_option linter.unusedVariables false
set_option linter.unusedSimpArgs false
namespace Go.Pub
/-- The characters of the first runs. -/
def sumN (ps : List PcT) : Nat → Nat
  | 0 => 0
  | k + 1 => sumN ps k + if runP (pcX ps k) = true then (pcX ps k).n.toNat else 0
theorem sumN_le (ps : List PcT) {i j : Nat} (h : i ≤ j) : sumN ps i ≤ sumN ps j := by
  induction h with
  | refl => exact Nat.le_refl _
  | step _ ih => exact Nat.le_trans ih (Nat.le_add_right _ _)
structure MatI (ps : List PcT) (k : Nat) (st : EmS) (ids : List Nat) : Prop where
  em : EmI ps st ids
  rb : RunB ps st.xs
  len : st.xs.length ≤ 1 + k + st.prs.length
  prs : st.prs.length ≤ sumN ps k
theorem MatI.start (ps : List PcT) : MatI ps 0 start0 [] :=
  ⟨EmI.start ps, fun x hx => (by
    unfold runX elX start0 at hx
    cases x with
    | zero => cases hx
    | succ x => cases hx), Nat.le_refl _, Nat.zero_le _⟩
def runE (k n : Nat) : ElL := { run := true, pc := k, left := n }
/-- The state with a run's element. -/
def runS (ps : List PcT) (st : EmS) (k : Nat) : EmS := { st with xs := insX st.xs (runE k (pcX ps k).n.toNat) 0 }
/-- The state with an inline's element. -/
def inlS (ps : List PcT) (st : EmS) (k : Nat) : EmS := { st with xs := insX st.xs { t := (pcX ps k).inl } 0 }
section
variable {ps : List PcT} {k : Nat} {st : EmS} {ids : List Nat}
theorem MatI.run (h : MatI ps k st ids) (hk : k < ps.length) (hp : runP (pcX ps k) = true) : ClI ps k st.xs.length (runS ps st k) ids ∧ lfX (runS ps st k).xs st.xs.length = (pcX ps k).n.toNat ∧ 1 ≤ (pcX ps k).n ∧ (pcX ps k).n ≤ 262144 := by
  obtain ⟨h1, h2, h3, -, -⟩ := runP_spec hp
  obtain ⟨e1, e2, e3, e4⟩ := core_ins0 (xs := st.xs) (e := runE k (pcX ps k).n.toNat) (k := 0)
  have hl : lfX (runS ps st k).xs st.xs.length = (pcX ps k).n.toNat := e4
  refine ⟨⟨?_, h.rb.ins fun _ => ⟨hk, hp, by show ((pcX ps k).n.toNat : Int) ≤ (pcX ps k).n; omega⟩, e2, e3, by show st.xs.length < (insX _ _ _).length; rw [len_ins]; omega, fun j hj => ?_⟩, hl, h2, h3⟩
  · rw [hl, if_neg (by omega)]
    exact h.em.ins (runE k (pcX ps k).n.toNat) fun _ => ⟨hk, by show 0 < (pcX ps k).n.toNat; omega⟩
  · have h4 := (h.em.ops j _ hj).1
    have := h.em.ring.bd _ h4
    omega
theorem MatI.inl (h : MatI ps k st ids) : MatI ps (k + 1) (inlS ps st k) (ids ++ [st.xs.length]) :=
  ⟨h.em.ins _ (fun e => (by cases e)), h.rb.ins (fun e => (by cases e)), by show (insX _ _ _).length ≤ 1 + (k + 1) + st.prs.length; rw [len_ins]; have := h.len; omega, Nat.le_trans h.prs (sumN_le ps (Nat.le_succ k))⟩
theorem MatI.skip (h : MatI ps k st ids) : MatI ps (k + 1) st ids := ⟨h.em, h.rb, by have := h.len; omega, Nat.le_trans h.prs (sumN_le ps (Nat.le_succ k))⟩
/-- A closer's matches, counted. -/
theorem ClI.all {i c : Nat} {L : List Nat} (h : ClI ps i c st L) : ∃ L', ClI ps i c (clsA ps c st) L' ∧ (clsA ps c st).xs.length + st.prs.length = st.xs.length + (clsA ps c st).prs.length ∧ (clsA ps c st).prs.length + lfX (clsA ps c st).xs c ≤ st.prs.length + lfX st.xs c := by
  obtain ⟨L', h1, ⟨h2, h3⟩, -⟩ := closeF_ind (fun s _ => s.xs.length + st.prs.length = st.xs.length + s.prs.length ∧ s.prs.length + lfX s.xs c ≤ st.prs.length + lfX st.xs c) (fun {s A B R} h hl hR hR0 hB _ _ _ hP => by
    subst hR
    obtain ⟨A', B', L', -, -, -, -, -, -, -, -, -, g1, g2, g3⟩ := h.pair hl hR0
    rw [g2, g3]
    omega) (lfX st.xs c) st L h (Nat.le_refl _) ⟨rfl, Nat.le_refl _⟩
  exact ⟨L', h1, h2, h3⟩
/-- The state with a run that can still open. -/
def opnS (ps : List PcT) (st : EmS) (k c : Nat) : EmS := { st with ops := fun j => if j = kindO (pcX ps k) then st.ops j ++ [c] else st.ops j }
theorem ClI.last {i c : Nat} {L : List Nat} (h : ClI ps i c st L) (hl : lfX st.xs c ≠ 0) : ∀ x ∈ L, runX st.xs x = true → x < c := fun x hx hr => by
  have hem := h.em
  rw [if_neg hl] at hem
  exact (List.pairwise_append.1 hem.asc).2.2 x hx c (by simp) hr h.run
theorem ClI.open_ {i c : Nat} {L : List Nat} (h : ClI ps i c st L) (hl : lfX st.xs c ≠ 0) : EmI ps (opnS ps st k c) (L ++ [c]) := by
  have hem := h.em
  rw [if_neg hl] at hem
  refine ⟨hem.ring, hem.run, hem.asc, fun j x hx => ?_, fun j => ?_⟩
  · by_cases hj : j = kindO (pcX ps k)
    · have hx' : x ∈ st.ops j ++ [c] := by
        have : x ∈ (if j = kindO (pcX ps k) then st.ops j ++ [c] else st.ops j) := hx
        rwa [if_pos hj] at this
      rw [List.mem_append, List.mem_singleton] at hx'
      rcases hx' with hx' | rfl
      · exact hem.ops j x hx'
      · exact ⟨by simp, h.run⟩
    · have hx' : x ∈ st.ops j := by
        have : x ∈ (if j = kindO (pcX ps k) then st.ops j ++ [c] else st.ops j) := hx
        rwa [if_neg hj] at this
      exact hem.ops j x hx'
  · show (if j = kindO (pcX ps k) then st.ops j ++ [c] else st.ops j).Pairwise _
    split
    · rw [List.pairwise_append]
      refine ⟨hem.oas j, List.pairwise_singleton _ _, fun a ha b hb => ?_⟩
      rw [List.mem_singleton] at hb
      subst hb
      obtain ⟨m1, m2⟩ := hem.ops j a ha
      rw [List.mem_append, List.mem_singleton] at m1
      rcases m1 with m1 | rfl
      · exact h.last hl a m1 m2
      · exact absurd ha (h.no j)
    · exact hem.oas j
/-- After a run. -/
theorem MatI.after {c : Nat} {L : List Nat} {s2 : EmS} (h0 : MatI ps k st ids) (hp : runP (pcX ps k) = true) (h : ClI ps k c s2 L) (hx : s2.xs.length + st.prs.length = st.xs.length + 1 + s2.prs.length) (hr : s2.prs.length + lfX s2.xs c ≤ st.prs.length + (pcX ps k).n.toNat) :
    ∃ ids', MatI ps (k + 1) (if (pcX ps k).opn = true ∧ 0 < lfX s2.xs c then opnS ps s2 k c else s2) ids' := by
  have hs : sumN ps (k + 1) = sumN ps k + (pcX ps k).n.toNat := by show sumN ps k + (if runP (pcX ps k) = true then _ else 0) = _; rw [if_pos hp]
  have hl := h0.len
  have hq := h0.prs
  by_cases hz : lfX s2.xs c = 0
  · rw [if_neg (by omega)]
    have hem := h.em
    rw [if_pos hz, List.append_nil] at hem
    exact ⟨L, hem, h.rb, by omega, by omega⟩
  · by_cases ho : (pcX ps k).opn = true
    · rw [if_pos ⟨ho, by omega⟩]
      exact ⟨L ++ [c], h.open_ hz, h.rb, by show s2.xs.length ≤ 1 + (k + 1) + s2.prs.length; omega, by show s2.prs.length ≤ _; omega⟩
    · rw [if_neg (fun h => ho h.1)]
      have hem := h.em
      rw [if_neg hz] at hem
      exact ⟨L ++ [c], hem, h.rb, by omega, by omega⟩
end
theorem stepA_run {ps : List PcT} {st : EmS} {k : Nat} (hp : runP (pcX ps k) = true) : stepA ps st k =
    (if (pcX ps k).opn = true ∧ 0 < lfX (if (pcX ps k).clo = true then clsA ps st.xs.length (runS ps st k) else runS ps st k).xs st.xs.length then opnS ps (if (pcX ps k).clo = true then clsA ps st.xs.length (runS ps st k) else runS ps st k) k st.xs.length else (if (pcX ps k).clo = true then clsA ps st.xs.length (runS ps st k) else runS ps st k)) := by
  unfold stepA
  rw [if_pos hp]
  rfl
theorem stepA_inl {ps : List PcT} {st : EmS} {k : Nat} (hp : runP (pcX ps k) = false) (h : (pcX ps k).kind = 0 ∧ ((pcX ps k).inl.kind ≠ 1 ∨ (pcX ps k).inl.text.toList ≠ [])) : stepA ps st k = inlS ps st k := by
  unfold stepA
  rw [if_neg (by rw [hp]; decide), if_pos h]
  rfl
theorem stepA_none {ps : List PcT} {st : EmS} {k : Nat} (hp : runP (pcX ps k) = false) (h : ¬ ((pcX ps k).kind = 0 ∧ ((pcX ps k).inl.kind ≠ 1 ∨ (pcX ps k).inl.text.toList ≠ []))) : stepA ps st k = st := by
  unfold stepA
  rw [if_neg (by rw [hp]; decide), if_neg h]
theorem MatI.step {ps : List PcT} {st : EmS} {k : Nat} {ids : List Nat} (h : MatI ps k st ids) (hk : k < ps.length) : ∃ ids', MatI ps (k + 1) (stepA ps st k) ids' := by
  cases hp : runP (pcX ps k) with
  | true =>
    obtain ⟨c1, c2, c3, c4⟩ := h.run hk hp
    rw [stepA_run hp]
    have hx1 : (runS ps st k).xs.length = st.xs.length + 1 := by unfold runS; rw [len_ins]
    have hp1 : (runS ps st k).prs = st.prs := rfl
    cases hc : (pcX ps k).clo with
    | false =>
      simp only [Bool.false_eq_true, if_false]
      exact h.after hp c1 (by have := congrArg List.length hp1; omega) (by have := congrArg List.length hp1; omega)
    | true =>
      simp only [if_true]
      obtain ⟨L', d1, d2, d3⟩ := c1.all
      rw [hx1, hp1] at d2
      rw [hp1, c2] at d3
      exact h.after hp d1 (by omega) (by omega)
  | false =>
    by_cases hi : (pcX ps k).kind = 0 ∧ ((pcX ps k).inl.kind ≠ 1 ∨ (pcX ps k).inl.text.toList ≠ [])
    · rw [stepA_inl hp hi]; exact ⟨_, h.inl⟩
    · rw [stepA_none hp hi]; exact ⟨_, h.skip⟩
theorem MatI.all (ps : List PcT) : ∀ k, k ≤ ps.length → ∃ ids, MatI ps k (matchF ps k) ids
  | 0, _ => ⟨[], MatI.start ps⟩
  | k + 1, h => by
    obtain ⟨ids, hm⟩ := MatI.all ps k (by omega)
    exact hm.step (by omega)
end Go.Pub
namespace Go.Pub
section
variable {ps : List PcT} {k : Nat} {st : EmS} {ids : List Nat}
theorem MatI.after' {c : Nat} {L : List Nat} {s2 : EmS} (h0 : MatI ps k st ids) (hp : runP (pcX ps k) = true) (h : ClI ps k c s2 L) (hx : s2.xs.length + st.prs.length = st.xs.length + 1 + s2.prs.length) (hr : s2.prs.length + lfX s2.xs c ≤ st.prs.length + (pcX ps k).n.toNat) :
    MatI ps (k + 1) (if (pcX ps k).opn = true ∧ 0 < lfX s2.xs c then opnS ps s2 k c else s2) (L ++ if lfX s2.xs c = 0 then [] else [c]) := by
  have hs : sumN ps (k + 1) = sumN ps k + (pcX ps k).n.toNat := by show sumN ps k + (if runP (pcX ps k) = true then _ else 0) = _; rw [if_pos hp]
  have hl := h0.len
  have hq := h0.prs
  by_cases hz : lfX s2.xs c = 0
  · rw [if_neg (by omega)]
    exact ⟨h.em, h.rb, by omega, by omega⟩
  · by_cases ho : (pcX ps k).opn = true
    · rw [if_pos ⟨ho, by omega⟩, if_neg hz]
      exact ⟨h.open_ hz, h.rb, by show s2.xs.length ≤ 1 + (k + 1) + s2.prs.length; omega, by show s2.prs.length ≤ _; omega⟩
    · rw [if_neg (fun h => ho h.1)]
      exact ⟨h.em, h.rb, by omega, by omega⟩
/-- The elements of the ring, a closer's with it if it is not empty. -/
def withC (st : EmS) (L : List Nat) (c : Nat) : List Nat := L ++ if lfX st.xs c = 0 then [] else [c]
/-- The matches of pieces keep what each step keeps. -/
theorem match_ind (ps : List PcT) (P : Nat → EmS → List Nat → Prop) (h0 : P 0 start0 [])
    (hskip : ∀ {k st ids}, MatI ps k st ids → k < ps.length → runP (pcX ps k) = false → ¬ ((pcX ps k).kind = 0 ∧ ((pcX ps k).inl.kind ≠ 1 ∨ (pcX ps k).inl.text.toList ≠ [])) → P k st ids → P (k + 1) st ids)
    (hinl : ∀ {k st ids}, MatI ps k st ids → k < ps.length → runP (pcX ps k) = false → (pcX ps k).kind = 0 → ((pcX ps k).inl.kind ≠ 1 ∨ (pcX ps k).inl.text.toList ≠ []) → P k st ids → P (k + 1) (inlS ps st k) (ids ++ [st.xs.length]))
    (hrun : ∀ {k st ids}, MatI ps k st ids → k < ps.length → runP (pcX ps k) = true → P k st ids → P (k + 1) (runS ps st k) (ids ++ [st.xs.length]))
    (hm : ∀ {k c st A B R}, k < ps.length → (pcX ps k).clo = true → ClI ps k c st (A ++ R :: B) → lfX st.xs c ≠ 0 → R = clO ps st c → R ≠ 0 → B ≠ [] → RingI st.xs (A ++ R :: (B ++ [c])) → runX st.xs R = true → 0 < lfX st.xs R → P (k + 1) st (A ++ R :: (B ++ [c])) →
      P (k + 1) (mtchA ps st R c) (A ++ (if lfX st.xs R ≤ pairN st.xs R c then [] else [R]) ++ st.xs.length :: (if lfX st.xs c ≤ pairN st.xs R c then [] else [c])))
    (hopn : ∀ {k c st ids}, P (k + 1) st ids → P (k + 1) (opnS ps st k c) ids) :
    ∀ k, k ≤ ps.length → ∃ ids, MatI ps k (matchF ps k) ids ∧ P k (matchF ps k) ids
  | 0, _ => ⟨[], MatI.start ps, h0⟩
  | k + 1, h => by
    obtain ⟨ids, hM, hP⟩ := match_ind ps P h0 hskip hinl hrun hm hopn k (by omega)
    show ∃ ids, MatI ps (k + 1) (stepA ps (matchF ps k) k) ids ∧ P (k + 1) (stepA ps (matchF ps k) k) ids
    generalize matchF ps k = st at *
    cases hp : runP (pcX ps k) with
    | false =>
      by_cases hi : (pcX ps k).kind = 0 ∧ ((pcX ps k).inl.kind ≠ 1 ∨ (pcX ps k).inl.text.toList ≠ [])
      · rw [stepA_inl hp hi]; exact ⟨_, hM.inl, hinl hM h hp hi.1 hi.2 hP⟩
      · rw [stepA_none hp hi]; exact ⟨_, hM.skip, hskip hM h hp hi hP⟩
    | true =>
      obtain ⟨c1, c2, c3, c4⟩ := hM.run h hp
      rw [stepA_run hp]
      have hP1 := hrun hM h hp hP
      have hx1 : (runS ps st k).xs.length = st.xs.length + 1 := by unfold runS; rw [len_ins]
      have hp1 : (runS ps st k).prs = st.prs := rfl
      have hfin : ∀ (s2 : EmS) (L : List Nat), ClI ps k st.xs.length s2 L → s2.xs.length + st.prs.length = st.xs.length + 1 + s2.prs.length → s2.prs.length + lfX s2.xs st.xs.length ≤ st.prs.length + (pcX ps k).n.toNat → P (k + 1) s2 (withC s2 L st.xs.length) →
          ∃ ids, MatI ps (k + 1) (if (pcX ps k).opn = true ∧ 0 < lfX s2.xs st.xs.length then opnS ps s2 k st.xs.length else s2) ids ∧ P (k + 1) (if (pcX ps k).opn = true ∧ 0 < lfX s2.xs st.xs.length then opnS ps s2 k st.xs.length else s2) ids := fun s2 L hc ha hb hP2 => by
        refine ⟨_, hM.after' hp hc ha hb, ?_⟩
        split
        · exact hopn hP2
        · exact hP2
      have hP1' : P (k + 1) (runS ps st k) (withC (runS ps st k) ids st.xs.length) := by
        unfold withC
        rw [c2, if_neg (by omega)]
        exact hP1
      cases hc : (pcX ps k).clo with
      | false =>
        simp only [Bool.false_eq_true, if_false]
        exact hfin _ _ c1 (by have := congrArg List.length hp1; omega) (by have := congrArg List.length hp1; omega) hP1'
      | true =>
        simp only [if_true]
        obtain ⟨L', d1, ⟨d2, d3, d4⟩, -⟩ := closeF_ind (fun s L => s.xs.length + st.prs.length = st.xs.length + 1 + s.prs.length ∧ s.prs.length + lfX s.xs st.xs.length ≤ st.prs.length + (pcX ps k).n.toNat ∧ P (k + 1) s (withC s L st.xs.length)) (fun {s A B R} g hl hR hR0 hB hg hr hlr hQ => by
          obtain ⟨q1, q2, q3⟩ := hQ
          unfold withC at q3
          rw [if_neg hl, List.append_assoc, List.cons_append] at q3
          have q4 := hm h hc g hl hR hR0 hB hg hr hlr q3
          have hRc : R ≠ st.xs.length := by
            rintro e
            obtain ⟨A', B', L', -, -, -, -, -, -, -, g8, -⟩ := g.pair hl (hR ▸ hR0)
            exact g8 (hR ▸ e)
          have hlf : lfX (mtchA ps s R st.xs.length).xs st.xs.length = lfX s.xs st.xs.length - pairN s.xs R st.xs.length := by
            have hRl : R < s.xs.length := hg.bd R (by simp)
            have := (core_mtch' (ps := ps) (st := s) (o := R) (c := st.xs.length) (j := st.xs.length) hRl g.lt hRc (by have := g.lt; omega)).2.2.2
            rw [this, if_pos (.inr rfl)]
          refine ⟨?_, ?_, ?_⟩
          · subst hR
            obtain ⟨A', B', L', -, -, -, -, -, -, -, -, -, g1, g2, g3⟩ := g.pair hl hR0
            rw [g2, g3]; omega
          · subst hR
            obtain ⟨A', B', L', -, -, -, -, -, -, -, -, -, g1, g2, g3⟩ := g.pair hl hR0
            rw [g3]; omega
          · unfold withC
            rw [hlf]
            rw [List.append_assoc]
            by_cases hz : lfX s.xs st.xs.length ≤ pairN s.xs R st.xs.length
            · rw [if_pos (show lfX s.xs st.xs.length - pairN s.xs R st.xs.length = 0 by omega)]
              rw [if_pos hz] at q4
              exact q4
            · rw [if_neg (show ¬ lfX s.xs st.xs.length - pairN s.xs R st.xs.length = 0 by omega)]
              rw [if_neg hz] at q4
              exact q4) (lfX (runS ps st k).xs st.xs.length) (runS ps st k) ids c1 (Nat.le_refl _) ⟨by rw [hx1, hp1], by rw [hp1, c2]; exact Nat.le_refl _, hP1'⟩
        exact hfin _ _ d1 d2 d3 d4
end
end Go.Pub
namespace Go.Pub
/-- The matches of pieces keep P; while the closer c, of the piece k, makes its matches they keep Q. -/
theorem match_ind2 (ps : List PcT) (P : Nat → EmS → List Nat → Prop) (Q : Nat → Nat → EmS → List Nat → Prop) (h0 : P 0 start0 [])
    (hskip : ∀ {k st ids}, MatI ps k st ids → k < ps.length → runP (pcX ps k) = false → ¬ ((pcX ps k).kind = 0 ∧ ((pcX ps k).inl.kind ≠ 1 ∨ (pcX ps k).inl.text.toList ≠ [])) → P k st ids → P (k + 1) st ids)
    (hinl : ∀ {k st ids}, MatI ps k st ids → k < ps.length → runP (pcX ps k) = false → (pcX ps k).kind = 0 → ((pcX ps k).inl.kind ≠ 1 ∨ (pcX ps k).inl.text.toList ≠ []) → P k st ids → P (k + 1) (inlS ps st k) (ids ++ [st.xs.length]))
    (hrun : ∀ {k st ids}, MatI ps k st ids → k < ps.length → runP (pcX ps k) = true → P k st ids → ClI ps k st.xs.length (runS ps st k) ids → lfX (runS ps st k).xs st.xs.length = (pcX ps k).n.toNat → Q k st.xs.length (runS ps st k) ids)
    (hm : ∀ {k c st A B R}, k < ps.length → (pcX ps k).clo = true → ClI ps k c st (A ++ R :: B) → lfX st.xs c ≠ 0 → R = clO ps st c → R ≠ 0 → B ≠ [] → RingI st.xs (A ++ R :: (B ++ [c])) → runX st.xs R = true → 0 < lfX st.xs R → Q k c st (A ++ R :: B) →
      Q k c (mtchA ps st R c) (A ++ (if lfX st.xs R ≤ pairN st.xs R c then [] else [R]) ++ [st.xs.length]))
    (hend : ∀ {k c st L}, k < ps.length → runP (pcX ps k) = true → ClI ps k c st L → Q k c st L → ((pcX ps k).clo = true → lfX st.xs c = 0 ∨ clO ps st c = 0) →
      P (k + 1) (if (pcX ps k).opn = true ∧ 0 < lfX st.xs c then opnS ps st k c else st) (withC st L c)) :
    ∀ k, k ≤ ps.length → ∃ ids, MatI ps k (matchF ps k) ids ∧ P k (matchF ps k) ids
  | 0, _ => ⟨[], MatI.start ps, h0⟩
  | k + 1, h => by
    obtain ⟨ids, hM, hP⟩ := match_ind2 ps P Q h0 hskip hinl hrun hm hend k (by omega)
    show ∃ ids, MatI ps (k + 1) (stepA ps (matchF ps k) k) ids ∧ P (k + 1) (stepA ps (matchF ps k) k) ids
    generalize matchF ps k = st at *
    cases hp : runP (pcX ps k) with
    | false =>
      by_cases hi : (pcX ps k).kind = 0 ∧ ((pcX ps k).inl.kind ≠ 1 ∨ (pcX ps k).inl.text.toList ≠ [])
      · rw [stepA_inl hp hi]; exact ⟨_, hM.inl, hinl hM h hp hi.1 hi.2 hP⟩
      · rw [stepA_none hp hi]; exact ⟨_, hM.skip, hskip hM h hp hi hP⟩
    | true =>
      obtain ⟨c1, c2, c3, c4⟩ := hM.run h hp
      rw [stepA_run hp]
      have hQ1 := hrun hM h hp hP c1 c2
      have hx1 : (runS ps st k).xs.length = st.xs.length + 1 := by unfold runS; rw [len_ins]
      have hp1 : (runS ps st k).prs = st.prs := rfl
      have hfin : ∀ (s2 : EmS) (L : List Nat), ClI ps k st.xs.length s2 L → s2.xs.length + st.prs.length = st.xs.length + 1 + s2.prs.length → s2.prs.length + lfX s2.xs st.xs.length ≤ st.prs.length + (pcX ps k).n.toNat → Q k st.xs.length s2 L → ((pcX ps k).clo = true → lfX s2.xs st.xs.length = 0 ∨ clO ps s2 st.xs.length = 0) →
          ∃ ids, MatI ps (k + 1) (if (pcX ps k).opn = true ∧ 0 < lfX s2.xs st.xs.length then opnS ps s2 k st.xs.length else s2) ids ∧ P (k + 1) (if (pcX ps k).opn = true ∧ 0 < lfX s2.xs st.xs.length then opnS ps s2 k st.xs.length else s2) ids := fun s2 L hc ha hb hQ2 he =>
        ⟨_, hM.after' hp hc ha hb, hend h hp hc hQ2 he⟩
      cases hc : (pcX ps k).clo with
      | false =>
        simp only [Bool.false_eq_true, if_false]
        exact hfin _ _ c1 (by have := congrArg List.length hp1; omega) (by have := congrArg List.length hp1; omega) hQ1 (fun e => by rw [hc] at e; cases e)
      | true =>
        simp only [if_true]
        obtain ⟨L', d1, ⟨d2, d3, d4⟩, d5⟩ := closeF_ind (fun s L => s.xs.length + st.prs.length = st.xs.length + 1 + s.prs.length ∧ s.prs.length + lfX s.xs st.xs.length ≤ st.prs.length + (pcX ps k).n.toNat ∧ Q k st.xs.length s L) (fun {s A B R} g hl hR hR0 hB hg hr hlr hQ => by
          obtain ⟨q1, q2, q3⟩ := hQ
          refine ⟨?_, ?_, hm h hc g hl hR hR0 hB hg hr hlr q3⟩
          · subst hR
            obtain ⟨A', B', L', -, -, -, -, -, -, -, -, -, g1, g2, g3⟩ := g.pair hl hR0
            rw [g2, g3]; omega
          · subst hR
            obtain ⟨A', B', L', -, -, -, -, -, -, -, -, -, g1, g2, g3⟩ := g.pair hl hR0
            rw [g3]; omega) (lfX (runS ps st k).xs st.xs.length) (runS ps st k) ids c1 (Nat.le_refl _) ⟨by rw [hx1, hp1], by rw [hp1, c2]; exact Nat.le_refl _, hQ1⟩
        exact hfin _ _ d1 d2 d3 d4 fun _ => d5
/-- The nearest opener of a list is not ahead of any other one. -/
theorem nearL_max (prev : Nat) : ∀ (l : List Nat) (near : Nat), l.Pairwise (· > ·) → near ≤ nearL prev near l ∧ ∀ x ∈ l, x ≠ prev → x ≤ nearL prev near l
  | [], near, _ => ⟨Nat.le_refl _, fun x h => absurd h (by simp)⟩
  | y :: l, near, h => by
    rw [List.pairwise_cons] at h
    unfold nearL
    by_cases h1 : y ≤ near
    · rw [if_pos h1]
      refine ⟨Nat.le_refl _, fun x hx _ => ?_⟩
      rcases List.mem_cons.1 hx with rfl | hx
      · exact h1
      · have := h.1 x hx; omega
    · rw [if_neg h1]
      by_cases h2 : prev ≠ y
      · rw [if_pos h2]
        refine ⟨by omega, fun x hx _ => ?_⟩
        rcases List.mem_cons.1 hx with rfl | hx
        · exact Nat.le_refl _
        · have := h.1 x hx; omega
      · rw [if_neg h2]
        obtain ⟨a, b⟩ := nearL_max prev l near h.2
        refine ⟨a, fun x hx hp => ?_⟩
        rcases List.mem_cons.1 hx with rfl | hx
        · exact absurd hp (fun e => h2 fun e2 => e e2.symm)
        · exact b x hx hp
theorem openerF_max (c : PcT) (ops : Nat → List Nat) (prev : Nat) (ho : ∀ j, (ops j).Pairwise (· < ·)) : ∀ k, ∀ j, j < k → skipK c j = false → ∀ x ∈ ops (charNum c.ch * 6 + j), x ≠ prev → x ≤ openerF c ops prev k
  | 0, j, h, _, _, _, _ => absurd h (by omega)
  | k + 1, j, h, hs, x, hx, hp => by
    have hd : (ops (charNum c.ch * 6 + k)).reverse.Pairwise (· > ·) := List.pairwise_reverse.2 (ho _)
    unfold openerF
    rcases Nat.lt_or_ge j k with hj | hj
    · have ih := openerF_max c ops prev ho k j hj hs x hx hp
      split
      · exact ih
      · exact Nat.le_trans ih (nearL_max prev _ _ hd).1
    · obtain rfl : j = k := by omega
      rw [if_neg (by rw [hs]; decide)]
      exact (nearL_max prev _ _ hd).2 x (List.mem_reverse.2 hx) hp
/-- The runs that can still open: those of the ring, each in its list. -/
structure OpC (ps : List PcT) (st : EmS) (ids : List Nat) : Prop where
  mem : ∀ j x, x ∈ st.ops j → (pcX ps (pX st.xs x)).opn = true ∧ j = kindO (pcX ps (pX st.xs x))
  all : ∀ x ∈ ids, runX st.xs x = true → (pcX ps (pX st.xs x)).opn = true → x ∈ st.ops (kindO (pcX ps (pX st.xs x)))
theorem popW_all (k : Nat) (l : List Nat) {x : Nat} (hx : x ∈ l) (hk : x ≤ k) (hl : l.Pairwise (· < ·)) : x ∈ popW k l := by
  obtain ⟨r, h1, h2⟩ := popW_sub k l
  rw [h1, List.mem_append] at hx
  rcases hx with hx | hx
  · exact hx
  · have := h2 x hx; omega
theorem OpC.congr {ps : List PcT} {st st' : EmS} {ids ids' : List Nat} (h : OpC ps st ids) (ho : st'.ops = st.ops) (hm : ∀ j x, x ∈ st.ops j → pX st'.xs x = pX st.xs x) (hi : ∀ x ∈ ids', runX st'.xs x = true → x ∈ ids ∧ runX st.xs x = true ∧ pX st'.xs x = pX st.xs x) : OpC ps st' ids' := by
  refine ⟨fun j x hx => ?_, fun x hx hr hop => ?_⟩
  · rw [ho] at hx
    rw [hm j x hx]
    exact h.mem j x hx
  · obtain ⟨a, b, e⟩ := hi x hx hr
    rw [e] at hop ⊢
    rw [ho]
    exact h.all x a b hop
end Go.Pub
namespace Go.Pub
/-- May the run o open what the run c closes? -/
def fitsR (o c : PcT) : Bool := o.opn && (decide (o.ch.toList = c.ch.toList) && (decide (o.ch.toList = [126]) || ((!o.clo && !c.opn) || (decide ((o.n.toNat % 3 + c.n.toNat % 3) % 3 ≠ 0) || (decide (o.n.toNat % 3 = 0) && decide (c.n.toNat % 3 = 0))))))
theorem charNum_inj {o c : PcT} (ho : runP o = true) (hc : runP c = true) : charNum o.ch = charNum c.ch ↔ o.ch.toList = c.ch.toList := by
  obtain ⟨-, -, -, h1, -⟩ := runP_spec ho
  obtain ⟨-, -, -, h2, -⟩ := runP_spec hc
  unfold charNum
  rcases h1 with h1 | h1 | h1 <;> rcases h2 with h2 | h2 | h2 <;> rw [h1, h2] <;> decide
def bothN (o : PcT) : Nat := if o.clo = true then 1 else 0
theorem kindO_eq (o : PcT) : kindO o = charNum o.ch * 6 + (o.n.toNat % 3 * 2 + bothN o) := by unfold kindO bothN; omega
theorem bothN_lt (o : PcT) : bothN o ≤ 1 := by unfold bothN; split <;> omega
theorem fits_skip {o c : PcT} (ho : runP o = true) (hc : runP c = true) (hop : o.opn = true) : fitsR o c = true ↔ charNum o.ch = charNum c.ch ∧ skipK c (o.n.toNat % 3 * 2 + bothN o) = false := by
  rw [charNum_inj ho hc]
  have hb := bothN_lt o
  have e1 : (o.n.toNat % 3 * 2 + bothN o) / 2 = o.n.toNat % 3 := by omega
  have e2 : (o.n.toNat % 3 * 2 + bothN o) % 2 = bothN o := by omega
  have e3 : (bothN o = 1) ↔ o.clo = true := by unfold bothN; split <;> simp_all
  unfold fitsR skipK
  rw [e1, e2, hop]
  have hmod : (o.n.toNat % 3 + c.n.toNat) % 3 = (o.n.toNat % 3 + c.n.toNat % 3) % 3 := by omega
  rw [hmod]
  by_cases hch : o.ch.toList = c.ch.toList
  · rw [← hch]
    simp only [hch, decide_true, Bool.true_and, true_and]
    rw [show (decide (bothN o = 1)) = o.clo from by cases h : o.clo <;> simp_all [bothN]]
    by_cases ht : c.ch.toList = [126]
    · simp [ht]
    · simp only [ht, decide_false, Bool.false_or, Bool.not_false, Bool.and_true]
      have h3 : o.n.toNat % 3 < 3 := Nat.mod_lt _ (by omega)
      have h4 : c.n.toNat % 3 < 3 := Nat.mod_lt _ (by omega)
      generalize o.n.toNat % 3 = a at *
      generalize c.n.toNat % 3 = b at *
      have ha : a = 0 ∨ a = 1 ∨ a = 2 := by omega
      have hb' : b = 0 ∨ b = 1 ∨ b = 2 := by omega
      cases o.clo <;> cases c.opn <;> rcases ha with rfl | rfl | rfl <;> rcases hb' with rfl | rfl | rfl <;> decide
  · simp [hch]
section
variable {ps : List PcT} {k c : Nat} {st : EmS} {L : List Nat}
theorem ClI.asc {ps : List PcT} {k c : Nat} {st : EmS} {L : List Nat} (h : ClI ps k c st L) : L.Pairwise fun a b => runX st.xs a = true → runX st.xs b = true → a < b := (List.pairwise_append.1 h.em.asc).1
/-- The one that is taken fits. -/
theorem clO_fits (h : ClI ps k c st L) (ho : OpC ps st L) (hR : clO ps st c ≠ 0) : runX st.xs (clO ps st c) = true ∧ fitsR (pcX ps (pX st.xs (clO ps st c))) (pcX ps k) = true ∧ clO ps st c ≠ bf st.xs c := by
  obtain ⟨j, hj6, hsk, hj, hne⟩ := openA_pr hR
  change clO ps st c ∈ _ at hj
  change clO ps st c ≠ _ at hne
  have hrun := (h.em.ops _ _ hj).2
  obtain ⟨r1, r2, -⟩ := h.rb _ hrun
  obtain ⟨s1, s2, -⟩ := h.rb c h.run
  obtain ⟨m1, m2⟩ := ho.mem _ _ hj
  rw [h.pc] at hj hsk m2 s2
  refine ⟨hrun, (fits_skip r2 s2 m1).2 ?_, hne⟩
  rw [kindO_eq] at m2
  have hb := bothN_lt (pcX ps (pX st.xs (clO ps st c)))
  have h3 : (pcX ps (pX st.xs (clO ps st c))).n.toNat % 3 < 3 := Nat.mod_lt _ (by omega)
  have e : charNum (pcX ps (pX st.xs (clO ps st c))).ch = charNum (pcX ps k).ch ∧ j = (pcX ps (pX st.xs (clO ps st c))).n.toNat % 3 * 2 + bothN (pcX ps (pX st.xs (clO ps st c))) := by omega
  exact ⟨e.1, by rw [← e.2]; exact hsk⟩
/-- None that fits comes behind it. -/
theorem clO_max (h : ClI ps k c st L) (ho : OpC ps st L) {x : Nat} (hx : x ∈ L) (hr : runX st.xs x = true) (hf : fitsR (pcX ps (pX st.xs x)) (pcX ps k) = true) (hb : x ≠ bf st.xs c) : x ≤ clO ps st c := by
  obtain ⟨r1, r2, -⟩ := h.rb x hr
  obtain ⟨s1, s2, -⟩ := h.rb c h.run
  rw [h.pc] at s2
  have hop : (pcX ps (pX st.xs x)).opn = true := by
    unfold fitsR at hf
    simp only [Bool.and_eq_true] at hf
    exact hf.1
  obtain ⟨f1, f2⟩ := (fits_skip r2 s2 hop).1 hf
  have hin := ho.all x hx hr hop
  rw [kindO_eq, f1] at hin
  have hbb := bothN_lt (pcX ps (pX st.xs x))
  have h3 : (pcX ps (pX st.xs x)).n.toNat % 3 < 3 := Nat.mod_lt _ (by omega)
  unfold clO
  rw [h.pc]
  exact openerF_max (pcX ps k) st.ops (bf st.xs c) h.em.oas 6 _ (by omega) f2 x hin hb
/-- Where none is taken none fits. -/
theorem clO_none (h : ClI ps k c st L) (ho : OpC ps st L) (hR : clO ps st c = 0) {x : Nat} (hx : x ∈ L) (hr : runX st.xs x = true) (hf : fitsR (pcX ps (pX st.xs x)) (pcX ps k) = true) : x = bf st.xs c := by
  refine Classical.byContradiction fun hb => ?_
  have h1 := clO_max h ho hx hr hf hb
  rw [hR] at h1
  have hnd := (List.nodup_cons.1 h.em.ring.nd).1
  have : x = 0 := by omega
  rw [this] at hx
  exact hnd (List.mem_append_left _ hx)
/-- Behind the one that is taken none fits. -/
theorem clO_last {A B : List Nat} (h : ClI ps k c st (A ++ clO ps st c :: B)) (ho : OpC ps st (A ++ clO ps st c :: B)) (hR : clO ps st c ≠ 0) : ∀ x ∈ B, runX st.xs x = true → fitsR (pcX ps (pX st.xs x)) (pcX ps k) = true → x = bf st.xs c := by
  intro x hx hr hf
  refine Classical.byContradiction fun hb => ?_
  have h1 := clO_max h ho (by simp [hx]) hr hf hb
  have h2 := (List.pairwise_append.1 h.asc).2.1
  rw [List.pairwise_cons] at h2
  have := h2.1 x hx (clO_fits h ho hR).1 hr
  omega
/-- What stands right ahead of the closer. -/
theorem bf_last {xs : List ElL} {L : List Nat} (h : RingI xs (L ++ [c])) : bf xs c = lastOf 0 L := by
  exact (LinkL.app.1 h.link).1.bf_
end
end Go.Pub
namespace Go.Pub
open Go.RowKit
/-- As Reads, the memory's block being one of S. -/
def ReadsS (w : World) (S : Nat → Prop) (size : Nat) (A : Option Addr) (n : Nat) (xs : List Value) : Prop :=
  (xs.length = n * size ∧ n ≤ maxLen) ∧ (0 < n → ∃ ad, A = some ad ∧ S ad.block ∧ ∀ j u, xs[j]? = some u → w.cell? (ad.add j) = some u)
section
variable {w w' : World} {S S' : Nat → Prop} {size n B : Nat} {A : Option Addr} {xs : List Value}
theorem ReadsS.none_ : ReadsS w S size A 0 [] := ⟨⟨by simp, Nat.zero_le _⟩, fun h => absurd h (by omega)⟩
theorem ReadsS.keep (h : ReadsS w S size A n xs) (hk : ∀ g, S g → w'.heap[g]? = w.heap[g]?) (hS : ∀ g, S g → S' g) : ReadsS w' S' size A n xs :=
  ⟨h.1, fun hn => by
    obtain ⟨ad, e, hb, hc⟩ := h.2 hn
    exact ⟨ad, e, hS _ hb, fun j u hu => (World.cell?_of_block (hk _ (by rw [block_of_add]; exact hb))).trans (hc j u hu)⟩⟩
theorem ReadsS.row (h : ReadsS w S size A n xs) (hn : 0 < n) (hs : 0 < size) : ∃ b off, A = some ⟨b, off, none⟩ ∧ S b ∧ ∀ j u, xs[j]? = some u → w.cell? ⟨b, off + j, none⟩ = some u := by
  obtain ⟨ad, e, hb, hc⟩ := h.2 hn
  obtain ⟨b, off, sp⟩ := ad
  have hl : 0 < xs.length := by rw [h.1.1]; exact Nat.mul_pos hn hs
  have h0 := hc 0 _ (List.getElem?_eq_getElem hl)
  obtain rfl : sp = none := by simpa [Addr.add] using World.cell?_spot h0
  refine ⟨b, off, e, hb, fun j u hu => ?_⟩
  have := hc j u hu
  unfold Addr.add at this
  by_cases hj : j = 0
  · subst hj; simpa using this
  · simpa [hj] using this
theorem ReadsS.block {g : Nat} {t : TypeId} {cs : Array Value} (h : w.heap[g]? = some (.cells cs t (0, 0))) (hS : S g) (hl : cs.size = n * size) (hn : n ≤ maxLen) : ReadsS w S size (some ⟨g, 0, none⟩) n cs.toList := by
  refine ⟨⟨by rw [Array.length_toList]; exact hl, hn⟩, fun _ => ⟨_, rfl, hS, fun j u hj => ?_⟩⟩
  have := cell_of_row w g j _ t (0, 0) h
  unfold Addr.add
  by_cases h0 : j = 0
  · subst h0; rw [if_pos rfl, this]; simpa using hj
  · rw [if_neg h0]
    show w.cell? ⟨g, 0 + j, none⟩ = _
    rw [Nat.zero_add, this]; simpa using hj
theorem ReadsS.of_own {base c : Nat} {e : TypeId} (h : w.ownsRow base e size (.slice A n c) n xs) : ReadsS w (fun g => base ≤ g ∧ g < w.heap.size) size A n xs := by
  refine ⟨⟨h.1, ?_⟩, fun hn => ?_⟩
  · rcases h.2 with ⟨_, h0⟩ | ⟨g, cap, cur, _, _, _, h1, h2, _⟩
    · omega
    · exact Nat.le_trans h1 h2
  obtain ⟨g, cap, hv, hg1, hlt⟩ := h.form hn
  have hA : A = some ⟨g, 0, none⟩ := by injection hv
  subst hA
  exact ⟨_, rfl, ⟨hg1, hlt⟩, h.cells (g := g) rfl⟩
end
end Go.Pub
namespace Go.Pub
open Go.RowKit
def Blk (w : World) (g : Nat) (t : TypeId) (cs : Array Value) : Prop := w.heap[g]? = some (.cells cs t (0, 0))
section
variable {w w' : World} {g : Nat} {t : TypeId} {cs : Array Value}
theorem Blk.lt (h : Blk w g t cs) : g < w.heap.size := by
  rcases Nat.lt_or_ge g w.heap.size with hlt | hge
  · exact hlt
  · unfold Blk at h; rw [Array.getElem?_eq_none hge] at h; cases h
theorem Blk.cell (h : Blk w g t cs) (i : Nat) : w.cell? ⟨g, i, none⟩ = cs[i]? := cell_of_row w g i cs t (0, 0) h
theorem Blk.frozen (h : Blk w g t cs) (i : Nat) : w.frozen? ⟨g, i, none⟩ = false := by
  unfold Blk at h
  simp [World.frozen?, h]
theorem Blk.new (w : World) (t : TypeId) (cs : Array Value) : Blk (w.alloc (.cells cs t)) w.heap.size t cs := heap_alloc_new w _
theorem Blk.drewN (h : Blk w g t cs) (n : Nat) : Blk (w.drewN n) g t cs := h
theorem Blk.alloc (h : Blk w g t cs) (o : Obj) : Blk (w.alloc o) g t cs := (Below.heap_alloc w o g h.lt).trans h
theorem Blk.set_ (h : Blk w g t cs) (i : Nat) (u : Value) : Blk (w.setCell ⟨g, i, none⟩ u) g t (cs.setIfInBounds i u) := by
  unfold Blk at h ⊢
  simp [World.setCell, Array.getElem?_modify, h]
theorem Blk.far (h : Blk w g t cs) {p : Addr} (hp : g ≠ p.block) (u : Value) : Blk (w.setCell p u) g t cs := (Below.heap_setCell w p u g hp).trans h
theorem Blk.below {B : Nat} (h : Blk w g t cs) (hb : Below B w w') (hg : g < B) : Blk w' g t cs := (hb.block g hg).trans h
theorem Blk.grown {row : Option Nat} (h : Blk w g t cs) (hb : w.grownBy w' row) (hg : some g ≠ row) : Blk w' g t cs := (hb.block g h.lt hg).trans h
end
section
variable {g B : Nat} {a b c w w' : World}
end
end Go.Pub
namespace Go.Pub
open Go.RowKit
def citVT (l : List CitL) : List Value := l.flatMap fun c => [.string c.key, .string c.pre, .string c.suf, .bool c.bare]
mutual
/-- The cells of an inline. -/
inductive RepI (w : World) (S : Nat → Prop) : Array Value → InT → Prop
  | mk (kind : Int) (text dest title : ByteArray) (att : AttrL) (args : List ByteArray) (cites : List CitL) (kids : List InT) (A1 A2 A3 A4 A5 : Option Addr) (c1 c2 c3 c4 c5 : Nat) (vs : List (Array Value)) :
      ReadsS w S 1 A1 att.cl.length (strs att.cl) → ReadsS w S 2 A2 att.pr.length (prs att.pr) → ReadsS w S 1 A3 args.length (strs args) → ReadsS w S 4 A4 cites.length (citVT cites) →
      RepIs w S vs kids → ReadsS w S 10 A5 kids.length (vs.flatMap Array.toList) →
      RepI w S #[.int .i64 kind, .string text, .string dest, .string title, .string att.id, .slice A1 att.cl.length c1, .slice A2 att.pr.length c2, .slice A3 args.length c3, .slice A4 cites.length c4, .slice A5 kids.length c5] (.mk kind text dest title att args cites kids)
/-- The cells of inlines, one after another. -/
inductive RepIs (w : World) (S : Nat → Prop) : List (Array Value) → List InT → Prop
  | nil : RepIs w S [] []
  | cons (v : Array Value) (b : InT) (vs : List (Array Value)) (bs : List InT) : RepI w S v b → RepIs w S vs bs → RepIs w S (v :: vs) (b :: bs)
end
mutual
theorem RepI.keep {w w' : World} {S S' : Nat → Prop} (hk : ∀ g, S g → w'.heap[g]? = w.heap[g]?) (hS : ∀ g, S g → S' g) : ∀ {v : Array Value} {b : InT}, RepI w S v b → RepI w' S' v b
  | _, _, .mk kind text dest title att args cites kids A1 A2 A3 A4 A5 c1 c2 c3 c4 c5 vs h1 h2 h3 h4 h5 h6 =>
    .mk kind text dest title att args cites kids A1 A2 A3 A4 A5 c1 c2 c3 c4 c5 vs (h1.keep hk hS) (h2.keep hk hS) (h3.keep hk hS) (h4.keep hk hS) (RepIs.keep hk hS h5) (h6.keep hk hS)
theorem RepIs.keep {w w' : World} {S S' : Nat → Prop} (hk : ∀ g, S g → w'.heap[g]? = w.heap[g]?) (hS : ∀ g, S g → S' g) : ∀ {vs : List (Array Value)} {bs : List InT}, RepIs w S vs bs → RepIs w' S' vs bs
  | _, _, .nil => .nil
  | _, _, .cons v b vs bs h1 h2 => .cons v b vs bs (RepI.keep hk hS h1) (RepIs.keep hk hS h2)
end
theorem RepIs.len {w : World} {S : Nat → Prop} {vs : List (Array Value)} {bs : List InT} (h : RepIs w S vs bs) : vs.length = bs.length := by
  induction bs generalizing vs with
  | nil => cases h; rfl
  | cons b bs ih =>
    cases h with
    | cons v b vs bs h1 h2 => rw [List.length_cons, List.length_cons, ih h2]
theorem RepIs.snoc {w : World} {S : Nat → Prop} {vs : List (Array Value)} {bs : List InT} {v : Array Value} {b : InT} (h : RepIs w S vs bs) (hb : RepI w S v b) : RepIs w S (vs ++ [v]) (bs ++ [b]) := by
  induction bs generalizing vs with
  | nil => cases h; exact .cons _ _ _ _ hb .nil
  | cons b' bs ih =>
    cases h with
    | cons v' b' vs bs h1 h2 => exact .cons _ _ _ _ h1 (ih h2)
theorem RepI.size {w : World} {S : Nat → Prop} {v : Array Value} {b : InT} (h : RepI w S v b) : v.size = 10 := by
  cases h; rfl
theorem RepI.one {w : World} {S : Nat → Prop} {v : Array Value} {b : InT} (h : RepI w S v b) : ∀ u ∈ v.toList, u.oneCell' = true := by
  cases h
  intro u hu
  simp only [List.mem_cons, List.not_mem_nil, or_false] at hu
  rcases hu with rfl | rfl | rfl | rfl | rfl | rfl | rfl | rfl | rfl | rfl <;> rfl
theorem RepIs.at_ {w : World} {S : Nat → Prop} : ∀ {vs : List (Array Value)} {bs : List InT}, RepIs w S vs bs → ∀ (k : Nat) (hk : k < bs.length), ∃ (v : Array Value), RepI w S v bs[k] ∧ ∀ i, i < 10 → (vs.flatMap Array.toList)[k * 10 + i]? = v[i]?
  | _, _, .nil, k, hk => absurd hk (by simp)
  | _, _, .cons v b vs bs h1 h2, 0, hk => ⟨v, h1, fun i hi => by
      have hl : v.toList.length = 10 := by rw [Array.length_toList]; exact h1.size
      rw [List.flatMap_cons, List.getElem?_append_left (by omega), Nat.zero_mul, Nat.zero_add, Array.getElem?_toList]⟩
  | _, _, .cons v b vs bs h1 h2, k + 1, hk => by
    obtain ⟨u, hu, hc⟩ := RepIs.at_ h2 k (by simpa using hk)
    refine ⟨u, hu, fun i hi => ?_⟩
    have hl : v.toList.length = 10 := by rw [Array.length_toList]; exact h1.size
    rw [List.flatMap_cons, List.getElem?_append_right (by omega), hl, show (k + 1) * 10 + i - 10 = k * 10 + i by omega]
    exact hc i hi
theorem RepI.zero (w : World) (S : Nat → Prop) : RepI w S #[.int .i64 0, .string ⟨#[]⟩, .string ⟨#[]⟩, .string ⟨#[]⟩, .string ⟨#[]⟩, .slice none 0 0, .slice none 0 0, .slice none 0 0, .slice none 0 0, .slice none 0 0] zeroT :=
  .mk 0 ⟨#[]⟩ ⟨#[]⟩ ⟨#[]⟩ noAt [] [] [] none none none none none 0 0 0 0 0 [] ReadsS.none_ ReadsS.none_ ReadsS.none_ ReadsS.none_ .nil ReadsS.none_
/-- A list of rows of z cells. -/
theorem flatz_len (z : Nat) : ∀ (vs : List (Array Value)), (∀ v ∈ vs, v.size = z) → (vs.flatMap Array.toList).length = vs.length * z
  | [], _ => by simp
  | v :: vs, h => by
    rw [List.flatMap_cons, List.length_append, Array.length_toList, h v (by simp), flatz_len z vs fun u hu => h u (List.mem_cons_of_mem _ hu), List.length_cons, Nat.add_mul, Nat.one_mul, Nat.add_comm]
theorem flatz_get (z : Nat) : ∀ (vs : List (Array Value)), (∀ v ∈ vs, v.size = z) → ∀ i j, i < vs.length → j < z → (vs.flatMap Array.toList)[i * z + j]? = (vs.getD i #[])[j]?
  | [], _, i, j, hi, _ => absurd hi (by simp)
  | v :: vs, h, 0, j, hi, hj => by
    have hl : v.toList.length = z := by rw [Array.length_toList]; exact h v (by simp)
    rw [List.flatMap_cons, List.getElem?_append_left (by omega), Nat.zero_mul, Nat.zero_add, Array.getElem?_toList]; rfl
  | v :: vs, h, i + 1, j, hi, hj => by
    have hl : v.toList.length = z := by rw [Array.length_toList]; exact h v (by simp)
    rw [List.flatMap_cons, List.getElem?_append_right (by rw [hl, Nat.add_mul]; omega), hl, show (i + 1) * z + j - z = i * z + j by rw [Nat.add_mul]; omega]
    rw [flatz_get z vs (fun u hu => h u (List.mem_cons_of_mem _ hu)) i j (by simpa using hi) hj]
    simp
theorem flatz_set (z : Nat) : ∀ (vs : List (Array Value)), (∀ v ∈ vs, v.size = z) → ∀ i j u, i < vs.length → j < z → (vs.flatMap Array.toList).set (i * z + j) u = (vs.set i ((vs.getD i #[]).setIfInBounds j u)).flatMap Array.toList
  | [], _, i, j, u, hi, _ => absurd hi (by simp)
  | v :: vs, h, 0, j, u, hi, hj => by
    have hl : v.toList.length = z := by rw [Array.length_toList]; exact h v (by simp)
    rw [List.flatMap_cons, List.set_append_left _ _ (by omega), Nat.zero_mul, Nat.zero_add]
    simp
  | v :: vs, h, i + 1, j, u, hi, hj => by
    have hl : v.toList.length = z := by rw [Array.length_toList]; exact h v (by simp)
    rw [List.flatMap_cons, List.set_append_right _ _ (by rw [hl, Nat.add_mul]; omega), hl, show (i + 1) * z + j - z = i * z + j by rw [Nat.add_mul]; omega]
    rw [flatz_set z vs (fun u hu => h u (List.mem_cons_of_mem _ hu)) i j u (by simpa using hi) hj]
    simp
/-- The cells of an element. -/
def elC (r : Array Value) (e : ElL) : Array Value := r ++ #[.bool e.run, .int .i64 e.pc, .int .i64 e.left, .int .i64 e.before, .int .i64 e.next]
def RepE (w : World) (S : Nat → Prop) (v : Array Value) (e : ElL) : Prop := ∃ r, RepI w S r e.t ∧ v = elC r e
theorem RepE.size {w : World} {S : Nat → Prop} {v : Array Value} {e : ElL} (h : RepE w S v e) : v.size = 15 := by
  obtain ⟨r, h, rfl⟩ := h
  unfold elC; simp [h.size]
theorem RepE.keep {w w' : World} {S S' : Nat → Prop} {v : Array Value} {e : ElL} (h : RepE w S v e) (hk : ∀ g, S g → w'.heap[g]? = w.heap[g]?) (hS : ∀ g, S g → S' g) : RepE w' S' v e := by
  obtain ⟨r, h, rfl⟩ := h
  exact ⟨r, h.keep hk hS, rfl⟩
theorem RepE.cells {w : World} {S : Nat → Prop} {v : Array Value} {e : ElL} (h : RepE w S v e) : v[10]? = some (.bool e.run) ∧ v[11]? = some (.int .i64 e.pc) ∧ v[12]? = some (.int .i64 e.left) ∧ v[13]? = some (.int .i64 e.before) ∧ v[14]? = some (.int .i64 e.next) := by
  obtain ⟨r, h, rfl⟩ := h
  obtain ⟨t, run, pc, left, before, next⟩ := e
  cases h
  exact ⟨rfl, rfl, rfl, rfl, rfl⟩
theorem RepE.setBf {w : World} {S : Nat → Prop} {v : Array Value} {e : ElL} (h : RepE w S v e) (b : Nat) : RepE w S (v.setIfInBounds 13 (.int .i64 b)) { e with before := b } := by
  obtain ⟨r, h, rfl⟩ := h
  obtain ⟨t, run, pc, left, before, next⟩ := e
  refine ⟨r, h, ?_⟩
  cases h; rfl
theorem RepE.setN {w : World} {S : Nat → Prop} {v : Array Value} {e : ElL} (h : RepE w S v e) (b : Nat) : RepE w S (v.setIfInBounds 14 (.int .i64 b)) { e with next := b } := by
  obtain ⟨r, h, rfl⟩ := h
  obtain ⟨t, run, pc, left, before, next⟩ := e
  refine ⟨r, h, ?_⟩
  cases h; rfl
theorem RepE.setLf {w : World} {S : Nat → Prop} {v : Array Value} {e : ElL} (h : RepE w S v e) (b : Nat) : RepE w S (v.setIfInBounds 12 (.int .i64 b)) { e with left := b } := by
  obtain ⟨r, h, rfl⟩ := h
  obtain ⟨t, run, pc, left, before, next⟩ := e
  refine ⟨r, h, ?_⟩
  cases h; rfl
/-- The cells of elements. -/
def RepEs (w : World) (S : Nat → Prop) (vs : List (Array Value)) (xs : List ElL) : Prop := vs.length = xs.length ∧ ∀ i, i < xs.length → RepE w S (vs.getD i #[]) (elX xs i)
theorem RepEs.sizes {w : World} {S : Nat → Prop} {vs : List (Array Value)} {xs : List ElL} (h : RepEs w S vs xs) : ∀ v ∈ vs, v.size = 15 := by
  intro v hv
  obtain ⟨i, hi, rfl⟩ := List.mem_iff_getElem.1 hv
  have := (h.2 i (by rw [← h.1]; exact hi)).size
  rwa [List.getD_eq_getElem?_getD, List.getElem?_eq_getElem hi] at this
theorem RepEs.keep {w w' : World} {S S' : Nat → Prop} {vs : List (Array Value)} {xs : List ElL} (h : RepEs w S vs xs) (hk : ∀ g, S g → w'.heap[g]? = w.heap[g]?) (hS : ∀ g, S g → S' g) : RepEs w' S' vs xs :=
  ⟨h.1, fun i hi => (h.2 i hi).keep hk hS⟩
theorem RepEs.set {w : World} {S : Nat → Prop} {vs : List (Array Value)} {xs : List ElL} (h : RepEs w S vs xs) (i : Nat) {v : Array Value} {e : ElL} (hv : RepE w S v e) : RepEs w S (vs.set i v) (xs.set i e) := by
  refine ⟨by simp [h.1], fun j hj => ?_⟩
  rw [List.length_set] at hj
  rw [elX_set, List.getD_eq_getElem?_getD, List.getElem?_set]
  by_cases hij : i = j
  · subst hij
    rw [if_pos rfl, if_pos (by rw [h.1]; exact hj), if_pos ⟨rfl, hj⟩]; exact hv
  · rw [if_neg hij, if_neg (fun h => hij h.1.symm), ← List.getD_eq_getElem?_getD]
    exact h.2 j hj
theorem RepEs.snoc {w : World} {S : Nat → Prop} {vs : List (Array Value)} {xs : List ElL} (h : RepEs w S vs xs) {v : Array Value} {e : ElL} (hv : RepE w S v e) : RepEs w S (vs ++ [v]) (xs ++ [e]) := by
  refine ⟨by simp [h.1], fun j hj => ?_⟩
  rw [elX_app, List.getD_eq_getElem?_getD]
  rw [List.length_append, List.length_singleton] at hj
  by_cases hij : j = xs.length
  · rw [if_pos hij, hij, ← h.1, List.getElem?_append_right (Nat.le_refl _)]
    simpa using hv
  · rw [if_neg hij, List.getElem?_append_left (by rw [h.1]; omega), ← List.getD_eq_getElem?_getD]
    exact h.2 j (by omega)
def intsV (l : List Nat) : List Value := l.map fun x : Nat => Value.int .i64 (x : Int)
def trips (l : List (Nat × Nat × Nat)) : List Value := l.flatMap fun x => [.int .i64 x.1, .int .i64 x.2.1, .int .i64 x.2.2]
theorem intsV_len (l : List Nat) : (intsV l).length = l.length := by unfold intsV; simp
end Go.Pub
namespace Go.Proofs.Ytfnloonmeilhlaa
open Go.RowKit Go.Pub
/-- Rows of two kinds lie in two blocks. -/
theorem own_apart {w : World} {b1 b2 n1 n2 s1 s2 : Nat} {e1 e2 : TypeId} {v1 v2 : Value} {x1 x2 : List Value} (h1 : w.ownsRow b1 e1 s1 v1 n1 x1) (h2 : w.ownsRow b2 e2 s2 v2 n2 x2) (hne : e1 ≠ e2) : v1.ownBlock = none ∨ v1.ownBlock ≠ v2.ownBlock := by
  rcases h1.2 with ⟨rfl, _⟩ | ⟨g, cap, cur, rfl, _, hg, _⟩
  · exact .inl rfl
  · right
    rcases h2.2 with ⟨rfl, _⟩ | ⟨g', cap', cur', rfl, _, hg', _⟩
    · simp [Value.ownBlock]
    · intro e
      simp only [Value.ownBlock, Option.some.injEq] at e
      subst e
      rw [hg] at hg'
      injection hg' with hg'
      injection hg' with _ e
      exact hne e
theorem own_blk {w : World} {b n s g : Nat} {e t : TypeId} {v : Value} {x : List Value} {cs : Array Value} (h1 : w.ownsRow b e s v n x) (h2 : Blk w g t cs) (hne : e ≠ t) : v.ownBlock ≠ some g := by
  rcases h1.2 with ⟨rfl, _⟩ | ⟨g', cap, cur, rfl, _, hg, _⟩
  · simp [Value.ownBlock]
  · intro e'
    simp only [Value.ownBlock, Option.some.injEq] at e'
    subst e'
    unfold Blk at h2
    rw [hg] at h2
    injection h2 with h2
    injection h2 with _ e
    exact hne e
/-- The state's cells. -/
structure StC (w : World) (p : Nat) (L vE : Value) (vO : Nat → Value) (vP : Value) : Prop where
  blk : ∃ cs, Blk w p 69 cs ∧ cs.size = 21
  c0 : w.cell? ⟨p, 0, none⟩ = some L
  c1 : w.cell? ⟨p, 1, none⟩ = some vE
  cO : ∀ j, j < 18 → w.cell? ⟨p, 2 + j, none⟩ = some (vO j)
  cP : w.cell? ⟨p, 20, none⟩ = some vP
/-- The state in memory. -/
structure EmR (w : World) (base p : Nat) (L vE : Value) (vO : Nat → Value) (vP : Value) (S : Nat → Prop) (vs : List (Array Value)) (st : EmS) : Prop where
  bp : base ≤ p
  cel : StC w p L vE vO vP
  els : w.ownsRow base 76 15 vE st.xs.length (vs.flatMap Array.toList)
  rep : RepEs w S vs st.xs
  ops : ∀ j, j < 18 → w.ownsRow base 3 1 (vO j) (st.ops j).length (intsV (st.ops j))
  prs : w.ownsRow base 30 3 vP st.prs.length (trips st.prs)
  apart : ∀ j k, j < 18 → k < 18 → j ≠ k → (vO j).ownBlock = none ∨ (vO j).ownBlock ≠ (vO k).ownBlock
  low : ∀ g, g < base → S g
  fro : ∀ g, S g → g < w.heap.size ∧ (base ≤ g → g ≠ p ∧ vE.ownBlock ≠ some g ∧ (∀ j, j < 18 → (vO j).ownBlock ≠ some g) ∧ vP.ownBlock ≠ some g)
section
variable {w w' : World} {base p : Nat} {L vE vP : Value} {vO : Nat → Value} {S : Nat → Prop} {vs : List (Array Value)} {st : EmS}
theorem StC.lt (h : StC w p L vE vO vP) : p < w.heap.size := World.block_lt_of_cell? _ _ h.c0
theorem StC.frozen (h : StC w p L vE vO vP) (i : Nat) : w.frozen? ⟨p, i, none⟩ = false := by
  obtain ⟨cs, hb, _⟩ := h.blk
  exact Blk.frozen hb i
theorem StC.keep (h : StC w p L vE vO vP) (hk : w'.heap[p]? = w.heap[p]?) : StC w' p L vE vO vP := by
  obtain ⟨cs, hb, hs⟩ := h.blk
  exact ⟨⟨cs, hk.trans hb, hs⟩, (World.cell?_of_block hk).trans h.c0, (World.cell?_of_block hk).trans h.c1, fun j hj => (World.cell?_of_block hk).trans (h.cO j hj), (World.cell?_of_block hk).trans h.cP⟩
theorem EmR.notS (h : EmR w base p L vE vO vP S vs st) {g : Nat} (hg : S g) : g ≠ p ∧ vE.ownBlock ≠ some g ∧ (∀ j, j < 18 → (vO j).ownBlock ≠ some g) ∧ vP.ownBlock ≠ some g := by
  rcases Nat.lt_or_ge g base with hlt | hge
  · refine ⟨by have := h.bp; omega, fun e => ?_, fun j hj e => ?_, fun e => ?_⟩
    · have := (h.els.lt g e).1; omega
    · have := ((h.ops j hj).lt g e).1; omega
    · have := (h.prs.lt g e).1; omega
  · exact (h.fro g hg).2 hge
/-- What is made beside the state leaves it. -/
theorem EmR.below (h : EmR w base p L vE vO vP S vs st) (hb : Below w.heap.size w w') : EmR w' base p L vE vO vP S vs st :=
  ⟨h.bp, h.cel.keep (hb.block p h.cel.lt), own_below h.els hb, h.rep.keep (fun g hg => hb.block g (h.fro g hg).1) fun _ h => h, fun j hj => own_below (h.ops j hj) hb, own_below h.prs hb, h.apart, h.low,
    fun g hg => ⟨Nat.lt_of_lt_of_le (h.fro g hg).1 hb.size, (h.fro g hg).2⟩⟩
/-- More is known to stay. -/
theorem EmR.more {S' : Nat → Prop} (h : EmR w base p L vE vO vP S vs st) (hS : ∀ g, S g → S' g) (hn : ∀ g, S' g → S g ∨ (g < w.heap.size ∧ base ≤ g ∧ g ≠ p ∧ vE.ownBlock ≠ some g ∧ (∀ j, j < 18 → (vO j).ownBlock ≠ some g) ∧ vP.ownBlock ≠ some g)) : EmR w base p L vE vO vP S' vs st :=
  ⟨h.bp, h.cel, h.els, h.rep.keep (fun _ _ => rfl) hS, h.ops, h.prs, h.apart, fun g hg => hS g (h.low g hg), fun g hg => by
    rcases hn g hg with hs | ⟨h1, h2, h3⟩
    · exact h.fro g hs
    · exact ⟨h1, fun _ => h3⟩⟩
/-- What was made since the state lay in memory is none of its blocks. -/
theorem EmR.moreNew {w0 : World} (h : EmR w0 base p L vE vO vP S vs st) (hb : Below w0.heap.size w0 w) (hbase : base ≤ w0.heap.size) : EmR w base p L vE vO vP (fun g => S g ∨ (w0.heap.size ≤ g ∧ g < w.heap.size)) vs st := by
  refine (h.below hb).more (fun _ h => .inl h) fun g hg => ?_
  rcases hg with hg | ⟨h1, h2⟩
  · exact .inl hg
  · refine .inr ⟨h2, by omega, by have := h.cel.lt; omega, fun e => ?_, fun j hj e => ?_, fun e => ?_⟩
    · have := (h.els.lt g e).2; omega
    · have := ((h.ops j hj).lt g e).2; omega
    · have := (h.prs.lt g e).2; omega
/-- The elements' row, written out. -/
theorem EmR.row (h : EmR w base p L vE vO vP S vs st) (hn : 0 < st.xs.length) : ∃ g cap, vE = .slice (some ⟨g, 0, none⟩) st.xs.length cap ∧ base ≤ g ∧ g < w.heap.size ∧ g ≠ p ∧ (∀ i, w.frozen? ⟨g, i, none⟩ = false) ∧
    ∀ i, i < st.xs.length → ∃ v, RepE w S v (elX st.xs i) ∧ vs.getD i #[] = v ∧ ∀ j, j < 15 → w.cell? ⟨g, i * 15 + j, none⟩ = v[j]? := by
  obtain ⟨g, cap, rfl, h1, h2⟩ := h.els.form hn
  obtain ⟨cs, hb, _⟩ := h.cel.blk
  have hgp : g ≠ p := fun e => own_blk h.els hb (by decide) (by rw [e]; rfl)
  refine ⟨g, cap, rfl, h1, h2, hgp, fun i => h.els.frozenAt i, fun i hi => ⟨_, h.rep.2 i hi, rfl, fun j hj => ?_⟩⟩
  rw [h.els.cellAt _ (by have := Nat.mul_le_mul_right 15 (show i + 1 ≤ st.xs.length from hi); omega), flatz_get 15 vs h.rep.sizes i j (by rw [h.rep.1]; exact hi) hj]
/-- Another block, or the elements' row alone, changes. -/
theorem EmR.storeE (h : EmR w base p L vE vO vP S vs st) {g cap : Nat} (hv : vE = .slice (some ⟨g, 0, none⟩) st.xs.length cap) (i j : Nat) (hi : i < st.xs.length) (hj : j < 15) (u : Value) (e : ElL)
    (he : ∀ v, RepE w S v (elX st.xs i) → RepE w S (v.setIfInBounds j u) e) :
    EmR (w.setCell ⟨g, i * 15 + j, none⟩ u) base p L vE vO vP S (vs.set i ((vs.getD i #[]).setIfInBounds j u)) { st with xs := st.xs.set i e } ∧ Below base w (w.setCell ⟨g, i * 15 + j, none⟩ u) := by
  subst hv
  obtain ⟨cs, hb, _⟩ := h.cel.blk
  have hgp : g ≠ p := fun e => own_blk h.els hb (by decide) (by rw [e]; rfl)
  have hbg : base ≤ g := (h.els.lt g rfl).1
  obtain ⟨h1, h2⟩ := h.els.stored (i * 15 + j) u
  rw [flatz_set 15 vs h.rep.sizes i j u (by rw [h.rep.1]; exact hi) hj] at h1
  refine ⟨⟨h.bp, h.cel.keep (Below.heap_setCell w ⟨g, i * 15 + j, none⟩ u p (by exact fun e => hgp e.symm)), ?_, ?_, fun k hk => ?_, ?_, h.apart, h.low, fun k hk => ?_⟩, (Below.refl _ w).setCell (p := ⟨g, i * 15 + j, none⟩) hbg u⟩
  · show World.ownsRow _ _ _ _ _ (List.set _ _ _).length _
    rw [List.length_set]; exact h1
  · exact (h.rep.set i (he _ (h.rep.2 i hi))).keep (fun k hk => Below.heap_setCell w ⟨g, i * 15 + j, none⟩ u k (by
      have := (h.notS hk).2.1
      exact fun e => this (by rw [e]; rfl))) fun _ h => h
  · exact (h.ops k hk).kept h2 (own_apart (h.ops k hk) h.els (by decide))
  · exact h.prs.kept h2 (own_apart h.prs h.els (by decide))
  · exact ⟨by simpa [World.setCell] using (h.fro k hk).1, (h.fro k hk).2⟩
end
end Go.Proofs.Ytfnloonmeilhlaa
