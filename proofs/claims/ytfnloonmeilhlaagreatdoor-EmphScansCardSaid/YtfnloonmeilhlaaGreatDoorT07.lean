/-
  Texts of the proof, put together (what this law reaches): EmV, EmVA.
-/
import Derived.Test.YtfnloonmeilhlaaGreatDoorT06
set_option linter.unusedVariables false
set_option linter.unusedSimpArgs false
namespace Go.Pub
/-- The characters of the first runs. -/
def sumN (ps : List PcT) : Nat → Nat
  | 0 => 0
  | k + 1 => sumN ps k + if runP (pcX ps k) = true then (pcX ps k).n.toNat else 0
theorem sumN_le (ps : List PcT) {i j : Nat} (h : i ≤ j) : sumN ps i ≤ sumN ps j := by
  induction h with
  | refl => exact Nat.le_refl _
  | step _ ih => exact Nat.le_trans ih (Nat.le_add_right _ _)
structure MatI (ps : List PcT) (k : Nat) (st : EmS) (ids : List Nat) : Prop where
  em : EmI ps st ids
  rb : RunB ps st.xs
  len : st.xs.length ≤ 1 + k + st.prs.length
  prs : st.prs.length ≤ sumN ps k
theorem MatI.start (ps : List PcT) : MatI ps 0 start0 [] :=
  ⟨EmI.start ps, fun x hx => (by
    unfold runX elX start0 at hx
    cases x with
    | zero => cases hx
    | succ x => cases hx), Nat.le_refl _, Nat.zero_le _⟩
def runEl (k n : Nat) : ElL := { run := true, pc := k, left := n }
/-- The state with a run's element. -/
def runS (ps : List PcT) (st : EmS) (k : Nat) : EmS := { st with xs := insX st.xs (runEl k (pcX ps k).n.toNat) 0 }
/-- The state with an inline's element. -/
def inlS (ps : List PcT) (st : EmS) (k : Nat) : EmS := { st with xs := insX st.xs { t := (pcX ps k).inl } 0 }
section
variable {ps : List PcT} {k : Nat} {st : EmS} {ids : List Nat}
theorem MatI.run (h : MatI ps k st ids) (hk : k < ps.length) (hp : runP (pcX ps k) = true) : ClI ps k st.xs.length (runS ps st k) ids ∧ lfX (runS ps st k).xs st.xs.length = (pcX ps k).n.toNat ∧ 1 ≤ (pcX ps k).n ∧ (pcX ps k).n ≤ 262144 := by
  obtain ⟨h1, h2, h3, -, -⟩ := runP_spec hp
  obtain ⟨e1, e2, e3, e4⟩ := core_ins0 (xs := st.xs) (e := runEl k (pcX ps k).n.toNat) (k := 0)
  have hl : lfX (runS ps st k).xs st.xs.length = (pcX ps k).n.toNat := e4
  refine ⟨⟨?_, h.rb.ins fun _ => ⟨hk, hp, by show ((pcX ps k).n.toNat : Int) ≤ (pcX ps k).n; omega⟩, e2, e3, by show st.xs.length < (insX _ _ _).length; rw [len_ins]; omega, fun j hj => ?_⟩, hl, h2, h3⟩
  · rw [hl, if_neg (by omega)]
    exact h.em.ins (runEl k (pcX ps k).n.toNat) fun _ => ⟨hk, by show 0 < (pcX ps k).n.toNat; omega⟩
  · have h4 := (h.em.ops j _ hj).1
    have := h.em.ring.bd _ h4
    omega
theorem MatI.inl (h : MatI ps k st ids) : MatI ps (k + 1) (inlS ps st k) (ids ++ [st.xs.length]) :=
  ⟨h.em.ins _ (fun e => (by cases e)), h.rb.ins (fun e => (by cases e)), by show (insX _ _ _).length ≤ 1 + (k + 1) + st.prs.length; rw [len_ins]; have := h.len; omega, Nat.le_trans h.prs (sumN_le ps (Nat.le_succ k))⟩
theorem MatI.skip (h : MatI ps k st ids) : MatI ps (k + 1) st ids := ⟨h.em, h.rb, by have := h.len; omega, Nat.le_trans h.prs (sumN_le ps (Nat.le_succ k))⟩
/-- A closer's matches, counted. -/
theorem ClI.all {i c : Nat} {L : List Nat} (h : ClI ps i c st L) : ∃ L', ClI ps i c (clsA ps c st) L' ∧ (clsA ps c st).xs.length + st.prs.length = st.xs.length + (clsA ps c st).prs.length ∧ (clsA ps c st).prs.length + lfX (clsA ps c st).xs c ≤ st.prs.length + lfX st.xs c := by
  obtain ⟨L', h1, ⟨h2, h3⟩, -⟩ := closeF_ind (fun s _ => s.xs.length + st.prs.length = st.xs.length + s.prs.length ∧ s.prs.length + lfX s.xs c ≤ st.prs.length + lfX st.xs c) (fun {s A B R} h hl hR hR0 hB _ _ _ hP => by
    subst hR
    obtain ⟨A', B', L', -, -, -, -, -, -, -, -, -, g1, g2, g3⟩ := h.pair hl hR0
    rw [g2, g3]
    omega) (lfX st.xs c) st L h (Nat.le_refl _) ⟨rfl, Nat.le_refl _⟩
  exact ⟨L', h1, h2, h3⟩
/-- The state with a run that can still open. -/
def opnS (ps : List PcT) (st : EmS) (k c : Nat) : EmS := { st with ops := fun j => if j = kindO (pcX ps k) then st.ops j ++ [c] else st.ops j }
theorem ClI.last {i c : Nat} {L : List Nat} (h : ClI ps i c st L) (hl : lfX st.xs c ≠ 0) : ∀ x ∈ L, runX st.xs x = true → x < c := fun x hx hr => by
  have hem := h.em
  rw [if_neg hl] at hem
  exact (List.pairwise_append.1 hem.asc).2.2 x hx c (by simp) hr h.run
theorem ClI.open_ {i c : Nat} {L : List Nat} (h : ClI ps i c st L) (hl : lfX st.xs c ≠ 0) : EmI ps (opnS ps st k c) (L ++ [c]) := by
  have hem := h.em
  rw [if_neg hl] at hem
  refine ⟨hem.ring, hem.run, hem.asc, fun j x hx => ?_, fun j => ?_⟩
  · by_cases hj : j = kindO (pcX ps k)
    · have hx' : x ∈ st.ops j ++ [c] := by
        have : x ∈ (if j = kindO (pcX ps k) then st.ops j ++ [c] else st.ops j) := hx
        rwa [if_pos hj] at this
      rw [List.mem_append, List.mem_singleton] at hx'
      rcases hx' with hx' | rfl
      · exact hem.ops j x hx'
      · exact ⟨by simp, h.run⟩
    · have hx' : x ∈ st.ops j := by
        have : x ∈ (if j = kindO (pcX ps k) then st.ops j ++ [c] else st.ops j) := hx
        rwa [if_neg hj] at this
      exact hem.ops j x hx'
  · show (if j = kindO (pcX ps k) then st.ops j ++ [c] else st.ops j).Pairwise _
    split
    · rw [List.pairwise_append]
      refine ⟨hem.oas j, List.pairwise_singleton _ _, fun a ha b hb => ?_⟩
      rw [List.mem_singleton] at hb
      subst hb
      obtain ⟨m1, m2⟩ := hem.ops j a ha
      rw [List.mem_append, List.mem_singleton] at m1
      rcases m1 with m1 | rfl
      · exact h.last hl a m1 m2
      · exact absurd ha (h.no j)
    · exact hem.oas j
/-- After a run. -/
theorem MatI.after {c : Nat} {L : List Nat} {s2 : EmS} (h0 : MatI ps k st ids) (hp : runP (pcX ps k) = true) (h : ClI ps k c s2 L) (hx : s2.xs.length + st.prs.length = st.xs.length + 1 + s2.prs.length) (hr : s2.prs.length + lfX s2.xs c ≤ st.prs.length + (pcX ps k).n.toNat) :
    ∃ ids', MatI ps (k + 1) (if (pcX ps k).opn = true ∧ 0 < lfX s2.xs c then opnS ps s2 k c else s2) ids' := by
  have hs : sumN ps (k + 1) = sumN ps k + (pcX ps k).n.toNat := by show sumN ps k + (if runP (pcX ps k) = true then _ else 0) = _; rw [if_pos hp]
  have hl := h0.len
  have hq := h0.prs
  by_cases hz : lfX s2.xs c = 0
  · rw [if_neg (by omega)]
    have hem := h.em
    rw [if_pos hz, List.append_nil] at hem
    exact ⟨L, hem, h.rb, by omega, by omega⟩
  · by_cases ho : (pcX ps k).opn = true
    · rw [if_pos ⟨ho, by omega⟩]
      exact ⟨L ++ [c], h.open_ hz, h.rb, by show s2.xs.length ≤ 1 + (k + 1) + s2.prs.length; omega, by show s2.prs.length ≤ _; omega⟩
    · rw [if_neg (fun h => ho h.1)]
      have hem := h.em
      rw [if_neg hz] at hem
      exact ⟨L ++ [c], hem, h.rb, by omega, by omega⟩
end
theorem stepA_run {ps : List PcT} {st : EmS} {k : Nat} (hp : runP (pcX ps k) = true) : stepA ps st k =
    (if (pcX ps k).opn = true ∧ 0 < lfX (if (pcX ps k).clo = true then clsA ps st.xs.length (runS ps st k) else runS ps st k).xs st.xs.length then opnS ps (if (pcX ps k).clo = true then clsA ps st.xs.length (runS ps st k) else runS ps st k) k st.xs.length else (if (pcX ps k).clo = true then clsA ps st.xs.length (runS ps st k) else runS ps st k)) := by
  unfold stepA
  rw [if_pos hp]
  rfl
theorem stepA_inl {ps : List PcT} {st : EmS} {k : Nat} (hp : runP (pcX ps k) = false) (h : (pcX ps k).kind = 0 ∧ ((pcX ps k).inl.kind ≠ 1 ∨ (pcX ps k).inl.text.toList ≠ [])) : stepA ps st k = inlS ps st k := by
  unfold stepA
  rw [if_neg (by rw [hp]; decide), if_pos h]
  rfl
theorem stepA_none {ps : List PcT} {st : EmS} {k : Nat} (hp : runP (pcX ps k) = false) (h : ¬ ((pcX ps k).kind = 0 ∧ ((pcX ps k).inl.kind ≠ 1 ∨ (pcX ps k).inl.text.toList ≠ []))) : stepA ps st k = st := by
  unfold stepA
  rw [if_neg (by rw [hp]; decide), if_neg h]
theorem MatI.step {ps : List PcT} {st : EmS} {k : Nat} {ids : List Nat} (h : MatI ps k st ids) (hk : k < ps.length) : ∃ ids', MatI ps (k + 1) (stepA ps st k) ids' := by
  cases hp : runP (pcX ps k) with
  | true =>
    obtain ⟨c1, c2, c3, c4⟩ := h.run hk hp
    rw [stepA_run hp]
    have hx1 : (runS ps st k).xs.length = st.xs.length + 1 := by unfold runS; rw [len_ins]
    have hp1 : (runS ps st k).prs = st.prs := rfl
    cases hc : (pcX ps k).clo with
    | false =>
      simp only [Bool.false_eq_true, if_false]
      exact h.after hp c1 (by have := congrArg List.length hp1; omega) (by have := congrArg List.length hp1; omega)
    | true =>
      simp only [if_true]
      obtain ⟨L', d1, d2, d3⟩ := c1.all
      rw [hx1, hp1] at d2
      rw [hp1, c2] at d3
      exact h.after hp d1 (by omega) (by omega)
  | false =>
    by_cases hi : (pcX ps k).kind = 0 ∧ ((pcX ps k).inl.kind ≠ 1 ∨ (pcX ps k).inl.text.toList ≠ [])
    · rw [stepA_inl hp hi]; exact ⟨_, h.inl⟩
    · rw [stepA_none hp hi]; exact ⟨_, h.skip⟩
theorem MatI.all (ps : List PcT) : ∀ k, k ≤ ps.length → ∃ ids, MatI ps k (matchF ps k) ids
  | 0, _ => ⟨[], MatI.start ps⟩
  | k + 1, h => by
    obtain ⟨ids, hm⟩ := MatI.all ps k (by omega)
    exact hm.step (by omega)
end Go.Pub
namespace Go.Pub
section
variable {ps : List PcT} {k : Nat} {st : EmS} {ids : List Nat}
theorem MatI.after' {c : Nat} {L : List Nat} {s2 : EmS} (h0 : MatI ps k st ids) (hp : runP (pcX ps k) = true) (h : ClI ps k c s2 L) (hx : s2.xs.length + st.prs.length = st.xs.length + 1 + s2.prs.length) (hr : s2.prs.length + lfX s2.xs c ≤ st.prs.length + (pcX ps k).n.toNat) :
    MatI ps (k + 1) (if (pcX ps k).opn = true ∧ 0 < lfX s2.xs c then opnS ps s2 k c else s2) (L ++ if lfX s2.xs c = 0 then [] else [c]) := by
  have hs : sumN ps (k + 1) = sumN ps k + (pcX ps k).n.toNat := by show sumN ps k + (if runP (pcX ps k) = true then _ else 0) = _; rw [if_pos hp]
  have hl := h0.len
  have hq := h0.prs
  by_cases hz : lfX s2.xs c = 0
  · rw [if_neg (by omega)]
    exact ⟨h.em, h.rb, by omega, by omega⟩
  · by_cases ho : (pcX ps k).opn = true
    · rw [if_pos ⟨ho, by omega⟩, if_neg hz]
      exact ⟨h.open_ hz, h.rb, by show s2.xs.length ≤ 1 + (k + 1) + s2.prs.length; omega, by show s2.prs.length ≤ _; omega⟩
    · rw [if_neg (fun h => ho h.1)]
      exact ⟨h.em, h.rb, by omega, by omega⟩
/-- The elements of the ring, a closer's with it if it is not empty. -/
def withC (st : EmS) (L : List Nat) (c : Nat) : List Nat := L ++ if lfX st.xs c = 0 then [] else [c]
/-- The matches of pieces keep what each step keeps. -/
theorem match_ind (ps : List PcT) (P : Nat → EmS → List Nat → Prop) (h0 : P 0 start0 [])
    (hskip : ∀ {k st ids}, MatI ps k st ids → k < ps.length → runP (pcX ps k) = false → ¬ ((pcX ps k).kind = 0 ∧ ((pcX ps k).inl.kind ≠ 1 ∨ (pcX ps k).inl.text.toList ≠ [])) → P k st ids → P (k + 1) st ids)
    (hinl : ∀ {k st ids}, MatI ps k st ids → k < ps.length → runP (pcX ps k) = false → (pcX ps k).kind = 0 → ((pcX ps k).inl.kind ≠ 1 ∨ (pcX ps k).inl.text.toList ≠ []) → P k st ids → P (k + 1) (inlS ps st k) (ids ++ [st.xs.length]))
    (hrun : ∀ {k st ids}, MatI ps k st ids → k < ps.length → runP (pcX ps k) = true → P k st ids → P (k + 1) (runS ps st k) (ids ++ [st.xs.length]))
    (hm : ∀ {k c st A B R}, k < ps.length → (pcX ps k).clo = true → ClI ps k c st (A ++ R :: B) → lfX st.xs c ≠ 0 → R = clO ps st c → R ≠ 0 → B ≠ [] → RingI st.xs (A ++ R :: (B ++ [c])) → runX st.xs R = true → 0 < lfX st.xs R → P (k + 1) st (A ++ R :: (B ++ [c])) →
      P (k + 1) (mtchA ps st R c) (A ++ (if lfX st.xs R ≤ pairN st.xs R c then [] else [R]) ++ st.xs.length :: (if lfX st.xs c ≤ pairN st.xs R c then [] else [c])))
    (hopn : ∀ {k c st ids}, P (k + 1) st ids → P (k + 1) (opnS ps st k c) ids) :
    ∀ k, k ≤ ps.length → ∃ ids, MatI ps k (matchF ps k) ids ∧ P k (matchF ps k) ids
  | 0, _ => ⟨[], MatI.start ps, h0⟩
  | k + 1, h => by
    obtain ⟨ids, hM, hP⟩ := match_ind ps P h0 hskip hinl hrun hm hopn k (by omega)
    show ∃ ids, MatI ps (k + 1) (stepA ps (matchF ps k) k) ids ∧ P (k + 1) (stepA ps (matchF ps k) k) ids
    generalize matchF ps k = st at *
    cases hp : runP (pcX ps k) with
    | false =>
      by_cases hi : (pcX ps k).kind = 0 ∧ ((pcX ps k).inl.kind ≠ 1 ∨ (pcX ps k).inl.text.toList ≠ [])
      · rw [stepA_inl hp hi]; exact ⟨_, hM.inl, hinl hM h hp hi.1 hi.2 hP⟩
      · rw [stepA_none hp hi]; exact ⟨_, hM.skip, hskip hM h hp hi hP⟩
    | true =>
      obtain ⟨c1, c2, c3, c4⟩ := hM.run h hp
      rw [stepA_run hp]
      have hP1 := hrun hM h hp hP
      have hx1 : (runS ps st k).xs.length = st.xs.length + 1 := by unfold runS; rw [len_ins]
      have hp1 : (runS ps st k).prs = st.prs := rfl
      have hfin : ∀ (s2 : EmS) (L : List Nat), ClI ps k st.xs.length s2 L → s2.xs.length + st.prs.length = st.xs.length + 1 + s2.prs.length → s2.prs.length + lfX s2.xs st.xs.length ≤ st.prs.length + (pcX ps k).n.toNat → P (k + 1) s2 (withC s2 L st.xs.length) →
          ∃ ids, MatI ps (k + 1) (if (pcX ps k).opn = true ∧ 0 < lfX s2.xs st.xs.length then opnS ps s2 k st.xs.length else s2) ids ∧ P (k + 1) (if (pcX ps k).opn = true ∧ 0 < lfX s2.xs st.xs.length then opnS ps s2 k st.xs.length else s2) ids := fun s2 L hc ha hb hP2 => by
        refine ⟨_, hM.after' hp hc ha hb, ?_⟩
        split
        · exact hopn hP2
        · exact hP2
      have hP1' : P (k + 1) (runS ps st k) (withC (runS ps st k) ids st.xs.length) := by
        unfold withC
        rw [c2, if_neg (by omega)]
        exact hP1
      cases hc : (pcX ps k).clo with
      | false =>
        simp only [Bool.false_eq_true, if_false]
        exact hfin _ _ c1 (by have := congrArg List.length hp1; omega) (by have := congrArg List.length hp1; omega) hP1'
      | true =>
        simp only [if_true]
        obtain ⟨L', d1, ⟨d2, d3, d4⟩, -⟩ := closeF_ind (fun s L => s.xs.length + st.prs.length = st.xs.length + 1 + s.prs.length ∧ s.prs.length + lfX s.xs st.xs.length ≤ st.prs.length + (pcX ps k).n.toNat ∧ P (k + 1) s (withC s L st.xs.length)) (fun {s A B R} g hl hR hR0 hB hg hr hlr hQ => by
          obtain ⟨q1, q2, q3⟩ := hQ
          unfold withC at q3
          rw [if_neg hl, List.append_assoc, List.cons_append] at q3
          have q4 := hm h hc g hl hR hR0 hB hg hr hlr q3
          have hRc : R ≠ st.xs.length := by
            rintro e
            obtain ⟨A', B', L', -, -, -, -, -, -, -, g8, -⟩ := g.pair hl (hR ▸ hR0)
            exact g8 (hR ▸ e)
          have hlf : lfX (mtchA ps s R st.xs.length).xs st.xs.length = lfX s.xs st.xs.length - pairN s.xs R st.xs.length := by
            have hRl : R < s.xs.length := hg.bd R (by simp)
            have := (core_mtch' (ps := ps) (st := s) (o := R) (c := st.xs.length) (j := st.xs.length) hRl g.lt hRc (by have := g.lt; omega)).2.2.2
            rw [this, if_pos (.inr rfl)]
          refine ⟨?_, ?_, ?_⟩
          · subst hR
            obtain ⟨A', B', L', -, -, -, -, -, -, -, -, -, g1, g2, g3⟩ := g.pair hl hR0
            rw [g2, g3]; omega
          · subst hR
            obtain ⟨A', B', L', -, -, -, -, -, -, -, -, -, g1, g2, g3⟩ := g.pair hl hR0
            rw [g3]; omega
          · unfold withC
            rw [hlf]
            rw [List.append_assoc]
            by_cases hz : lfX s.xs st.xs.length ≤ pairN s.xs R st.xs.length
            · rw [if_pos (show lfX s.xs st.xs.length - pairN s.xs R st.xs.length = 0 by omega)]
              rw [if_pos hz] at q4
              exact q4
            · rw [if_neg (show ¬ lfX s.xs st.xs.length - pairN s.xs R st.xs.length = 0 by omega)]
              rw [if_neg hz] at q4
              exact q4) (lfX (runS ps st k).xs st.xs.length) (runS ps st k) ids c1 (Nat.le_refl _) ⟨by rw [hx1, hp1], by rw [hp1, c2]; exact Nat.le_refl _, hP1'⟩
        exact hfin _ _ d1 d2 d3 d4
end
end Go.Pub
