/-
  Texts of the proof, put together (what this law reaches): EmVA, EmVB, EmMF, EmLB, EmPA, Row, EmRA, EmSA.
-/
import Derived.Test.YtfnloonmeilhlaaV05
import Derived.Test.YtfnloonmeilhlaaV04
import Derived.Test.YtfnloonmeilhlaaV06
import Derived.Test.YtfnloonmeilhlaaV02
import Derived.KernelRfl
import Derived.Test.YtfnloonmeilhlaaV01
import Derived.Below
import Derived.ChangeSame
import Derived.ProofKit
import Derived.Test.YtfnloonmeilhlaaV03
import Derived.ChangeArms
import Derived.Deep.Slices
import Derived.DataReads
import Derived.OpenShut
set_option linter.unusedVariables false
set_option linter.unusedSimpArgs false
namespace Go.Pub
section
variable {ps : List PcT} {k : Nat} {st : EmS} {ids : List Nat}
theorem MatI.after' {c : Nat} {L : List Nat} {s2 : EmS} (h0 : MatI ps k st ids) (hp : runP (pcX ps k) = true) (h : ClI ps k c s2 L) (hx : s2.xs.length + st.prs.length = st.xs.length + 1 + s2.prs.length) (hr : s2.prs.length + lfX s2.xs c ≤ st.prs.length + (pcX ps k).n.toNat) :
    MatI ps (k + 1) (if (pcX ps k).opn = true ∧ 0 < lfX s2.xs c then opnS ps s2 k c else s2) (L ++ if lfX s2.xs c = 0 then [] else [c]) := by
  have hs : sumN ps (k + 1) = sumN ps k + (pcX ps k).n.toNat := by show sumN ps k + (if runP (pcX ps k) = true then _ else 0) = _; rw [if_pos hp]
  have hl := h0.len
  have hq := h0.prs
  by_cases hz : lfX s2.xs c = 0
  · rw [if_neg (by omega)]
    exact ⟨h.em, h.rb, by omega, by omega⟩
  · by_cases ho : (pcX ps k).opn = true
    · rw [if_pos ⟨ho, by omega⟩, if_neg hz]
      exact ⟨h.open_ hz, h.rb, by show s2.xs.length ≤ 1 + (k + 1) + s2.prs.length; omega, by show s2.prs.length ≤ _; omega⟩
    · rw [if_neg (fun h => ho h.1)]
      exact ⟨h.em, h.rb, by omega, by omega⟩
/-- The elements of the ring, a closer's with it if it is not empty. -/
def withC (st : EmS) (L : List Nat) (c : Nat) : List Nat := L ++ if lfX st.xs c = 0 then [] else [c]
/-- The matches of pieces keep what each step keeps. -/
theorem match_ind (ps : List PcT) (P : Nat → EmS → List Nat → Prop) (h0 : P 0 start0 [])
    (hskip : ∀ {k st ids}, MatI ps k st ids → k < ps.length → runP (pcX ps k) = false → ¬ ((pcX ps k).kind = 0 ∧ ((pcX ps k).inl.kind ≠ 1 ∨ (pcX ps k).inl.text.toList ≠ [])) → P k st ids → P (k + 1) st ids)
    (hinl : ∀ {k st ids}, MatI ps k st ids → k < ps.length → runP (pcX ps k) = false → (pcX ps k).kind = 0 → ((pcX ps k).inl.kind ≠ 1 ∨ (pcX ps k).inl.text.toList ≠ []) → P k st ids → P (k + 1) (inlS ps st k) (ids ++ [st.xs.length]))
    (hrun : ∀ {k st ids}, MatI ps k st ids → k < ps.length → runP (pcX ps k) = true → P k st ids → P (k + 1) (runS ps st k) (ids ++ [st.xs.length]))
    (hm : ∀ {k c st A B R}, k < ps.length → (pcX ps k).clo = true → ClI ps k c st (A ++ R :: B) → lfX st.xs c ≠ 0 → R = clO ps st c → R ≠ 0 → B ≠ [] → RingI st.xs (A ++ R :: (B ++ [c])) → runX st.xs R = true → 0 < lfX st.xs R → P (k + 1) st (A ++ R :: (B ++ [c])) →
      P (k + 1) (mtchA ps st R c) (A ++ (if lfX st.xs R ≤ pairN st.xs R c then [] else [R]) ++ st.xs.length :: (if lfX st.xs c ≤ pairN st.xs R c then [] else [c])))
    (hopn : ∀ {k c st ids}, P (k + 1) st ids → P (k + 1) (opnS ps st k c) ids) :
    ∀ k, k ≤ ps.length → ∃ ids, MatI ps k (matchF ps k) ids ∧ P k (matchF ps k) ids
  | 0, _ => ⟨[], MatI.start ps, h0⟩
  | k + 1, h => by
    obtain ⟨ids, hM, hP⟩ := match_ind ps P h0 hskip hinl hrun hm hopn k (by omega)
    show ∃ ids, MatI ps (k + 1) (stepA ps (matchF ps k) k) ids ∧ P (k + 1) (stepA ps (matchF ps k) k) ids
    generalize matchF ps k = st at *
    cases hp : runP (pcX ps k) with
    | false =>
      by_cases hi : (pcX ps k).kind = 0 ∧ ((pcX ps k).inl.kind ≠ 1 ∨ (pcX ps k).inl.text.toList ≠ [])
      · rw [stepA_inl hp hi]; exact ⟨_, hM.inl, hinl hM h hp hi.1 hi.2 hP⟩
      · rw [stepA_none hp hi]; exact ⟨_, hM.skip, hskip hM h hp hi hP⟩
    | true =>
      obtain ⟨c1, c2, c3, c4⟩ := hM.run h hp
      rw [stepA_run hp]
      have hP1 := hrun hM h hp hP
      have hx1 : (runS ps st k).xs.length = st.xs.length + 1 := by unfold runS; rw [len_ins]
      have hp1 : (runS ps st k).prs = st.prs := rfl
      have hfin : ∀ (s2 : EmS) (L : List Nat), ClI ps k st.xs.length s2 L → s2.xs.length + st.prs.length = st.xs.length + 1 + s2.prs.length → s2.prs.length + lfX s2.xs st.xs.length ≤ st.prs.length + (pcX ps k).n.toNat → P (k + 1) s2 (withC s2 L st.xs.length) →
          ∃ ids, MatI ps (k + 1) (if (pcX ps k).opn = true ∧ 0 < lfX s2.xs st.xs.length then opnS ps s2 k st.xs.length else s2) ids ∧ P (k + 1) (if (pcX ps k).opn = true ∧ 0 < lfX s2.xs st.xs.length then opnS ps s2 k st.xs.length else s2) ids := fun s2 L hc ha hb hP2 => by
        refine ⟨_, hM.after' hp hc ha hb, ?_⟩
        split
        · exact hopn hP2
        · exact hP2
      have hP1' : P (k + 1) (runS ps st k) (withC (runS ps st k) ids st.xs.length) := by
        unfold withC
        rw [c2, if_neg (by omega)]
        exact hP1
      cases hc : (pcX ps k).clo with
      | false =>
        simp only [Bool.false_eq_true, if_false]
        exact hfin _ _ c1 (by have := congrArg List.length hp1; omega) (by have := congrArg List.length hp1; omega) hP1'
      | true =>
        simp only [if_true]
        obtain ⟨L', d1, ⟨d2, d3, d4⟩, -⟩ := closeF_ind (fun s L => s.xs.length + st.prs.length = st.xs.length + 1 + s.prs.length ∧ s.prs.length + lfX s.xs st.xs.length ≤ st.prs.length + (pcX ps k).n.toNat ∧ P (k + 1) s (withC s L st.xs.length)) (fun {s A B R} g hl hR hR0 hB hg hr hlr hQ => by
          obtain ⟨q1, q2, q3⟩ := hQ
          unfold withC at q3
          rw [if_neg hl, List.append_assoc, List.cons_append] at q3
          have q4 := hm h hc g hl hR hR0 hB hg hr hlr q3
          have hRc : R ≠ st.xs.length := by
            rintro e
            obtain ⟨A', B', L', -, -, -, -, -, -, -, g8, -⟩ := g.pair hl (hR ▸ hR0)
            exact g8 (hR ▸ e)
          have hlf : lfX (mtchA ps s R st.xs.length).xs st.xs.length = lfX s.xs st.xs.length - pairN s.xs R st.xs.length := by
            have hRl : R < s.xs.length := hg.bd R (by simp)
            have := (core_mtch' (ps := ps) (st := s) (o := R) (c := st.xs.length) (j := st.xs.length) hRl g.lt hRc (by have := g.lt; omega)).2.2.2
            rw [this, if_pos (.inr rfl)]
          refine ⟨?_, ?_, ?_⟩
          · subst hR
            obtain ⟨A', B', L', -, -, -, -, -, -, -, -, -, g1, g2, g3⟩ := g.pair hl hR0
            rw [g2, g3]; omega
          · subst hR
            obtain ⟨A', B', L', -, -, -, -, -, -, -, -, -, g1, g2, g3⟩ := g.pair hl hR0
            rw [g3]; omega
          · unfold withC
            rw [hlf]
            rw [List.append_assoc]
            by_cases hz : lfX s.xs st.xs.length ≤ pairN s.xs R st.xs.length
            · rw [if_pos (show lfX s.xs st.xs.length - pairN s.xs R st.xs.length = 0 by omega)]
              rw [if_pos hz] at q4
              exact q4
            · rw [if_neg (show ¬ lfX s.xs st.xs.length - pairN s.xs R st.xs.length = 0 by omega)]
              rw [if_neg hz] at q4
              exact q4) (lfX (runS ps st k).xs st.xs.length) (runS ps st k) ids c1 (Nat.le_refl _) ⟨by rw [hx1, hp1], by rw [hp1, c2]; exact Nat.le_refl _, hP1'⟩
        exact hfin _ _ d1 d2 d3 d4
end
end Go.Pub
namespace Go.Pub
theorem toI_core {ps : List PcT} {a b : ElL} (h1 : a.t = b.t) (h2 : a.run = b.run) (h3 : a.pc = b.pc) (h4 : a.left = b.left) : toI ps a = toI ps b := by
  unfold toI; rw [h1, h2, h3, h4]
theorem toI_run {ps : List PcT} {xs : List ElL} {i : Nat} (h : runX xs i = true) : toI ps (elX xs i) = txtT 1 ⟨(repB (pcX ps (pX xs i)).ch (lfX xs i)).toArray⟩ := by
  unfold toI
  rw [if_pos (show (elX xs i).run = true from h)]
  rfl
theorem toI_inl {ps : List PcT} {xs : List ElL} {i : Nat} (h : runX xs i = false) : toI ps (elX xs i) = (elX xs i).t := by
  unfold toI
  rw [if_neg (by rw [show (elX xs i).run = false from h]; decide)]
section
variable {ps : List PcT} {st : EmS} {o c j k : Nat} {ids : List Nat}
theorem toI_mtch (ho : o < st.xs.length) (hc : c < st.xs.length) (hne : o ≠ c) (h1 : j ≠ o) (h2 : j ≠ c) (h3 : j ≠ st.xs.length) : toI ps (elX (mtchA ps st o c).xs j) = toI ps (elX st.xs j) := by
  obtain ⟨e1, e2, e3, e4⟩ := core_mtch' (ps := ps) ho hc hne h3
  rw [if_neg (by omega)] at e4
  exact toI_core e1 e2 e3 e4
theorem toI_mtch0 (ho : o < st.xs.length) (hc : c < st.xs.length) (hne : o ≠ c) : toI ps (elX (mtchA ps st o c).xs st.xs.length) = kidT (pairK ps st.xs o c) (betA ps st.xs o c) := by
  obtain ⟨e1, e2⟩ := core_mtch0 (ps := ps) ho hc hne
  rw [toI_inl e2, e1]
theorem toI_mtchR (ho : o < st.xs.length) (hc : c < st.xs.length) (hne : o ≠ c) (hj : j = o ∨ j = c) (hr : runX st.xs j = true) : toI ps (elX (mtchA ps st o c).xs j) = txtT 1 ⟨(repB (pcX ps (pX st.xs j)).ch (lfX st.xs j - pairN st.xs o c)).toArray⟩ := by
  obtain ⟨e1, e2, e3, e4⟩ := core_mtch' (ps := ps) (j := j) ho hc hne (by omega)
  rw [if_pos hj] at e4
  rw [toI_run (e2.trans hr), e3, e4]
theorem pairN_one : 1 ≤ pairN st.xs o c ∧ pairN st.xs o c ≤ 2 := by unfold pairN; split <;> omega
theorem toI_ins {e : ElL} (h : j ≠ st.xs.length) : toI ps (elX (insX st.xs e 0) j) = toI ps (elX st.xs j) := by
  obtain ⟨e1, e2, e3, e4⟩ := core_ins' (xs := st.xs) (e := e) (k := 0) h
  exact toI_core e1 e2 e3 e4
theorem toI_ins0 {e : ElL} : toI ps (elX (insX st.xs e 0) st.xs.length) = toI ps e := by
  obtain ⟨e1, e2, e3, e4⟩ := core_ins0 (xs := st.xs) (e := e) (k := 0)
  exact toI_core e1 e2 e3 e4
/-- The inlines of elements. -/
def inlsA (ps : List PcT) (st : EmS) (ids : List Nat) : List InT := ids.map fun i => toI ps (elX st.xs i)
theorem inlsA_app (a b : List Nat) : inlsA ps st (a ++ b) = inlsA ps st a ++ inlsA ps st b := List.map_append
theorem inlsA_eq {st' : EmS} (h : ∀ i ∈ ids, toI ps (elX st'.xs i) = toI ps (elX st.xs i)) : inlsA ps st' ids = inlsA ps st ids := List.map_congr_left h
/-- What stands in the ring ahead of and behind the parts of a match is not of it. -/
theorem ring_parts {A B : List Nat} {R : Nat} {xs : List ElL} (h : RingI xs (A ++ R :: (B ++ [c]))) : (∀ i ∈ A, i ≠ R ∧ i ≠ c ∧ i < xs.length) ∧ (∀ i ∈ B, i ≠ R ∧ i ≠ c ∧ i < xs.length) ∧ R ≠ c ∧ R < xs.length ∧ c < xs.length := by
  have hn := (List.nodup_cons.1 h.nd).2
  rw [List.nodup_append] at hn
  obtain ⟨-, hn2, hn3⟩ := hn
  rw [List.nodup_cons, List.nodup_append] at hn2
  obtain ⟨hn4, -, -, hn5⟩ := hn2
  refine ⟨fun i hi => ⟨hn3 i hi R (by simp), hn3 i hi c (by simp), h.bd i (by simp [hi])⟩, fun i hi => ⟨fun e => hn4 (by simp [← e, hi]), hn5 i hi c (by simp), h.bd i (by simp [hi])⟩, fun e => hn4 (by simp [e]), h.bd R (by simp), h.bd c (by simp)⟩
/-- The inlines behind a match. -/
theorem inls_mtch {A B : List Nat} {R : Nat} {x : Nat} (h : RingI st.xs (A ++ R :: (B ++ [c]))) (hr : runX st.xs R = true) (hc : runX st.xs c = true) :
    inlsA ps (mtchA ps st R c) (A ++ (if lfX st.xs R ≤ pairN st.xs R c then [] else [R]) ++ st.xs.length :: (if lfX st.xs c ≤ pairN st.xs R c then [] else [c])) =
      inlsA ps st A ++ (if lfX st.xs R ≤ pairN st.xs R c then [] else [txtT 1 ⟨(repB (pcX ps (pX st.xs R)).ch (lfX st.xs R - pairN st.xs R c)).toArray⟩]) ++ kidT (pairK ps st.xs R c) (inlsA ps st B) ::
        (if lfX st.xs c ≤ pairN st.xs R c then [] else [txtT 1 ⟨(repB (pcX ps (pX st.xs c)).ch (lfX st.xs c - pairN st.xs R c)).toArray⟩]) := by
  obtain ⟨h1, h2, h3, h4, h5⟩ := ring_parts h
  rw [inlsA_app, inlsA_app, inlsA_eq (st' := mtchA ps st R c) (st := st) fun i hi => toI_mtch h4 h5 h3 (h1 i hi).1 (h1 i hi).2.1 (by have := (h1 i hi).2.2; omega)]
  congr 1
  · congr 1
    split
    · rfl
    · show [toI ps (elX _ R)] = _
      rw [toI_mtchR h4 h5 h3 (.inl rfl) hr]
  · show toI ps (elX _ _) :: List.map _ _ = _
    rw [toI_mtch0 h4 h5 h3, (betA_eq h).1]
    congr 1
    split
    · rfl
    · show [toI ps (elX _ c)] = _
      rw [toI_mtchR h4 h5 h3 (.inr rfl) hc]
end
theorem repB_len {c : ByteArray} (h : c.size = 1) : ∀ n, (repB c n).length = n
  | 0 => rfl
  | n + 1 => by
    show (c.toList ++ repB c n).length = _
    have hl : c.toList.length = c.size := by rw [Lib.toList_data]; exact Array.length_toList
    rw [List.length_append, repB_len h n, hl, h]; omega
theorem sizeI_txt (k : Int) (l : List UInt8) : sizeI (txtT k ⟨l.toArray⟩) = 1 + l.length := by
  unfold txtT
  rw [sizeI]
  show 1 + l.toArray.size + 0 + 0 + 0 + 0 + sizeL [] = _
  rw [sizeL]; simp
theorem sizeI_kid (k : Int) (l : List InT) : sizeI (kidT k l) = 1 + sizeL l := by
  unfold kidT
  rw [sizeI]; rfl
/-- The size of a piece's inlines and characters. -/
def pcZ (p : PcT) : Nat := sizeI p.inl + 1 + p.n.toNat
def sumZ (ps : List PcT) : Nat → Nat
  | 0 => 0
  | k + 1 => sumZ ps k + pcZ (pcX ps k)
theorem sizeL_one (x : InT) : sizeL [x] = sizeI x := by rw [sizeL, sizeL]; omega
theorem size_match (ps : List PcT) : ∀ k, k ≤ ps.length → ∃ ids, MatI ps k (matchF ps k) ids ∧ sizeL (inlsA ps (matchF ps k) ids) ≤ sumZ ps k := by
  refine match_ind ps (fun k st ids => sizeL (inlsA ps st ids) ≤ sumZ ps k) (Nat.zero_le _) ?_ ?_ ?_ ?_ ?_
  · intro k st ids h hk hp hc hP
    exact Nat.le_trans hP (Nat.le_add_right _ _)
  · intro k st ids h hk hp hk0 hi hP
    have e1 : inlsA ps (inlS ps st k) ids = inlsA ps st ids := inlsA_eq fun i hi => toI_ins (by have := h.em.ring.bd i hi; omega)
    have e2 : inlsA ps (inlS ps st k) [st.xs.length] = [(pcX ps k).inl] := by
      show [toI ps (elX (insX st.xs { t := (pcX ps k).inl } 0) st.xs.length)] = _
      rw [toI_ins0]; rfl
    rw [inlsA_app, sizeL_app, e1, e2, sizeL_one]
    show _ ≤ sumZ ps k + pcZ _
    unfold pcZ; omega
  · intro k st ids h hk hp hP
    have e1 : inlsA ps (runS ps st k) ids = inlsA ps st ids := inlsA_eq fun i hi => toI_ins (by have := h.em.ring.bd i hi; omega)
    have e2 : inlsA ps (runS ps st k) [st.xs.length] = [txtT 1 ⟨(repB (pcX ps k).ch (pcX ps k).n.toNat).toArray⟩] := by
      show [toI ps (elX (insX st.xs (runE k (pcX ps k).n.toNat) 0) st.xs.length)] = _
      rw [toI_ins0]; rfl
    rw [inlsA_app, sizeL_app, e1, e2, sizeL_one, sizeI_txt, repB_len (runP_size hp)]
    show _ ≤ sumZ ps k + pcZ _
    unfold pcZ; omega
  · intro k c st A B R hk hclo h hl hR hR0 hB hg hr hlr hP
    obtain ⟨r1, r2, r3⟩ := h.rb R hr
    obtain ⟨s1, s2, s3⟩ := h.rb c h.run
    rw [inls_mtch (x := 0) hg hr h.run]
    have hpn := pairN_one (st := st) (o := R) (c := c)
    have hsplit : inlsA ps st (A ++ R :: (B ++ [c])) = inlsA ps st A ++ txtT 1 ⟨(repB (pcX ps (pX st.xs R)).ch (lfX st.xs R)).toArray⟩ :: (inlsA ps st B ++ [txtT 1 ⟨(repB (pcX ps (pX st.xs c)).ch (lfX st.xs c)).toArray⟩]) := by
      rw [inlsA_app]
      congr 1
      show toI ps (elX st.xs R) :: List.map _ (B ++ [c]) = _
      rw [toI_run hr, List.map_append]
      congr 2
      show [toI ps (elX st.xs c)] = _
      rw [toI_run h.run]
    rw [hsplit, sizeL_app, sizeL, sizeL_app, sizeL_one, sizeI_txt, sizeI_txt, repB_len (runP_size r2), repB_len (runP_size s2)] at hP
    rw [sizeL_app, sizeL_app, sizeL, sizeI_kid]
    have t1 : sizeL (if lfX st.xs R ≤ pairN st.xs R c then [] else [txtT 1 ⟨(repB (pcX ps (pX st.xs R)).ch (lfX st.xs R - pairN st.xs R c)).toArray⟩]) ≤ lfX st.xs R := by
      split
      · rw [sizeL]; omega
      · rw [sizeL_one, sizeI_txt, repB_len (runP_size r2)]; omega
    have t2 : sizeL (if lfX st.xs c ≤ pairN st.xs R c then [] else [txtT 1 ⟨(repB (pcX ps (pX st.xs c)).ch (lfX st.xs c - pairN st.xs R c)).toArray⟩]) ≤ lfX st.xs c := by
      split
      · rw [sizeL]; omega
      · rw [sizeL_one, sizeI_txt, repB_len (runP_size s2)]; omega
    omega
  · intro k c st ids hP
    exact hP
end Go.Pub
namespace Go.Pub
theorem sumN_len (ps : List PcT) : ∀ k, sumN ps k ≤ sumZ ps k
  | 0 => Nat.le_refl _
  | k + 1 => by
    have := sumN_len ps k
    show sumN ps k + (if runP (pcX ps k) = true then _ else 0) ≤ sumZ ps k + pcZ _
    unfold pcZ
    split <;> omega
theorem sumZ_len (ps : List PcT) : ∀ k, k ≤ sumZ ps k
  | 0 => Nat.le_refl _
  | k + 1 => by
    have := sumZ_len ps k
    show k + 1 ≤ sumZ ps k + pcZ _
    unfold pcZ
    omega
end Go.Pub
namespace Go.Proofs.Ytfnloonmeilhlaa
open Go.RowKit Go.Pub
theorem merge_all : ∀ N, N ≤ 1000000 → MrgH N := fun N => by
  induction N using Nat.strongRecOn with
  | ind N ih =>
    intro hN
    refine t_merge N hN fun x hx => ih (sizeL x.kids) ?_ ?_
    · obtain ⟨k, t, d, ti, a, ar, c, ks⟩ := x
      rw [sizeI] at hx
      show sizeL ks < N
      omega
    · obtain ⟨k, t, d, ti, a, ar, c, ks⟩ := x
      rw [sizeI] at hx
      show sizeL ks ≤ _
      omega
/-- Inlines in new memory. -/
def NstP (l : List InT) (w : World) (e : Ending) (w' : World) : Prop :=
  ∃ A c vs, e = .returned (.slice A l.length c) ∧ RepIs w' (NewG w w') vs l ∧ ReadsS w' (NewG w w') 10 A l.length (vs.flatMap Array.toList) ∧ Below w.heap.size w w'
set_option maxHeartbeats 4000000 in
set_option maxRecDepth 100000 in
theorem e_NestB {L : Value} {ps : List PcT} (w : World) (hL : PcsR w (fun g => g < w.heap.size) L ps) (hlen : ps.length ≤ 30000) (hN : sumN ps ps.length ≤ 30000) (hZ : sumZ ps ps.length ≤ 1000000) :
    Calls Try.prog 12 #[L] w (NstP (nestA ps) w) := by
  obtain ⟨A0, c0, vs0, hL0, -⟩ := id hL
  subst hL0
  have HM := Lib.hid (e_match w hL hlen hN)
  obtain ⟨ids, hMI, hsz⟩ : ∃ ids, MatI ps ps.length (matchA ps) ids ∧ sizeL (inlsA ps (matchA ps) ids) ≤ sumZ ps ps.length := size_match ps ps.length (Nat.le_refl _)
  have HB : Hid (∀ w' vE vO vP S vs, EmR w' w.heap.size (w.heap.size + 1) (.slice A0 ps.length c0) vE vO vP S vs (matchA ps) → Below w.heap.size w w' →
      Calls Try.prog 26 #[.pointer (some ⟨w.heap.size + 1, 0, none⟩), .int .i64 0, .int .i64 0] w' (BetPost S w'.heap.size (inlsA ps (matchA ps) ids) w')) := Lib.hid fun w' vE vO vP S vs h hb => by
    have hR := hMI.em.ring
    obtain ⟨g, cap, rfl, -⟩ := h.row hR.pos
    have hids := hR.len
    have := hMI.len
    have := hMI.prs
    refine e_between w' h (hL.keep (fun g hg => hb.block g hg) fun g hg => h.low g hg) 0 0 ids hR.pos hR.link (fun i hi => ⟨fun e => (List.nodup_cons.1 hR.nd).1 (e ▸ hi), hR.bd i hi⟩) (fun i hi hr => ?_) (by
      omega)
    obtain ⟨r1, r2, r3⟩ := hMI.rb i hr
    obtain ⟨-, -, s3, -⟩ := runP_spec r2
    rw [runP_size r2]
    exact ⟨r1, by omega, by omega⟩
  have HN : Hid (nestA ps = mergeL (inlsA ps (matchA ps) ids)) := Lib.hid (by
    have hR := hMI.em.ring
    have hl := hR.len
    show mergeL (betF ps _ 0 _ _) = _
    rw [betF_eq ids 0 _ hR.link (fun i hi e => (List.nodup_cons.1 hR.nd).1 (e ▸ hi)) (by omega)]
    rfl)
  have HZ : Hid (sizeL (inlsA ps (matchA ps) ids) ≤ 1000000) := Lib.hid (Nat.le_trans hsz hZ)
  clear hL hMI hsz
  generalize inlsA ps (matchA ps) ids = bl at *
  go_enter Try.func12, Try.ntmps12
  go_wp2_with fail
  ((with_reducible refine HM.out.mono ?_))
  rintro e w1 ⟨rfl, b1, vE, vO, vP, S, vs, hE⟩
  have HC := Lib.hid (HB.out w1 vE vO vP S vs hE b1)
  have HS : Hid (∀ g, S g → g < w1.heap.size) := Lib.hid fun g hg => (hE.fro g hg).1
  have hz1 := b1.size
  have HB1 := Lib.hid b1
  clear hE b1 HM HB
  go_wp2_with fail
  ((with_reducible refine HC.out.mono ?_))
  rintro e w2 ⟨v, vs2, rfl, r2, o2, b2⟩
  obtain ⟨A3, c3, hv3, -, -⟩ := own_form o2
  subst hv3
  have hz2 := b2.size
  have HG := Lib.hid (merge_all 1000000 (Nat.le_refl _) bl HZ.out (fun g => S g ∨ (w1.heap.size ≤ g ∧ g < w2.heap.size)) w2 A3 c3 vs2 (r2.keep (fun _ _ => rfl) fun _ h => .inl h) ((ReadsS.of_own o2).keep (fun _ _ => rfl) fun _ h => .inr h) (fun g hg => by
    rcases hg with hg | hg
    · exact Nat.lt_of_lt_of_le (HS.out g hg) hz2
    · exact hg.2))
  have HB2 := Lib.hid (HB1.out.trans (b2.mono hz1))
  clear r2 o2 b2 HC
  go_wp2_with fail
  ((with_reducible refine HG.out.mono ?_))
  rintro e w3 ⟨A4, c4, vs4, rfl, r4, o4, b4⟩
  have hz3 : w.heap.size ≤ w2.heap.size := HB2.out.size
  have HF : Hid (NstP (nestA ps) w (.returned (.slice A4 (mergeL bl).length c4)) w3) := Lib.hid (by
    rw [HN.out]
    exact ⟨A4, c4, vs4, rfl, r4.keep (fun _ _ => rfl) fun g hg => ⟨Nat.le_trans hz3 hg.1, hg.2⟩, (ReadsS.of_own o4).keep (fun _ _ => rfl) fun g hg => ⟨Nat.le_trans hz3 hg.1, hg.2⟩, HB2.out.trans (b4.mono hz3)⟩)
  clear r4 o4 b4
  go_wp2_with fail
  go_ret
  exact HF.out

theorem e_Nest {L : Value} {ps : List PcT} (w : World) (hL : PcsR w (fun g => g < w.heap.size) L ps) (hZ : sumZ ps ps.length ≤ 30000) :
    Calls Try.prog 12 #[L] w (NstP (nestA ps) w) :=
  e_NestB w hL (Nat.le_trans (sumZ_len ps _) hZ) (Nat.le_trans (sumN_len ps _) hZ) (Nat.le_trans hZ (by decide))
/-- Matches in new memory. -/
def PrsP (l : List (Nat × Nat × Nat)) (w : World) (e : Ending) (w' : World) : Prop :=
  ∃ A c, e = .returned (.slice A l.length c) ∧ ReadsS w' (NewG w w') 3 A l.length (trips l) ∧ Below w.heap.size w w'
set_option maxHeartbeats 4000000 in
set_option maxRecDepth 100000 in
theorem e_PairsB {L : Value} {ps : List PcT} (w : World) (hL : PcsR w (fun g => g < w.heap.size) L ps) (hlen : ps.length ≤ 30000) (hN : sumN ps ps.length ≤ 30000) :
    Calls Try.prog 14 #[L] w (PrsP (matchA ps).prs w) := by
  have HM := Lib.hid (e_match w hL hlen hN)
  clear hL
  go_enter Try.func14, Try.ntmps14
  go_wp2_with fail
  ((with_reducible refine HM.out.mono ?_))
  rintro e w1 ⟨rfl, b1, vE, vO, vP, S, vs, hE⟩
  obtain ⟨A3, c3, hv3, -, -⟩ := own_form hE.prs
  subst hv3
  have cP : w1.cell? ⟨w.heap.size + 1, 20, none⟩ = some (.slice A3 (matchA ps).prs.length c3) := hE.cel.cP
  have HF : Hid (PrsP (matchA ps).prs w (.returned (.slice A3 (matchA ps).prs.length c3)) w1) := Lib.hid ⟨A3, c3, rfl, ReadsS.of_own hE.prs, b1⟩
  clear hE b1 HM
  go_wp2_with fail
  go_ret
  exact HF.out

theorem e_Pairs {L : Value} {ps : List PcT} (w : World) (hL : PcsR w (fun g => g < w.heap.size) L ps) (hZ : sumZ ps ps.length ≤ 30000) :
    Calls Try.prog 14 #[L] w (PrsP (matchA ps).prs w) :=
  e_PairsB w hL (Nat.le_trans (sumZ_len ps _) hZ) (Nat.le_trans (sumN_len ps _) hZ)
end Go.Proofs.Ytfnloonmeilhlaa
namespace Go.Pub
open Go.RowKit
/-- A run, and a piece with a text. -/
def plR (c : ByteArray) (n : Int) (o k : Bool) : PcT := ⟨1, zeroT, c, n, o, k, false, 0, 0⟩
def plW (s : ByteArray) : PcT := ⟨0, txtT 1 s, ⟨#[]⟩, 0, false, false, false, 0, 0⟩
def plC (p : PcT) : Array Value := #[.int .i64 p.kind, .int .i64 p.inl.kind, .string p.inl.text, .string ⟨#[]⟩, .string ⟨#[]⟩, .string ⟨#[]⟩, .slice none 0 0, .slice none 0 0, .slice none 0 0, .slice none 0 0, .slice none 0 0, .string p.ch, .int .i64 p.n, .bool p.opn, .bool p.clo, .bool p.img, .int .i64 p.bg, .int .i64 p.nd]
theorem RepI.txt (w : World) (S : Nat → Prop) (k : Int) (s : ByteArray) : RepI w S #[.int .i64 k, .string s, .string ⟨#[]⟩, .string ⟨#[]⟩, .string ⟨#[]⟩, .slice none 0 0, .slice none 0 0, .slice none 0 0, .slice none 0 0, .slice none 0 0] (txtT k s) :=
  .mk k s ⟨#[]⟩ ⟨#[]⟩ noAt [] [] [] none none none none none 0 0 0 0 0 [] ReadsS.none_ ReadsS.none_ ReadsS.none_ ReadsS.none_ .nil ReadsS.none_
theorem plC_rep (w : World) (S : Nat → Prop) (p : PcT) (h : p.inl = txtT p.inl.kind p.inl.text) : RepPc w S (plC p) p :=
  ⟨#[.int .i64 p.inl.kind, .string p.inl.text, .string ⟨#[]⟩, .string ⟨#[]⟩, .string ⟨#[]⟩, .slice none 0 0, .slice none 0 0, .slice none 0 0, .slice none 0 0, .slice none 0 0], by rw [h]; exact RepI.txt w S _ _, by kernel_rfl⟩
/-- What is read of an inline. -/
theorem RepIs.look {w : World} {S : Nat → Prop} {vs : List (Array Value)} {l : List InT} {A : Option Addr} (h : RepIs w S vs l) (hr : ReadsS w S 10 A l.length (vs.flatMap Array.toList)) (i : Nat) (hi : i < l.length) :
    ∃ b off, A = some ⟨b, off, none⟩ ∧ S b ∧ w.cell? ⟨b, off + i * 10, none⟩ = some (.int .i64 l[i].kind) ∧ w.cell? ⟨b, off + i * 10 + 1, none⟩ = some (.string l[i].text) ∧
      ∃ A5 c5 vs5, w.cell? ⟨b, off + i * 10 + 9, none⟩ = some (.slice A5 l[i].kids.length c5) ∧ RepIs w S vs5 l[i].kids ∧ ReadsS w S 10 A5 l[i].kids.length (vs5.flatMap Array.toList) := by
  obtain ⟨b, off, e, hb, hc⟩ := hr.row (by omega) (by decide)
  obtain ⟨v, hv, hvc⟩ := h.at_ i hi
  generalize l[i] = x at *
  cases hv with
  | mk kind text dest title att args cites kids A1 A2 A3 A4 A5 c1 c2 c3 c4 c5 vs5 h1 h2 h3 h4 h5 h6 =>
  have hcell : ∀ j, j < 10 → ∀ u, (#[Value.int .i64 kind, .string text, .string dest, .string title, .string att.id, .slice A1 att.cl.length c1, .slice A2 att.pr.length c2, .slice A3 args.length c3, .slice A4 cites.length c4, .slice A5 kids.length c5] : Array Value)[j]? = some u → w.cell? ⟨b, off + i * 10 + j, none⟩ = some u := fun j hj u hu => by
    rw [Nat.add_assoc]
    exact hc (i * 10 + j) u ((hvc j hj).trans hu)
  exact ⟨b, off, e, hb, hcell 0 (by omega) _ rfl, hcell 1 (by omega) _ rfl, A5, c5, vs5, hcell 9 (by omega) _ rfl, h5, h6⟩
end Go.Pub
namespace Go.Proofs.Ytfnloonmeilhlaa
open Go.RowKit Go.Pub
theorem pc18 : (Try.prog.info? 39).map (·.size) = some 18 := by kernel_rfl
theorem pc_info : (Try.prog.info? 39).map (fun i => (i.zero, i.size, i.bytes)) = some (some (.agg (plC zP)), 18, 248) := by kernel_rfl
set_option maxHeartbeats 1000000 in
theorem l_run (c : ByteArray) (n : Int) (o k : Bool) (w : World) : Calls Try.prog 19 #[.string c, .int .i64 n, .bool o, .bool k] w fun e w' => e = .returned (.agg (plC (plR c n o k))) ∧ Below w.heap.size w w' := by
  have HL := Lib.hid (run_loadVar_row (P := Try.prog) (w.alloc (.cells (plC (plR c n o k)) 39)) w.heap.size 39 39 (plC (plR c n o k)) (0, 0) _ (heap_alloc_new w _) Try.underlying39 rfl pc18)
  go_enter Try.func19, Try.ntmps19
  go_wp2_with (refine wpList_store_row rfl 39 (.tmp 8) (.tmp 13) rfl w.heap.size (plC (plR c n o k)) rfl rfl 39 _ (Blk.new w _ _) pc18 (by rfl) (by simp [plC, Value.oneCell']) ?_; rw [World.setRow_alloc_new])
  refine row_ret Try.results19 HL.out ?_ ?_ ⟨rfl, (Below.refl _ w).alloc (Nat.le_refl _) _⟩
  · rfl
  · rfl

set_option maxHeartbeats 1000000 in
theorem l_word (s : ByteArray) (w : World) : Calls Try.prog 20 #[.string s] w fun e w' => e = .returned (.agg (plC (plW s))) ∧ Below w.heap.size w w' := by
  have HL := Lib.hid (run_loadVar_row (P := Try.prog) (w.alloc (.cells (plC (plW s)) 39)) w.heap.size 39 39 (plC (plW s)) (0, 0) _ (heap_alloc_new w _) Try.underlying39 rfl pc18)
  go_enter Try.func20, Try.ntmps20
  go_wp2_with (refine wpList_store_row rfl 39 (.tmp 2) (.tmp 5) rfl w.heap.size (plC (plW s)) rfl rfl 39 _ (Blk.new w _ _) pc18 (by rfl) (by simp [plC, Value.oneCell']) ?_; rw [World.setRow_alloc_new])
  refine row_ret Try.results20 HL.out ?_ ?_ ⟨rfl, (Below.refl _ w).alloc (Nat.le_refl _) _⟩
  · rfl
  · rfl

def plF (ps : List PcT) : Array Value := (ps.flatMap fun p => (plC p).toList).toArray
theorem pcs_fill5 (a b c d e : PcT) : Instr.fill (fun i => some (i * 18, 18)) ((Array.range (5 * 18)).map ((Value.agg (plC zP)).cells[· % (Value.agg (plC zP)).cells.size]!)) [(0, .agg (plC a)), (1, .agg (plC b)), (2, .agg (plC c)), (3, .agg (plC d)), (4, .agg (plC e))] = some (plF [a, b, c, d, e]) := by kernel_rfl
section
variable {ops : Array Oper} {rest : List Oper} {o : Oper} {ac : Act} {w : World} {Q : Exit → Act → World → Prop}
theorem wpList_pcs5 (hg : o.guard = none) (x y z u v : Operand) (ho : o.op = .buildSlice 22 5 #[(0, x), (1, y), (2, z), (3, u), (4, v)]) (a b c d e : PcT) (hx : ac.eval x = .agg (plC a)) (hy : ac.eval y = .agg (plC b)) (hz : ac.eval z = .agg (plC c)) (hu : ac.eval u = .agg (plC d)) (hv : ac.eval v = .agg (plC e))
    (h : wpList Try.prog ops Q rest (ac.put o.dst (.slice (some ⟨w.heap.size, 0, none⟩) 5 5)) (w.alloc (.cells (plF [a, b, c, d, e]) 39))) : wpList Try.prog ops Q (o :: rest) ac w := by
  obtain ⟨i0, hi0, hz0, hz1, hz2⟩ := info_parts pc_info
  refine wpList_buildSlice hg 22 39 5 _ ho _ i0 _ Try.underlying22 hi0 hz0 (by rw [hz1]; decide) (by rw [hz1]; decide) ?_ h
  rw [hz1]
  have e : (#[((0 : Nat), x), (1, y), (2, z), (3, u), (4, v)].map fun (q : Nat × Operand) => (q.1, ac.eval q.2)).toList = [(0, ac.eval x), (1, ac.eval y), (2, ac.eval z), (3, ac.eval u), (4, ac.eval v)] := by simp
  rw [hx, hy, hz, hu, hv] at e
  show Instr.fill _ _ (#[((0 : Nat), x), (1, y), (2, z), (3, u), (4, v)].map fun (q : Nat × Operand) => (q.1, ac.eval q.2)).toList = _
  rw [e]
  exact pcs_fill5 _ _ _ _ _
end
/-- Plain pieces that were laid. -/
theorem pcs_new (w : World) (ps : List PcT) (h : ∀ p ∈ ps, p.inl = txtT p.inl.kind p.inl.text) (hn : ps.length ≤ 1000) :
    PcsR (w.alloc (.cells (plF ps) 39)) (fun g => g < (w.alloc (.cells (plF ps) 39)).heap.size) (.slice (some ⟨w.heap.size, 0, none⟩) ps.length ps.length) ps := by
  have hfl : (ps.map plC).flatMap Array.toList = ps.flatMap fun p => (plC p).toList := by rw [List.flatMap_map]
  refine ⟨_, _, ps.map plC, rfl, List.length_map _, fun i hi => ?_, ⟨?_, by unfold maxLen; omega⟩, fun h0 => ⟨_, rfl, by simp, fun j u hj => ?_⟩⟩
  · rw [List.getD_eq_getElem?_getD, List.getElem?_map, List.getElem?_eq_getElem hi]
    have e : pcX ps i = ps[i] := by unfold pcX; rw [List.getD_eq_getElem?_getD, List.getElem?_eq_getElem hi]; rfl
    rw [e]
    exact plC_rep _ _ _ (h _ (List.getElem_mem hi))
  · rw [flatz_len 18 _ (fun v hv => by obtain ⟨p, -, rfl⟩ := List.mem_map.1 hv; rfl), List.length_map]
  · have hadd : (⟨w.heap.size, 0, none⟩ : Addr).add j = ⟨w.heap.size, j, none⟩ := by unfold Addr.add; split <;> simp_all
    rw [hadd, Lib.cell_of_heap (heap_alloc_new w _)]
    unfold plF
    rw [hfl] at hj
    simpa using hj
end Go.Proofs.Ytfnloonmeilhlaa
namespace Go.Pub
open Go.RowKit
def bsT (l : List UInt8) : ByteArray := ⟨l.toArray⟩
theorem bsT_size (l : List UInt8) : (bsT l).size = l.length := by show l.toArray.size = _; simp
theorem cat_s {P : Program} (w : World) (a : List UInt8) (s : ByteArray) (h : a.length + s.size ≤ 9223372036854775807) : (Op.stringOp .add (bsT a) s).run P w = .ok (.string (bsT (a ++ s.toList))) w := by
  rw [run_string_add_sum w _ _ (by rw [bsT_size]; exact h)]
  congr 2
  show (⟨a.toArray⟩ : ByteArray) ++ s = ⟨(a ++ s.toList).toArray⟩
  rw [Lib.toList_data]
  apply ByteArray.ext
  rw [ByteArray.data_append]
  simp
end Go.Pub
namespace Go.Proofs.Ytfnloonmeilhlaa
open Go.RowKit Go.Pub
end Go.Proofs.Ytfnloonmeilhlaa
namespace Go.Pub
open Go.RowKit Go.WideShapes Go.ChangeShapes
section
variable {H : Type} {enc : TypeId × Value → H} {P : Program}
theorem post_of_below {f : Func} {s : ChangeSpec} {apart fresh handsOn again : Bool} {W W' : World} {args : Array Value} {v : Value} {ds gs : List (DataW H)} {before pa pv : List MemPlace}
    (hW : DataW.Whole enc P f.params.toList s.vars apart W args.toList ds gs before)
    (hres : ∀ (b : Nat) (sp : Nat → Bool) (hd : Bool), DataW.TrodAll enc P W' b sp hd f.resultTypes.toList (v.resultList f.resultTypes.size) (s.fn H (ds ++ gs)).results [])
    (hargs : ∀ sp : Nat → Bool, (∀ p ∈ before, sp p.block = true) → DataW.TrodAll enc P W' 0 sp true f.params.toList args.toList (s.fn H (ds ++ gs)).args pa)
    (hvars : ∀ sp : Nat → Bool, (∀ p ∈ before, sp p.block = true) → DataW.TrodVars enc P W' sp s.vars (s.fn H (ds ++ gs)).vars pv)
    (hps : before = pa ++ pv) (hb : Below W.heap.size W W')
    (hok : ∀ (j : Nat) (t : TypeId) (r : Value), f.resultTypes[j]? = some t → (v.resultList f.resultTypes.size)[j]? = some r → Value.okWide P W' .any 0 t r) :
    s.post enc P f apart fresh handsOn again W args v W' := by
  have hlt : ∀ p ∈ before, p.block < W.heap.size := fun p hp => hW.lt p hp
  have hold : ∀ p ∈ before, (fun b => decide (b < W.heap.size)) p.block = true := fun p hp => by simpa using hlt p hp
  refine ⟨ds, gs, before, [], pa, pv, hW, hres _ _ _, hargs _ hold, hvars _ hold, World.keptBut_mono (fun p hp => ⟨hp, ?_⟩) (hb.frame (· ∈ before)), fun _ => ?_⟩
  · rw [hps, List.mem_append] at hp
    exact Or.inr hp
  · obtain ⟨_, _, _, _, _, hz, hn⟩ := hW
    refine ⟨hok, _, _, ([] ++ pa) ++ pv, ⟨[] ++ pa, pv, trodAll_append (hargs _ (fun _ _ => rfl)) (hres _ _ _), hvars _ (fun _ _ => rfl), rfl, ?_, ?_⟩, ?_⟩
    · intro b off hp
      have hin : MemPlace.cell b off ∈ before := by rw [hps]; simpa using hp
      rw [hb.frozen (hlt _ hin)]
      exact hz b off hin
    · intro ha
      have := hn ha
      rw [hps] at this
      simpa using this
    · intro p hp _
      rw [hps]
      simpa using hp
end
end Go.Pub
namespace Go.Pub
open Go.ChangeShapes Go.WideShapes Go.RowKit
def OkA (a : AttrL) : Prop := a.id.size ≤ reachBytes ∧ (∀ s ∈ a.cl, s.size ≤ reachBytes) ∧ ∀ x ∈ a.pr, x.1.size ≤ reachBytes ∧ x.2.size ≤ reachBytes
mutual
/-- No string is longer than memory. -/
def okI : InT → Prop
  | .mk _ t d ti a ar c kids => (t.size ≤ reachBytes ∧ d.size ≤ reachBytes ∧ ti.size ≤ reachBytes) ∧ OkA a ∧ (∀ s ∈ ar, s.size ≤ reachBytes) ∧ (∀ x ∈ c, x.key.size ≤ reachBytes ∧ x.pre.size ≤ reachBytes ∧ x.suf.size ≤ reachBytes) ∧ okL kids
def okL : List InT → Prop
  | [] => True
  | x :: l => okI x ∧ okL l
end
theorem okL_of : ∀ (l : List InT), (∀ x ∈ l, okI x) → okL l
  | [], _ => by rw [okL]; trivial
  | x :: l, h => by rw [okL]; exact ⟨h x (by simp), okL_of l fun y hy => h y (List.mem_cons_of_mem _ hy)⟩
theorem okL_mem : ∀ (l : List InT), okL l → ∀ x ∈ l, okI x
  | x :: l, h, y, hy => by
    rw [okL] at h
    rcases List.mem_cons.1 hy with rfl | hy
    · exact h.1
    · exact okL_mem l h.2 y hy
theorem len2 {α : Type} {cs : List α} (h : cs.length = 2) : ∃ a0 a1, cs = [a0, a1] := by
  obtain ⟨a0, cs, rfl⟩ := List.exists_cons_of_length_eq_add_one h
  have h := Nat.succ.inj h
  obtain ⟨a1, cs, rfl⟩ := List.exists_cons_of_length_eq_add_one h
  have h := Nat.succ.inj h
  obtain rfl := List.eq_nil_of_length_eq_zero h
  exact ⟨_, _, rfl⟩
theorem len3 {α : Type} {cs : List α} (h : cs.length = 3) : ∃ a0 a1 a2, cs = [a0, a1, a2] := by
  obtain ⟨a0, cs, rfl⟩ := List.exists_cons_of_length_eq_add_one h
  have h := Nat.succ.inj h
  obtain ⟨a1, cs, rfl⟩ := List.exists_cons_of_length_eq_add_one h
  have h := Nat.succ.inj h
  obtain ⟨a2, cs, rfl⟩ := List.exists_cons_of_length_eq_add_one h
  have h := Nat.succ.inj h
  obtain rfl := List.eq_nil_of_length_eq_zero h
  exact ⟨_, _, _, rfl⟩
theorem len4 {α : Type} {cs : List α} (h : cs.length = 4) : ∃ a0 a1 a2 a3, cs = [a0, a1, a2, a3] := by
  obtain ⟨a0, cs, rfl⟩ := List.exists_cons_of_length_eq_add_one h
  have h := Nat.succ.inj h
  obtain ⟨a1, cs, rfl⟩ := List.exists_cons_of_length_eq_add_one h
  have h := Nat.succ.inj h
  obtain ⟨a2, cs, rfl⟩ := List.exists_cons_of_length_eq_add_one h
  have h := Nat.succ.inj h
  obtain ⟨a3, cs, rfl⟩ := List.exists_cons_of_length_eq_add_one h
  have h := Nat.succ.inj h
  obtain rfl := List.eq_nil_of_length_eq_zero h
  exact ⟨_, _, _, _, rfl⟩
theorem len10 {α : Type} {cs : List α} (h : cs.length = 10) : ∃ a0 a1 a2 a3 a4 a5 a6 a7 a8 a9, cs = [a0, a1, a2, a3, a4, a5, a6, a7, a8, a9] := by
  obtain ⟨a0, cs, rfl⟩ := List.exists_cons_of_length_eq_add_one h
  have h := Nat.succ.inj h
  obtain ⟨a1, cs, rfl⟩ := List.exists_cons_of_length_eq_add_one h
  have h := Nat.succ.inj h
  obtain ⟨a2, cs, rfl⟩ := List.exists_cons_of_length_eq_add_one h
  have h := Nat.succ.inj h
  obtain ⟨a3, cs, rfl⟩ := List.exists_cons_of_length_eq_add_one h
  have h := Nat.succ.inj h
  obtain ⟨a4, cs, rfl⟩ := List.exists_cons_of_length_eq_add_one h
  have h := Nat.succ.inj h
  obtain ⟨a5, cs, rfl⟩ := List.exists_cons_of_length_eq_add_one h
  have h := Nat.succ.inj h
  obtain ⟨a6, cs, rfl⟩ := List.exists_cons_of_length_eq_add_one h
  have h := Nat.succ.inj h
  obtain ⟨a7, cs, rfl⟩ := List.exists_cons_of_length_eq_add_one h
  have h := Nat.succ.inj h
  obtain ⟨a8, cs, rfl⟩ := List.exists_cons_of_length_eq_add_one h
  have h := Nat.succ.inj h
  obtain ⟨a9, cs, rfl⟩ := List.exists_cons_of_length_eq_add_one h
  have h := Nat.succ.inj h
  obtain rfl := List.eq_nil_of_length_eq_zero h
  exact ⟨_, _, _, _, _, _, _, _, _, _, rfl⟩
theorem len18 {α : Type} {cs : List α} (h : cs.length = 18) : ∃ a0 a1 a2 a3 a4 a5 a6 a7 a8 a9 a10 a11 a12 a13 a14 a15 a16 a17, cs = [a0, a1, a2, a3, a4, a5, a6, a7, a8, a9, a10, a11, a12, a13, a14, a15, a16, a17] := by
  obtain ⟨a0, cs, rfl⟩ := List.exists_cons_of_length_eq_add_one h
  have h := Nat.succ.inj h
  obtain ⟨a1, cs, rfl⟩ := List.exists_cons_of_length_eq_add_one h
  have h := Nat.succ.inj h
  obtain ⟨a2, cs, rfl⟩ := List.exists_cons_of_length_eq_add_one h
  have h := Nat.succ.inj h
  obtain ⟨a3, cs, rfl⟩ := List.exists_cons_of_length_eq_add_one h
  have h := Nat.succ.inj h
  obtain ⟨a4, cs, rfl⟩ := List.exists_cons_of_length_eq_add_one h
  have h := Nat.succ.inj h
  obtain ⟨a5, cs, rfl⟩ := List.exists_cons_of_length_eq_add_one h
  have h := Nat.succ.inj h
  obtain ⟨a6, cs, rfl⟩ := List.exists_cons_of_length_eq_add_one h
  have h := Nat.succ.inj h
  obtain ⟨a7, cs, rfl⟩ := List.exists_cons_of_length_eq_add_one h
  have h := Nat.succ.inj h
  obtain ⟨a8, cs, rfl⟩ := List.exists_cons_of_length_eq_add_one h
  have h := Nat.succ.inj h
  obtain ⟨a9, cs, rfl⟩ := List.exists_cons_of_length_eq_add_one h
  have h := Nat.succ.inj h
  obtain ⟨a10, cs, rfl⟩ := List.exists_cons_of_length_eq_add_one h
  have h := Nat.succ.inj h
  obtain ⟨a11, cs, rfl⟩ := List.exists_cons_of_length_eq_add_one h
  have h := Nat.succ.inj h
  obtain ⟨a12, cs, rfl⟩ := List.exists_cons_of_length_eq_add_one h
  have h := Nat.succ.inj h
  obtain ⟨a13, cs, rfl⟩ := List.exists_cons_of_length_eq_add_one h
  have h := Nat.succ.inj h
  obtain ⟨a14, cs, rfl⟩ := List.exists_cons_of_length_eq_add_one h
  have h := Nat.succ.inj h
  obtain ⟨a15, cs, rfl⟩ := List.exists_cons_of_length_eq_add_one h
  have h := Nat.succ.inj h
  obtain ⟨a16, cs, rfl⟩ := List.exists_cons_of_length_eq_add_one h
  have h := Nat.succ.inj h
  obtain ⟨a17, cs, rfl⟩ := List.exists_cons_of_length_eq_add_one h
  have h := Nat.succ.inj h
  obtain rfl := List.eq_nil_of_length_eq_zero h
  exact ⟨_, _, _, _, _, _, _, _, _, _, _, _, _, _, _, _, _, _, rfl⟩
theorem list_of' {α : Type} (n : Nat) (P : Nat → α → Prop) (h : ∀ i, i < n → ∃ x, P i x) : ∃ l : List α, l.length = n ∧ ∀ i (hi : i < l.length), P i l[i] := by
  induction n with
  | zero => exact ⟨[], rfl, fun i hi => absurd hi (by simp)⟩
  | succ n ih =>
    obtain ⟨l, hl, hP⟩ := ih fun i hi => h i (by omega)
    obtain ⟨x, hx⟩ := h n (by omega)
    refine ⟨l ++ [x], by simp [hl], fun i hi => ?_⟩
    by_cases hlt : i < l.length
    · rw [List.getElem_append_left hlt]; exact hP i hlt
    · have : i = n := by simp at hi; omega
      subst this
      rw [List.getElem_append_right (by omega)]
      simp [hl]; exact hx
section
variable {H : Type} {enc : TypeId × Value → H} {P : Program} {w : World} {spare : Nat → Bool} {held : Bool} {α : Type}
/-- What is read is of no more bytes than memory holds. -/
def Wt (P : Program) (t : TypeId) (d : DataW H) : Prop := ∀ n ∈ d.weights P t, n ≤ reachBytes
theorem Wt.str {t : TypeId} {s : List UInt8} (h : Wt P t (.lit (.string s) : DataW H)) : s.length ≤ reachBytes := h _ (by simp [DataW.weights])
theorem Wt.agg {t : TypeId} {fs : Array Field} {ds : List (DataW H)} (ht : P.underlying t = some (.struct fs)) (h : Wt P t (.agg ds)) : ∀ n ∈ DataW.weightsEach P (fs.toList.map (·.type)) ds, n ≤ reachBytes := fun n hn => h n (by rw [DataW.weights, ht]; exact hn)
theorem weights_all {e : TypeId} {d : DataW H} : ∀ {l : List (DataW H)}, d ∈ l → ∀ n ∈ d.weights P e, n ∈ DataW.weightsAll P e l
  | x :: l, h, n, hn => by
    rw [DataW.weightsAll, List.mem_append]
    rcases List.mem_cons.1 h with rfl | h
    · exact .inl hn
    · exact .inr (weights_all h n hn)
theorem fld {n : Nat} {cs : List Value} {fs : Array Field} {xs : List (DataW H × List MemPlace)} {i : Nat} {f : Field} {t : TypeId} {o k : Nat} (hf : ∀ (i : Nat) (f : Field), fs[i]? = some f → DataW.trod enc P w 0 spare held n f.type ((cs.drop f.offset).take (P.cellsOf f.type)) = xs[i]?)
    (hw : ∀ n ∈ DataW.weightsEach P (fs.toList.map (·.type)) (xs.map (·.1)), n ≤ reachBytes) (hi : fs[i]? = some f) (hl : xs.length = fs.size) (ht : f.type = t) (ho : f.offset = o) (hk : P.cellsOf t = k) : ∃ y, DataW.trod enc P w 0 spare held n t ((cs.drop o).take k) = some y ∧ Wt P t y.1 := by
  have h := hf i f hi
  subst ht ho hk
  have hlt : i < xs.length := by rw [hl]; exact (Array.getElem?_eq_some_iff.1 hi).1
  refine ⟨xs[i], by rw [h, List.getElem?_eq_getElem hlt], fun m hm => hw m ?_⟩
  refine DataW.weights_mem_each (j := i) (t := f.type) (d := xs[i].1) ?_ ?_ m hm
  · rw [List.getElem?_map, Array.getElem?_toList, hi]; rfl
  · rw [List.getElem?_map, List.getElem?_eq_getElem hlt]; rfl
/-- A slice, its elements one by one. -/
theorem open_rows {t e : TypeId} {z fuel : Nat} {cs : List Value} {x : DataW H × List MemPlace} (ht : P.underlying t = some (.slice e)) (hz : P.cellsOf e = z) (h : DataW.trod enc P w 0 spare held fuel t cs = some x) (hw : Wt P t x.1) :
    cs = [.slice none 0 0] ∨ ∃ (ad : Addr) (len cap n : Nat), fuel = n + 1 ∧ cs = [.slice (some ad) len cap] ∧ len ≤ cap ∧ cap ≤ maxLen ∧ ∀ i, i < len → ∃ (cs' : List Value) (y : DataW H × List MemPlace), cs'.length = z ∧ (∀ j, j < z → w.cell? (ad.add (i * z + j)) = cs'[j]?) ∧ DataW.trod enc P w 0 spare held n e cs' = some y ∧ Wt P e y.1 := by
  rcases DataW.trod_slice ht h with ⟨h0, -⟩ | ⟨a, len, cap, elems, rest, n, e1, e2, rfl, -, hl, hm, hlen, hel, -, -⟩
  · exact .inl h0
  · refine .inr ⟨a, len, cap, n, e1, e2, hl, hm, fun i hi => ?_⟩
    have h1 := hel i hi
    rw [List.getElem?_eq_getElem (by omega)] at h1
    obtain ⟨cs', hc, ht'⟩ := Option.bind_eq_some_iff.1 h1
    rw [hz] at hc
    obtain ⟨-, hcl, hat⟩ := World.cells?_some hc
    refine ⟨cs', _, hcl, fun j hj => by rw [← hat j hj, Go.Deep.add_add], ht', fun m hm' => hw m ?_⟩
    rw [DataW.weights, ht]
    exact List.mem_cons_of_mem _ (List.mem_append_left _ (weights_all (d := elems[i].1) (List.mem_map_of_mem (List.getElem_mem (by omega))) m hm'))
/-- The elements of a slice, read. -/
theorem open_elems {t e : TypeId} {z fuel : Nat} {cs : List Value} {x : DataW H × List MemPlace} (g : α → List Value) (Ok : α → Prop) (ht : P.underlying t = some (.slice e)) (hz : P.cellsOf e = z) (hz0 : 0 < z) (h : DataW.trod enc P w 0 spare held fuel t cs = some x) (hw : Wt P t x.1)
    (hg : ∀ n cs y, n < fuel → DataW.trod enc P w 0 spare held n e cs = some y → Wt P e y.1 → cs.length = z → ∃ a : α, cs = g a ∧ Ok a) :
    ∃ (l : List α) (A : Option Addr) (c : Nat), cs = [.slice A l.length c] ∧ ReadsS w (fun b => b < w.heap.size) z A l.length (l.flatMap g) ∧ (∀ a ∈ l, Ok a) ∧ l.length ≤ c ∧ c ≤ maxLen := by
  rcases open_rows ht hz h hw with h0 | ⟨ad, len, cap, n, e1, e2, hl, hm, hi⟩
  · exact ⟨[], none, 0, h0, ReadsS.none_, fun a ha => absurd ha (by simp), Nat.le_refl _, Nat.zero_le _⟩
  · obtain ⟨l, hll, hP⟩ := list_of' len (fun i (a : α) => (∀ j, j < z → w.cell? (ad.add (i * z + j)) = (g a)[j]?) ∧ (g a).length = z ∧ Ok a) fun i hi' => by
      obtain ⟨cs', y, h1, h2, h3, h4⟩ := hi i hi'
      obtain ⟨a, rfl, ha⟩ := hg n cs' y (by omega) h3 h4 h1
      exact ⟨a, h2, h1, ha⟩
    have hlen : ∀ a ∈ l, (g a).length = z := fun a ha => by
      obtain ⟨i, hi', rfl⟩ := List.mem_iff_getElem.1 ha
      exact (hP i hi').2.1
    have hfl : (l.flatMap g).length = l.length * z := by
      clear hP hll
      induction l with
      | nil => simp
      | cons a l ih =>
        rw [List.flatMap_cons, List.length_append, hlen a (by simp), ih fun b hb => hlen b (List.mem_cons_of_mem _ hb), List.length_cons, Nat.succ_mul]
        omega
    have hat : ∀ (l : List α), (∀ a ∈ l, (g a).length = z) → ∀ i (hi : i < l.length) j, j < z → (l.flatMap g)[i * z + j]? = (g l[i])[j]? := by
      intro l
      induction l with
      | nil => intro _ i hi; exact absurd hi (by simp)
      | cons a l ih =>
        intro hl i hi j hj
        have ha := hl a (by simp)
        cases i with
        | zero => rw [List.flatMap_cons, Nat.zero_mul, Nat.zero_add, List.getElem?_append_left (by omega)]; rfl
        | succ i =>
          have e : (i + 1) * z + j - z = i * z + j := by rw [Nat.succ_mul]; omega
          rw [List.flatMap_cons, List.getElem?_append_right (by rw [Nat.succ_mul]; omega), ha, e, ih (fun b hb => hl b (List.mem_cons_of_mem _ hb)) i (by simpa using hi) j hj]
          rfl
    refine ⟨l, some ad, cap, by rw [hll]; exact e2, ⟨⟨hfl, by omega⟩, fun h0 => ⟨ad, rfl, ?_, fun j u hu => ?_⟩⟩, fun a ha => ?_, by omega, hm⟩
    · obtain ⟨h1, h2, -⟩ := hP 0 h0
      have h3 := h1 0 hz0
      rw [List.getElem?_eq_getElem (by omega)] at h3
      have := World.block_lt_of_cell? w _ h3
      rwa [block_of_add] at this
    · have hj : j < l.length * z := by
        rcases Nat.lt_or_ge j (l.length * z) with h1 | h1
        · exact h1
        · rw [List.getElem?_eq_none (by omega)] at hu; cases hu
      have hq : j / z < l.length := Nat.div_lt_of_lt_mul (by rw [Nat.mul_comm]; exact hj)
      have hr := Nat.mod_lt j hz0
      have e : j / z * z + j % z = j := by rw [Nat.mul_comm]; exact Nat.div_add_mod j z
      rw [← e] at hu ⊢
      rw [hat l hlen _ hq _ hr] at hu
      rw [(hP _ hq).1 _ hr, hu]
    · obtain ⟨i, hi', rfl⟩ := List.mem_iff_getElem.1 ha
      exact (hP i hi').2.2
end
theorem flat_str (l : List ByteArray) : (l.flatMap fun s => [Value.string s]) = strs l := by
  unfold strs
  induction l with
  | nil => rfl
  | cons a l ih => rw [List.flatMap_cons, ih]; rfl
end Go.Pub
namespace Go.Proofs.Ytfnloonmeilhlaa
open Go.RowKit Go.Pub Go.ChangeShapes Go.WideShapes
theorem co_str : Try.prog.cellsOf 9 = 1 := by kernel_rfl
theorem co_int : Try.prog.cellsOf 3 = 1 := by kernel_rfl
theorem co_bool : Try.prog.cellsOf 4 = 1 := by kernel_rfl
theorem co_strs : Try.prog.cellsOf 31 = 1 := by kernel_rfl
theorem co_prs : Try.prog.cellsOf 32 = 1 := by kernel_rfl
theorem co_pr : Try.prog.cellsOf 71 = 2 := by kernel_rfl
theorem co_att : Try.prog.cellsOf 34 = 3 := by kernel_rfl
theorem co_cits : Try.prog.cellsOf 35 = 1 := by kernel_rfl
theorem co_cit : Try.prog.cellsOf 55 = 4 := by kernel_rfl
theorem co_ins : Try.prog.cellsOf 26 = 1 := by kernel_rfl
theorem co_in : Try.prog.cellsOf 37 = 10 := by kernel_rfl
theorem co_pcs : Try.prog.cellsOf 39 = 18 := by kernel_rfl
section
variable {H : Type} {enc : TypeId × Value → H} {w : World} {spare : Nat → Bool} {held : Bool} {n : Nat} {cs : List Value} {x : DataW H × List MemPlace}
theorem open_sstr (h : DataW.trod enc Try.prog w 0 spare held n 31 cs = some x) (hw : Wt Try.prog 31 x.1) : ∃ (l : List ByteArray) (A : Option Addr) (c : Nat), cs = [.slice A l.length c] ∧ ReadsS w (fun b : Nat => b < w.heap.size) 1 A l.length (strs l) ∧ (∀ s ∈ l, s.size ≤ reachBytes) := by
  obtain ⟨l, A, c, e, hr, ho, -, -⟩ := open_elems (fun s : ByteArray => [Value.string s]) (fun s => s.size ≤ reachBytes) Try.underlying31 co_str (by decide) h hw fun n cs y _ hy hyw _ => by
    obtain ⟨s, e, hx, -⟩ := DataW.trod_string Try.underlying9 hy
    have hs : s.size ≤ reachBytes := by rw [hx] at hyw; have := hyw.str; rwa [Array.length_toList] at this
    exact ⟨s, e, hs⟩
  rw [flat_str] at hr
  exact ⟨l, A, c, e, hr, ho⟩
theorem open_sprs (h : DataW.trod enc Try.prog w 0 spare held n 32 cs = some x) (hw : Wt Try.prog 32 x.1) : ∃ (l : List (ByteArray × ByteArray)) (A : Option Addr) (c : Nat), cs = [.slice A l.length c] ∧ ReadsS w (fun b : Nat => b < w.heap.size) 2 A l.length (prs l) ∧ (∀ s ∈ l, s.1.size ≤ reachBytes ∧ s.2.size ≤ reachBytes) := by
  obtain ⟨l, A, c, e, hr, ho, -, -⟩ := open_elems (fun s : ByteArray × ByteArray => [Value.string s.1, Value.string s.2]) (fun s => s.1.size ≤ reachBytes ∧ s.2.size ≤ reachBytes) Try.underlying32 co_pr (by decide) h hw fun n cs y _ hy hyw hl => by
    obtain ⟨xs, m, -, hxe, -, hxl, hf⟩ := DataW.trod_struct Try.underlying71 hy
    rw [hxe] at hyw
    have hwe := Wt.agg Try.underlying71 hyw
    obtain ⟨a0, a1, rfl⟩ := len2 hl
    obtain ⟨y0, h0, w0⟩ := fld hf (i := 0) (t := 9) (o := 0) hwe rfl hxl rfl rfl co_str
    obtain ⟨y1, h1, w1⟩ := fld hf (i := 1) (t := 9) (o := 1) hwe rfl hxl rfl rfl co_str
    obtain ⟨s0, e0, hx0, -⟩ := DataW.trod_string Try.underlying9 h0
    have l0 : s0.size ≤ reachBytes := by rw [hx0] at w0; have := w0.str; rwa [Array.length_toList] at this
    obtain ⟨s1, e1, hx1, -⟩ := DataW.trod_string Try.underlying9 h1
    have l1 : s1.size ≤ reachBytes := by rw [hx1] at w1; have := w1.str; rwa [Array.length_toList] at this
    have q0 : [a0] = [.string s0] := e0
    have q1 : [a1] = [.string s1] := e1
    injection q0 with q0; injection q1 with q1; subst q0 q1
    exact ⟨(s0, s1), rfl, l0, l1⟩
  exact ⟨l, A, c, e, hr, ho⟩
theorem open_scit (h : DataW.trod enc Try.prog w 0 spare held n 35 cs = some x) (hw : Wt Try.prog 35 x.1) : ∃ (l : List CitL) (A : Option Addr) (c : Nat), cs = [.slice A l.length c] ∧ ReadsS w (fun b : Nat => b < w.heap.size) 4 A l.length (citVT l) ∧ (∀ s ∈ l, s.key.size ≤ reachBytes ∧ s.pre.size ≤ reachBytes ∧ s.suf.size ≤ reachBytes) := by
  obtain ⟨l, A, c, e, hr, ho, -, -⟩ := open_elems (fun s : CitL => [Value.string s.key, Value.string s.pre, Value.string s.suf, Value.bool s.bare]) (fun s => s.key.size ≤ reachBytes ∧ s.pre.size ≤ reachBytes ∧ s.suf.size ≤ reachBytes) Try.underlying35 co_cit (by decide) h hw fun n cs y _ hy hyw hl => by
    obtain ⟨xs, m, -, hxe, -, hxl, hf⟩ := DataW.trod_struct Try.underlying55 hy
    rw [hxe] at hyw
    have hwe := Wt.agg Try.underlying55 hyw
    obtain ⟨a0, a1, a2, a3, rfl⟩ := len4 hl
    obtain ⟨y0, h0, w0⟩ := fld hf (i := 0) (t := 9) (o := 0) hwe rfl hxl rfl rfl co_str
    obtain ⟨y1, h1, w1⟩ := fld hf (i := 1) (t := 9) (o := 1) hwe rfl hxl rfl rfl co_str
    obtain ⟨y2, h2, w2⟩ := fld hf (i := 2) (t := 9) (o := 2) hwe rfl hxl rfl rfl co_str
    obtain ⟨y3, h3, w3⟩ := fld hf (i := 3) (t := 4) (o := 3) hwe rfl hxl rfl rfl co_bool
    obtain ⟨s0, e0, hx0, -⟩ := DataW.trod_string Try.underlying9 h0
    have l0 : s0.size ≤ reachBytes := by rw [hx0] at w0; have := w0.str; rwa [Array.length_toList] at this
    obtain ⟨s1, e1, hx1, -⟩ := DataW.trod_string Try.underlying9 h1
    have l1 : s1.size ≤ reachBytes := by rw [hx1] at w1; have := w1.str; rwa [Array.length_toList] at this
    obtain ⟨s2, e2, hx2, -⟩ := DataW.trod_string Try.underlying9 h2
    have l2 : s2.size ≤ reachBytes := by rw [hx2] at w2; have := w2.str; rwa [Array.length_toList] at this
    obtain ⟨b3, e3, -⟩ := DataW.trod_bool Try.underlying4 h3
    have q0 : [a0] = [.string s0] := e0
    have q1 : [a1] = [.string s1] := e1
    have q2 : [a2] = [.string s2] := e2
    have q3 : [a3] = [.bool b3] := e3
    injection q0 with q0; injection q1 with q1; injection q2 with q2; injection q3 with q3; subst q0 q1 q2 q3
    exact ⟨⟨s0, s1, s2, b3⟩, rfl, l0, l1, l2⟩
  exact ⟨l, A, c, e, hr, ho⟩
theorem open_att (h : DataW.trod enc Try.prog w 0 spare held n 34 cs = some x) (hw : Wt Try.prog 34 x.1) : ∃ (a : AttrL) (A1 A2 : Option Addr) (c1 c2 : Nat), cs = [.string a.id, .slice A1 a.cl.length c1, .slice A2 a.pr.length c2] ∧ ReadsS w (fun b : Nat => b < w.heap.size) 1 A1 a.cl.length (strs a.cl) ∧ ReadsS w (fun b : Nat => b < w.heap.size) 2 A2 a.pr.length (prs a.pr) ∧ OkA a := by
  obtain ⟨xs, m, -, hxe, hl, hxl, hf⟩ := DataW.trod_struct Try.underlying34 h
  rw [hxe] at hw
  have hwe := Wt.agg Try.underlying34 hw
  rw [co_att] at hl
  obtain ⟨a0, a1, a2, rfl⟩ := len3 hl
  obtain ⟨y0, h0, w0⟩ := fld hf (i := 0) (t := 9) (o := 0) hwe rfl hxl rfl rfl co_str
  obtain ⟨y1, h1, w1⟩ := fld hf (i := 1) (t := 31) (o := 1) hwe rfl hxl rfl rfl co_strs
  obtain ⟨y2, h2, w2⟩ := fld hf (i := 2) (t := 32) (o := 2) hwe rfl hxl rfl rfl co_prs
  obtain ⟨s0, e0, hx0, -⟩ := DataW.trod_string Try.underlying9 h0
  have l0 : s0.size ≤ reachBytes := by rw [hx0] at w0; have := w0.str; rwa [Array.length_toList] at this
  obtain ⟨cl, A1, c1, e1, r1, o1⟩ := open_sstr h1 w1
  obtain ⟨pr, A2, c2, e2, r2, o2⟩ := open_sprs h2 w2
  have q0 : [a0] = [.string s0] := e0
  have q1 : [a1] = [.slice A1 cl.length c1] := e1
  have q2 : [a2] = [.slice A2 pr.length c2] := e2
  injection q0 with q0; injection q1 with q1; injection q2 with q2; subst q0 q1 q2
  exact ⟨⟨s0, cl, pr⟩, A1, A2, c1, c2, rfl, r1, r2, l0, o1, o2⟩
set_option maxHeartbeats 2000000 in
/-- An inline, to any depth. -/
theorem open_in : ∀ (n : Nat) (cs : List Value) (x : DataW H × List MemPlace), DataW.trod enc Try.prog w 0 spare held n 37 cs = some x → Wt Try.prog 37 x.1 → ∃ (t : InT) (v : Array Value), cs = v.toList ∧ RepI w (fun b : Nat => b < w.heap.size) v t ∧ okI t := fun n => by
  induction n using Nat.strongRecOn with
  | ind n ih =>
  intro cs x h hw
  obtain ⟨xs, m, hm, hxe, hl, hxl, hf⟩ := DataW.trod_struct Try.underlying37 h
  rw [hxe] at hw
  have hwe := Wt.agg Try.underlying37 hw
  rw [co_in] at hl
  obtain ⟨a0, a1, a2, a3, a4, a5, a6, a7, a8, a9, rfl⟩ := len10 hl
  obtain ⟨y0, h0, w0⟩ := fld hf (i := 0) (t := 3) (o := 0) hwe rfl hxl rfl rfl co_int
  obtain ⟨y1, h1, w1⟩ := fld hf (i := 1) (t := 9) (o := 1) hwe rfl hxl rfl rfl co_str
  obtain ⟨y2, h2, w2⟩ := fld hf (i := 2) (t := 9) (o := 2) hwe rfl hxl rfl rfl co_str
  obtain ⟨y3, h3, w3⟩ := fld hf (i := 3) (t := 9) (o := 3) hwe rfl hxl rfl rfl co_str
  obtain ⟨y4, h4, w4⟩ := fld hf (i := 4) (t := 34) (o := 4) hwe rfl hxl rfl rfl co_att
  obtain ⟨y5, h5, w5⟩ := fld hf (i := 5) (t := 31) (o := 7) hwe rfl hxl rfl rfl co_strs
  obtain ⟨y6, h6, w6⟩ := fld hf (i := 6) (t := 35) (o := 8) hwe rfl hxl rfl rfl co_cits
  obtain ⟨y7, h7, w7⟩ := fld hf (i := 7) (t := 26) (o := 9) hwe rfl hxl rfl rfl co_ins
  obtain ⟨k0, e0, -, -⟩ := DataW.trod_int Try.underlying3 h0
  obtain ⟨s1, e1, hx1, -⟩ := DataW.trod_string Try.underlying9 h1
  have l1 : s1.size ≤ reachBytes := by rw [hx1] at w1; have := w1.str; rwa [Array.length_toList] at this
  obtain ⟨s2, e2, hx2, -⟩ := DataW.trod_string Try.underlying9 h2
  have l2 : s2.size ≤ reachBytes := by rw [hx2] at w2; have := w2.str; rwa [Array.length_toList] at this
  obtain ⟨s3, e3, hx3, -⟩ := DataW.trod_string Try.underlying9 h3
  have l3 : s3.size ≤ reachBytes := by rw [hx3] at w3; have := w3.str; rwa [Array.length_toList] at this
  obtain ⟨att, A1, A2, c1, c2, e4, r4, r4', o4⟩ := open_att h4 w4
  obtain ⟨ar, A3, c3, e5, r5, o5⟩ := open_sstr h5 w5
  obtain ⟨ci, A4, c4, e6, r6, o6⟩ := open_scit h6 w6
  obtain ⟨kv, A5, c5, e7, r7, o7, -, -⟩ := open_elems (fun p : Array Value × InT => p.1.toList) (fun p => RepI w (fun b : Nat => b < w.heap.size) p.1 p.2 ∧ okI p.2) Try.underlying26 co_in (by decide) h7 w7 fun n' cs' y hn' hy hyw _ => by
    obtain ⟨t, v, e, hv, ho⟩ := ih n' (by omega) cs' y hy hyw
    exact ⟨(v, t), e, hv, ho⟩
  have q0 : [a0] = [.int .i64 k0] := e0
  have q1 : [a1] = [.string s1] := e1
  have q2 : [a2] = [.string s2] := e2
  have q3 : [a3] = [.string s3] := e3
  have q4 : [a4, a5, a6] = [.string att.id, .slice A1 att.cl.length c1, .slice A2 att.pr.length c2] := e4
  have q5 : [a7] = [.slice A3 ar.length c3] := e5
  have q6 : [a8] = [.slice A4 ci.length c4] := e6
  have q7 : [a9] = [.slice A5 kv.length c5] := e7
  injection q0 with q0; injection q1 with q1; injection q2 with q2; injection q3 with q3
  injection q4 with q4 q4'; injection q4' with q4' q4''; injection q4'' with q4''
  injection q5 with q5; injection q6 with q6; injection q7 with q7
  subst q0 q1 q2 q3 q4 q4' q4'' q5 q6 q7
  have hrep : ∀ (l : List (Array Value × InT)), (∀ p ∈ l, RepI w (fun b : Nat => b < w.heap.size) p.1 p.2 ∧ okI p.2) → RepIs w (fun b : Nat => b < w.heap.size) (l.map (·.1)) (l.map (·.2)) := by
    intro l
    induction l with
    | nil => intro _; exact .nil
    | cons p l ihl => intro hp; exact .cons _ _ _ _ (hp p (by simp)).1 (ihl fun q hq => hp q (List.mem_cons_of_mem _ hq))
  have hkl : (kv.map (·.2)).length = kv.length := List.length_map _
  have hfl : kv.flatMap (fun p => p.1.toList) = (kv.map (·.1)).flatMap Array.toList := by rw [List.flatMap_map]
  rw [hfl, ← hkl] at r7
  refine ⟨.mk k0 s1 s2 s3 att ar ci (kv.map (·.2)), #[.int .i64 k0, .string s1, .string s2, .string s3, .string att.id, .slice A1 att.cl.length c1, .slice A2 att.pr.length c2, .slice A3 ar.length c3, .slice A4 ci.length c4, .slice A5 (kv.map (·.2)).length c5], by rw [hkl], .mk _ _ _ _ _ _ _ _ _ _ _ _ _ _ _ _ _ _ _ r4 r4' r5 r6 (hrep kv o7) r7, ?_⟩
  rw [okI]
  exact ⟨⟨l1, l2, l3⟩, o4, o5, o6, okL_of _ fun t ht => by
    obtain ⟨p, hp, rfl⟩ := List.mem_map.1 ht
    exact (o7 p hp).2⟩

theorem pcW_list {v : Array Value} {p : PcT} {l : List Value} (h : l = v.toList) : .int .i64 p.kind :: (l ++ [.string p.ch, .int .i64 p.n, .bool p.opn, .bool p.clo, .bool p.img, .int .i64 p.bg, .int .i64 p.nd]) = (pcW v p).toList := by
  unfold pcW
  rw [Array.toList_append, Array.toList_append, ← h]
  rfl
theorem RepPc.of {w : World} {S : Nat → Prop} {v : Array Value} {p : PcT} (h : RepI w S v p.inl) : RepPc w S (pcW v p) p := ⟨v, h, rfl⟩
/-- What holds of a piece that comes as an argument. -/
def OkP (p : PcT) : Prop := okI p.inl ∧ p.ch.size ≤ reachBytes ∧ -9223372036854775808 ≤ p.n ∧ p.n ≤ 9223372036854775807
set_option maxHeartbeats 2000000 in
theorem open_pc (h : DataW.trod enc Try.prog w 0 spare held n 39 cs = some x) (hw : Wt Try.prog 39 x.1) (hl : cs.length = 18) : ∃ (p : PcT) (v : Array Value), cs = v.toList ∧ RepPc w (fun b : Nat => b < w.heap.size) v p ∧ OkP p := by
  obtain ⟨xs, m, -, hxe, -, hxl, hf⟩ := DataW.trod_struct Try.underlying39 h
  rw [hxe] at hw
  have hwe := Wt.agg Try.underlying39 hw
  obtain ⟨a0, a1, a2, a3, a4, a5, a6, a7, a8, a9, a10, a11, a12, a13, a14, a15, a16, a17, rfl⟩ := len18 hl
  obtain ⟨y0, h0, w0⟩ := fld hf (i := 0) (t := 3) (o := 0) hwe rfl hxl rfl rfl co_int
  obtain ⟨y1, h1, w1⟩ := fld hf (i := 1) (t := 37) (o := 1) hwe rfl hxl rfl rfl co_in
  obtain ⟨y2, h2, w2⟩ := fld hf (i := 2) (t := 9) (o := 11) hwe rfl hxl rfl rfl co_str
  obtain ⟨y3, h3, w3⟩ := fld hf (i := 3) (t := 3) (o := 12) hwe rfl hxl rfl rfl co_int
  obtain ⟨y4, h4, w4⟩ := fld hf (i := 4) (t := 4) (o := 13) hwe rfl hxl rfl rfl co_bool
  obtain ⟨y5, h5, w5⟩ := fld hf (i := 5) (t := 4) (o := 14) hwe rfl hxl rfl rfl co_bool
  obtain ⟨y6, h6, w6⟩ := fld hf (i := 6) (t := 4) (o := 15) hwe rfl hxl rfl rfl co_bool
  obtain ⟨y7, h7, w7⟩ := fld hf (i := 7) (t := 3) (o := 16) hwe rfl hxl rfl rfl co_int
  obtain ⟨y8, h8, w8⟩ := fld hf (i := 8) (t := 3) (o := 17) hwe rfl hxl rfl rfl co_int
  obtain ⟨k0, e0, -, -⟩ := DataW.trod_int Try.underlying3 h0
  obtain ⟨t, v, e1, hv, ho⟩ := open_in _ _ _ h1 w1
  obtain ⟨s2, e2, hx2, -⟩ := DataW.trod_string Try.underlying9 h2
  have l2 : s2.size ≤ reachBytes := by rw [hx2] at w2; have := w2.str; rwa [Array.length_toList] at this
  obtain ⟨k3, e3, -, wf3⟩ := DataW.trod_int Try.underlying3 h3
  obtain ⟨b4, e4, -⟩ := DataW.trod_bool Try.underlying4 h4
  obtain ⟨b5, e5, -⟩ := DataW.trod_bool Try.underlying4 h5
  obtain ⟨b6, e6, -⟩ := DataW.trod_bool Try.underlying4 h6
  obtain ⟨k7, e7, -, -⟩ := DataW.trod_int Try.underlying3 h7
  obtain ⟨k8, e8, -, -⟩ := DataW.trod_int Try.underlying3 h8
  have q0 : [a0] = [.int .i64 k0] := e0
  have q1 : [a1, a2, a3, a4, a5, a6, a7, a8, a9, a10] = v.toList := e1
  have q2 : [a11] = [.string s2] := e2
  have q3 : [a12] = [.int .i64 k3] := e3
  have q4 : [a13] = [.bool b4] := e4
  have q5 : [a14] = [.bool b5] := e5
  have q6 : [a15] = [.bool b6] := e6
  have q7 : [a16] = [.int .i64 k7] := e7
  have q8 : [a17] = [.int .i64 k8] := e8
  injection q0 with q0; injection q2 with q2; injection q3 with q3; injection q4 with q4; injection q5 with q5; injection q6 with q6; injection q7 with q7; injection q8 with q8
  subst q0 q2 q3 q4 q5 q6 q7 q8
  obtain ⟨b1, b2⟩ := bounds_i64 wf3
  have hrp : RepPc w (fun b : Nat => b < w.heap.size) (pcW v ⟨k0, t, s2, k3, b4, b5, b6, k7, k8⟩) ⟨k0, t, s2, k3, b4, b5, b6, k7, k8⟩ := RepPc.of hv
  have hcl := pcW_list (p := ⟨k0, t, s2, k3, b4, b5, b6, k7, k8⟩) q1
  clear hf h0 h1 h2 h3 h4 h5 h6 h7 h8 hv h hw hwe w0 w1 w2 w3 w4 w5 w6 w7 w8 hxe
  generalize hP : (⟨k0, t, s2, k3, b4, b5, b6, k7, k8⟩ : PcT) = P0 at *
  have g1 : P0.inl = t := by rw [← hP]
  have g2 : P0.ch = s2 := by rw [← hP]
  have g3 : P0.n = k3 := by rw [← hP]
  refine ⟨P0, pcW v P0, ?_, hrp, by show okI P0.inl; rw [g1]; exact ho, by show P0.ch.size ≤ _; rw [g2]; exact l2, by show _ ≤ P0.n; rw [g3]; exact b1, by show P0.n ≤ _; rw [g3]; exact b2⟩
  show _ = (pcW v P0).toList
  rw [← hcl, ← hP]
  rfl

/-- What holds of pieces that come as an argument. -/
def OkPs (ps : List PcT) : Prop := ps.length ≤ maxLen ∧ ∀ p ∈ ps, OkP p
set_option maxHeartbeats 2000000 in
theorem open_pcs (h : DataW.trod enc Try.prog w 0 spare held n 22 cs = some x) (hw : Wt Try.prog 22 x.1) : ∃ (ps : List PcT) (A : Option Addr) (c : Nat), cs = [.slice A ps.length c] ∧ PcsR w (fun b : Nat => b < w.heap.size) (.slice A ps.length c) ps ∧ OkPs ps := by
  obtain ⟨kv, A, c, e, r, o, -, -⟩ := open_elems (fun p : Array Value × PcT => p.1.toList) (fun p => RepPc w (fun b : Nat => b < w.heap.size) p.1 p.2 ∧ OkP p.2) Try.underlying22 co_pcs (by decide) h hw fun n cs y _ hy hyw hl => by
    obtain ⟨p, v, e, h1, h2⟩ := open_pc hy hyw hl
    exact ⟨(v, p), e, h1, h2⟩
  have hkl : (kv.map (·.2)).length = kv.length := List.length_map _
  have hfl : kv.flatMap (fun p => p.1.toList) = (kv.map (·.1)).flatMap Array.toList := by rw [List.flatMap_map]
  rw [hfl, ← hkl] at r
  have hP : PcsR w (fun b : Nat => b < w.heap.size) (.slice A (kv.map (·.2)).length c) (kv.map (·.2)) := by
    refine ⟨A, c, kv.map (·.1), rfl, by rw [List.length_map, List.length_map], fun i hi => ?_, r⟩
    have hi' : i < kv.length := by rwa [hkl] at hi
    have e1 : (kv.map (·.1)).getD i #[] = kv[i].1 := by rw [List.getD_eq_getElem?_getD, List.getElem?_map, List.getElem?_eq_getElem hi']; rfl
    have e2 : pcX (kv.map (·.2)) i = kv[i].2 := by unfold pcX; rw [List.getD_eq_getElem?_getD, List.getElem?_map, List.getElem?_eq_getElem hi']; rfl
    rw [e1, e2]
    exact (o kv[i] (List.getElem_mem hi')).1
  have hO : OkPs (kv.map (·.2)) := by
    refine ⟨r.1.2, fun p hp => ?_⟩
    obtain ⟨q, hq, rfl⟩ := List.mem_map.1 hp
    exact (o q hq).2
  exact ⟨kv.map (·.2), A, c, by rw [hkl]; exact e, hP, hO⟩

end
end Go.Proofs.Ytfnloonmeilhlaa
namespace Go.Pub
open Go.RowKit
def sumS : List ByteArray → Nat
  | [] => 0
  | s :: l => s.size + sumS l
def sumP : List (ByteArray × ByteArray) → Nat
  | [] => 0
  | s :: l => s.1.size + s.2.size + sumP l
def longA (a : AttrL) : Bool := decide (40 < a.cl.length) || (decide (40 < a.pr.length) || decide (600 < a.id.size + sumS a.cl + sumP a.pr))
def argsW : List ByteArray → Nat
  | [] => 0
  | s :: l => s.size / 40 + argsW l
def citsW : List CitL → Nat
  | [] => 0
  | x :: l => (x.key.size + x.pre.size + x.suf.size) / 40 + citsW l
def badI : InT → Bool
  | .mk _ t d ti a ar c _ => decide (300 < t.size + d.size + ti.size) || (longA a || (decide (9 < ar.length) || decide (9 < c.length)))
def ownW : InT → Nat
  | .mk _ _ _ _ _ ar c _ => argsW ar + citsW c
/-- The weight of a list, given that of its kids. -/
def wgtL (g : List InT → Nat) : Nat → List InT → Nat
  | n, [] => n
  | n, x :: l => if 1000 ≤ n then n else if badI x = true then 1000 else wgtL g (n + ownW x + g x.kids) l
def wgtF : Nat → List InT → Nat
  | 0, _ => 1000
  | f + 1, l => if 200 < l.length then 1000 else wgtL (wgtF f) l.length l
def fewP (ps : List PcT) : Bool := decide (ps.length ≤ 40) && (ps.all (fun p => decide (p.ch.size ≤ 9) && decide (p.n ≤ 40)) && decide (1 + wgtF 21 (ps.map (·.inl)) ≤ 120))
theorem sumS_le : ∀ (l : List ByteArray) (B : Nat), (∀ s ∈ l, s.size ≤ B) → sumS l ≤ l.length * B
  | [], _, _ => Nat.zero_le _
  | s :: l, B, h => by
    have h1 := sumS_le l B fun x hx => h x (List.mem_cons_of_mem _ hx)
    have h2 := h s (by simp)
    rw [List.length_cons, Nat.succ_mul]
    show s.size + sumS l ≤ _
    omega
theorem sumP_le : ∀ (l : List (ByteArray × ByteArray)) (B : Nat), (∀ s ∈ l, s.1.size ≤ B ∧ s.2.size ≤ B) → sumP l ≤ l.length * (2 * B)
  | [], _, _ => Nat.zero_le _
  | s :: l, B, h => by
    have h1 := sumP_le l B fun x hx => h x (List.mem_cons_of_mem _ hx)
    have h2 := h s (by simp)
    rw [List.length_cons, Nat.succ_mul]
    show s.1.size + s.2.size + sumP l ≤ _
    omega
theorem argsW_le : ∀ (l : List ByteArray) (B : Nat), (∀ s ∈ l, s.size ≤ B) → argsW l ≤ l.length * B
  | [], _, _ => Nat.zero_le _
  | s :: l, B, h => by
    have h1 := argsW_le l B fun x hx => h x (List.mem_cons_of_mem _ hx)
    have h2 := h s (by simp)
    rw [List.length_cons, Nat.succ_mul]
    show s.size / 40 + argsW l ≤ _
    omega
theorem citsW_le : ∀ (l : List CitL) (B : Nat), (∀ s ∈ l, s.key.size ≤ B ∧ s.pre.size ≤ B ∧ s.suf.size ≤ B) → citsW l ≤ l.length * (3 * B)
  | [], _, _ => Nat.zero_le _
  | s :: l, B, h => by
    have h1 := citsW_le l B fun x hx => h x (List.mem_cons_of_mem _ hx)
    have h2 := h s (by simp)
    rw [List.length_cons, Nat.succ_mul]
    show (s.key.size + s.pre.size + s.suf.size) / 40 + citsW l ≤ _
    omega
/-- What a step of the weight adds is no more than memory holds. -/
theorem ownW_le {x : InT} (h : okI x) (hb : badI x = false) : ownW x ≤ 36 * 140737488355328 := by
  obtain ⟨k, t, d, ti, a, ar, c, ks⟩ := x
  rw [okI] at h
  obtain ⟨-, -, h1, h2, -⟩ := h
  unfold badI at hb
  simp only [Bool.or_eq_false_iff, decide_eq_false_iff_not, Nat.not_lt] at hb
  obtain ⟨-, -, h3, h4⟩ := hb
  have h5 := argsW_le ar reachBytes h1
  have h6 := citsW_le c reachBytes h2
  show argsW ar + citsW c ≤ _
  have h7 : ar.length * reachBytes ≤ 9 * reachBytes := Nat.mul_le_mul_right _ h3
  have h8 : c.length * (3 * reachBytes) ≤ 9 * (3 * reachBytes) := Nat.mul_le_mul_right _ h4
  unfold reachBytes at *
  omega
theorem wgtL_le (g : List InT → Nat) (G : Nat) (hg : ∀ l, okL l → g l ≤ G) : ∀ (l : List InT) (n : Nat), okL l → n ≤ 1000 + 36 * 140737488355328 + G → wgtL g n l ≤ 1000 + 36 * 140737488355328 + G
  | [], n, _, hn => by unfold wgtL; exact hn
  | x :: l, n, h, hn => by
    rw [okL] at h
    unfold wgtL
    split
    · exact hn
    · split
      · omega
      · rename_i h1 h2
        refine wgtL_le g G hg l _ h.2 ?_
        have h3 := ownW_le h.1 (by simpa using h2)
        have h4 := hg x.kids (by
          obtain ⟨k, t, d, ti, a, ar, c, ks⟩ := x
          have := h.1
          rw [okI] at this
          exact this.2.2.2.2)
        omega
theorem wgtF_le : ∀ (f : Nat) (l : List InT), okL l → wgtF f l ≤ 1000 + f * (1000 + 36 * 140737488355328)
  | 0, l, _ => by unfold wgtF; omega
  | f + 1, l, h => by
    unfold wgtF
    split
    · omega
    · have := wgtL_le (wgtF f) _ (wgtF_le f) l l.length h (by omega)
      rw [Nat.succ_mul]
      omega
end Go.Pub
