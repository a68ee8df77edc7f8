/-
  Texts of the proof, put together (what this law reaches): EmXG, EmYA, EmYB, EmME, EmMC, EmMF, EmLB, EmPA.
-/
import Derived.Test.YtfnloonmeilhlaaP07
import Derived.Test.YtfnloonmeilhlaaP04
import Derived.Deep.DeepCutAuto
import Derived.BigQuiet
import Derived.Test.YtfnloonmeilhlaaP06
import Derived.Test.YtfnloonmeilhlaaP02
import Derived.KernelRfl
import Derived.Test.YtfnloonmeilhlaaP01
set_option linter.unusedVariables false
set_option linter.unusedSimpArgs false
namespace Go.Pub
theorem neT_kid {k : Int} (h : k ≠ 1) (l : List InT) : neT (kidT k l) = true := by
  unfold neT
  rw [show (kidT k l).kind = k from rfl, decide_eq_false h]; rfl
section
variable {ps : List PcT} {st : EmS} {k c : Nat} {L ids : List Nat}
theorem ops_mtch {o : Nat} (ho : o < st.xs.length) (hc : c < st.xs.length) (hne : o ≠ c) (j : Nat) : (mtchA ps st o c).ops j = popW (if lfX st.xs o ≤ pairN st.xs o c then o - 1 else o) (st.ops j) := by
  have e := core_pairX ps st.xs o c o ho hc hne
  rw [if_neg (by omega), if_pos (.inl rfl)] at e
  unfold core at e
  injection e with e1 e2
  injection e2 with e2 e3
  injection e3 with e3 e4
  show popW (if (elX (pairX ps st.xs o c) o).left = 0 then o - 1 else o) (st.ops j) = _
  rw [e4]
  by_cases h : lfX st.xs o ≤ pairN st.xs o c
  · rw [if_pos h, if_pos (by omega)]
  · rw [if_neg h, if_neg (by omega)]
/-- Which runs can still open, a match on. -/
theorem OpC.mtch {A B : List Nat} {R : Nat} (h : ClI ps k c st (A ++ R :: B)) (hg : RingI st.xs (A ++ R :: (B ++ [c]))) (hr : runX st.xs R = true) (ho : OpC ps st (A ++ R :: B)) : OpC ps (mtchA ps st R c) (A ++ (if lfX st.xs R ≤ pairN st.xs R c then [] else [R]) ++ [st.xs.length]) := by
  obtain ⟨q1, q2, q3, q4, q5⟩ := ring_parts hg
  refine ⟨fun j x hx => ?_, fun x hx hrx hop => ?_⟩
  · rw [ops_mtch q4 q5 q3] at hx
    have hx := popW_mem _ _ hx
    have hb : x < st.xs.length := by
      have := (h.em.ops j x hx).1
      exact h.em.ring.bd x this
    rw [(core_mtch' (ps := ps) (j := x) q4 q5 q3 (by omega)).2.2.1]
    exact ho.mem j x hx
  · rw [ops_mtch q4 q5 q3]
    rcases List.mem_append.1 hx with hx | hx
    · rcases List.mem_append.1 hx with hx | hx
      · have hb := (q1 x hx).2.2
        obtain ⟨e1, e2, e3, e4⟩ := core_mtch' (ps := ps) (j := x) q4 q5 q3 (by omega)
        rw [e3] at hop ⊢
        rw [e2] at hrx
        refine popW_all _ _ (ho.all x (by simp [hx]) hrx hop) ?_ (h.em.oas _)
        have := (List.pairwise_append.1 h.asc).2.2 x hx R (by simp) hrx hr
        split <;> omega
      · split at hx
        · exact absurd hx (List.not_mem_nil)
        · rename_i hlr
          rw [List.mem_singleton.1 hx] at hop ⊢
          obtain ⟨e1, e2, e3, e4⟩ := core_mtch' (ps := ps) (j := R) q4 q5 q3 (by omega)
          rw [e3] at hop ⊢
          refine popW_all _ _ (ho.all R (by simp) hr hop) ?_ (h.em.oas _)
          rw [if_neg hlr]; exact Nat.le_refl _
    · rw [List.mem_singleton.1 hx, (core_mtch0 (ps := ps) q4 q5 q3).2] at hrx
      cases hrx
/-- The state behind a match beside the ring. -/
theorem Rl.mtch {A B : List Nat} {R : Nat} {a b : List RE} {e : RE} (h : ClI ps k c st (A ++ R :: B)) (hg : RingI st.xs (A ++ R :: (B ++ [c]))) (hr : runX st.xs R = true) (re1 : e.pos = some (pX st.xs R)) (re2 : e.left = lfX st.xs R) (ra : Rl st (a.filter nR) A) (hwb : wrR ps b = mergeL (inlsA ps st B)) (hn : nR2 e.left (lfX st.xs c) = pairN st.xs R c) :
    Rl (mtchA ps st R c) (List.filter nR (a ++ [(⟨e.pos, e.left - nR2 e.left (lfX st.xs c), zeroT⟩ : RE), ⟨none, 0, kidT (kR2 (pcX ps k) (nR2 e.left (lfX st.xs c))) (wrR ps b)⟩])) (A ++ (if lfX st.xs R ≤ pairN st.xs R c then [] else [R]) ++ [st.xs.length]) := by
  obtain ⟨q1, q2, q3, q4, q5⟩ := ring_parts hg
  have hcg : ∀ {x : Nat}, x ≠ R → x ≠ c → x < st.xs.length → ∀ q, EqE st q x → EqE (mtchA ps st R c) q x := fun h7 h8 h9 q hq => by
    obtain ⟨e1, e2, e3, e4⟩ := core_mtch' (ps := ps) q4 q5 q3 (Nat.ne_of_lt h9)
    rw [if_neg (by omega)] at e4
    exact hq.congr e2 e3 e4 e1
  have ra' : Rl (mtchA ps st R c) (a.filter nR) A := ra.congr fun x hx => hcg (q1 x hx).1 (q1 x hx).2.1 (q1 x hx).2.2
  obtain ⟨k1, k2⟩ := core_mtch0 (ps := ps) q4 q5 q3
  have hkid : EqE (mtchA ps st R c) ⟨none, 0, kidT (kR2 (pcX ps k) (nR2 e.left (lfX st.xs c))) (wrR ps b)⟩ st.xs.length := by
    unfold EqE
    rw [if_neg (by rw [k2]; decide), k1]
    refine ⟨rfl, ?_⟩
    rw [mergeI_kid, mergeI_kid, hwb, mergeL_twice, hn, (betA_eq hg).1]
    have : kR2 (pcX ps k) (pairN st.xs R c) = pairK ps st.xs R c := by
      unfold kR2 pairK
      rw [show (elX st.xs c).pc = k from h.pc]
    rw [this]; rfl
  have hkn : nR ⟨none, 0, kidT (kR2 (pcX ps k) (nR2 e.left (lfX st.xs c))) (wrR ps b)⟩ = true := by
    refine neT_kid (k := kR2 (pcX ps k) (nR2 e.left (lfX st.xs c))) ?_ (wrR ps b)
    unfold kR2
    split
    · decide
    · split <;> decide
  rw [List.filter_append]
  rw [List.append_assoc]
  refine Rl.join ra' ?_
  rw [hn]
  rw [hn] at hkid hkn
  by_cases hlr2 : lfX st.xs R ≤ pairN st.xs R c
  · rw [if_pos hlr2, List.filter_cons_of_neg (by unfold nR; rw [re1, re2]; simp; omega), List.filter_cons_of_pos hkn]
    exact ⟨hkid, trivial⟩
  · rw [if_neg hlr2, List.filter_cons_of_pos (by unfold nR; rw [re1, re2]; simp; omega), List.filter_cons_of_pos hkn]
    refine ⟨?_, hkid, trivial⟩
    obtain ⟨e1, e2, e3, e4⟩ := core_mtch' (ps := ps) (j := R) q4 q5 q3 (by omega)
    rw [if_pos (.inl rfl)] at e4
    unfold EqE
    rw [if_pos (e2.trans hr), e3, e4, re1, re2]
    exact ⟨rfl, rfl⟩
/-- Behind the opener none is good. -/
theorem bad_behind {A B : List Nat} {R : Nat} {a b F : List RE} {e : RE} {out : List Nat} (h : ClI ps k c st (A ++ R :: B)) (hl : lfX st.xs c ≠ 0) (hR : R = clO ps st c) (hR0 : R ≠ 0) (h1 : OpC ps st (A ++ R :: B)) (h4 : AtB ps (a ++ e :: b) k) (h6 : Rl st ((a ++ e :: b).filter nR) (A ++ R :: B)) (rb : Rl st (b.filter nR) B) {j : Nat} (hj1 : a.length < j) (hj2 : j < (a ++ e :: b).length) : goodR ps ((a ++ e :: b) ++ ⟨some k, lfX st.xs c, zeroT⟩ :: F) (a ++ e :: b).length k out j = false := by
  cases hgj : goodR ps _ (a ++ e :: b).length k out j with
  | false => rfl
  | true =>
    obtain ⟨a', e', b', x, A', B', g1, g2, g3, g4, g5, g6, g7, g8, g9⟩ := good_ring h hl h4 h6 hj2 hgj
    have hb' : (b'.filter nR).length < (b.filter nR).length := by
      rcases List.append_eq_append_iff.1 g1 with ⟨t, e1, e2⟩ | ⟨t, e1, e2⟩
      · cases t with
        | nil => rw [e1] at g2; simp at g2; omega
        | cons y t =>
          injection e2 with e2 e3
          have e3 : b = t ++ e' :: b' := e3
          have hne : nR e' = true := by
            cases hp : e'.pos with
            | none =>
              exfalso
              rw [g1, ← g2] at hgj
              rw [show (a' ++ e' :: b').length = a'.length + 1 + b'.length by simp; omega, List.append_assoc, List.cons_append, good_at, hp] at hgj
              cases hgj
            | some p =>
              rw [g1, ← g2] at hgj
              rw [show (a' ++ e' :: b').length = a'.length + 1 + b'.length by simp; omega, List.append_assoc, List.cons_append, good_at, hp] at hgj
              simp only [Bool.and_eq_true] at hgj
              unfold nR; rw [hp]; exact hgj.1
          rw [e3, List.filter_append, List.filter_cons_of_pos hne, List.length_append, List.length_cons]; omega
      · rw [e1] at hj1; simp at hj1; omega
    rw [g8.length, rb.length] at hb'
    have hx := cut_in g3 hb'
    exact absurd (clO_last (A := A) (B := B) (by rw [← hR]; exact h) (by rw [← hR]; exact h1) (by rw [← hR]; exact hR0) x hx g4 g5) g6
/-- A match of the reference is one of the code. -/
theorem QRl.mtch {A B : List Nat} {R : Nat} (hk : k < ps.length) (hclo : (pcX ps k).clo = true) (h : ClI ps k c st (A ++ R :: B)) (hl : lfX st.xs c ≠ 0) (hR : R = clO ps st c) (hR0 : R ≠ 0) (hB : B ≠ []) (hg : RingI st.xs (A ++ R :: (B ++ [c]))) (hr : runX st.xs R = true) (hlr : 0 < lfX st.xs R) (hQ : QRl ps k c st (A ++ R :: B)) :
    QRl ps k c (mtchA ps st R c) (A ++ (if lfX st.xs R ≤ pairN st.xs R c then [] else [R]) ++ [st.xs.length]) := by
  obtain ⟨h1, s1, out, f, h2, h3, h4, h5, h6⟩ := hQ
  obtain ⟨q1, q2, q3, q4, q5⟩ := ring_parts hg
  obtain ⟨a, e, b, rfl, ra, re, rn, rb⟩ := h6.cut
  unfold EqE at re
  rw [if_pos hr] at re
  obtain ⟨re1, re2⟩ := re
  have hn : nR2 e.left (lfX st.xs c) = pairN st.xs R c := by rw [re2]; rfl
  have hfit := clO_fits h h1 (by rw [← hR]; exact hR0)
  rw [← hR] at hfit
  have hruns := h4.runs
  have hbr : ∀ x ∈ b, ∀ q, x.pos = some q → runP (pcX ps q) = true := fun x hx => hruns x (by simp [hx])
  have hwb : wrR ps b = mergeL (inlsA ps st B) := wr_rl hbr rb
  have hwn : wrR ps b ≠ [] := fun e' => hB ((rb.nil_iff).1 ((wr_nil hbr).1 e'))
  have hlen : (a ++ e :: b).length = a.length + 1 + b.length := by simp; omega
  have hout : out.contains (pX st.xs R) = false := by
    cases ho : out.contains (pX st.xs R) with
    | false => rfl
    | true =>
      rw [List.contains_iff_mem] at ho
      exact absurd re1 ((h5 _ ho).2 e (by simp))
  have hgood : goodR ps ((a ++ e :: b) ++ ⟨some k, lfX st.xs c, zeroT⟩ :: futR ps (k + 1) (ps.length - k - 1)) (a ++ e :: b).length k out a.length = true := by
    rw [hlen, List.append_assoc, List.cons_append, good_at, re1]
    simp only [hout, hfit.2.1, re2, hlr, decide_true, Bool.not_false, Bool.true_and, Bool.not_eq_true', List.isEmpty_eq_false_iff]
    exact hwn
  have hbad := fun j h7 h8 => bad_behind (F := futR ps (k + 1) (ps.length - k - 1)) h hl hR hR0 h1 h4 h6 rb (out := out) (j := j) h7 h8
  have hf : ∃ f', f = f' + 1 := ⟨f - 1, by omega⟩
  obtain ⟨f', rfl⟩ := hf
  have hp1 := pairN_one (st := st) (o := R) (c := c)
  obtain ⟨c1, c2, c3, c4⟩ := core_mtch' (ps := ps) (j := c) q4 q5 q3 (by omega)
  rw [if_pos (.inr rfl)] at c4
  refine ⟨OpC.mtch h hg hr h1, a ++ [⟨e.pos, e.left - nR2 e.left (lfX st.xs c), zeroT⟩, ⟨none, 0, kidT (kR2 (pcX ps k) (nR2 e.left (lfX st.xs c))) (wrR ps b)⟩], out ++ b.filterMap (·.pos), f', ?_, by rw [c4]; omega, ?_, ?_, ?_⟩
  · rw [h2, if_pos hclo, if_pos hclo, clR_step h4.ne, if_pos (by omega), opnR_some hgood _ (by rw [hlen]; omega) hbad]
    dsimp only
    rw [mtR_at, c4, hn, re1]
    congr 2
    show _ = st.prs ++ [_]
    rw [← h.pc]; rfl
  · refine ⟨fun x hx q hq => ?_, ?_⟩
    · rcases List.mem_append.1 hx with hx | hx
      · exact h4.1 x (by simp [hx]) q hq
      · rcases List.mem_cons.1 hx with rfl | hx
        · exact h4.1 e (by simp) q hq
        · rw [List.mem_singleton.1 hx] at hq; cases hq
    · have := h4.2
      rw [List.filterMap_append, List.filterMap_cons, re1] at this
      rw [List.filterMap_append, re1]
      dsimp only at this
      show List.Pairwise _ (_ ++ [pX st.xs R])
      rw [show List.filterMap (·.pos) a ++ pX st.xs R :: List.filterMap (·.pos) b = (List.filterMap (·.pos) a ++ [pX st.xs R]) ++ List.filterMap (·.pos) b by simp] at this
      exact (List.pairwise_append.1 this).1
  · intro q hq
    have hmem : ∀ x ∈ a ++ [(⟨e.pos, e.left - nR2 e.left (lfX st.xs c), zeroT⟩ : RE), ⟨none, 0, kidT (kR2 (pcX ps k) (nR2 e.left (lfX st.xs c))) (wrR ps b)⟩], x.pos = some q → ∃ y ∈ a ++ [e], y.pos = some q := by
      intro x hx hxq
      rcases List.mem_append.1 hx with hx | hx
      · exact ⟨x, by simp [hx], hxq⟩
      · rcases List.mem_cons.1 hx with rfl | hx
        · exact ⟨e, by simp, hxq⟩
        · rw [List.mem_singleton.1 hx] at hxq; cases hxq
    rcases List.mem_append.1 hq with hq | hq
    · obtain ⟨g1, g2⟩ := h5 q hq
      refine ⟨g1, fun x hx hxq => ?_⟩
      obtain ⟨y, hy, hyq⟩ := hmem x hx hxq
      refine g2 y ?_ hyq
      rcases List.mem_append.1 hy with hy | hy
      · simp [hy]
      · rw [List.mem_singleton.1 hy]; simp
    · obtain ⟨z, hz, hzq⟩ := List.mem_filterMap.1 hq
      refine ⟨(h4.1 z (by simp [hz]) q hzq).1, fun x hx hxq => ?_⟩
      obtain ⟨y, hy, hyq⟩ := hmem x hx hxq
      have := h4.2
      rw [show a ++ e :: b = (a ++ [e]) ++ b by simp, List.filterMap_append] at this
      have := (List.pairwise_append.1 this).2.2 q (List.mem_filterMap.2 ⟨y, hy, hyq⟩) q hq
      omega
  · exact Rl.mtch h hg hr re1 re2 ra hwb hn
end
/-- The reference and the code make the same pairs and the same inlines. -/
theorem ref_eq (ps : List PcT) : (solR ps ps.length).prs = (matchA ps).prs ∧ nestR ps = nestA ps := by
  obtain ⟨ids, hM, h1, s1, out, h2, h3, h4, h5⟩ := match_ind2 ps (PRl ps) (QRl ps) (PRl.start ps) (fun hM hk hp hi h => PRl.skip hk hp hi h) (fun hM hk hp h0 hi h => PRl.inl hM hk hp h0 hi h) (fun hM hk hp h _ hl => PRl.run hM hk hp h hl) (fun hk hc h hl hR hR0 hB hg hr hlr hQ => QRl.mtch hk hc h hl hR hR0 hB hg hr hlr hQ) (fun hk hp h hQ he => QRl.done hk hp h hQ he) ps.length (Nat.le_refl _)
  have e2 : (solR ps ps.length).s = s1 := by rw [h2, Nat.sub_self]; show s1 ++ [] = s1; simp
  refine ⟨by rw [h2]; rfl, ?_⟩
  unfold nestR
  rw [e2, wr_rl h3.runs h5]
  unfold nestA
  congr 1
  have hr := hM.em.ring
  have hz : (∀ i ∈ ids, i ≠ 0) := fun i hi e => (List.nodup_cons.1 hr.nd).1 (e ▸ hi)
  have hlen : ids.length + 1 ≤ (matchA ps).xs.length := hr.len
  exact (betF_eq (c := 0) ids 0 _ hr.link hz (by omega)).symm
end Go.Pub
namespace Go.Pub
def fitsV (o1 c1 o2 : Bool) (s1 s2 : ByteArray) (n1 n2 : Nat) : Bool := o1 && (decide (s1.toList = s2.toList) && (decide (s1.toList = [126]) || ((!c1 && !o2) || (decide ((n1 % 3 + n2 % 3) % 3 ≠ 0) || (decide (n1 % 3 = 0) && decide (n2 % 3 = 0))))))
theorem fitsR_v (o c : PcT) : fitsR o c = fitsV o.opn o.clo c.opn o.ch c.ch o.n.toNat c.n.toNat := rfl
end Go.Pub
namespace Go.Proofs.Ytfnloonmeilhlaa
open Go.RowKit Go.Pub
set_option maxRecDepth 100000 in
set_option maxHeartbeats 1000000 in
theorem r10_run (kind n : Int) (x1 x2 x3 x4 x5 x6 x7 x8 x9 x10 : Value) (ch : ByteArray) (o c i : Bool) (a b : Int) (w : World) :
    Calls Try.prog 41 #[.agg #[.int .i64 kind, x1, x2, x3, x4, x5, x6, x7, x8, x9, x10, .string ch, .int .i64 n, .bool o, .bool c, .bool i, .int .i64 a, .int .i64 b]] w fun e w' => e = .returned (.bool (runBit kind ch n)) ∧ Below w.heap.size w w' := by
  have HE : Hid (runBit kind ch n = (decide (kind = 1) && (((decide (ch.toList = [42]) || decide (ch.toList = [95])) && (decide (1 ≤ n) && decide (n ≤ 262144))) || (decide (ch.toList = [126]) && decide (n = 2))))) := Lib.hid rfl
  generalize runBit kind ch n = R at *
  by_cases hk : kind = 1
  · subst hk
    by_cases h1 : ch.toList = [42]
    · have q1 : (ch.toList == [42]) = true := beq_iff_eq.2 h1
      have q3 : (ch.toList == [126]) = false := by rw [h1]; decide
      by_cases h2 : 1 ≤ n
      · have d1 : decide (n ≥ 1) = true := decide_eq_true h2
        have hE : Hid (R = decide (n ≤ 262144)) := Lib.hid (by rw [HE.out, h1]; simp [h2])
        clear HE h1
        go_enter Try.func41, Try.ntmps41
        go_wp2_with fail
        all_goals
          go_ret
          exact ⟨by rw [hE.out]; first | rfl | (simp; try omega), (Below.refl _ w).alloc (Nat.le_refl _) _⟩
      · have d1 : decide (n ≥ 1) = false := decide_eq_false h2
        have hE : Hid (R = false) := Lib.hid (by rw [HE.out, h1]; simp [h2])
        clear HE h1
        go_enter Try.func41, Try.ntmps41
        go_wp2_with fail
        all_goals
          go_ret
          exact ⟨by rw [hE.out]; first | rfl | (simp; try omega), (Below.refl _ w).alloc (Nat.le_refl _) _⟩
    · have q1 : (ch.toList == [42]) = false := beq_eq_false_iff_ne.2 h1
      by_cases h1' : ch.toList = [95]
      · have q2 : (ch.toList == [95]) = true := beq_iff_eq.2 h1'
        have q3 : (ch.toList == [126]) = false := by rw [h1']; decide
        by_cases h2 : 1 ≤ n
        · have d1 : decide (n ≥ 1) = true := decide_eq_true h2
          have hE : Hid (R = decide (n ≤ 262144)) := Lib.hid (by rw [HE.out, h1']; simp [h2])
          clear HE h1 h1'
          go_enter Try.func41, Try.ntmps41
          go_wp2_with fail
          all_goals
            go_ret
            exact ⟨by rw [hE.out]; first | rfl | (simp; try omega), (Below.refl _ w).alloc (Nat.le_refl _) _⟩
        · have d1 : decide (n ≥ 1) = false := decide_eq_false h2
          have hE : Hid (R = false) := Lib.hid (by rw [HE.out, h1']; simp [h2])
          clear HE h1 h1'
          go_enter Try.func41, Try.ntmps41
          go_wp2_with fail
          all_goals
            go_ret
            exact ⟨by rw [hE.out]; first | rfl | (simp; try omega), (Below.refl _ w).alloc (Nat.le_refl _) _⟩
      · have q2 : (ch.toList == [95]) = false := beq_eq_false_iff_ne.2 h1'
        by_cases h3 : ch.toList = [126]
        · have q3 : (ch.toList == [126]) = true := beq_iff_eq.2 h3
          have hE : Hid (R = (n == 2)) := Lib.hid (by rw [HE.out, h3]; simp; by_cases h : n = 2 <;> simp [h])
          clear HE
          go_enter Try.func41, Try.ntmps41
          go_wp2_with fail
          all_goals
            go_ret
            exact ⟨by rw [hE.out]; first | rfl | (simp; try omega), (Below.refl _ w).alloc (Nat.le_refl _) _⟩
        · have q3 : (ch.toList == [126]) = false := beq_eq_false_iff_ne.2 h3
          have hE : Hid (R = false) := Lib.hid (by rw [HE.out]; simp [h1, h1', h3])
          clear HE
          go_enter Try.func41, Try.ntmps41
          go_wp2_with fail
          all_goals
            go_ret
            exact ⟨by rw [hE.out]; first | rfl | (simp; try omega), (Below.refl _ w).alloc (Nat.le_refl _) _⟩
  · have hE : Hid (R = false) := Lib.hid (by rw [HE.out]; simp [hk])
    have q0 : (kind == 1) = false := beq_eq_false_iff_ne.2 hk
    clear HE
    go_enter Try.func41, Try.ntmps41
    go_wp2_with fail
    go_ret
    exact ⟨by rw [hE.out]; rfl, (Below.refl _ w).alloc (Nat.le_refl _) _⟩

set_option maxRecDepth 100000 in
set_option maxHeartbeats 4000000 in
theorem r10_fits (k1 k2 a1 a2 b1 b2 : Int) (n1 n2 : Nat) (x1 x2 x3 x4 x5 x6 x7 x8 x9 x10 y1 y2 y3 y4 y5 y6 y7 y8 y9 y10 : Value) (s1 s2 : ByteArray) (o1 c1 i1 o2 c2 i2 : Bool) (w : World) (h1 : n1 ≤ 262144) (h2 : n2 ≤ 262144) :
    Calls Try.prog 58 #[.agg #[.int .i64 k1, x1, x2, x3, x4, x5, x6, x7, x8, x9, x10, .string s1, .int .i64 n1, .bool o1, .bool c1, .bool i1, .int .i64 a1, .int .i64 b1], .agg #[.int .i64 k2, y1, y2, y3, y4, y5, y6, y7, y8, y9, y10, .string s2, .int .i64 n2, .bool o2, .bool c2, .bool i2, .int .i64 a2, .int .i64 b2]] w fun e w' => e = .returned (.bool (fitsV o1 c1 o2 s1 s2 n1 n2)) ∧ Below w.heap.size w w' := by
  have HE : Hid (fitsV o1 c1 o2 s1 s2 n1 n2 = (o1 && (decide (s1.toList = s2.toList) && (decide (s1.toList = [126]) || ((!c1 && !o2) || (decide ((n1 % 3 + n2 % 3) % 3 ≠ 0) || (decide (n1 % 3 = 0) && decide (n2 % 3 = 0)))))))) := Lib.hid rfl
  generalize fitsV o1 c1 o2 s1 s2 n1 n2 = R at *
  have hb : ∀ w0 : World, Below w.heap.size w w := fun _ => Below.refl _ w
  cases o1
  · obtain rfl : R = false := by rw [HE.out]; rfl
    go_enter Try.func58, Try.ntmps58
    go_wp2_with fail
    go_ret
    exact ⟨rfl, ((Below.refl _ w).alloc (Nat.le_refl _) _).alloc (by simp) _⟩
  · by_cases hs : s1.toList = s2.toList
    · have q1 : (s1.toList == s2.toList) = true := beq_iff_eq.2 hs
      by_cases ht : s1.toList = [126]
      · have q2 : (s1.toList == [126]) = true := beq_iff_eq.2 ht
        obtain rfl : R = true := by rw [HE.out, ← hs, ht]; rfl
        clear hs ht HE
        go_enter Try.func58, Try.ntmps58
        go_wp2_with fail
        go_ret
        exact ⟨rfl, ((Below.refl _ w).alloc (Nat.le_refl _) _).alloc (by simp) _⟩
      · have q2 : (s1.toList == [126]) = false := beq_eq_false_iff_ne.2 ht
        have hE : Hid (R = ((!c1 && !o2) || (decide ((n1 % 3 + n2 % 3) % 3 ≠ 0) || (decide (n1 % 3 = 0) && decide (n2 % 3 = 0))))) := Lib.hid (by rw [HE.out, ← hs]; simp [ht])
        clear HE hs ht
        obtain ⟨r1, hr1⟩ : ∃ r, r = n1 % 3 := ⟨_, rfl⟩
        obtain ⟨r2, hr2⟩ : ∃ r, r = n2 % 3 := ⟨_, rfl⟩
        have hm1 : (n1 : Int) % 3 = (r1 : Int) := by omega
        have hm2 : (n2 : Int) % 3 = (r2 : Int) := by omega
        have hm3 : ((n1 : Int) + (n2 : Int)) % 3 = (((r1 + r2) % 3 : Nat) : Int) := by omega
        have hl1 : r1 = 0 ∨ r1 = 1 ∨ r1 = 2 := by omega
        have hl2 : r2 = 0 ∨ r2 = 1 ∨ r2 = 2 := by omega
        rw [← hr1, ← hr2] at hE
        clear hr1 hr2
        cases c1 <;> cases o2 <;> rcases hl1 with rfl | rfl | rfl <;> rcases hl2 with rfl | rfl | rfl
        all_goals
          have hE := hE.out
          simp only [Bool.not_false, Bool.not_true, Bool.and_true, Bool.true_and, Bool.and_false, Bool.false_and, Bool.true_or, Bool.false_or, Nat.zero_add, Nat.add_zero, Nat.reduceAdd, Nat.reduceMod, ne_eq, decide_true, decide_false, reduceCtorEq, Nat.reduceEqDiff, not_true_eq_false, not_false_eq_true] at hE
          subst hE
          simp only [Nat.reduceAdd, Nat.reduceMod] at hm3
          go_enter Try.func58, Try.ntmps58
          go_wp2_with fail
          go_ret
          exact ⟨rfl, ((Below.refl _ w).alloc (Nat.le_refl _) _).alloc (by simp) _⟩
    · have q1 : (s1.toList == s2.toList) = false := beq_eq_false_iff_ne.2 hs
      obtain rfl : R = false := by rw [HE.out]; simp [hs]
      clear hs HE
      go_enter Try.func58, Try.ntmps58
      go_wp2_with fail
      go_ret
      exact ⟨rfl, ((Below.refl _ w).alloc (Nat.le_refl _) _).alloc (by simp) _⟩

end Go.Proofs.Ytfnloonmeilhlaa
namespace Go.Pub
open Go.RowKit
def posI (e : RE) : Int := match e.pos with
  | some i => (i : Nat)
  | none => -1
theorem posI_eq (e : RE) (c : Nat) : (posI e == (c : Int)) = decide (e.pos = some c) := by
  unfold posI
  cases e.pos with
  | none => rw [Bool.eq_iff_iff]; simp <;> omega
  | some i => rw [Bool.eq_iff_iff]; simp; omega
/-- The cells of an element. -/
def elW (r : Array Value) (e : RE) : Array Value := #[.int .i64 (posI e), .int .i64 (e.left : Nat)] ++ r
def RepEl (w : World) (S : Nat → Prop) (v : Array Value) (e : RE) : Prop := ∃ r, RepI w S r e.inl ∧ v = elW r e
/-- Elements that are read. -/
def ElsR (w : World) (S : Nat → Prop) (L : Value) (s : List RE) : Prop :=
  ∃ (A : Option Addr) (c : Nat) (vs : List (Array Value)), L = .slice A s.length c ∧ vs.length = s.length ∧ (∀ i, i < s.length → RepEl w S (vs.getD i #[]) (reX s i)) ∧ ReadsS w S 12 A s.length (vs.flatMap Array.toList)
section
variable {w w' : World} {S S' : Nat → Prop} {L : Value} {s : List RE}
theorem RepEl.keep {v : Array Value} {e : RE} (h : RepEl w S v e) (hk : ∀ g, S g → w'.heap[g]? = w.heap[g]?) (hS : ∀ g, S g → S' g) : RepEl w' S' v e := by
  obtain ⟨r, hr, e⟩ := h
  exact ⟨r, hr.keep hk hS, e⟩
theorem RepEl.size {v : Array Value} {e : RE} (h : RepEl w S v e) : v.size = 12 := by
  obtain ⟨r, hr, rfl⟩ := h
  unfold elW; simp [hr.size]
theorem ElsR.keep (h : ElsR w S L s) (hk : ∀ g, S g → w'.heap[g]? = w.heap[g]?) (hS : ∀ g, S g → S' g) : ElsR w' S' L s := by
  obtain ⟨A, c, vs, e, hl, hr, hm⟩ := h
  exact ⟨A, c, vs, e, hl, fun i hi => (hr i hi).keep hk hS, hm.keep hk hS⟩
theorem ElsR.opn (h : ElsR w S L s) (hn : 0 < s.length) : ∃ b off c, L = .slice (some ⟨b, off, none⟩) s.length c ∧ S b ∧ ∀ i, i < s.length → ∃ x0 x1 x2 x3 x4 x5 x6 x7 x8 x9, RepI w S #[x0, x1, x2, x3, x4, x5, x6, x7, x8, x9] (reX s i).inl ∧
    w.rangeAt b (off + i * 12) [.int .i64 (posI (reX s i)), .int .i64 ((reX s i).left : Nat), x0, x1, x2, x3, x4, x5, x6, x7, x8, x9] ∧
    (∀ u ∈ [Value.int .i64 (posI (reX s i)), .int .i64 ((reX s i).left : Nat), x0, x1, x2, x3, x4, x5, x6, x7, x8, x9], u.oneCell' = true) := by
  obtain ⟨A, c, vs, e, hl, hr, hm⟩ := h
  obtain ⟨b, off, rfl, hb, hc⟩ := hm.row hn (by decide)
  have hs : ∀ v ∈ vs, v.size = 12 := fun v hv => by
    obtain ⟨i, hi, rfl⟩ := List.mem_iff_getElem.1 hv
    have := (hr i (by omega)).size
    rwa [List.getD_eq_getElem?_getD, List.getElem?_eq_getElem hi] at this
  refine ⟨b, off, c, e, hb, fun i hi => ?_⟩
  obtain ⟨r, hri, he⟩ := hr i hi
  generalize reX s i = P at *
  clear hr hm
  obtain ⟨x0, x1, x2, x3, x4, x5, x6, x7, x8, x9, rfl⟩ := hri.opn
  refine ⟨x0, x1, x2, x3, x4, x5, x6, x7, x8, x9, hri, fun j u hj => ?_, fun u hu => ?_⟩
  · have hj18 : j < 12 := by
      have := (List.getElem?_eq_some_iff.1 hj).1
      simpa using this
    have h1 := flatz_get 12 vs hs i j (by omega) hj18
    rw [Nat.add_assoc]
    refine hc (i * 12 + j) u ?_
    rw [h1, he, ← hj]
    unfold elW
    rw [← Array.getElem?_toList]
    rfl
  · have h10 := hri.one
    rcases List.mem_cons.1 hu with rfl | hu
    · rfl
    · rcases List.mem_cons.1 hu with rfl | hu
      · rfl
      · exact h10 u hu
end
theorem intsV_at (l : List Nat) (i : Nat) (h : i < l.length) : (intsV l)[i]? = some (.int .i64 (l[i] : Nat)) := by
  unfold intsV
  rw [List.getElem?_map, List.getElem?_eq_getElem h]; rfl
end Go.Pub
namespace Go.Proofs.Ytfnloonmeilhlaa
open Go.RowKit Go.Pub
set_option maxRecDepth 100000 in
set_option maxHeartbeats 1000000 in
theorem r10_has {A : Option Addr} {c : Nat} {l : List Nat} {S : Nat → Prop} (n : Nat) (w : World) (h : ReadsS w S 1 A l.length (intsV l)) :
    Calls Try.prog 42 #[.slice A l.length c, .int .i64 n] w fun e w' => e = .returned (.bool (l.contains n)) ∧ w = w' := by
  have HR := Lib.hid h
  have hmx := h.1.2
  have HT : Hid (∀ k (h : k < l.length), l[k] = n → l.contains n = true) := Lib.hid fun k h e => by
    rw [List.contains_iff_mem, ← e]; exact List.getElem_mem h
  have HF : Hid ((∀ k (h : k < l.length), l[k] ≠ n) → l.contains n = false) := Lib.hid fun hn => by
    rw [← Bool.not_eq_true, List.contains_iff_mem]
    intro hm
    obtain ⟨k, hk, e⟩ := List.mem_iff_getElem.1 hm
    exact hn k hk e
  generalize l.contains n = R at *
  unfold maxLen at hmx
  clear h
  go_enter Try.func42, Try.ntmps42
  go_wp2_with fail
  go_loop [5] (fun v => ∃ k : Nat, v = .int .i64 k ∧ k ≤ l.length ∧ Hid (∀ j (h : j < l.length), j < k → l[j] ≠ n)) (fun v => l.length - (intOf v).toNat)
  case atStart => exact ⟨0, rfl, by omega, Lib.hid fun j h hj => absurd hj (by omega)⟩
  case round =>
    obtain ⟨k, rfl, hk, HN⟩ := hrel
    by_cases hlt : k < l.length
    · obtain ⟨b, off, rfl, hb, hcell⟩ := HR.out.row (by omega) (by omega)
      have hc := hcell k _ (intsV_at l k hlt)
      have hkk : (k : Int) < (l.length : Int) := by omega
      have hk0 : (0 : Int) ≤ (k : Int) := by omega
      clear hcell
      by_cases he : l[k] = n
      · have HRr : Hid (R = true) := Lib.hid (HT.out k hlt he)
        have z1 : ((l[k] : Int) == (n : Int)) = true := by rw [he]; exact beq_self_eq_true _
        generalize l[k] = z at *
        clear he
        go_wp2_with fail
        go_ret
        exact ⟨by rw [HRr.out]; rfl, rfl⟩
      · have HE := Lib.hid he
        have z1 : ((l[k] : Int) == (n : Int)) = false := beq_eq_false_iff_ne.2 (by omega)
        clear he
        go_wp2_with fail
        go_round
        case rel =>
          refine ⟨k + 1, by go_num, by omega, Lib.hid fun j h hj => ?_⟩
          by_cases hj' : j < k
          · exact HN.out j h hj'
          · obtain rfl : j = k := by omega
            exact HE.out
        case measure => simp [intOf]; omega
    · obtain rfl : k = l.length := by omega
      have HRr : Hid (R = false) := Lib.hid (HF.out fun j h => HN.out j h h)
      go_wp2_with fail
      go_ret
      exact ⟨by rw [HRr.out]; rfl, rfl⟩

set_option maxRecDepth 100000 in
set_option maxHeartbeats 1000000 in
theorem r10_place {L : Value} {s : List RE} {S : Nat → Prop} (n : Nat) (w : World) (h : ElsR w S L s) :
    Calls Try.prog 43 #[L, .int .i64 n] w fun e w' => e = .returned (.int .i64 (if plcR s n < s.length then (plcR s n : Nat) else -1)) ∧ w = w' := by
  have HR := Lib.hid h
  obtain ⟨A, c, vs, rfl, -, -, hm⟩ := h
  have hmx := hm.1.2
  clear hm vs
  have HX : Hid (∀ k (h : k < s.length), reX s k = s[k]) := Lib.hid fun k h => by
    unfold reX; rw [List.getD_eq_getElem?_getD, List.getElem?_eq_getElem h]; rfl
  have HT : Hid (∀ k (h : k < s.length), (reX s k).pos = some n → (∀ j, j < k → (reX s j).pos ≠ some n) → (if plcR s n < s.length then (plcR s n : Int) else -1) = (k : Int)) := Lib.hid fun k h e hn => by
    have e1 : plcR s n = k := by
      unfold plcR
      rw [List.findIdx_eq h]
      refine ⟨decide_eq_true (by rw [← HX.out k h]; exact e), fun j hj => decide_eq_false ?_⟩
      have := hn j hj
      rwa [HX.out j (by omega)] at this
    rw [e1, if_pos h]
  have HF : Hid ((∀ j, j < s.length → (reX s j).pos ≠ some n) → (if plcR s n < s.length then (plcR s n : Int) else -1) = -1) := Lib.hid fun hn => by
    rw [if_neg]
    intro hlt
    have hp := List.findIdx_getElem (p := fun e : RE => decide (e.pos = some n)) (w := hlt)
    have h1 := of_decide_eq_true hp
    refine hn (plcR s n) hlt ?_
    rw [HX.out _ hlt]; exact h1
  generalize (if plcR s n < s.length then (plcR s n : Int) else -1) = R at *
  unfold maxLen at hmx
  clear HX
  go_enter Try.func43, Try.ntmps43
  go_wp2_with fail
  go_loop [5] (fun v => ∃ k : Nat, v = .int .i64 k ∧ k ≤ s.length ∧ Hid (∀ j, j < k → (reX s j).pos ≠ some n)) (fun v => s.length - (intOf v).toNat)
  case atStart => exact ⟨0, rfl, by omega, Lib.hid fun j hj => absurd hj (by omega)⟩
  case round =>
    obtain ⟨k, rfl, hk, HN⟩ := hrel
    by_cases hlt : k < s.length
    · obtain ⟨b, off, c', e, hb, hat⟩ := HR.out.opn (by omega)
      obtain ⟨x0, x1, x2, x3, x4, x5, x6, x7, x8, x9, -, hrg, -⟩ := hat k hlt
      injection e with e1 e2 e3
      subst e1
      have hc : w.cell? ⟨b, off + k * 12, none⟩ = some (.int .i64 (posI (reX s k))) := hrg 0 _ rfl
      have hkk : (k : Int) < (s.length : Int) := by omega
      have hk0 : (0 : Int) ≤ (k : Int) := by omega
      have hpi := posI_eq (reX s k) n
      clear hat hrg
      by_cases he : (reX s k).pos = some n
      · have HRr : Hid (R = (k : Int)) := Lib.hid (HT.out k hlt he HN.out)
        rw [decide_eq_true he] at hpi
        generalize posI (reX s k) = z at *
        clear he
        go_wp2_with fail
        go_ret
        exact ⟨by rw [HRr.out]; rfl, rfl⟩
      · have HE := Lib.hid he
        rw [decide_eq_false he] at hpi
        generalize posI (reX s k) = z at *
        clear he
        go_wp2_with fail
        go_round
        case rel =>
          refine ⟨k + 1, by go_num, by omega, Lib.hid fun j hj => ?_⟩
          by_cases hj' : j < k
          · exact HN.out j hj'
          · obtain rfl : j = k := by omega
            exact HE.out
        case measure => simp [intOf]; omega
    · obtain rfl : k = s.length := by omega
      have HRr : Hid (R = -1) := Lib.hid (HF.out HN.out)
      go_wp2_with fail
      go_ret
      exact ⟨by rw [HRr.out]; rfl, rfl⟩

end Go.Proofs.Ytfnloonmeilhlaa
namespace Go.Proofs.Ytfnloonmeilhlaa
open Go.RowKit Go.Pub
theorem byteCellsOf : Try.prog.cellsOf 5 = 1 := by kernel_rfl
/-- What a builder's String leaves. -/
def StrP (B M : Nat) (l : List UInt8) (w : World) (e : Ending) (w' : World) : Prop :=
  e = .returned (.string ⟨l.toArray⟩) ∧ Below B w w' ∧ (∀ k, M ≤ k → w'.heap[k]? = w.heap[k]?) ∧ w'.heap.size = w.heap.size
set_option maxHeartbeats 1000000 in
set_option maxRecDepth 100000 in
theorem b_string (B b : Nat) (l : List UInt8) (w0 w : World) (h : Lib.IsBuilderF 84 5 B b (Lib.byteCells l) w0) (hbw : Below w0.heap.size w0 w) (h0 : l ≠ []) :
    Calls Try.prog 37 #[.pointer (some ⟨b, 0, none⟩)] w (StrP B w0.heap.size l w) := by
  obtain ⟨p, hAt⟩ : ∃ p, Lib.BuilderAtF 84 5 B b p (Lib.byteCells l) w0 := by
    rcases h with h | h
    · exact ⟨_, h⟩
    · exact ⟨_, h⟩
  obtain ⟨hB, v, hbk, hown, hne⟩ := hAt
  have hl0 : l.length ≠ 0 := by simpa using h0
  rw [Lib.byteCells_length] at hown
  obtain ⟨g, cap, cur, fz, rfl, hbg, hg, hfz, hnc, hcm, hcs, htake⟩ : ∃ g cap cur fz, v = .slice (some ⟨g, 0, none⟩) l.length cap ∧ B ≤ g ∧ w0.heap[g]? = some (.cells cur 5 fz) ∧ fz.2 ≤ l.length * 1 ∧ l.length ≤ cap ∧ cap ≤ maxLen ∧ cur.size = cap * 1 ∧ cur.toList.take (l.length * 1) = Lib.byteCells l := by
    rcases hown.2 with ⟨_, hz⟩ | ⟨g, cap, cur, fz, hv, r⟩
    · exact absurd hz hl0
    · exact ⟨g, cap, cur, fz, hv, r⟩
  have hgl : g < w0.heap.size := (Array.getElem?_eq_some_iff.1 hg).1
  have hbl : b < w0.heap.size := (Array.getElem?_eq_some_iff.1 hbk).1
  have hg : w.heap[g]? = some (.cells cur 5 fz) := (hbw.block g hgl).trans hg
  have hbk : w.heap[b]? = some (.cells #[p, .slice (some ⟨g, 0, none⟩) l.length cap] 84 (0, 0)) := (hbw.block b hbl).trans hbk
  have c1 : w.drew.cell? ⟨b, 1, none⟩ = some (.slice (some ⟨g, 0, none⟩) l.length cap) := by
    have : w.drew.heap[b]? = some (.cells #[p, .slice (some ⟨g, 0, none⟩) l.length cap] 84 (0, 0)) := hbk
    rw [Lib.cell_of_heap this]; rfl
  have hSD : (Builtin.unsafeSliceData_ #[82] 107 #[.slice (some ⟨g, 0, none⟩) l.length cap]).run Try.prog w.drew = .ok (.pointer (some ⟨g, 0, none⟩)) w.drew :=
    Lib.run_unsafeSliceData_row _ _ _ _ _ _ (by omega)
  have hUS : (Builtin.unsafeString_ #[107, 3] 9 #[.pointer (some ⟨g, 0, none⟩), .int .i64 l.length]).run Try.prog w.drew = .ok (.string ⟨l.toArray⟩) (w.drew.freeze ⟨g, 0, none⟩ l.length) := by
    refine Lib.run_unsafeString_row w.drew 107 3 9 5 Try.underlying107 byteCellsOf g cur.size (by have hg' : w.drew.heap[g]? = some (.cells cur 5 fz) := hg; simp [World.shape?, hg']) l h0 (by omega) (by unfold maxLen at hcm; omega) ?_
    intro j x hx
    have hj : j < l.length := (List.getElem?_eq_some_iff.1 hx).1
    have hx' : (Lib.byteCells l)[j]? = some (.int .u8 x.toNat) := by simp [Lib.byteCells, hx]
    rw [← htake, List.getElem?_take, if_pos (by omega), Array.getElem?_toList] at hx'
    have hg' : w.drew.heap[g]? = some (.cells cur 5 fz) := hg
    have hadd : (⟨g, 0, none⟩ : Addr).add j = ⟨g, j, none⟩ := by unfold Addr.add; split <;> simp_all
    rw [hadd, Lib.cell_of_heap hg']; exact hx'
  have HF : Hid (StrP B w0.heap.size l w (.returned (.string ⟨l.toArray⟩)) (w.drew.freeze ⟨g, 0, none⟩ l.length)) := Lib.hid ⟨rfl, Lib.below_freeze (Below.drew (Below.refl B w)) (p := ⟨g, 0, none⟩) hbg _, fun k hk => by
    have hkg : k ≠ g := by omega
    show (w.drew.freeze ⟨g, 0, none⟩ l.length).heap[k]? = w.drew.heap[k]?
    unfold World.freeze
    split
    · rfl
    · simp only [Array.getElem?_modify]
      rw [if_neg (by intro e; exact hkg e.symm)], by
    show (w.drew.freeze ⟨g, 0, none⟩ l.length).heap.size = w.drew.heap.size
    unfold World.freeze
    split
    · rfl
    · simp⟩
  clear h hbw hbk hg hown htake
  have mixed : Try.prog.follows .mixedOrders = true := by kernel_rfl
  go_enter Try.func37, Try.ntmps37
  go_wp2
  go_region_o
  all_goals (go_wp2; go_ret; exact HF.out)

end Go.Proofs.Ytfnloonmeilhlaa
namespace Go.Pub
theorem sizeL_mem : ∀ (l : List InT) (i : Nat) (hi : i < l.length), sizeI l[i] ≤ sizeL l
  | x :: l, 0, _ => by show sizeI x ≤ sizeL (x :: l); rw [sizeL]; omega
  | x :: l, i + 1, hi => by
    have hi' : i < l.length := by simpa using hi
    show sizeI (l[i]'hi') ≤ sizeL (x :: l)
    rw [sizeL]
    have := sizeL_mem l i hi'
    omega
theorem sizeL_len : ∀ (l : List InT), l.length ≤ sizeL l
  | [] => Nat.zero_le _
  | x :: l => by
    rw [sizeL, List.length_cons]
    have := sizeL_len l
    have : 1 ≤ sizeI x := by obtain ⟨k, t, d, ti, a, ar, c, ks⟩ := x; rw [sizeI]; omega
    omega
end Go.Pub
namespace Go.Proofs.Ytfnloonmeilhlaa
open Go.RowKit Go.Pub
theorem RepI.setTxt {w : World} {S : Nat → Prop} {u0 u1 u2 u3 u4 u5 u6 u7 u8 u9 : Value} {x : InT} (h : RepI w S #[u0, u1, u2, u3, u4, u5, u6, u7, u8, u9] x) (s : List UInt8) : RepI w S #[u0, .string ⟨s.toArray⟩, u2, u3, u4, u5, u6, u7, u8, u9] (setTxt x s) := by
  cases h
  next h1 h2 h3 h4 h5 h6 => exact .mk _ _ _ _ _ _ _ _ _ _ _ _ _ _ _ _ _ _ _ h1 h2 h3 h4 h5 h6
set_option maxHeartbeats 8000000 in
set_option maxRecDepth 100000 in
theorem t_merge (N : Nat) (hN : N ≤ 1000000) (hM : ∀ x : InT, sizeI x ≤ N → MrgH (sizeL x.kids)) : MrgH N := by
  intro l hl S w A c vs h1 h2 hS
  have hlen := sizeL_len l
  have HEL : Hid (∀ i (hi : i < l.length), ∃ b off, A = some ⟨b, off, none⟩ ∧ b < w.heap.size ∧ ∃ x2 x3 x4 x5 x6 x7 x8 x9, RepI w S #[.int .i64 l[i].kind, .string l[i].text, x2, x3, x4, x5, x6, x7, x8, x9] l[i] ∧ w.rangeAt b (off + i * 10) [.int .i64 l[i].kind, .string l[i].text, x2, x3, x4, x5, x6, x7, x8, x9]) := Lib.hid fun i hi => by
    obtain ⟨b, off, e, hb, hc⟩ := h2.row (by omega) (by decide)
    obtain ⟨v, hv, hvc⟩ := h1.at_ i hi
    obtain ⟨x0, x1, x2, x3, x4, x5, x6, x7, x8, x9, rfl⟩ := hv.opn
    obtain ⟨rfl, rfl⟩ := RepI.two hv
    refine ⟨b, off, e, hS b hb, x2, x3, x4, x5, x6, x7, x8, x9, hv, fun j u hj => ?_⟩
    have hj10 := (List.getElem?_eq_some_iff.1 hj).1
    simp only [List.length_cons, List.length_nil] at hj10
    rw [Nat.add_assoc]
    refine hc (i * 10 + j) u ?_
    rw [hvc j hj10, ← hj, ← Array.getElem?_toList]
  have HMG := Lib.hid fun i (hi : i < l.length) => hM l[i] (Nat.le_trans (sizeL_mem l i hi) hl)
  have HSZ := Lib.hid fun i (hi : i < l.length) => Nat.le_trans (sizeL_mem l i hi) (Nat.le_trans hl hN)
  have HS := Lib.hid hS
  have HSL : Hid (sizeL l ≤ 1000000) := Lib.hid (Nat.le_trans hl hN)
  have H0 := Lib.hid (MrW.start w l)
  obtain ⟨i0, hi0, hz0, hz1, hz2⟩ := info_parts inl_info
  have hll : l.length ≤ 1000000 := by omega
  clear h1 h2 hS hM hl
  go_enter Try.func25, Try.ntmps25
  go_wp2_with fail
  go_loopw [3, 4] (fun v3 v4 wr => ∃ (i : Nat) (done : List InT), i ≤ l.length ∧ done.length ≤ i ∧ v4 = .int .i64 i ∧ Hid (MrW w l done i v3 wr)) (fun _ v4 _ => l.length - (intOf v4).toNat)
  case atStart => exact ⟨0, [], Nat.zero_le _, Nat.zero_le _, rfl, H0⟩
  case round =>
    clear H0
    obtain ⟨i, done, hi, hdi, rfl, HI⟩ := hrel
    by_cases hlt : i < l.length
    · obtain ⟨b, off, hA, hbw, x2, x3, x4, x5, x6, x7, x8, x9, hr, hrg⟩ := HEL.out i hlt
      subst hA
      have hbel := HI.out.bel
      obtain ⟨S1, vs1, hS1, hr1, hown⟩ := HI.out.row
      obtain ⟨A3, c3, hv3, -, -⟩ := own_form hown
      subst hv3
      have hrgw : wr.rangeAt b (off + i * 10) [.int .i64 l[i].kind, .string l[i].text, x2, x3, x4, x5, x6, x7, x8, x9] := fun j u hj => (hbel.cell (p := ⟨b, off + i * 10 + j, none⟩) hbw).trans (hrg j u hj)
      have k0 : wr.cell? ⟨b, off + i * 10, none⟩ = some (.int .i64 l[i].kind) := hrgw 0 _ rfl
      have hii : (i : Int) < (l.length : Int) := by omega
      have hi00 : (0 : Int) ≤ (i : Int) := by omega
      by_cases hk : l[i].kind = 1
      · have d1 : (l[i].kind != 1) = false := by rw [hk]; rfl
        have HT0 := Lib.hid (TxW.start l i wr)
        clear hrgw hrg hr hS1 hr1 hown
        go_wp2_with fail
        clear d1 k0
        go_loopw [4, 5] (fun v4 v5 wx => ∃ (j : Nat) (f : Int), i ≤ j ∧ j ≤ l.length ∧ v4 = .int .i64 j ∧ v5 = .int .i64 f ∧ Hid (TxW l i j f wr wx)) (fun v4 _ _ => l.length - (intOf v4).toNat)
        case atStart => exact ⟨i, -1, Nat.le_refl _, by omega, rfl, rfl, HT0⟩
        case round =>
          clear HT0
          rename World => wx
          obtain ⟨j, f, hij, hj, rfl, rfl, HT⟩ := hrel
          have hbx := HT.out.bel
          have hzx := hbx.size
          have hzb := hbel.size
          by_cases hgo : ∃ h : j < l.length, l[j].kind = 1
          · obtain ⟨hjl, hkj⟩ := hgo
            obtain ⟨b', off', hA', -, y2, y3, y4, y5, y6, y7, y8, y9, -, hrgj⟩ := HEL.out j hjl
            injection hA' with hA'
            injection hA' with e1 e2
            subst e1 e2
            have kc : wx.cell? ⟨b, off + j * 10, none⟩ = some (.int .i64 l[j].kind) := (hbx.cell (p := ⟨b, off + j * 10, none⟩) (by show b < _; omega)).trans ((hbel.cell (p := ⟨b, off + j * 10, none⟩) hbw).trans (hrgj 0 _ rfl))
            have tc : wx.cell? ⟨b, off + j * 10 + 1, none⟩ = some (.string l[j].text) := (hbx.cell (p := ⟨b, off + j * 10 + 1, none⟩) (by show b < _; omega)).trans ((hbel.cell (p := ⟨b, off + j * 10 + 1, none⟩) hbw).trans (hrgj 1 _ rfl))
            have hjj : (j : Int) < (l.length : Int) := by omega
            have hj0 : (0 : Int) ≤ (j : Int) := by omega
            have dk : (l[j].kind == 1) = true := by rw [hkj]; rfl
            have HLEN : Hid ((Lib.byteCells (catT (segL l i j))).length + l[j].text.size ≤ 140737488355328) := Lib.hid (by
              rw [Lib.byteCells_length]
              have h1 := catT_len (segL l i j)
              have h2 := segL_size l i j
              have h3 := HSZ.out j hjl
              have h4 : l[j].text.size ≤ sizeI l[j] := by
                generalize l[j] = x
                obtain ⟨k, t, d, ti, a, ar, c, ks⟩ := x
                rw [sizeI]; show t.size ≤ _; omega
              have h5 := HSL.out
              omega)
            have HSTEP := Lib.hid fun (w2 : World) (f' : Int) hb hbd hf => HT.out.step (w2 := w2) (f' := f') hij hjl hkj hb hbd hf
            have HBL := Lib.hid HT.out.bld
            have HSC : Hid (Lib.strCells l[j].text = Lib.byteCells l[j].text.toList) := Lib.hid (by rw [Lib.strCells_eq, Lib.toList_data])
            have hwz : wr.heap.size ≤ wx.heap.size := hzx
            have HFS := Lib.hid HT.out.fst
            clear hrgj hbx HT hbel
            generalize l[j].text = t at *
            generalize l[j].kind = kj at *
            rcases HFS.out with ⟨rfl, -⟩ | ⟨q, hq, rfl, hq1, hq2, -⟩
            · by_cases ht : t.toList = []
              · have ht2 : t.toList.isEmpty = true := by rw [ht]; rfl
                go_wp2_with fail
                ((with_reducible refine (writeString_k wr.heap.size wr.heap.size _ _ _ HBL.out HLEN.out hwz).mono ?_))
                rintro e W1 ⟨rfl, h1, b2, -⟩
                rw [HSC.out] at h1
                have HF := Lib.hid (HSTEP.out W1 (-1) b2 (.inr h1) (by simp [ht]))
                clear h1 b2 HSTEP HBL
                go_wp2_with fail
                go_roundw
                case rel => exact ⟨j + 1, -1, by omega, by omega, by go_num, rfl, HF⟩
                case measure => simp [intOf]; omega
              · have ht2 : t.toList.isEmpty = false := by cases h : t.toList with | nil => exact absurd h ht | cons => rfl
                have ht3 : (t.toList == []) = false := by cases h : t.toList with | nil => exact absurd h ht | cons => rfl
                go_wp2_with fail
                ((with_reducible refine (writeString_k wr.heap.size wr.heap.size _ _ _ HBL.out HLEN.out hwz).mono ?_))
                rintro e W1 ⟨rfl, h1, b2, -⟩
                rw [HSC.out] at h1
                have HF := Lib.hid (HSTEP.out W1 ((j : Int)) b2 (.inr h1) (by simp [ht]))
                clear h1 b2 HSTEP HBL
                go_wp2_with fail
                go_roundw
                case rel => exact ⟨j + 1, (j : Int), by omega, by omega, by go_num, rfl, HF⟩
                case measure => simp [intOf]; omega
            · have hq0 : decide ((q : Int) < 0) = false := decide_eq_false (by omega)
              go_wp2_with fail
              ((with_reducible refine (writeString_k wr.heap.size wr.heap.size _ _ _ HBL.out HLEN.out hwz).mono ?_))
              rintro e W1 ⟨rfl, h1, b2, -⟩
              rw [HSC.out] at h1
              have HF := Lib.hid (HSTEP.out W1 ((q : Int)) b2 (.inr h1) (by rw [if_neg (by omega)]))
              clear h1 b2 HSTEP HBL
              go_wp2_with fail
              go_roundw
              case rel => exact ⟨j + 1, (q : Int), by omega, by omega, by go_num, rfl, HF⟩
              case measure => simp [intOf]; omega
          · have HEND := Lib.hid (seg_end hij hj HT.out.kinds (fun h e => hgo ⟨h, e⟩))
            have hij' : i < j := by
              rcases Nat.lt_or_ge i j with h | h
              · exact h
              · obtain rfl : i = j := by omega
                exact absurd ⟨hlt, hk⟩ hgo
            have hdj : (∃ h : j < l.length, l[j].kind ≠ 1) ∨ j = l.length := by
              rcases Nat.lt_or_ge j l.length with h | h
              · exact .inl ⟨h, fun e => hgo ⟨h, e⟩⟩
              · exact .inr (by omega)
            have hbwx : Below w.heap.size w wx := hbel.trans (hbx.mono hzb)
            have HDJ : Hid ((∃ (kj : Int), (j : Int) < (l.length : Int) ∧ wx.cell? ⟨b, off + j * 10, none⟩ = some (.int .i64 kj) ∧ (kj == 1) = false) ∨ j = l.length) := Lib.hid (by
              rcases hdj with ⟨h, e⟩ | h
              · obtain ⟨b', off', hA', -, y2, y3, y4, y5, y6, y7, y8, y9, -, hrgj⟩ := HEL.out j h
                injection hA' with hA'
                injection hA' with e1 e2
                subst e1 e2
                exact .inl ⟨l[j].kind, by omega, (hbwx.cell (p := ⟨b, off + j * 10, none⟩) hbw).trans (hrgj 0 _ rfl), beq_eq_false_iff_ne.2 e⟩
              · exact .inr h)
            have hj0 : (0 : Int) ≤ (j : Int) := by omega
            clear hdj hgo
            rcases HT.out.fst with ⟨rfl, h0⟩ | ⟨q, hq, rfl, hq1, hq2, h0⟩
            · have HF : Hid (MrW w l done j (.slice A3 done.length c3) wx) := Lib.hid ((HI.out.call hbx).skip (by rw [HEND.out, h0]; rfl))
              clear HT HEND h0 hbel hbx hbwx HI
              rcases HDJ.out with ⟨kj, hjj, kc, dk⟩ | rfl
              · go_wp2_with fail
                go_roundw
                case rel => exact ⟨j, done, hj, by omega, rfl, HF⟩
                case measure => simp [intOf]; omega
              · go_wp2_with fail
                go_roundw
                case rel => exact ⟨l.length, done, hj, by omega, rfl, HF⟩
                case measure => simp [intOf]; omega
            · obtain ⟨b', off', hA', -, x2, x3, x4, x5, x6, x7, x8, x9, hrq, hrgq⟩ := HEL.out q hq
              injection hA' with hA'
              injection hA' with e1 e2
              subst e1 e2
              obtain ⟨S1, vs1, hS1, hr1, hown⟩ := HI.out.row
              have HG : Hid (wx.rangeAt b (off + q * 10) [.int .i64 l[q].kind, .string l[q].text, x2, x3, x4, x5, x6, x7, x8, x9]) := Lib.hid fun k u hk => (hbwx.cell (p := ⟨b, off + q * 10 + k, none⟩) hbw).trans (hrgq k u hk)
              have HCALL := Lib.hid (t_merged wx (HMG.out q hq) (hrq.keep (fun g hg => hbwx.block g (HS.out g hg)) fun _ h => h) (fun g hg => Nat.lt_of_lt_of_le (HS.out g hg) hbwx.size) (HSZ.out q hq) (Nat.le_refl _))
              have HEQ : Hid (mergeL (l.drop i) = setTxt (mergeI l[q]) (catT (segL l i j)) :: mergeL (l.drop j)) := Lib.hid (by rw [HEND.out, h0]; rfl)
              have HBS := Lib.hid fun (W : World) hW => b_string wr.heap.size wr.heap.size (catT (segL l i j)) wx W HT.out.bld hW (by
                obtain ⟨m1, m2⟩ := firstT_mem _ _ h0
                intro e
                exact m2 (List.flatMap_eq_nil_iff.1 e _ m1))
              have hq0 : decide ((q : Int) < 0) = false := decide_eq_false (by omega)
              have hq0' : decide ((0 : Int) ≤ (q : Int)) = true := decide_eq_true (by omega)
              have hqq : (q : Int) < (l.length : Int) := by omega
              have hq00 : (0 : Int) ≤ (q : Int) := by omega
              have HOWN := Lib.hid hown
              have HS1 := Lib.hid hS1
              have HR1 := Lib.hid hr1
              have HBX := Lib.hid hbx
              clear HT HEND h0 hbel hbx hbwx hrq hrgq hS1 hr1 hown
              generalize hxx : l[q] = x at *
              clear hxx
              have HDJ2 := HDJ
              rcases HDJ.out with ⟨kj, hjj, kc, dk⟩ | hjl
              all_goals
                try have hjn : decide ((j : Int) < (l.length : Int)) = false := decide_eq_false (by omega)
                go_wp2_with (refine wpList_load_mid rfl 37 (.tmp 63) rfl b (off + q * 10) rfl _ _ HG.out Try.underlying37 rfl inl_size ?_)
                ((with_reducible refine HCALL.out.mono ?_))
                rintro e W2 ⟨v, rfl, hv, hb2⟩
                obtain ⟨u0, u1, u2, u3, u4, u5, u6, u7, u8, u9, rfl⟩ := hv.opn
                have hz2w := hb2.size
                have HV1 := Lib.hid hv.one
                have HV := Lib.hid hv
                have HB2 := Lib.hid hb2
                clear hv hb2 HCALL
                have HVA : Hid ((#[u0, u1, u2, u3, u4, u5, u6, u7, u8, u9] : Array Value).all (·.oneCell') = true) := Lib.hid (by rw [← Array.all_toList, List.all_eq_true]; exact HV1.out)
                have HBW4 : Hid (Below wx.heap.size wx (W2.alloc (.cells #[u0, u1, u2, u3, u4, u5, u6, u7, u8, u9] 37))) := Lib.hid (HB2.out.alloc hz2w _)
                go_wp2_with (refine wpList_store_row rfl 37 (.tmp 7) (.tmp 65) rfl W2.heap.size #[u0, u1, u2, u3, u4, u5, u6, u7, u8, u9] rfl rfl 37 _ (Blk.new W2 _ _) inl_size (by rfl) HVA.out ?_; rw [World.setRow_alloc_new])
                have HB4 : Hid (Blk (W2.alloc (.cells #[u0, u1, u2, u3, u4, u5, u6, u7, u8, u9] 37)) W2.heap.size 37 #[u0, u1, u2, u3, u4, u5, u6, u7, u8, u9]) := Lib.hid (Blk.new W2 _ _)
                have HZ4 : Hid ((W2.alloc (.cells #[u0, u1, u2, u3, u4, u5, u6, u7, u8, u9] 37)).heap.size = W2.heap.size + 1) := Lib.hid (by simp)
                have HK4 : Hid (∀ g, g < W2.heap.size → (W2.alloc (.cells #[u0, u1, u2, u3, u4, u5, u6, u7, u8, u9] 37)).heap[g]? = W2.heap[g]?) := Lib.hid fun g hg => Below.heap_alloc W2 _ g hg
                generalize W2.alloc (.cells #[u0, u1, u2, u3, u4, u5, u6, u7, u8, u9] 37) = W4 at *
                ((with_reducible refine (HBS.out W4 HBW4.out).mono ?_))
                rintro e W5 ⟨rfl, b5, k5, z5⟩
                generalize hTX : (⟨(catT (segL l i j)).toArray⟩ : ByteArray) = txt at *
                have HTX := Lib.hid hTX
                have b5k : Blk W5 W2.heap.size 37 #[u0, u1, u2, u3, u4, u5, u6, u7, u8, u9] := (k5 _ hz2w).trans HB4.out
                have f5 : W5.frozen? ⟨W2.heap.size, 1, none⟩ = false := b5k.frozen 1
                have c5 : W5.cell? ⟨W2.heap.size, 1, none⟩ = some u1 := b5k.cell 1
                have HB6 : Hid (Blk (W5.setCell ⟨W2.heap.size, 1, none⟩ (.string txt)) W2.heap.size 37 #[u0, .string txt, u2, u3, u4, u5, u6, u7, u8, u9]) := Lib.hid (b5k.set_ 1 (.string txt))
                have HV6 : Hid (RepI (W5.setCell ⟨W2.heap.size, 1, none⟩ (.string txt)) (NewG wx W2) #[u0, .string txt, u2, u3, u4, u5, u6, u7, u8, u9] (setTxt (mergeI x) (catT (segL l i j)))) := Lib.hid ((show RepI W2 (NewG wx W2) #[u0, .string txt, u2, u3, u4, u5, u6, u7, u8, u9] (setTxt (mergeI x) (catT (segL l i j))) from HTX.out ▸ RepI.setTxt HV.out (catT (segL l i j))).keep (fun g (hg : NewG wx W2 g) => (Below.heap_setCell W5 ⟨W2.heap.size, 1, none⟩ _ g (by have := hg.2; show g ≠ W2.heap.size; omega)).trans ((k5 g hg.1).trans (HK4.out g hg.2))) fun _ h => h)
                have HBW6 : Hid (Below wr.heap.size wr (W5.setCell ⟨W2.heap.size, 1, none⟩ (.string txt))) := Lib.hid ((HBX.out.trans ((HBW4.out.mono hzx).trans b5)).setCell (p := ⟨W2.heap.size, 1, none⟩) (by show wr.heap.size ≤ W2.heap.size; omega) _)
                have HZ6 : Hid ((W5.setCell ⟨W2.heap.size, 1, none⟩ (.string txt)).heap.size = W2.heap.size + 1) := Lib.hid (by
                  have := HZ4.out
                  simp only [World.setCell, Array.size_modify]
                  omega)
                have HV7 := Lib.hid HV6.out.one
                have HOW6 := Lib.hid (own_below HOWN.out HBW6.out)
                have HPU := Lib.hid fun (W7 : World) (g7 cap7 : Nat) (o7 : Obj) hown hgrow hlies => HI.out.push (W := (W5.setCell ⟨W2.heap.size, 1, none⟩ (.string txt))) (W7 := W7) (j := j) (g := g7) (cap := cap7) (H := (W5.setCell ⟨W2.heap.size, 1, none⟩ (.string txt)).heap.size + 1) (x := setTxt (mergeI x) (catT (segL l i j))) (u := #[u0, .string txt, u2, u3, u4, u5, u6, u7, u8, u9]) (o := o7) HS1.out HR1.out HOWN.out HBW6.out HV6.out (fun g (hg : NewG wx W2 g) => ⟨Nat.le_trans hzx hg.1, by have := hg.2; have := HZ6.out; omega⟩) hown hgrow hlies (by omega) HEQ.out
                clear b5 k5 b5k z5 hTX HB4 HV HBS HBW4 HV6 HBW6 HOWN
                go_wp2_with (first | (refine wpList_load_row rfl 37 (.tmp 7) rfl W2.heap.size rfl 37 #[u0, .string txt, u2, u3, u4, u5, u6, u7, u8, u9] _ _ HB6.out Try.underlying37 rfl inl_size ?_; generalize (W5.setCell ⟨W2.heap.size, 1, none⟩ (.string txt)) = W6 at *) | (refine wpList_inSlice rfl (.tmp 69) rfl u0 (.string txt) u2 u3 u4 u5 u6 u7 u8 u9 rfl ?_) | (at_builtin; refine wpList_append_lies _ rfl _ _ 26 rfl w.heap.size 37 i0 _ 10 192 Try.underlying26 hi0 hz0 hz1 hz2 rfl (by decide) _ _ _ rfl (HOW6.out.alloc _) ⟨W6.heap.size, 0, none⟩ 1 1 [u0, .string txt, u2, u3, u4, u5, u6, u7, u8, u9] rfl rfl ?d1 ?d2 (by decide) ?d3 ?d4 ?d5 (W6.heap.size + 1) ?d6 ?_))
                case d1 => exact World.news_of_block (t := 37) (fr := (0, 0)) (heap_alloc_new W6 _)
                case d2 => exact HV7.out
                case d3 => unfold maxLen; omega
                case d4 => have := HZ6.out; omega
                case d5 => simp; have := HZ6.out; omega
                case d6 => simp
                intro g7 cap7 W7 hown hgrow hlies hlt7
                have HF := Lib.hid (HPU.out W7 g7 cap7 _ hown hgrow hlies)
                clear hown hgrow hlies hlt7 HPU HI
                go_wp2_with fail
                go_roundw
                case rel => exact ⟨j, done ++ [setTxt (mergeI x) (catT (segL l i j))], hj, by simp; omega, by first | rfl | rw [hjl], HF⟩
                case measure => simp [intOf]; omega
      · have d1 : (l[i].kind != 1) = true := bne_iff_ne.2 hk
        have hdrop : l.drop i = l[i] :: l.drop (i + 1) := List.drop_eq_getElem_cons hlt
        have HEQ : Hid (mergeL (l.drop i) = mergeI l[i] :: mergeL (l.drop (i + 1))) := Lib.hid (by rw [hdrop, mergeL_no hk])
        have HCALL := Lib.hid (t_merged wr (HMG.out i hlt) (hr.keep (fun g hg => hbel.block g (HS.out g hg)) fun _ h => h) (fun g hg => Nat.lt_of_lt_of_le (HS.out g hg) hbel.size) (HSZ.out i hlt) (Nat.le_refl _))
        have HG := Lib.hid hrgw
        have HOWN := Lib.hid hown
        have hzw := hbel.size
        have HS1 := Lib.hid hS1
        have HR1 := Lib.hid hr1
        clear hrgw hrg hr hbel hS1 hr1 hown hdrop
        generalize hxx : l[i] = x at *
        clear hxx
        go_wp2_with (refine wpList_load_mid rfl 37 (.tmp 21) rfl b (off + i * 10) rfl _ _ HG.out Try.underlying37 rfl inl_size ?_)
        ((with_reducible refine HCALL.out.mono ?_))
        rintro e W2 ⟨v, rfl, hv, hb2⟩
        obtain ⟨u0, u1, u2, u3, u4, u5, u6, u7, u8, u9, rfl⟩ := hv.opn
        have HOW2 := Lib.hid (own_below HOWN.out hb2)
        have HV1 := Lib.hid hv.one
        have hz2w := hb2.size
        have HPU := Lib.hid fun (W7 : World) (g7 cap7 : Nat) (o7 : Obj) hown hgrow hlies => HI.out.push (W := W2) (W7 := W7) (j := i + 1) (g := g7) (cap := cap7) (H := W2.heap.size + 1) (x := mergeI x) (u := #[u0, u1, u2, u3, u4, u5, u6, u7, u8, u9]) (o := o7) HS1.out HR1.out HOWN.out hb2 hv (fun g hg => hg) hown hgrow hlies (by omega) HEQ.out
        clear hb2 hv HCALL HOWN
        go_wp2_with (first | (refine wpList_inSlice rfl (.tmp 23) rfl u0 u1 u2 u3 u4 u5 u6 u7 u8 u9 rfl ?_) | (at_builtin; refine wpList_append_lies _ rfl _ _ 26 rfl w.heap.size 37 i0 _ 10 192 Try.underlying26 hi0 hz0 hz1 hz2 rfl (by decide) _ _ _ rfl (HOW2.out.alloc _) ⟨W2.heap.size, 0, none⟩ 1 1 [u0, u1, u2, u3, u4, u5, u6, u7, u8, u9] rfl rfl ?c1 ?c2 (by decide) ?c3 ?c4 ?c5 (W2.heap.size + 1) ?c6 ?_))
        case c1 => exact World.news_of_block (t := 37) (fr := (0, 0)) (heap_alloc_new W2 _)
        case c2 => exact HV1.out
        case c3 => unfold maxLen; omega
        case c4 => omega
        case c5 => simp; omega
        case c6 => simp
        intro g7 cap7 W7 hown hgrow hlies hlt7
        have HF := Lib.hid (HPU.out W7 g7 cap7 _ hown hgrow hlies)
        clear hown hgrow hlies hlt7 HPU HI
        go_wp2_with fail
        go_roundw
        case rel => exact ⟨i + 1, done ++ [mergeI x], by omega, by simp; omega, by go_num, HF⟩
        case measure => simp [intOf]; omega
    · obtain rfl : i = l.length := by omega
      obtain ⟨S1, vs1, hS1, hr1, hown⟩ := HI.out.row
      obtain ⟨A3, c3, hv3, -, -⟩ := own_form hown
      subst hv3
      have hd : mergeL l = done := by rw [HI.out.eq, List.drop_length]; simp [mergeL, mapI, joinT]
      have HF : Hid (MrgP l w (.returned (.slice A3 done.length c3)) wr) := Lib.hid (by
        unfold MrgP
        rw [hd]
        exact ⟨A3, c3, vs1, rfl, hr1.keep (fun _ _ => rfl) fun g hg => (hS1 g hg).1, hown, HI.out.bel⟩)
      clear hS1 hr1 hown hd HI
      go_wp2_with fail
      go_ret
      exact HF.out

end Go.Proofs.Ytfnloonmeilhlaa
namespace Go.Pub
theorem sumN_len (ps : List PcT) : ∀ k, sumN ps k ≤ sumZ ps k
  | 0 => Nat.le_refl _
  | k + 1 => by
    have := sumN_len ps k
    show sumN ps k + (if runP (pcX ps k) = true then _ else 0) ≤ sumZ ps k + pcZ _
    unfold pcZ
    split <;> omega
theorem sumZ_len (ps : List PcT) : ∀ k, k ≤ sumZ ps k
  | 0 => Nat.le_refl _
  | k + 1 => by
    have := sumZ_len ps k
    show k + 1 ≤ sumZ ps k + pcZ _
    unfold pcZ
    omega
end Go.Pub
namespace Go.Proofs.Ytfnloonmeilhlaa
open Go.RowKit Go.Pub
theorem merge_all : ∀ N, N ≤ 1000000 → MrgH N := fun N => by
  induction N using Nat.strongRecOn with
  | ind N ih =>
    intro hN
    refine t_merge N hN fun x hx => ih (sizeL x.kids) ?_ ?_
    · obtain ⟨k, t, d, ti, a, ar, c, ks⟩ := x
      rw [sizeI] at hx
      show sizeL ks < N
      omega
    · obtain ⟨k, t, d, ti, a, ar, c, ks⟩ := x
      rw [sizeI] at hx
      show sizeL ks ≤ _
      omega
/-- Inlines in new memory. -/
def NstP (l : List InT) (w : World) (e : Ending) (w' : World) : Prop :=
  ∃ A c vs, e = .returned (.slice A l.length c) ∧ RepIs w' (NewG w w') vs l ∧ ReadsS w' (NewG w w') 10 A l.length (vs.flatMap Array.toList) ∧ Below w.heap.size w w'
set_option maxHeartbeats 4000000 in
set_option maxRecDepth 100000 in
theorem e_NestB {L : Value} {ps : List PcT} (w : World) (hL : PcsR w (fun g => g < w.heap.size) L ps) (hlen : ps.length ≤ 30000) (hN : sumN ps ps.length ≤ 30000) (hZ : sumZ ps ps.length ≤ 1000000) :
    Calls Try.prog 12 #[L] w (NstP (nestA ps) w) := by
  obtain ⟨A0, c0, vs0, hL0, -⟩ := id hL
  subst hL0
  have HM := Lib.hid (e_match w hL hlen hN)
  obtain ⟨ids, hMI, hsz⟩ : ∃ ids, MatI ps ps.length (matchA ps) ids ∧ sizeL (inlsA ps (matchA ps) ids) ≤ sumZ ps ps.length := size_match ps ps.length (Nat.le_refl _)
  have HB : Hid (∀ w' vE vO vP S vs, EmR w' w.heap.size (w.heap.size + 1) (.slice A0 ps.length c0) vE vO vP S vs (matchA ps) → Below w.heap.size w w' →
      Calls Try.prog 26 #[.pointer (some ⟨w.heap.size + 1, 0, none⟩), .int .i64 0, .int .i64 0] w' (BetPost S w'.heap.size (inlsA ps (matchA ps) ids) w')) := Lib.hid fun w' vE vO vP S vs h hb => by
    have hR := hMI.em.ring
    obtain ⟨g, cap, rfl, -⟩ := h.row hR.pos
    have hids := hR.len
    have := hMI.len
    have := hMI.prs
    refine e_between w' h (hL.keep (fun g hg => hb.block g hg) fun g hg => h.low g hg) 0 0 ids hR.pos hR.link (fun i hi => ⟨fun e => (List.nodup_cons.1 hR.nd).1 (e ▸ hi), hR.bd i hi⟩) (fun i hi hr => ?_) (by
      omega)
    obtain ⟨r1, r2, r3⟩ := hMI.rb i hr
    obtain ⟨-, -, s3, -⟩ := runP_spec r2
    rw [runP_size r2]
    exact ⟨r1, by omega, by omega⟩
  have HN : Hid (nestA ps = mergeL (inlsA ps (matchA ps) ids)) := Lib.hid (by
    have hR := hMI.em.ring
    have hl := hR.len
    show mergeL (betF ps _ 0 _ _) = _
    rw [betF_eq ids 0 _ hR.link (fun i hi e => (List.nodup_cons.1 hR.nd).1 (e ▸ hi)) (by omega)]
    rfl)
  have HZ : Hid (sizeL (inlsA ps (matchA ps) ids) ≤ 1000000) := Lib.hid (Nat.le_trans hsz hZ)
  clear hL hMI hsz
  generalize inlsA ps (matchA ps) ids = bl at *
  go_enter Try.func12, Try.ntmps12
  go_wp2_with fail
  ((with_reducible refine HM.out.mono ?_))
  rintro e w1 ⟨rfl, b1, vE, vO, vP, S, vs, hE⟩
  have HC := Lib.hid (HB.out w1 vE vO vP S vs hE b1)
  have HS : Hid (∀ g, S g → g < w1.heap.size) := Lib.hid fun g hg => (hE.fro g hg).1
  have hz1 := b1.size
  have HB1 := Lib.hid b1
  clear hE b1 HM HB
  go_wp2_with fail
  ((with_reducible refine HC.out.mono ?_))
  rintro e w2 ⟨v, vs2, rfl, r2, o2, b2⟩
  obtain ⟨A3, c3, hv3, -, -⟩ := own_form o2
  subst hv3
  have hz2 := b2.size
  have HG := Lib.hid (merge_all 1000000 (Nat.le_refl _) bl HZ.out (fun g => S g ∨ (w1.heap.size ≤ g ∧ g < w2.heap.size)) w2 A3 c3 vs2 (r2.keep (fun _ _ => rfl) fun _ h => .inl h) ((ReadsS.of_own o2).keep (fun _ _ => rfl) fun _ h => .inr h) (fun g hg => by
    rcases hg with hg | hg
    · exact Nat.lt_of_lt_of_le (HS.out g hg) hz2
    · exact hg.2))
  have HB2 := Lib.hid (HB1.out.trans (b2.mono hz1))
  clear r2 o2 b2 HC
  go_wp2_with fail
  ((with_reducible refine HG.out.mono ?_))
  rintro e w3 ⟨A4, c4, vs4, rfl, r4, o4, b4⟩
  have hz3 : w.heap.size ≤ w2.heap.size := HB2.out.size
  have HF : Hid (NstP (nestA ps) w (.returned (.slice A4 (mergeL bl).length c4)) w3) := Lib.hid (by
    rw [HN.out]
    exact ⟨A4, c4, vs4, rfl, r4.keep (fun _ _ => rfl) fun g hg => ⟨Nat.le_trans hz3 hg.1, hg.2⟩, (ReadsS.of_own o4).keep (fun _ _ => rfl) fun g hg => ⟨Nat.le_trans hz3 hg.1, hg.2⟩, HB2.out.trans (b4.mono hz3)⟩)
  clear r4 o4 b4
  go_wp2_with fail
  go_ret
  exact HF.out

theorem e_Nest {L : Value} {ps : List PcT} (w : World) (hL : PcsR w (fun g => g < w.heap.size) L ps) (hZ : sumZ ps ps.length ≤ 30000) :
    Calls Try.prog 12 #[L] w (NstP (nestA ps) w) :=
  e_NestB w hL (Nat.le_trans (sumZ_len ps _) hZ) (Nat.le_trans (sumN_len ps _) hZ) (Nat.le_trans hZ (by decide))
/-- Matches in new memory. -/
def PrsP (l : List (Nat × Nat × Nat)) (w : World) (e : Ending) (w' : World) : Prop :=
  ∃ A c, e = .returned (.slice A l.length c) ∧ ReadsS w' (NewG w w') 3 A l.length (trips l) ∧ Below w.heap.size w w'
set_option maxHeartbeats 4000000 in
set_option maxRecDepth 100000 in
theorem e_PairsB {L : Value} {ps : List PcT} (w : World) (hL : PcsR w (fun g => g < w.heap.size) L ps) (hlen : ps.length ≤ 30000) (hN : sumN ps ps.length ≤ 30000) :
    Calls Try.prog 14 #[L] w (PrsP (matchA ps).prs w) := by
  have HM := Lib.hid (e_match w hL hlen hN)
  clear hL
  go_enter Try.func14, Try.ntmps14
  go_wp2_with fail
  ((with_reducible refine HM.out.mono ?_))
  rintro e w1 ⟨rfl, b1, vE, vO, vP, S, vs, hE⟩
  obtain ⟨A3, c3, hv3, -, -⟩ := own_form hE.prs
  subst hv3
  have cP : w1.cell? ⟨w.heap.size + 1, 20, none⟩ = some (.slice A3 (matchA ps).prs.length c3) := hE.cel.cP
  have HF : Hid (PrsP (matchA ps).prs w (.returned (.slice A3 (matchA ps).prs.length c3)) w1) := Lib.hid ⟨A3, c3, rfl, ReadsS.of_own hE.prs, b1⟩
  clear hE b1 HM
  go_wp2_with fail
  go_ret
  exact HF.out

theorem e_Pairs {L : Value} {ps : List PcT} (w : World) (hL : PcsR w (fun g => g < w.heap.size) L ps) (hZ : sumZ ps ps.length ≤ 30000) :
    Calls Try.prog 14 #[L] w (PrsP (matchA ps).prs w) :=
  e_PairsB w hL (Nat.le_trans (sumZ_len ps _) hZ) (Nat.le_trans (sumN_len ps _) hZ)
end Go.Proofs.Ytfnloonmeilhlaa
namespace Go.Pub
open Go.RowKit
/-- A run, and a piece with a text. -/
def plR (c : ByteArray) (n : Int) (o k : Bool) : PcT := ⟨1, zeroT, c, n, o, k, false, 0, 0⟩
def plW (s : ByteArray) : PcT := ⟨0, txtT 1 s, ⟨#[]⟩, 0, false, false, false, 0, 0⟩
def plC (p : PcT) : Array Value := #[.int .i64 p.kind, .int .i64 p.inl.kind, .string p.inl.text, .string ⟨#[]⟩, .string ⟨#[]⟩, .string ⟨#[]⟩, .slice none 0 0, .slice none 0 0, .slice none 0 0, .slice none 0 0, .slice none 0 0, .string p.ch, .int .i64 p.n, .bool p.opn, .bool p.clo, .bool p.img, .int .i64 p.bg, .int .i64 p.nd]
theorem RepI.txt (w : World) (S : Nat → Prop) (k : Int) (s : ByteArray) : RepI w S #[.int .i64 k, .string s, .string ⟨#[]⟩, .string ⟨#[]⟩, .string ⟨#[]⟩, .slice none 0 0, .slice none 0 0, .slice none 0 0, .slice none 0 0, .slice none 0 0] (txtT k s) :=
  .mk k s ⟨#[]⟩ ⟨#[]⟩ noAt [] [] [] none none none none none 0 0 0 0 0 [] ReadsS.none_ ReadsS.none_ ReadsS.none_ ReadsS.none_ .nil ReadsS.none_
theorem plC_rep (w : World) (S : Nat → Prop) (p : PcT) (h : p.inl = txtT p.inl.kind p.inl.text) : RepPc w S (plC p) p :=
  ⟨#[.int .i64 p.inl.kind, .string p.inl.text, .string ⟨#[]⟩, .string ⟨#[]⟩, .string ⟨#[]⟩, .slice none 0 0, .slice none 0 0, .slice none 0 0, .slice none 0 0, .slice none 0 0], by rw [h]; exact RepI.txt w S _ _, by kernel_rfl⟩
/-- What is read of an inline. -/
theorem RepIs.look {w : World} {S : Nat → Prop} {vs : List (Array Value)} {l : List InT} {A : Option Addr} (h : RepIs w S vs l) (hr : ReadsS w S 10 A l.length (vs.flatMap Array.toList)) (i : Nat) (hi : i < l.length) :
    ∃ b off, A = some ⟨b, off, none⟩ ∧ S b ∧ w.cell? ⟨b, off + i * 10, none⟩ = some (.int .i64 l[i].kind) ∧ w.cell? ⟨b, off + i * 10 + 1, none⟩ = some (.string l[i].text) ∧
      ∃ A5 c5 vs5, w.cell? ⟨b, off + i * 10 + 9, none⟩ = some (.slice A5 l[i].kids.length c5) ∧ RepIs w S vs5 l[i].kids ∧ ReadsS w S 10 A5 l[i].kids.length (vs5.flatMap Array.toList) := by
  obtain ⟨b, off, e, hb, hc⟩ := hr.row (by omega) (by decide)
  obtain ⟨v, hv, hvc⟩ := h.at_ i hi
  generalize l[i] = x at *
  cases hv with
  | mk kind text dest title att args cites kids A1 A2 A3 A4 A5 c1 c2 c3 c4 c5 vs5 h1 h2 h3 h4 h5 h6 =>
  have hcell : ∀ j, j < 10 → ∀ u, (#[Value.int .i64 kind, .string text, .string dest, .string title, .string att.id, .slice A1 att.cl.length c1, .slice A2 att.pr.length c2, .slice A3 args.length c3, .slice A4 cites.length c4, .slice A5 kids.length c5] : Array Value)[j]? = some u → w.cell? ⟨b, off + i * 10 + j, none⟩ = some u := fun j hj u hu => by
    rw [Nat.add_assoc]
    exact hc (i * 10 + j) u ((hvc j hj).trans hu)
  exact ⟨b, off, e, hb, hcell 0 (by omega) _ rfl, hcell 1 (by omega) _ rfl, A5, c5, vs5, hcell 9 (by omega) _ rfl, h5, h6⟩
end Go.Pub
namespace Go.Proofs.Ytfnloonmeilhlaa
open Go.RowKit Go.Pub
theorem pc18 : (Try.prog.info? 39).map (·.size) = some 18 := by kernel_rfl
theorem pc_info : (Try.prog.info? 39).map (fun i => (i.zero, i.size, i.bytes)) = some (some (.agg (plC zP)), 18, 248) := by kernel_rfl
set_option maxHeartbeats 1000000 in
theorem l_run (c : ByteArray) (n : Int) (o k : Bool) (w : World) : Calls Try.prog 19 #[.string c, .int .i64 n, .bool o, .bool k] w fun e w' => e = .returned (.agg (plC (plR c n o k))) ∧ Below w.heap.size w w' := by
  have HL := Lib.hid (run_loadVar_row (P := Try.prog) (w.alloc (.cells (plC (plR c n o k)) 39)) w.heap.size 39 39 (plC (plR c n o k)) (0, 0) _ (heap_alloc_new w _) Try.underlying39 rfl pc18)
  go_enter Try.func19, Try.ntmps19
  go_wp2_with (refine wpList_store_row rfl 39 (.tmp 8) (.tmp 13) rfl w.heap.size (plC (plR c n o k)) rfl rfl 39 _ (Blk.new w _ _) pc18 (by rfl) (by simp [plC, Value.oneCell']) ?_; rw [World.setRow_alloc_new])
  refine row_ret Try.results19 HL.out ?_ ?_ ⟨rfl, (Below.refl _ w).alloc (Nat.le_refl _) _⟩
  · rfl
  · rfl

set_option maxHeartbeats 1000000 in
theorem l_word (s : ByteArray) (w : World) : Calls Try.prog 20 #[.string s] w fun e w' => e = .returned (.agg (plC (plW s))) ∧ Below w.heap.size w w' := by
  have HL := Lib.hid (run_loadVar_row (P := Try.prog) (w.alloc (.cells (plC (plW s)) 39)) w.heap.size 39 39 (plC (plW s)) (0, 0) _ (heap_alloc_new w _) Try.underlying39 rfl pc18)
  go_enter Try.func20, Try.ntmps20
  go_wp2_with (refine wpList_store_row rfl 39 (.tmp 2) (.tmp 5) rfl w.heap.size (plC (plW s)) rfl rfl 39 _ (Blk.new w _ _) pc18 (by rfl) (by simp [plC, Value.oneCell']) ?_; rw [World.setRow_alloc_new])
  refine row_ret Try.results20 HL.out ?_ ?_ ⟨rfl, (Below.refl _ w).alloc (Nat.le_refl _) _⟩
  · rfl
  · rfl

def plF (ps : List PcT) : Array Value := (ps.flatMap fun p => (plC p).toList).toArray
theorem pcs_fill5 (a b c d e : PcT) : Instr.fill (fun i => some (i * 18, 18)) ((Array.range (5 * 18)).map ((Value.agg (plC zP)).cells[· % (Value.agg (plC zP)).cells.size]!)) [(0, .agg (plC a)), (1, .agg (plC b)), (2, .agg (plC c)), (3, .agg (plC d)), (4, .agg (plC e))] = some (plF [a, b, c, d, e]) := by kernel_rfl
section
variable {ops : Array Oper} {rest : List Oper} {o : Oper} {ac : Act} {w : World} {Q : Exit → Act → World → Prop}
theorem wpList_pcs5 (hg : o.guard = none) (x y z u v : Operand) (ho : o.op = .buildSlice 22 5 #[(0, x), (1, y), (2, z), (3, u), (4, v)]) (a b c d e : PcT) (hx : ac.eval x = .agg (plC a)) (hy : ac.eval y = .agg (plC b)) (hz : ac.eval z = .agg (plC c)) (hu : ac.eval u = .agg (plC d)) (hv : ac.eval v = .agg (plC e))
    (h : wpList Try.prog ops Q rest (ac.put o.dst (.slice (some ⟨w.heap.size, 0, none⟩) 5 5)) (w.alloc (.cells (plF [a, b, c, d, e]) 39))) : wpList Try.prog ops Q (o :: rest) ac w := by
  obtain ⟨i0, hi0, hz0, hz1, hz2⟩ := info_parts pc_info
  refine wpList_buildSlice hg 22 39 5 _ ho _ i0 _ Try.underlying22 hi0 hz0 (by rw [hz1]; decide) (by rw [hz1]; decide) ?_ h
  rw [hz1]
  have e : (#[((0 : Nat), x), (1, y), (2, z), (3, u), (4, v)].map fun (q : Nat × Operand) => (q.1, ac.eval q.2)).toList = [(0, ac.eval x), (1, ac.eval y), (2, ac.eval z), (3, ac.eval u), (4, ac.eval v)] := by simp
  rw [hx, hy, hz, hu, hv] at e
  show Instr.fill _ _ (#[((0 : Nat), x), (1, y), (2, z), (3, u), (4, v)].map fun (q : Nat × Operand) => (q.1, ac.eval q.2)).toList = _
  rw [e]
  exact pcs_fill5 _ _ _ _ _
end
/-- Plain pieces that were laid. -/
theorem pcs_new (w : World) (ps : List PcT) (h : ∀ p ∈ ps, p.inl = txtT p.inl.kind p.inl.text) (hn : ps.length ≤ 1000) :
    PcsR (w.alloc (.cells (plF ps) 39)) (fun g => g < (w.alloc (.cells (plF ps) 39)).heap.size) (.slice (some ⟨w.heap.size, 0, none⟩) ps.length ps.length) ps := by
  have hfl : (ps.map plC).flatMap Array.toList = ps.flatMap fun p => (plC p).toList := by rw [List.flatMap_map]
  refine ⟨_, _, ps.map plC, rfl, List.length_map _, fun i hi => ?_, ⟨?_, by unfold maxLen; omega⟩, fun h0 => ⟨_, rfl, by simp, fun j u hj => ?_⟩⟩
  · rw [List.getD_eq_getElem?_getD, List.getElem?_map, List.getElem?_eq_getElem hi]
    have e : pcX ps i = ps[i] := by unfold pcX; rw [List.getD_eq_getElem?_getD, List.getElem?_eq_getElem hi]; rfl
    rw [e]
    exact plC_rep _ _ _ (h _ (List.getElem_mem hi))
  · rw [flatz_len 18 _ (fun v hv => by obtain ⟨p, -, rfl⟩ := List.mem_map.1 hv; rfl), List.length_map]
  · have hadd : (⟨w.heap.size, 0, none⟩ : Addr).add j = ⟨w.heap.size, j, none⟩ := by unfold Addr.add; split <;> simp_all
    rw [hadd, Lib.cell_of_heap (heap_alloc_new w _)]
    unfold plF
    rw [hfl] at hj
    simpa using hj
end Go.Proofs.Ytfnloonmeilhlaa
namespace Go.Pub
open Go.RowKit
def bsT (l : List UInt8) : ByteArray := ⟨l.toArray⟩
theorem bsT_size (l : List UInt8) : (bsT l).size = l.length := by show l.toArray.size = _; simp
theorem cat_s {P : Program} (w : World) (a : List UInt8) (s : ByteArray) (h : a.length + s.size ≤ 9223372036854775807) : (Op.stringOp .add (bsT a) s).run P w = .ok (.string (bsT (a ++ s.toList))) w := by
  rw [run_string_add_sum w _ _ (by rw [bsT_size]; exact h)]
  congr 2
  show (⟨a.toArray⟩ : ByteArray) ++ s = ⟨(a ++ s.toList).toArray⟩
  rw [Lib.toList_data]
  apply ByteArray.ext
  rw [ByteArray.data_append]
  simp
end Go.Pub
namespace Go.Proofs.Ytfnloonmeilhlaa
open Go.RowKit Go.Pub
end Go.Proofs.Ytfnloonmeilhlaa
