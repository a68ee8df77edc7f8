/-
  Texts of the proof, put together (what this law reaches): EmMD, EmVB, EmCA, EmSB, EmSC, EmSD, EmME.
-/
import Derived.Test.YtfnloonmeilhlaaX06
import Derived.Test.YtfnloonmeilhlaaX01
import Derived.Test.YtfnloonmeilhlaaX05
import Derived.Test.YtfnloonmeilhlaaX04
set_option linter.unusedVariables false
set_option linter.unusedSimpArgs false
namespace Go.Pub
theorem catT_len : ∀ l : List InT, (catT l).length ≤ sizeL l
  | [] => Nat.zero_le _
  | x :: l => by
    have ih := catT_len l
    have hx : x.text.toList.length ≤ sizeI x := by
      obtain ⟨k, t, d, ti, a, ar, c, ks⟩ := x
      rw [sizeI]
      have : (InT.mk k t d ti a ar c ks).text.toList.length = t.size := by
        show t.toList.length = t.size
        rw [Lib.toList_data]; exact Array.length_toList
      omega
    show (x.text.toList ++ catT l).length ≤ _
    rw [List.length_append, sizeL]
    omega
theorem sizeL_app : ∀ a b : List InT, sizeL (a ++ b) = sizeL a + sizeL b
  | [], b => by rw [List.nil_append]; show _ = sizeL [] + _; rw [sizeL]; omega
  | x :: a, b => by rw [List.cons_append, sizeL, sizeL, sizeL_app a b]; omega
theorem segL_size (l : List InT) (i j : Nat) : sizeL (segL l i j) ≤ sizeL l := by
  unfold segL
  have h1 := sizeL_app ((l.drop i).take (j - i)) ((l.drop i).drop (j - i))
  have h2 := sizeL_app (l.take i) (l.drop i)
  rw [List.take_append_drop] at h1 h2
  omega
end Go.Pub
namespace Go.Proofs.Ytfnloonmeilhlaa
open Go.RowKit Go.Pub
/-- What holds in the loop over a run of texts. -/
structure TxW (l : List InT) (i j : Nat) (f : Int) (wr wx : World) : Prop where
  bel : Below wr.heap.size wr wx
  bld : Lib.IsBuilderF 84 5 wr.heap.size wr.heap.size (Lib.byteCells (catT (segL l i j))) wx
  kinds : ∀ (q : Nat) (hq : q < l.length), i ≤ q → q < j → l[q].kind = 1
  fst : (f = -1 ∧ firstT (segL l i j) = none) ∨ ∃ (q : Nat) (hq : q < l.length), f = q ∧ i ≤ q ∧ q < j ∧ firstT (segL l i j) = some l[q]
theorem TxW.start (l : List InT) (i : Nat) (wr : World) : TxW l i i (-1) wr (wr.alloc (.cells #[.pointer none, .slice none 0 0] 84)) :=
  ⟨(Below.refl _ wr).alloc (Nat.le_refl _) _, by rw [segL_nil]; exact Lib.IsBuilderF.of (Lib.fresh_isBuilder 84 5 wr), fun q hq h1 h2 => absurd h2 (by omega), .inl ⟨rfl, by rw [segL_nil]; rfl⟩⟩
theorem TxW.step {l : List InT} {i j : Nat} {f f' : Int} {wr wx w2 : World} (h : TxW l i j f wr wx) (hij : i ≤ j) (hj : j < l.length) (hk : l[j].kind = 1) (hb : Below wr.heap.size wx w2)
    (hbd : Lib.IsBuilderF 84 5 wr.heap.size wr.heap.size (Lib.byteCells (catT (segL l i j)) ++ Lib.byteCells l[j].text.toList) w2)
    (hf : f' = if f = -1 ∧ l[j].text.toList ≠ [] then (j : Int) else f) : TxW l i (j + 1) f' wr w2 := by
  refine ⟨h.bel.trans hb, ?_, fun q hq h1 h2 => ?_, ?_⟩
  · rw [segL_snoc hij hj, catT_snoc, Lib.byteCells_append]; exact hbd
  · rcases Nat.lt_or_ge q j with h3 | h3
    · exact h.kinds q hq h1 h3
    · obtain rfl : q = j := by omega
      exact hk
  · rw [segL_snoc hij hj, firstT_snoc]
    rcases h.fst with ⟨e, h0⟩ | ⟨q, hq, e, h1, h2, h0⟩
    · rw [h0, hf]
      by_cases ht : l[j].text.toList = []
      · rw [if_neg (fun h => h.2 ht)]
        exact .inl ⟨e, by simp [ht]⟩
      · rw [if_pos ⟨e, ht⟩]
        exact .inr ⟨j, hj, rfl, hij, by omega, by simp [ht]⟩
    · rw [h0, hf, if_neg (fun h => by have := h.1; omega)]
      exact .inr ⟨q, hq, e, h1, by omega, rfl⟩
end Go.Proofs.Ytfnloonmeilhlaa
namespace Go.Pub
theorem toI_core {ps : List PcT} {a b : ElL} (h1 : a.t = b.t) (h2 : a.run = b.run) (h3 : a.pc = b.pc) (h4 : a.left = b.left) : toI ps a = toI ps b := by
  unfold toI; rw [h1, h2, h3, h4]
theorem toI_run {ps : List PcT} {xs : List ElL} {i : Nat} (h : runX xs i = true) : toI ps (elX xs i) = txtT 1 ⟨(repB (pcX ps (pX xs i)).ch (lfX xs i)).toArray⟩ := by
  unfold toI
  rw [if_pos (show (elX xs i).run = true from h)]
  rfl
theorem toI_inl {ps : List PcT} {xs : List ElL} {i : Nat} (h : runX xs i = false) : toI ps (elX xs i) = (elX xs i).t := by
  unfold toI
  rw [if_neg (by rw [show (elX xs i).run = false from h]; decide)]
section
variable {ps : List PcT} {st : EmS} {o c j k : Nat} {ids : List Nat}
theorem toI_mtch (ho : o < st.xs.length) (hc : c < st.xs.length) (hne : o ≠ c) (h1 : j ≠ o) (h2 : j ≠ c) (h3 : j ≠ st.xs.length) : toI ps (elX (mtchA ps st o c).xs j) = toI ps (elX st.xs j) := by
  obtain ⟨e1, e2, e3, e4⟩ := core_mtch' (ps := ps) ho hc hne h3
  rw [if_neg (by omega)] at e4
  exact toI_core e1 e2 e3 e4
theorem toI_mtch0 (ho : o < st.xs.length) (hc : c < st.xs.length) (hne : o ≠ c) : toI ps (elX (mtchA ps st o c).xs st.xs.length) = kidT (pairK ps st.xs o c) (betA ps st.xs o c) := by
  obtain ⟨e1, e2⟩ := core_mtch0 (ps := ps) ho hc hne
  rw [toI_inl e2, e1]
theorem toI_mtchR (ho : o < st.xs.length) (hc : c < st.xs.length) (hne : o ≠ c) (hj : j = o ∨ j = c) (hr : runX st.xs j = true) : toI ps (elX (mtchA ps st o c).xs j) = txtT 1 ⟨(repB (pcX ps (pX st.xs j)).ch (lfX st.xs j - pairN st.xs o c)).toArray⟩ := by
  obtain ⟨e1, e2, e3, e4⟩ := core_mtch' (ps := ps) (j := j) ho hc hne (by omega)
  rw [if_pos hj] at e4
  rw [toI_run (e2.trans hr), e3, e4]
theorem pairN_one : 1 ≤ pairN st.xs o c ∧ pairN st.xs o c ≤ 2 := by unfold pairN; split <;> omega
theorem toI_ins {e : ElL} (h : j ≠ st.xs.length) : toI ps (elX (insX st.xs e 0) j) = toI ps (elX st.xs j) := by
  obtain ⟨e1, e2, e3, e4⟩ := core_ins' (xs := st.xs) (e := e) (k := 0) h
  exact toI_core e1 e2 e3 e4
theorem toI_ins0 {e : ElL} : toI ps (elX (insX st.xs e 0) st.xs.length) = toI ps e := by
  obtain ⟨e1, e2, e3, e4⟩ := core_ins0 (xs := st.xs) (e := e) (k := 0)
  exact toI_core e1 e2 e3 e4
/-- The inlines of elements. -/
def inlsA (ps : List PcT) (st : EmS) (ids : List Nat) : List InT := ids.map fun i => toI ps (elX st.xs i)
theorem inlsA_app (a b : List Nat) : inlsA ps st (a ++ b) = inlsA ps st a ++ inlsA ps st b := List.map_append
theorem inlsA_eq {st' : EmS} (h : ∀ i ∈ ids, toI ps (elX st'.xs i) = toI ps (elX st.xs i)) : inlsA ps st' ids = inlsA ps st ids := List.map_congr_left h
/-- What stands in the ring ahead of and behind the parts of a match is not of it. -/
theorem ring_parts {A B : List Nat} {R : Nat} {xs : List ElL} (h : RingI xs (A ++ R :: (B ++ [c]))) : (∀ i ∈ A, i ≠ R ∧ i ≠ c ∧ i < xs.length) ∧ (∀ i ∈ B, i ≠ R ∧ i ≠ c ∧ i < xs.length) ∧ R ≠ c ∧ R < xs.length ∧ c < xs.length := by
  have hn := (List.nodup_cons.1 h.nd).2
  rw [List.nodup_append] at hn
  obtain ⟨-, hn2, hn3⟩ := hn
  rw [List.nodup_cons, List.nodup_append] at hn2
  obtain ⟨hn4, -, -, hn5⟩ := hn2
  refine ⟨fun i hi => ⟨hn3 i hi R (by simp), hn3 i hi c (by simp), h.bd i (by simp [hi])⟩, fun i hi => ⟨fun e => hn4 (by simp [← e, hi]), hn5 i hi c (by simp), h.bd i (by simp [hi])⟩, fun e => hn4 (by simp [e]), h.bd R (by simp), h.bd c (by simp)⟩
/-- The inlines behind a match. -/
theorem inls_mtch {A B : List Nat} {R : Nat} {x : Nat} (h : RingI st.xs (A ++ R :: (B ++ [c]))) (hr : runX st.xs R = true) (hc : runX st.xs c = true) :
    inlsA ps (mtchA ps st R c) (A ++ (if lfX st.xs R ≤ pairN st.xs R c then [] else [R]) ++ st.xs.length :: (if lfX st.xs c ≤ pairN st.xs R c then [] else [c])) =
      inlsA ps st A ++ (if lfX st.xs R ≤ pairN st.xs R c then [] else [txtT 1 ⟨(repB (pcX ps (pX st.xs R)).ch (lfX st.xs R - pairN st.xs R c)).toArray⟩]) ++ kidT (pairK ps st.xs R c) (inlsA ps st B) ::
        (if lfX st.xs c ≤ pairN st.xs R c then [] else [txtT 1 ⟨(repB (pcX ps (pX st.xs c)).ch (lfX st.xs c - pairN st.xs R c)).toArray⟩]) := by
  obtain ⟨h1, h2, h3, h4, h5⟩ := ring_parts h
  rw [inlsA_app, inlsA_app, inlsA_eq (st' := mtchA ps st R c) (st := st) fun i hi => toI_mtch h4 h5 h3 (h1 i hi).1 (h1 i hi).2.1 (by have := (h1 i hi).2.2; omega)]
  congr 1
  · congr 1
    split
    · rfl
    · show [toI ps (elX _ R)] = _
      rw [toI_mtchR h4 h5 h3 (.inl rfl) hr]
  · show toI ps (elX _ _) :: List.map _ _ = _
    rw [toI_mtch0 h4 h5 h3, (betA_eq h).1]
    congr 1
    split
    · rfl
    · show [toI ps (elX _ c)] = _
      rw [toI_mtchR h4 h5 h3 (.inr rfl) hc]
end
theorem repB_len {c : ByteArray} (h : c.size = 1) : ∀ n, (repB c n).length = n
  | 0 => rfl
  | n + 1 => by
    show (c.toList ++ repB c n).length = _
    have hl : c.toList.length = c.size := by rw [Lib.toList_data]; exact Array.length_toList
    rw [List.length_append, repB_len h n, hl, h]; omega
theorem sizeI_txt (k : Int) (l : List UInt8) : sizeI (txtT k ⟨l.toArray⟩) = 1 + l.length := by
  unfold txtT
  rw [sizeI]
  show 1 + l.toArray.size + 0 + 0 + 0 + 0 + sizeL [] = _
  rw [sizeL]; simp
theorem sizeI_kid (k : Int) (l : List InT) : sizeI (kidT k l) = 1 + sizeL l := by
  unfold kidT
  rw [sizeI]; rfl
/-- The size of a piece's inlines and characters. -/
def pcZ (p : PcT) : Nat := sizeI p.inl + 1 + p.n.toNat
def sumZ (ps : List PcT) : Nat → Nat
  | 0 => 0
  | k + 1 => sumZ ps k + pcZ (pcX ps k)
theorem sizeL_one (x : InT) : sizeL [x] = sizeI x := by rw [sizeL, sizeL]; omega
theorem size_match (ps : List PcT) : ∀ k, k ≤ ps.length → ∃ ids, MatI ps k (matchF ps k) ids ∧ sizeL (inlsA ps (matchF ps k) ids) ≤ sumZ ps k := by
  refine match_ind ps (fun k st ids => sizeL (inlsA ps st ids) ≤ sumZ ps k) (Nat.zero_le _) ?_ ?_ ?_ ?_ ?_
  · intro k st ids h hk hp hc hP
    exact Nat.le_trans hP (Nat.le_add_right _ _)
  · intro k st ids h hk hp hk0 hi hP
    have e1 : inlsA ps (inlS ps st k) ids = inlsA ps st ids := inlsA_eq fun i hi => toI_ins (by have := h.em.ring.bd i hi; omega)
    have e2 : inlsA ps (inlS ps st k) [st.xs.length] = [(pcX ps k).inl] := by
      show [toI ps (elX (insX st.xs { t := (pcX ps k).inl } 0) st.xs.length)] = _
      rw [toI_ins0]; rfl
    rw [inlsA_app, sizeL_app, e1, e2, sizeL_one]
    show _ ≤ sumZ ps k + pcZ _
    unfold pcZ; omega
  · intro k st ids h hk hp hP
    have e1 : inlsA ps (runS ps st k) ids = inlsA ps st ids := inlsA_eq fun i hi => toI_ins (by have := h.em.ring.bd i hi; omega)
    have e2 : inlsA ps (runS ps st k) [st.xs.length] = [txtT 1 ⟨(repB (pcX ps k).ch (pcX ps k).n.toNat).toArray⟩] := by
      show [toI ps (elX (insX st.xs (runE k (pcX ps k).n.toNat) 0) st.xs.length)] = _
      rw [toI_ins0]; rfl
    rw [inlsA_app, sizeL_app, e1, e2, sizeL_one, sizeI_txt, repB_len (runP_size hp)]
    show _ ≤ sumZ ps k + pcZ _
    unfold pcZ; omega
  · intro k c st A B R hk hclo h hl hR hR0 hB hg hr hlr hP
    obtain ⟨r1, r2, r3⟩ := h.rb R hr
    obtain ⟨s1, s2, s3⟩ := h.rb c h.run
    rw [inls_mtch (x := 0) hg hr h.run]
    have hpn := pairN_one (st := st) (o := R) (c := c)
    have hsplit : inlsA ps st (A ++ R :: (B ++ [c])) = inlsA ps st A ++ txtT 1 ⟨(repB (pcX ps (pX st.xs R)).ch (lfX st.xs R)).toArray⟩ :: (inlsA ps st B ++ [txtT 1 ⟨(repB (pcX ps (pX st.xs c)).ch (lfX st.xs c)).toArray⟩]) := by
      rw [inlsA_app]
      congr 1
      show toI ps (elX st.xs R) :: List.map _ (B ++ [c]) = _
      rw [toI_run hr, List.map_append]
      congr 2
      show [toI ps (elX st.xs c)] = _
      rw [toI_run h.run]
    rw [hsplit, sizeL_app, sizeL, sizeL_app, sizeL_one, sizeI_txt, sizeI_txt, repB_len (runP_size r2), repB_len (runP_size s2)] at hP
    rw [sizeL_app, sizeL_app, sizeL, sizeI_kid]
    have t1 : sizeL (if lfX st.xs R ≤ pairN st.xs R c then [] else [txtT 1 ⟨(repB (pcX ps (pX st.xs R)).ch (lfX st.xs R - pairN st.xs R c)).toArray⟩]) ≤ lfX st.xs R := by
      split
      · rw [sizeL]; omega
      · rw [sizeL_one, sizeI_txt, repB_len (runP_size r2)]; omega
    have t2 : sizeL (if lfX st.xs c ≤ pairN st.xs R c then [] else [txtT 1 ⟨(repB (pcX ps (pX st.xs c)).ch (lfX st.xs c - pairN st.xs R c)).toArray⟩]) ≤ lfX st.xs c := by
      split
      · rw [sizeL]; omega
      · rw [sizeL_one, sizeI_txt, repB_len (runP_size s2)]; omega
    omega
  · intro k c st ids hP
    exact hP
end Go.Pub
namespace Go.Pub
open Go.RowKit
theorem wgtL_sz (g : List InT → Nat) (hg : ∀ l, g l < 1000 → sizeL l ≤ 399 * g l) : ∀ (l : List InT) (n : Nat), wgtL g n l < 1000 → n ≤ wgtL g n l ∧ sizeL l ≤ 399 * (wgtL g n l - n) + 399 * l.length
  | [], n, _ => by unfold wgtL; exact ⟨Nat.le_refl _, by rw [sizeL]; omega⟩
  | x :: l, n, h => by
    unfold wgtL at h ⊢
    by_cases h1 : 1000 ≤ n
    · rw [if_pos h1] at h; omega
    · rw [if_neg h1] at h ⊢
      by_cases h2 : badI x = true
      · rw [if_pos h2] at h; omega
      · rw [if_neg h2] at h ⊢
        obtain ⟨a1, a2⟩ := wgtL_sz g hg l _ h
        have a3 := hg x.kids (by omega)
        have a4 : sizeI x ≤ 399 + sizeL x.kids := by
          obtain ⟨k, t, d, ti, a, ar, c, ks⟩ := x
          unfold badI longA at h2
          simp only [Bool.or_eq_true, decide_eq_true_eq, not_or, Nat.not_lt] at h2
          obtain ⟨b1, ⟨b2, b3, -⟩, b4, b5⟩ := h2
          rw [sizeI]
          show _ ≤ 399 + sizeL ks
          omega
        refine ⟨by omega, ?_⟩
        rw [sizeL, List.length_cons]
        omega
theorem wgtF_sz : ∀ (f : Nat) (l : List InT), wgtF f l < 1000 → sizeL l ≤ 399 * wgtF f l
  | 0, l, h => by unfold wgtF at h; omega
  | f + 1, l, h => by
    unfold wgtF at h ⊢
    by_cases h1 : 200 < l.length
    · rw [if_pos h1] at h; omega
    · rw [if_neg h1] at h ⊢
      obtain ⟨a1, a2⟩ := wgtL_sz (wgtF f) (wgtF_sz f) l l.length h
      omega
theorem pcX_get {ps : List PcT} {i : Nat} (hi : i < ps.length) : pcX ps i = ps[i] := by
  unfold pcX; rw [List.getD_eq_getElem?_getD, List.getElem?_eq_getElem hi]; rfl
/-- What few pieces are. -/
theorem few_bd {ps : List PcT} (h : fewP ps = true) : ps.length ≤ 40 ∧ (∀ i, i < ps.length → (pcX ps i).ch.size ≤ 9 ∧ (pcX ps i).n ≤ 40) ∧ sizeL (ps.map (·.inl)) ≤ 47481 := by
  unfold fewP at h
  simp only [Bool.and_eq_true, decide_eq_true_eq, List.all_eq_true] at h
  obtain ⟨h1, h2, h3⟩ := h
  refine ⟨h1, fun i hi => ?_, ?_⟩
  · rw [pcX_get hi]; exact h2 _ (List.getElem_mem hi)
  · have := wgtF_sz 21 (ps.map (·.inl)) (by omega)
    omega
theorem sumN_few {ps : List PcT} (h : ∀ i, i < ps.length → (pcX ps i).n ≤ 40) : ∀ k, k ≤ ps.length → sumN ps k ≤ 40 * k
  | 0, _ => Nat.le_refl _
  | k + 1, hk => by
    have h1 := sumN_few h k (by omega)
    have h2 := h k (by omega)
    show sumN ps k + (if runP (pcX ps k) = true then _ else 0) ≤ _
    split <;> omega
theorem sizeL_take (l : List InT) {k : Nat} (h : k < l.length) : sizeL (l.take (k + 1)) = sizeL (l.take k) + sizeI l[k] := by
  rw [List.take_succ_eq_append_getElem h, sizeL_app, sizeL_one]
theorem sumZ_few {ps : List PcT} (h : ∀ i, i < ps.length → (pcX ps i).n ≤ 40) : ∀ k, k ≤ ps.length → sumZ ps k ≤ sizeL ((ps.map (·.inl)).take k) + 41 * k
  | 0, _ => Nat.zero_le _
  | k + 1, hk => by
    have h1 := sumZ_few h k (by omega)
    have h2 := h k (by omega)
    have hl : k < (ps.map (·.inl)).length := by rw [List.length_map]; omega
    rw [sizeL_take _ hl, List.getElem_map, ← pcX_get (by omega)]
    show sumZ ps k + pcZ _ ≤ _
    unfold pcZ
    omega
theorem few_sums {ps : List PcT} (h : fewP ps = true) : ps.length ≤ 40 ∧ sumN ps ps.length ≤ 1600 ∧ sumZ ps ps.length ≤ 50000 := by
  obtain ⟨h1, h2, h3⟩ := few_bd h
  have h4 := sumN_few (fun i hi => (h2 i hi).2) ps.length (Nat.le_refl _)
  have h5 := sumZ_few (fun i hi => (h2 i hi).2) ps.length (Nat.le_refl _)
  have h6 : (ps.map (·.inl)).take ps.length = ps.map (·.inl) := by rw [← List.length_map (f := fun p : PcT => p.inl), List.take_length]
  rw [h6] at h5
  omega
/-- A match does not cross another one. -/
def NoX (s t : Nat × Nat × Nat) : Prop := s.1 < t.1 → (t.1 < s.2.1 ∧ t.2.1 ≤ s.2.1) ∨ s.2.1 ≤ t.1
structure CrI (k : Nat) (st : EmS) (ids : List Nat) : Prop where
  fit : ∀ t ∈ st.prs, t.1 < t.2.1 ∧ t.2.1 < k ∧ 1 ≤ t.2.2 ∧ t.2.2 ≤ 2
  nox : ∀ s ∈ st.prs, ∀ t ∈ st.prs, NoX s t
  out : ∀ x ∈ ids, runX st.xs x = true → pX st.xs x < k ∧ ∀ t ∈ st.prs, pX st.xs x ≤ t.1 ∨ t.2.1 ≤ pX st.xs x
  asc : ids.Pairwise fun a b => runX st.xs a = true → runX st.xs b = true → pX st.xs a < pX st.xs b
theorem CrI.congr {k : Nat} {st st' : EmS} {ids : List Nat} (h : CrI k st ids) (hp : st'.prs = st.prs) (he : ∀ x ∈ ids, runX st'.xs x = runX st.xs x ∧ pX st'.xs x = pX st.xs x) : CrI k st' ids :=
  ⟨by rw [hp]; exact h.fit, by rw [hp]; exact h.nox, fun x hx hr => by
    rw [(he x hx).1] at hr
    rw [(he x hx).2, hp]
    exact h.out x hx hr, h.asc.imp_of_mem fun ha hb hab r1 r2 => by
    rw [(he _ ha).1] at r1
    rw [(he _ hb).1] at r2
    rw [(he _ ha).2, (he _ hb).2]
    exact hab r1 r2⟩
theorem CrI.up {k : Nat} {st : EmS} {ids : List Nat} (h : CrI k st ids) : CrI (k + 1) st ids :=
  ⟨fun t ht => by have := h.fit t ht; omega, h.nox, fun x hx hr => ⟨by have := (h.out x hx hr).1; omega, (h.out x hx hr).2⟩, h.asc⟩
theorem CrI.snoc {k y : Nat} {st : EmS} {ids : List Nat} (h : CrI k st ids) (hy : runX st.xs y = true → pX st.xs y = k) : CrI (k + 1) st (ids ++ [y]) := by
  refine ⟨fun t ht => by have := h.fit t ht; omega, h.nox, fun x hx hr => ?_, ?_⟩
  · rw [List.mem_append, List.mem_singleton] at hx
    rcases hx with hx | rfl
    · exact ⟨by have := (h.out x hx hr).1; omega, (h.out x hx hr).2⟩
    · rw [hy hr]
      exact ⟨by omega, fun t ht => .inr (by have := h.fit t ht; omega)⟩
  · rw [List.pairwise_append]
    refine ⟨h.asc, List.pairwise_singleton _ _, fun a ha b hb r1 r2 => ?_⟩
    rw [List.mem_singleton] at hb
    subst hb
    rw [hy r2]
    exact (h.out a ha r1).1
theorem cross_all (ps : List PcT) : ∀ k, k ≤ ps.length → ∃ ids, MatI ps k (matchF ps k) ids ∧ CrI k (matchF ps k) ids := by
  refine match_ind ps CrI ⟨fun t ht => absurd ht (by simp [start0]), fun t ht => absurd ht (by simp [start0]), fun x hx => absurd hx (by simp), .nil⟩ ?_ ?_ ?_ ?_ ?_
  · intro k st ids hM hk hp hc hP
    exact hP.up
  · intro k st ids hM hk hp hk0 hi hP
    refine CrI.snoc (hP.congr (st' := inlS ps st k) rfl fun x hx => ?_) fun hr => ?_
    · obtain ⟨e1, e2, e3, e4⟩ := core_ins' (xs := st.xs) (e := { t := (pcX ps k).inl }) (k := 0) (j := x) (by have := hM.em.ring.bd x hx; omega)
      exact ⟨e2, e3⟩
    · obtain ⟨e1, e2, e3, e4⟩ := core_ins0 (xs := st.xs) (e := { t := (pcX ps k).inl }) (k := 0)
      have : runX (inlS ps st k).xs st.xs.length = false := e2
      rw [this] at hr; cases hr
  · intro k st ids hM hk hp hP
    refine CrI.snoc (hP.congr (st' := runS ps st k) rfl fun x hx => ?_) fun hr => ?_
    · obtain ⟨e1, e2, e3, e4⟩ := core_ins' (xs := st.xs) (e := runE k (pcX ps k).n.toNat) (k := 0) (j := x) (by have := hM.em.ring.bd x hx; omega)
      exact ⟨e2, e3⟩
    · obtain ⟨e1, e2, e3, e4⟩ := core_ins0 (xs := st.xs) (e := runE k (pcX ps k).n.toNat) (k := 0)
      exact e3
  · intro k c st A B R hk hclo h hl hR hR0 hB hg hr hlr hP
    obtain ⟨r1, r2, r3, r4, r5⟩ := ring_parts hg
    have hpn := pairN_one (st := st) (o := R) (c := c)
    have hpc : pX st.xs c = k := h.pc
    have hprs : (mtchA ps st R c).prs = st.prs ++ [(pX st.xs R, pX st.xs c, pairN st.xs R c)] := rfl
    have hoR := hP.out R (by simp) hr
    have hRc : pX st.xs R < pX st.xs c := by
      have h1 := (List.pairwise_append.1 hP.asc).2.1
      rw [List.pairwise_cons] at h1
      exact h1.1 c (by simp) hr h.run
    have hA : ∀ a ∈ A, runX st.xs a = true → pX st.xs a < pX st.xs R := fun a ha hra => (List.pairwise_append.1 hP.asc).2.2 a ha R (by simp) hra hr
    have hcore : ∀ x, x ≠ st.xs.length → runX (mtchA ps st R c).xs x = runX st.xs x ∧ pX (mtchA ps st R c).xs x = pX st.xs x := fun x hx => by
      obtain ⟨-, e2, e3, -⟩ := core_mtch' (ps := ps) r4 r5 r3 hx
      exact ⟨e2, e3⟩
    have hnew : runX (mtchA ps st R c).xs st.xs.length = false := (core_mtch0 (ps := ps) r4 r5 r3).2
    -- who stays in the ring
    have hmem : ∀ x ∈ A ++ (if lfX st.xs R ≤ pairN st.xs R c then [] else [R]) ++ st.xs.length :: (if lfX st.xs c ≤ pairN st.xs R c then [] else [c]), x = st.xs.length ∨ (x ≠ st.xs.length ∧ (x ∈ A ∨ x = R ∨ x = c)) := by
      intro x hx
      by_cases hxl : x = st.xs.length
      · exact .inl hxl
      · refine .inr ⟨hxl, ?_⟩
        rw [List.mem_append, List.mem_append, List.mem_cons] at hx
        rcases hx with (hx | hx) | hx | hx
        · exact .inl hx
        · split at hx
          · cases hx
          · exact .inr (.inl (by simpa using hx))
        · exact absurd hx hxl
        · split at hx
          · cases hx
          · exact .inr (.inr (by simpa using hx))
    refine ⟨fun t ht => ?_, fun s hs t ht => ?_, fun x hx hrx => ?_, ?_⟩
    · rw [hprs, List.mem_append, List.mem_singleton] at ht
      rcases ht with ht | rfl
      · exact hP.fit t ht
      · exact ⟨hRc, by show pX st.xs c < _; omega, hpn.1, hpn.2⟩
    · rw [hprs, List.mem_append, List.mem_singleton] at hs ht
      rcases hs with hs | rfl
      · rcases ht with ht | rfl
        · exact hP.nox s hs t ht
        · intro hlt
          have hlt : s.1 < pX st.xs R := hlt
          rcases hoR.2 s hs with h1 | h1
          · omega
          · exact .inr h1
      · rcases ht with ht | rfl
        · intro hlt
          have hf := hP.fit t ht
          refine .inl ⟨?_, ?_⟩
          · show t.1 < pX st.xs c; omega
          · show t.2.1 ≤ pX st.xs c; omega
        · intro hlt
          exact absurd hlt (Nat.lt_irrefl _)
    · rcases hmem x hx with rfl | ⟨hxl, hx3⟩
      · rw [hnew] at hrx; cases hrx
      · rw [(hcore x hxl).1] at hrx
        rw [(hcore x hxl).2, hprs]
        have hold : pX st.xs x < k + 1 ∧ ∀ t ∈ st.prs, pX st.xs x ≤ t.1 ∨ t.2.1 ≤ pX st.xs x := hP.out x (by rcases hx3 with h1 | rfl | rfl <;> simp_all) hrx
        refine ⟨hold.1, fun t ht => ?_⟩
        rw [List.mem_append, List.mem_singleton] at ht
        rcases ht with ht | rfl
        · exact hold.2 t ht
        · rcases hx3 with h1 | rfl | rfl
          · exact .inl (Nat.le_of_lt (hA x h1 hrx))
          · exact .inl (Nat.le_refl _)
          · exact .inr (Nat.le_refl _)
    · have hasc : (A ++ (if lfX st.xs R ≤ pairN st.xs R c then [] else [R]) ++ (if lfX st.xs c ≤ pairN st.xs R c then [] else [c])).Pairwise fun a b => runX st.xs a = true → runX st.xs b = true → pX st.xs a < pX st.xs b := by
        refine hP.asc.sublist ?_
        rw [List.append_assoc]
        refine List.Sublist.append (List.Sublist.refl _) ?_
        have s1 : (if lfX st.xs R ≤ pairN st.xs R c then ([] : List Nat) else [R]).Sublist [R] := by split <;> simp
        have s2 : (if lfX st.xs c ≤ pairN st.xs R c then ([] : List Nat) else [c]).Sublist (B ++ [c]) := by
          split
          · simp
          · exact List.sublist_append_right _ _
        exact s1.append s2
      rw [List.pairwise_append] at hasc ⊢
      have hlen : ∀ x ∈ A ++ (if lfX st.xs R ≤ pairN st.xs R c then [] else [R]), x ≠ st.xs.length := fun x hx e => by
        rw [List.mem_append] at hx
        rcases hx with hx | hx
        · have := (r1 x hx).2.2; omega
        · split at hx
          · cases hx
          · have : x = R := by simpa using hx
            omega
      have hlc : ∀ x ∈ (if lfX st.xs c ≤ pairN st.xs R c then ([] : List Nat) else [c]), x ≠ st.xs.length := fun x hx e => by
        split at hx
        · cases hx
        · have : x = c := by simpa using hx
          omega
      refine ⟨hasc.1.imp_of_mem fun ha hb hab q1 q2 => ?_, ?_, fun a ha b hb q1 q2 => ?_⟩
      · rw [(hcore _ (hlen _ ha)).1] at q1
        rw [(hcore _ (hlen _ hb)).1] at q2
        rw [(hcore _ (hlen _ ha)).2, (hcore _ (hlen _ hb)).2]
        exact hab q1 q2
      · rw [List.pairwise_cons]
        refine ⟨fun b hb q1 => (by rw [hnew] at q1; cases q1), ?_⟩
        split
        · exact .nil
        · exact List.pairwise_singleton _ _
      · rw [List.mem_cons] at hb
        rcases hb with rfl | hb
        · rw [hnew] at q2; cases q2
        · rw [(hcore _ (hlen _ ha)).1] at q1
          rw [(hcore _ (hlc _ hb)).1] at q2
          rw [(hcore _ (hlen _ ha)).2, (hcore _ (hlc _ hb)).2]
          exact hasc.2.2 a ha b hb q1 q2
  · intro k c st ids hP
    exact hP.congr rfl fun x _ => ⟨rfl, rfl⟩
end Go.Pub
namespace Go.Pub
open Go.RowKit
theorem sumS_drop {l : List ByteArray} {i : Nat} (h : i < l.length) : sumS (l.drop i) = l[i].size + sumS (l.drop (i + 1)) := by
  rw [List.drop_eq_getElem_cons h]; rfl
theorem sumP_drop {l : List (ByteArray × ByteArray)} {i : Nat} (h : i < l.length) : sumP (l.drop i) = l[i].1.size + l[i].2.size + sumP (l.drop (i + 1)) := by
  rw [List.drop_eq_getElem_cons h]; rfl
theorem strs_at' (l : List ByteArray) (k : Nat) (h : k < l.length) : (strs l)[k]? = some (.string l[k]) := by
  unfold strs; rw [List.getElem?_map, List.getElem?_eq_getElem h]; rfl
theorem prs_at' : ∀ (l : List (ByteArray × ByteArray)) (k : Nat) (h : k < l.length), (prs l)[k * 2]? = some (.string l[k].1) ∧ (prs l)[k * 2 + 1]? = some (.string l[k].2)
  | x :: l, 0, _ => ⟨rfl, rfl⟩
  | x :: l, k + 1, h => by
    have := prs_at' l k (by simpa using h)
    rw [show (k + 1) * 2 = k * 2 + 1 + 1 by omega]
    exact this
def BoolP (b : Bool) (w : World) (e : Ending) (w' : World) : Prop := e = .returned (.bool b) ∧ Below w.heap.size w w'
end Go.Pub
namespace Go.Proofs.Ytfnloonmeilhlaa
open Go.RowKit Go.Pub
set_option maxHeartbeats 4000000 in
set_option maxRecDepth 100000 in
theorem t_long {S : Nat → Prop} {A1 A2 : Option Addr} {c1 c2 : Nat} {a : AttrL} (w : World) (h1 : ReadsS w S 1 A1 a.cl.length (strs a.cl)) (h2 : ReadsS w S 2 A2 a.pr.length (prs a.pr)) (hS : ∀ g, S g → g < w.heap.size) (ho : OkA a) :
    Calls Try.prog 45 #[.agg #[.string a.id, .slice A1 a.cl.length c1, .slice A2 a.pr.length c2]] w (BoolP (longA a) w) := by
  obtain ⟨id, cl, pr⟩ := a
  obtain ⟨o1, o2, o3⟩ := ho
  have o1 : id.size ≤ reachBytes := o1
  have o2 : ∀ s ∈ cl, s.size ≤ reachBytes := o2
  have o3 : ∀ x ∈ pr, x.1.size ≤ reachBytes ∧ x.2.size ≤ reachBytes := o3
  have HR1 : Hid (∀ i (hi : i < cl.length), ∃ b off, A1 = some ⟨b, off, none⟩ ∧ b < w.heap.size ∧ w.cell? ⟨b, off + i, none⟩ = some (.string cl[i])) := Lib.hid fun i hi => by
    obtain ⟨b, off, e, hb, hc⟩ := h1.row (by show 0 < cl.length; omega) (by decide)
    exact ⟨b, off, e, hS b hb, hc i _ (strs_at' cl i hi)⟩
  have HR2 : Hid (∀ i (hi : i < pr.length), ∃ b off, A2 = some ⟨b, off, none⟩ ∧ b < w.heap.size ∧ w.cell? ⟨b, off + i * 2, none⟩ = some (.string pr[i].1) ∧ w.cell? ⟨b, off + i * 2 + 1, none⟩ = some (.string pr[i].2)) := Lib.hid fun i hi => by
    obtain ⟨b, off, e, hb, hc⟩ := h2.row (by show 0 < pr.length; omega) (by decide)
    exact ⟨b, off, e, hS b hb, hc (i * 2) _ (prs_at' pr i hi).1, by rw [Nat.add_assoc]; exact hc (i * 2 + 1) _ (prs_at' pr i hi).2⟩
  have HL : Hid (longA ⟨id, cl, pr⟩ = (decide (40 < cl.length) || (decide (40 < pr.length) || decide (600 < id.size + sumS cl + sumP pr)))) := Lib.hid rfl
  have hs1 := sumS_le cl _ o2
  have hs2 := sumP_le pr _ o3
  clear h1 h2 hS o2 o3
  unfold reachBytes at *
  have hbx : Below w.heap.size w (w.alloc (.cells #[.string id, .slice A1 cl.length c1, .slice A2 pr.length c2] 34)) := (Below.refl _ w).alloc (Nat.le_refl _) _
  have hbl := Blk.new w 34 #[.string id, .slice A1 cl.length c1, .slice A2 pr.length c2]
  have HB1 := Lib.hid hbx
  have HK1 := Lib.hid hbl
  generalize longA ⟨id, cl, pr⟩ = R at *
  by_cases g1 : 40 < cl.length
  · have hR : R = true := by rw [HL.out]; simp [g1]
    subst hR
    have g1' : (40 : Int) < (cl.length : Int) := by omega
    clear hs1 hs2
    go_enter Try.func45, Try.ntmps45
    go_wp2_with fail
    go_ret
    exact ⟨rfl, HB1.out⟩
  by_cases g2 : 40 < pr.length
  · have hR : R = true := by rw [HL.out]; simp [g2]
    subst hR
    have g2' : (40 : Int) < (pr.length : Int) := by omega
    have g1' : decide ((40 : Int) < (cl.length : Int)) = false := decide_eq_false (by omega)
    clear hs1 hs2
    go_enter Try.func45, Try.ntmps45
    go_wp2_with fail
    go_ret
    exact ⟨rfl, HB1.out⟩
  have hR : Hid (R = decide (600 < id.size + sumS cl + sumP pr)) := Lib.hid (by rw [HL.out]; simp [g1, g2])
  have g1' : decide ((40 : Int) < (cl.length : Int)) = false := decide_eq_false (by omega)
  have g2' : decide ((40 : Int) < (pr.length : Int)) = false := decide_eq_false (by omega)
  have hc40 : cl.length * 140737488351232 ≤ 40 * 140737488351232 := Nat.mul_le_mul_right _ (by omega)
  have hp40 : pr.length * (2 * 140737488351232) ≤ 40 * (2 * 140737488351232) := Nat.mul_le_mul_right _ (by omega)
  obtain ⟨T1, hT1⟩ : ∃ T1, T1 = id.size + sumS cl := ⟨_, rfl⟩
  obtain ⟨T2, hT2⟩ : ∃ T2, T2 = T1 + sumP pr := ⟨_, rfl⟩
  have hT2b : T2 ≤ 20000000000000000 := by omega
  have hT12 : T1 ≤ T2 := by omega
  have hidT : id.size ≤ T1 := by omega
  have HT1 := Lib.hid hT1
  have HT2 := Lib.hid hT2
  have hR2 : Hid (R = decide (600 < T2)) := Lib.hid (by rw [hR.out, hT2, hT1])
  have x0 : (w.alloc (.cells #[.string id, .slice A1 cl.length c1, .slice A2 pr.length c2] 34)).cell? ⟨w.heap.size, 0, none⟩ = some (.string id) := hbl.cell 0
  have x1 : (w.alloc (.cells #[.string id, .slice A1 cl.length c1, .slice A2 pr.length c2] 34)).cell? ⟨w.heap.size, 1, none⟩ = some (.slice A1 cl.length c1) := hbl.cell 1
  have x2 : (w.alloc (.cells #[.string id, .slice A1 cl.length c1, .slice A2 pr.length c2] 34)).cell? ⟨w.heap.size, 2, none⟩ = some (.slice A2 pr.length c2) := hbl.cell 2
  have hl1 : cl.length ≤ 40 := by omega
  have hl2 : pr.length ≤ 40 := by omega
  clear hs1 hs2 hc40 hp40 hT1 hT2 HL hR hbl hbx o1 g1 g2
  go_enter Try.func45, Try.ntmps45
  go_wp2_with fail
  generalize w.alloc (.cells #[.string id, .slice A1 cl.length c1, .slice A2 pr.length c2] 34) = W1 at *
  clear g1' g2'
  go_loopw [3, 4] (fun v3 v4 wr => wr = W1 ∧ ∃ (i n : Nat), i ≤ cl.length ∧ v3 = .int .i64 n ∧ v4 = .int .i64 i ∧ n ≤ T1 ∧ Hid (n + sumS (cl.drop i) = T1)) (fun _ v4 _ => cl.length - (intOf v4).toNat)
  case atStart => exact ⟨rfl, 0, id.size, Nat.zero_le _, rfl, rfl, hidT, Lib.hid (by rw [HT1.out]; rfl)⟩
  case round =>
    obtain ⟨rfl, i, n, hi, rfl, rfl, hn, HN⟩ := hrel
    by_cases hlt : i < cl.length
    · obtain ⟨b, off, rfl, hb, hc⟩ := HR1.out i hlt
      have hc' : wr.cell? ⟨b, off + i, none⟩ = some (.string cl[i]) := (HB1.out.cell (p := ⟨b, off + i, none⟩) hb).trans hc
      have hnn : n + cl[i].size ≤ T1 := by have := HN.out; rw [sumS_drop hlt] at this; omega
      have HN2 : Hid (n + cl[i].size + sumS (cl.drop (i + 1)) = T1) := Lib.hid (by have := HN.out; rw [sumS_drop hlt] at this; omega)
      have hii : (i : Int) < (cl.length : Int) := by omega
      clear hc
      generalize cl[i] = s at *
      go_wp2_with fail
      go_roundw
      case rel => exact ⟨trivial, i + 1, n + s.size, by omega, by go_num, by go_num, hnn, HN2⟩
      case measure => simp [intOf]; omega
    · obtain rfl : i = cl.length := by omega
      have hnT : n = T1 := by have := HN.out; rw [List.drop_length] at this; exact this
      subst hnT
      clear HN hn hidT
      go_wp2_with fail
      go_loopw [3, 5] (fun v3 v5 wq => ∃ (i m : Nat), i ≤ pr.length ∧ v3 = .int .i64 m ∧ v5 = .int .i64 i ∧ m ≤ T2 ∧ Hid (m + sumP (pr.drop i) = T2) ∧ Hid (Below w.heap.size w wq) ∧ Hid (Blk wq w.heap.size 34 #[.string id, .slice A1 cl.length c1, .slice A2 pr.length c2])) (fun _ v5 _ => pr.length - (intOf v5).toNat)
      case atStart => exact ⟨0, n, Nat.zero_le _, rfl, rfl, hT12, Lib.hid (by rw [HT2.out]; rfl), HB1, HK1⟩
      case round =>
        clear x0 x1 x2
        rename World => wq
        obtain ⟨i, m, hi, rfl, rfl, hm, HM, HBq, HKq⟩ := hrel
        have y2 : wq.cell? ⟨w.heap.size, 2, none⟩ = some (.slice A2 pr.length c2) := HKq.out.cell 2
        by_cases hlt : i < pr.length
        · obtain ⟨b, off, rfl, hb, hc1, hc2⟩ := HR2.out i hlt
          have k1 : wq.cell? ⟨b, off + i * 2, none⟩ = some (.string pr[i].1) := (HBq.out.cell (p := ⟨b, off + i * 2, none⟩) hb).trans hc1
          have k2 : wq.cell? ⟨b, off + i * 2 + 1, none⟩ = some (.string pr[i].2) := (HBq.out.cell (p := ⟨b, off + i * 2 + 1, none⟩) hb).trans hc2
          have hmm : m + (pr[i].1.size + pr[i].2.size) ≤ T2 := by have := HM.out; rw [sumP_drop hlt] at this; omega
          have HM2 : Hid (m + (pr[i].1.size + pr[i].2.size) + sumP (pr.drop (i + 1)) = T2) := Lib.hid (by have := HM.out; rw [sumP_drop hlt] at this; omega)
          have hii : (i : Int) < (pr.length : Int) := by omega
          have hi00 : (0 : Int) ≤ (i : Int) := by omega
          clear hc1 hc2
          generalize pr[i].1 = s1 at *
          generalize pr[i].2 = s2 at *
          go_wp2_with fail
          go_region
          all_goals
            go_wp2_with fail
            go_roundw
            case rel => exact ⟨i + 1, m + (s1.size + s2.size), by omega, by go_num, by go_num, hmm, HM2, Lib.hid (Below.drew HBq.out), Lib.hid HKq.out⟩
            case measure => simp [intOf]; omega
        · obtain rfl : i = pr.length := by omega
          have hmT : m = T2 := by have := HM.out; rw [List.drop_length] at this; exact this
          subst hmT
          have HF : Hid (BoolP R w (.returned (.bool (decide ((600 : Int) < (m : Int))))) wq) := Lib.hid ⟨by rw [hR2.out]; congr 2; exact decide_eq_decide.2 (by omega), HBq.out⟩
          go_wp2_with fail
          go_ret
          exact HF.out

end Go.Proofs.Ytfnloonmeilhlaa
namespace Go.Pub
open Go.RowKit
theorem argsW_drop {l : List ByteArray} {i : Nat} (h : i < l.length) : argsW (l.drop i) = l[i].size / 40 + argsW (l.drop (i + 1)) := by
  rw [List.drop_eq_getElem_cons h]; rfl
theorem citsW_drop {l : List CitL} {i : Nat} (h : i < l.length) : citsW (l.drop i) = (l[i].key.size + l[i].pre.size + l[i].suf.size) / 40 + citsW (l.drop (i + 1)) := by
  rw [List.drop_eq_getElem_cons h]; rfl
theorem citVT_at : ∀ (l : List CitL) (k : Nat) (h : k < l.length), (citVT l)[k * 4]? = some (.string l[k].key) ∧ (citVT l)[k * 4 + 1]? = some (.string l[k].pre) ∧ (citVT l)[k * 4 + 2]? = some (.string l[k].suf) ∧ (citVT l)[k * 4 + 3]? = some (.bool l[k].bare)
  | x :: l, 0, _ => ⟨rfl, rfl, rfl, rfl⟩
  | x :: l, k + 1, h => by
    have := citVT_at l k (by simpa using h)
    rw [show (k + 1) * 4 = k * 4 + 1 + 1 + 1 + 1 by omega]
    exact this
theorem div40 (n : Nat) : Int.tdiv (n : Int) 40 = ((n / 40 : Nat) : Int) := by rw [Int.tdiv_eq_ediv_of_nonneg (by omega)]; omega
def IntP (n : Nat) (w : World) (e : Ending) (w' : World) : Prop := e = .returned (.int .i64 n) ∧ Below w.heap.size w w'
end Go.Pub
namespace Go.Proofs.Ytfnloonmeilhlaa
open Go.RowKit Go.Pub
theorem cit_size : (Try.prog.info? 55).map (·.size) = some 4 := by kernel_rfl
/-- The weight is right at a depth. -/
def WgtH (f : Nat) : Prop := ∀ (S : Nat → Prop) (w : World) (A : Option Addr) (c depth : Nat) (vs : List (Array Value)) (l : List InT), depth + f = 21 → RepIs w S vs l → ReadsS w S 10 A l.length (vs.flatMap Array.toList) → (∀ g, S g → g < w.heap.size) → okL l →
  Calls Try.prog 46 #[.slice A l.length c, .int .i64 depth] w (IntP (wgtF f l) w)
set_option maxHeartbeats 4000000 in
set_option maxRecDepth 100000 in
theorem t_weight0 : WgtH 0 := by
  intro S w A c depth vs l hd h1 h2 hS ho
  obtain rfl : depth = 21 := by omega
  have hm := h2.1.2
  unfold maxLen at hm
  clear h1 h2 hS ho
  go_enter Try.func46, Try.ntmps46
  go_wp2_with fail
  go_ret
  exact ⟨rfl, Below.refl _ w⟩

set_option maxHeartbeats 8000000 in
set_option maxRecDepth 100000 in
theorem t_weight1 (f : Nat) (hf : f < 21) (ih : WgtH f) : WgtH (f + 1) := by
  intro S w A c depth vs l hd h1 h2 hS ho
  have hm := h2.1.2
  have hdd : decide ((20 : Int) < (depth : Int)) = false := decide_eq_false (by omega)
  unfold maxLen at hm
  by_cases h200 : 200 < l.length
  · have hR : wgtF (f + 1) l = 1000 := by unfold wgtF; rw [if_pos h200]
    rw [hR]
    have h200' : (200 : Int) < (l.length : Int) := by omega
    clear h1 h2 hS ho hR
    go_enter Try.func46, Try.ntmps46
    go_wp2_with fail
    go_ret
    exact ⟨rfl, Below.refl _ w⟩
  have hR : Hid (wgtF (f + 1) l = wgtL (wgtF f) l.length l) := Lib.hid (by rw [wgtF, if_neg h200])
  have h200' : decide ((200 : Int) < (l.length : Int)) = false := decide_eq_false (by omega)
  have hl200 : l.length ≤ 200 := by omega
  obtain ⟨G, hG⟩ : ∃ G, G = 1000 + f * (1000 + 36 * 140737488355328) := ⟨_, rfl⟩
  have hGb : G ≤ 110000000000000000 := by
    have : f * (1000 + 36 * 140737488355328) ≤ 21 * (1000 + 36 * 140737488355328) := Nat.mul_le_mul_right _ (by omega)
    omega
  have hgG : ∀ x : List InT, okL x → wgtF f x ≤ G := fun x hx => by rw [hG]; exact wgtF_le f x hx
  have HIH := Lib.hid ih
  have HEL : Hid (∀ i (hi : i < l.length), ∃ b off v, A = some ⟨b, off, none⟩ ∧ b < w.heap.size ∧ RepI w S v l[i] ∧ w.rangeAt b (off + i * 10) v.toList) := Lib.hid fun i hi => by
    obtain ⟨b, off, e, hb, hc⟩ := h2.row (by omega) (by decide)
    obtain ⟨v, hv, hvc⟩ := h1.at_ i hi
    refine ⟨b, off, v, e, hS b hb, hv, fun j u hj => ?_⟩
    have hj10 : j < 10 := by have := (List.getElem?_eq_some_iff.1 hj).1; rw [Array.length_toList, hv.size] at this; exact this
    rw [Nat.add_assoc]
    refine hc (i * 10 + j) u ?_
    rw [hvc j hj10, ← hj, Array.getElem?_toList]
  have HOK : Hid (∀ i (hi : i < l.length), okI l[i]) := Lib.hid fun i hi => okL_mem l ho _ (List.getElem_mem hi)
  have HS := Lib.hid hS
  generalize wgtF (f + 1) l = R at *
  clear h1 h2 hS ho hG ih
  have hd21 : depth ≤ 20 := by omega
  go_enter Try.func46, Try.ntmps46
  go_wp2_with fail
  clear h200' hdd
  go_loopw [5, 6] (fun v5 v6 wr => ∃ i n : Nat, i ≤ l.length ∧ v5 = .int .i64 n ∧ v6 = .int .i64 i ∧ n ≤ 300000000000000000 ∧ Hid (wgtL (wgtF f) n (l.drop i) = R) ∧ Hid (Below w.heap.size w wr)) (fun _ v6 _ => l.length - (intOf v6).toNat)
  case atStart => exact ⟨0, l.length, Nat.zero_le _, rfl, rfl, by omega, Lib.hid (by rw [hR.out]; rfl), Lib.hid (Below.refl _ w)⟩
  case round =>
    obtain ⟨i, n, hi, rfl, rfl, hn, HN, HBw⟩ := hrel
    by_cases hlt : i < l.length
    · have hii : (i : Int) < (l.length : Int) := by omega
      have hi00 : (0 : Int) ≤ (i : Int) := by omega
      by_cases hn1 : 1000 ≤ n
      · have hRn : R = n := by rw [← HN.out, List.drop_eq_getElem_cons hlt, wgtL, if_pos hn1]
        have dn : decide ((n : Int) < 1000) = false := decide_eq_false (by omega)
        subst hRn
        go_wp2_with fail
        go_ret
        exact ⟨rfl, HBw.out⟩
      · have dn : (n : Int) < 1000 := by omega
        obtain ⟨b, off, v, rfl, hb, hv, hrg⟩ := HEL.out i hlt
        have hok := HOK.out i hlt
        have hst : wgtL (wgtF f) n (l.drop i) = if badI l[i] = true then 1000 else wgtL (wgtF f) (n + ownW l[i] + wgtF f l[i].kids) (l.drop (i + 1)) := by
          rw [List.drop_eq_getElem_cons hlt, wgtL, if_neg hn1]
        rw [hst] at HN
        clear hst
        generalize hxx : l[i] = x at *
        clear hxx
        have hbw := HBw.out
        have hzw := hbw.size
        have hv' := hv.keep (w' := wr) (fun g hg => hbw.block g (HS.out g hg)) fun _ h => h
        have hrg' : wr.rangeAt b (off + i * 10) v.toList := fun j u hj => (hbw.cell (p := ⟨b, off + i * 10 + j, none⟩) hb).trans (hrg j u hj)
        clear hv hrg
        cases hv' with
        | mk kind text dest title att args cites kids A1 A2 A3 A4 A5 c1 c2 c3 c4 c5 vs' r1 r2 r3 r4 r5 r6 =>
        have hob : badI (.mk kind text dest title att args cites kids) = (decide (300 < text.size + dest.size + title.size) || (longA att || (decide (9 < args.length) || decide (9 < cites.length)))) := rfl
        rw [hob] at HN
        have how := @ownW_le (.mk kind text dest title att args cites kids) hok
        rw [hob] at how
        have how2 : ownW (.mk kind text dest title att args cites kids) = argsW args + citsW cites := rfl
        rw [how2] at how HN
        have hkk : (InT.mk kind text dest title att args cites kids).kids = kids := rfl
        rw [hkk] at HN
        rw [okI] at hok
        obtain ⟨⟨l1, l2, l3⟩, oa, o3, o4, o5⟩ := hok
        unfold reachBytes at l1 l2 l3
        have hS' : ∀ g, S g → g < wr.heap.size := fun g hg => Nat.lt_of_lt_of_le (HS.out g hg) hzw
        have hB2 : Below wr.heap.size wr (wr.alloc (.cells #[.int .i64 kind, .string text, .string dest, .string title, .string att.id, .slice A1 att.cl.length c1, .slice A2 att.pr.length c2, .slice A3 args.length c3, .slice A4 cites.length c4, .slice A5 kids.length c5] 37)) := (Below.refl _ wr).alloc (Nat.le_refl _) _
        have HG : Hid (wr.rangeAt b (off + i * 10) [.int .i64 kind, .string text, .string dest, .string title, .string att.id, .slice A1 att.cl.length c1, .slice A2 att.pr.length c2, .slice A3 args.length c3, .slice A4 cites.length c4, .slice A5 kids.length c5]) := Lib.hid hrg'
        have hbk := Blk.new wr 37 #[.int .i64 kind, .string text, .string dest, .string title, .string att.id, .slice A1 att.cl.length c1, .slice A2 att.pr.length c2, .slice A3 args.length c3, .slice A4 cites.length c4, .slice A5 kids.length c5]
        have HBK := Lib.hid hbk
        have HB2 := Lib.hid hB2
        have HLG := Lib.hid fun (W : World) (hW : Below wr.heap.size wr W) => t_long (c1 := c1) (c2 := c2) W (r1.keep (fun g hg => hW.block g (hS' g hg)) fun _ h => h) (r2.keep (fun g hg => hW.block g (hS' g hg)) fun _ h => h) (fun g hg => Nat.lt_of_lt_of_le (hS' g hg) hW.size) oa
        have HIC : Hid (∀ (W : World), Below wr.heap.size wr W → Calls Try.prog 46 #[.slice A5 kids.length c5, .int .i64 ((depth : Int) + 1)] W (IntP (wgtF f kids) W)) := Lib.hid fun W hW => by
          have := HIH.out S W A5 c5 (depth + 1) vs' kids (by omega) (r5.keep (fun g hg => hW.block g (hS' g hg)) fun _ h => h) (r6.keep (fun g hg => hW.block g (hS' g hg)) fun _ h => h) (fun g hg => Nat.lt_of_lt_of_le (hS' g hg) hW.size) o5
          rwa [Int.natCast_add] at this
        have HAR : Hid (∀ (W : World), Below wr.heap.size wr W → ∀ k (hk : k < args.length), ∃ b off, A3 = some ⟨b, off, none⟩ ∧ W.cell? ⟨b, off + k, none⟩ = some (.string args[k])) := Lib.hid fun W hW k hk => by
          obtain ⟨b, off, e, hb, hc⟩ := r3.row (by omega) (by decide)
          exact ⟨b, off, e, (hW.cell (p := ⟨b, off + k, none⟩) (hS' b hb)).trans (hc k _ (strs_at' args k hk))⟩
        have HCI : Hid (∀ (W : World), Below wr.heap.size wr W → ∀ k (hk : k < cites.length), ∃ b off, A4 = some ⟨b, off, none⟩ ∧ W.rangeAt b (off + k * 4) [.string cites[k].key, .string cites[k].pre, .string cites[k].suf, .bool cites[k].bare]) := Lib.hid fun W hW k hk => by
          obtain ⟨b, off, e, hb, hc⟩ := r4.row (by omega) (by decide)
          refine ⟨b, off, e, fun j u hj => ?_⟩
          have hj4 := (List.getElem?_eq_some_iff.1 hj).1
          simp only [List.length_cons, List.length_nil] at hj4
          refine (hW.cell (p := ⟨b, off + k * 4 + j, none⟩) (hS' b hb)).trans ?_
          rw [Nat.add_assoc]
          refine hc (k * 4 + j) u ?_
          obtain ⟨e0, e1, e2, e3⟩ := citVT_at cites k hk
          match j, hj4, hj with
          | 0, _, hj => rw [← hj]; exact e0
          | 1, _, hj => rw [← hj]; exact e1
          | 2, _, hj => rw [← hj]; exact e2
          | 3, _, hj => rw [← hj]; exact e3
        have HO3 := Lib.hid o3
        have HO4 := Lib.hid o4
        have hgk := hgG kids o5
        have ms1 := r3.1.2
        have ms2 := r4.1.2
        have ms3 := r6.1.2
        unfold maxLen at ms1 ms2 ms3
        have x1 : (wr.alloc (.cells #[.int .i64 kind, .string text, .string dest, .string title, .string att.id, .slice A1 att.cl.length c1, .slice A2 att.pr.length c2, .slice A3 args.length c3, .slice A4 cites.length c4, .slice A5 kids.length c5] 37)).cell? ⟨wr.heap.size, 1, none⟩ = some (.string text) := hbk.cell 1
        have x2 : (wr.alloc (.cells #[.int .i64 kind, .string text, .string dest, .string title, .string att.id, .slice A1 att.cl.length c1, .slice A2 att.pr.length c2, .slice A3 args.length c3, .slice A4 cites.length c4, .slice A5 kids.length c5] 37)).cell? ⟨wr.heap.size, 2, none⟩ = some (.string dest) := hbk.cell 2
        have x3 : (wr.alloc (.cells #[.int .i64 kind, .string text, .string dest, .string title, .string att.id, .slice A1 att.cl.length c1, .slice A2 att.pr.length c2, .slice A3 args.length c3, .slice A4 cites.length c4, .slice A5 kids.length c5] 37)).cell? ⟨wr.heap.size, 3, none⟩ = some (.string title) := hbk.cell 3
        have x4 : (wr.alloc (.cells #[.int .i64 kind, .string text, .string dest, .string title, .string att.id, .slice A1 att.cl.length c1, .slice A2 att.pr.length c2, .slice A3 args.length c3, .slice A4 cites.length c4, .slice A5 kids.length c5] 37)).cell? ⟨wr.heap.size, 4, none⟩ = some (.string att.id) := hbk.cell 4
        have x5 : (wr.alloc (.cells #[.int .i64 kind, .string text, .string dest, .string title, .string att.id, .slice A1 att.cl.length c1, .slice A2 att.pr.length c2, .slice A3 args.length c3, .slice A4 cites.length c4, .slice A5 kids.length c5] 37)).cell? ⟨wr.heap.size, 5, none⟩ = some (.slice A1 att.cl.length c1) := hbk.cell 5
        have x6 : (wr.alloc (.cells #[.int .i64 kind, .string text, .string dest, .string title, .string att.id, .slice A1 att.cl.length c1, .slice A2 att.pr.length c2, .slice A3 args.length c3, .slice A4 cites.length c4, .slice A5 kids.length c5] 37)).cell? ⟨wr.heap.size, 6, none⟩ = some (.slice A2 att.pr.length c2) := hbk.cell 6
        have x7 : (wr.alloc (.cells #[.int .i64 kind, .string text, .string dest, .string title, .string att.id, .slice A1 att.cl.length c1, .slice A2 att.pr.length c2, .slice A3 args.length c3, .slice A4 cites.length c4, .slice A5 kids.length c5] 37)).cell? ⟨wr.heap.size, 7, none⟩ = some (.slice A3 args.length c3) := hbk.cell 7
        have x8 : (wr.alloc (.cells #[.int .i64 kind, .string text, .string dest, .string title, .string att.id, .slice A1 att.cl.length c1, .slice A2 att.pr.length c2, .slice A3 args.length c3, .slice A4 cites.length c4, .slice A5 kids.length c5] 37)).cell? ⟨wr.heap.size, 8, none⟩ = some (.slice A4 cites.length c4) := hbk.cell 8
        have x9 : (wr.alloc (.cells #[.int .i64 kind, .string text, .string dest, .string title, .string att.id, .slice A1 att.cl.length c1, .slice A2 att.pr.length c2, .slice A3 args.length c3, .slice A4 cites.length c4, .slice A5 kids.length c5] 37)).cell? ⟨wr.heap.size, 9, none⟩ = some (.slice A5 kids.length c5) := hbk.cell 9
        clear hrg' hbk hB2 r1 r2 r3 r4 r5 r6 oa o3 o4 o5 hbw hS' HIH hob how2 hkk
        by_cases hb1 : 300 < text.size + dest.size + title.size
        · have hb1' : (300 : Int) < (text.size : Int) + (dest.size : Int) + (title.size : Int) := by omega
          have hR1 : R = 1000 := by have := HN.out; simp [hb1] at this; exact this.symm
          have HF : Hid (IntP R w (.returned (.int .i64 1000)) (wr.alloc (.cells #[.int .i64 kind, .string text, .string dest, .string title, .string att.id, .slice A1 att.cl.length c1, .slice A2 att.pr.length c2, .slice A3 args.length c3, .slice A4 cites.length c4, .slice A5 kids.length c5] 37))) := Lib.hid ⟨by rw [hR1]; rfl, HBw.out.trans (HB2.out.mono hzw)⟩
          clear how HN hR1
          go_wp2_with (first | (refine wpList_load_mid rfl 37 (.tmp 31) rfl b (off + i * 10) rfl _ _ HG.out Try.underlying37 rfl inl_size ?_) | (refine wpList_store_row rfl 37 (.tmp 7) (.tmp 32) rfl wr.heap.size #[.int .i64 kind, .string text, .string dest, .string title, .string att.id, .slice A1 att.cl.length c1, .slice A2 att.pr.length c2, .slice A3 args.length c3, .slice A4 cites.length c4, .slice A5 kids.length c5] rfl rfl 37 _ (Blk.new wr _ _) inl_size (by rfl) (by simp [Value.oneCell']) ?_; rw [World.setRow_alloc_new]; generalize (wr.alloc (.cells #[.int .i64 kind, .string text, .string dest, .string title, .string att.id, .slice A1 att.cl.length c1, .slice A2 att.pr.length c2, .slice A3 args.length c3, .slice A4 cites.length c4, .slice A5 kids.length c5] 37)) = W1 at *))
          go_ret
          exact HF.out
        have hb1' : decide ((300 : Int) < (text.size : Int) + (dest.size : Int) + (title.size : Int)) = false := decide_eq_false (by omega)
        have HB3 : Hid (Below w.heap.size w (wr.alloc (.cells #[.int .i64 kind, .string text, .string dest, .string title, .string att.id, .slice A1 att.cl.length c1, .slice A2 att.pr.length c2, .slice A3 args.length c3, .slice A4 cites.length c4, .slice A5 kids.length c5] 37))) := Lib.hid (HBw.out.trans (HB2.out.mono hzw))
        have HZ1 : Hid ((wr.alloc (.cells #[.int .i64 kind, .string text, .string dest, .string title, .string att.id, .slice A1 att.cl.length c1, .slice A2 att.pr.length c2, .slice A3 args.length c3, .slice A4 cites.length c4, .slice A5 kids.length c5] 37)).heap.size = wr.heap.size + 1) := Lib.hid (by simp)
        have HHOW := Lib.hid how
        clear how
        go_wp2_with (first | (refine wpList_load_mid rfl 37 (.tmp 31) rfl b (off + i * 10) rfl _ _ HG.out Try.underlying37 rfl inl_size ?_) | (refine wpList_store_row rfl 37 (.tmp 7) (.tmp 32) rfl wr.heap.size #[.int .i64 kind, .string text, .string dest, .string title, .string att.id, .slice A1 att.cl.length c1, .slice A2 att.pr.length c2, .slice A3 args.length c3, .slice A4 cites.length c4, .slice A5 kids.length c5] rfl rfl 37 _ (Blk.new wr _ _) inl_size (by rfl) (by simp [Value.oneCell']) ?_; rw [World.setRow_alloc_new]; generalize (wr.alloc (.cells #[.int .i64 kind, .string text, .string dest, .string title, .string att.id, .slice A1 att.cl.length c1, .slice A2 att.pr.length c2, .slice A3 args.length c3, .slice A4 cites.length c4, .slice A5 kids.length c5] 37)) = W1 at *))
        ((with_reducible refine (HLG.out W1 HB2.out).mono ?_))
        rintro e W2 ⟨rfl, b2⟩
        have HB4 := Lib.hid (HB2.out.trans (b2.mono (by have := HZ1.out; omega)))
        have HB5 := Lib.hid (HB3.out.trans (b2.mono HB3.out.size))
        have HBK2 : Hid (Blk W2 wr.heap.size 37 #[.int .i64 kind, .string text, .string dest, .string title, .string att.id, .slice A1 att.cl.length c1, .slice A2 att.pr.length c2, .slice A3 args.length c3, .slice A4 cites.length c4, .slice A5 kids.length c5]) := Lib.hid (HBK.out.below b2 HBK.out.lt)
        have y7 : W2.cell? ⟨wr.heap.size, 7, none⟩ = some (.slice A3 args.length c3) := HBK2.out.cell 7
        have y8 : W2.cell? ⟨wr.heap.size, 8, none⟩ = some (.slice A4 cites.length c4) := HBK2.out.cell 8
        clear x1 x2 x3 x4 x5 x6 x7 x8 x9 b2 HLG HG HBK HB3 hb1'
        have hlgx : ∀ q, longA att = q → q = longA att := fun q h => h.symm
        cases hlg : longA att with
        | true =>
          have hR1 : R = 1000 := by have := HN.out; simp [hb1, hlg] at this; exact this.symm
          have HF : Hid (IntP R w (.returned (.int .i64 1000)) W2) := Lib.hid ⟨by rw [hR1]; rfl, HB5.out⟩
          clear HHOW HN hR1 hlgx hlg hb1
          go_wp2_with fail
          go_ret
          exact HF.out
        | false =>
          by_cases h9 : 9 < args.length
          · have h9' : (9 : Int) < (args.length : Int) := by omega
            have hR1 : R = 1000 := by have := HN.out; simp [hb1, hlg, h9] at this; exact this.symm
            have HF : Hid (IntP R w (.returned (.int .i64 1000)) W2) := Lib.hid ⟨by rw [hR1]; rfl, HB5.out⟩
            clear HHOW HN hR1 hlgx hlg hb1
            go_wp2_with fail
            go_ret
            exact HF.out
          have h9' : decide ((9 : Int) < (args.length : Int)) = false := decide_eq_false (by omega)
          by_cases h8 : 9 < cites.length
          · have h8' : (9 : Int) < (cites.length : Int) := by omega
            have hR1 : R = 1000 := by have := HN.out; simp [hb1, hlg, h9, h8] at this; exact this.symm
            have HF : Hid (IntP R w (.returned (.int .i64 1000)) W2) := Lib.hid ⟨by rw [hR1]; rfl, HB5.out⟩
            clear HHOW HN hR1 hlgx hlg hb1
            go_wp2_with fail
            go_ret
            exact HF.out
          have h8' : decide ((9 : Int) < (cites.length : Int)) = false := decide_eq_false (by omega)
          have HN2 : Hid (wgtL (wgtF f) (n + (argsW args + citsW cites) + wgtF f kids) (l.drop (i + 1)) = R) := Lib.hid (by have := HN.out; simpa [hb1, hlg, h9, h8] using this)
          have how := HHOW.out (by simp [hb1, hlg, h9, h8])
          obtain ⟨T1, hT1⟩ : ∃ T1, T1 = n + argsW args := ⟨_, rfl⟩
          obtain ⟨T2, hT2⟩ : ∃ T2, T2 = T1 + citsW cites := ⟨_, rfl⟩
          have hT2b : T2 ≤ 100000000000000000 := by omega
          have hT12 : T1 ≤ T2 := by omega
          have hnT : n ≤ T1 := by omega
          have HT1 := Lib.hid hT1
          have HT2 := Lib.hid hT2
          have HN3 : Hid (wgtL (wgtF f) (T2 + wgtF f kids) (l.drop (i + 1)) = R) := Lib.hid (by have := HN2.out; rwa [show n + (argsW args + citsW cites) = T2 by omega] at this)
          have hla : args.length ≤ 9 := by omega
          have hlc : cites.length ≤ 9 := by omega
          clear HN HN2 HHOW hT1 hT2 how hlgx hlg hb1 h9 h8
          generalize wgtF f kids = K at *
          go_wp2_with fail
          clear h9' h8'
          go_loopw [5, 8] (fun v5 v8 wq => wq = W2 ∧ ∃ k m : Nat, k ≤ args.length ∧ v5 = .int .i64 m ∧ v8 = .int .i64 k ∧ m ≤ T1 ∧ Hid (m + argsW (args.drop k) = T1)) (fun _ v8 _ => args.length - (intOf v8).toNat)
          case atStart => exact ⟨rfl, 0, n, Nat.zero_le _, rfl, rfl, hnT, Lib.hid (by rw [HT1.out]; rfl)⟩
          case round =>
            obtain ⟨rfl, k, m, hk, rfl, rfl, hm1, HM⟩ := hrel
            by_cases hkl : k < args.length
            · obtain ⟨ba, oa, rfl, hc⟩ := HAR.out _ HB4.out k hkl
              have hmm : m + args[k].size / 40 ≤ T1 := by have := HM.out; rw [argsW_drop hkl] at this; omega
              have HM2 : Hid (m + args[k].size / 40 + argsW (args.drop (k + 1)) = T1) := Lib.hid (by have := HM.out; rw [argsW_drop hkl] at this; omega)
              have hkk : (k : Int) < (args.length : Int) := by omega
              have hd := div40 args[k].size
              have hsz := HO3.out _ (List.getElem_mem hkl)
              unfold reachBytes at hsz
              have hdb : args[k].size / 40 ≤ 140737488351232 := by omega
              generalize args[k] = s at *
              generalize hq : s.size / 40 = q at *
              clear hq
              go_wp2_with fail
              go_roundw
              case rel => exact ⟨trivial, k + 1, m + q, by omega, by go_num, by go_num, hmm, HM2⟩
              case measure => simp [intOf]; omega
            · obtain rfl : k = args.length := by omega
              have hmT : m = T1 := by have := HM.out; rw [List.drop_length] at this; exact this
              subst hmT
              clear HM hm1 hnT HT1
              go_wp2_with fail
              rename World => W3
              go_loopw [5, 9] (fun v5 v9 wq => ∃ k p : Nat, k ≤ cites.length ∧ v5 = .int .i64 p ∧ v9 = .int .i64 k ∧ p ≤ T2 ∧ Hid (p + citsW (cites.drop k) = T2) ∧ Hid (Below W3.heap.size W3 wq)) (fun _ v9 _ => cites.length - (intOf v9).toNat)
              case atStart => exact ⟨0, m, Nat.zero_le _, rfl, rfl, hT12, Lib.hid (by rw [HT2.out]; rfl), Lib.hid (Below.refl _ _)⟩
              case round =>
                rename World => wq
                obtain ⟨k, p, hk, rfl, rfl, hp, HP, HBq⟩ := hrel
                have hbq := HBq.out
                have hzq := hbq.size
                have hz3 := HB4.out.size
                have HB6 : Hid (Below wr.heap.size wr wq) := Lib.hid (HB4.out.trans (hbq.mono hz3))
                have HB7 : Hid (Below w.heap.size w wq) := Lib.hid (HB5.out.trans (hbq.mono HB5.out.size))
                have HBK3 : Hid (Blk wq wr.heap.size 37 #[.int .i64 kind, .string text, .string dest, .string title, .string att.id, .slice A1 att.cl.length c1, .slice A2 att.pr.length c2, .slice A3 args.length c3, .slice A4 cites.length c4, .slice A5 kids.length c5]) := Lib.hid (HBK2.out.below hbq HBK2.out.lt)
                have z8 : wq.cell? ⟨wr.heap.size, 8, none⟩ = some (.slice A4 cites.length c4) := HBK3.out.cell 8
                have z9 : wq.cell? ⟨wr.heap.size, 9, none⟩ = some (.slice A5 kids.length c5) := HBK3.out.cell 9
                by_cases hkl : k < cites.length
                · obtain ⟨ba, oa, rfl, hc⟩ := HCI.out _ HB6.out k hkl
                  have hpp : p + (cites[k].key.size + cites[k].pre.size + cites[k].suf.size) / 40 ≤ T2 := by have := HP.out; rw [citsW_drop hkl] at this; omega
                  have HP2 : Hid (p + (cites[k].key.size + cites[k].pre.size + cites[k].suf.size) / 40 + citsW (cites.drop (k + 1)) = T2) := Lib.hid (by have := HP.out; rw [citsW_drop hkl] at this; omega)
                  have hkk : (k : Int) < (cites.length : Int) := by omega
                  have hk00 : (0 : Int) ≤ (k : Int) := by omega
                  obtain ⟨s1, s2, s3⟩ := HO4.out _ (List.getElem_mem hkl)
                  unfold reachBytes at s1 s2 s3
                  have hd := div40 (cites[k].key.size + cites[k].pre.size + cites[k].suf.size)
                  rw [Int.natCast_add, Int.natCast_add] at hd
                  have hdb : (cites[k].key.size + cites[k].pre.size + cites[k].suf.size) / 40 ≤ 140737488351232 := by omega
                  have HCC := Lib.hid hc
                  clear hc
                  generalize cites[k].key = key at *
                  generalize cites[k].pre = pre at *
                  generalize cites[k].suf = suf at *
                  generalize cites[k].bare = bare at *
                  generalize hq : (key.size + pre.size + suf.size) / 40 = q at *
                  clear hq
                  have HB8 : Hid (Below W3.heap.size W3 (wq.alloc (.cells #[.string key, .string pre, .string suf, .bool bare] 55))) := Lib.hid (hbq.alloc hzq _)
                  have hcb := Blk.new wq 55 #[.string key, .string pre, .string suf, .bool bare]
                  have k0 : (wq.alloc (.cells #[.string key, .string pre, .string suf, .bool bare] 55)).cell? ⟨wq.heap.size, 0, none⟩ = some (.string key) := hcb.cell 0
                  have k1 : (wq.alloc (.cells #[.string key, .string pre, .string suf, .bool bare] 55)).cell? ⟨wq.heap.size, 1, none⟩ = some (.string pre) := hcb.cell 1
                  have k2 : (wq.alloc (.cells #[.string key, .string pre, .string suf, .bool bare] 55)).cell? ⟨wq.heap.size, 2, none⟩ = some (.string suf) := hcb.cell 2
                  clear hcb
                  go_wp2_with (first | (refine wpList_load_mid rfl 55 (.tmp 88) rfl ba (oa + k * 4) rfl _ _ HCC.out Try.underlying55 rfl cit_size ?_) | (refine wpList_store_row rfl 55 (.tmp 10) (.tmp 89) rfl wq.heap.size #[.string key, .string pre, .string suf, .bool bare] rfl rfl 55 _ (Blk.new wq _ _) cit_size (by rfl) (by simp [Value.oneCell']) ?_; rw [World.setRow_alloc_new]; generalize wq.alloc (.cells #[.string key, .string pre, .string suf, .bool bare] 55) = W9 at *))
                  go_roundw
                  case rel => exact ⟨k + 1, p + q, by omega, by go_num, by go_num, hpp, HP2, HB8⟩
                  case measure => simp [intOf]; omega
                · have hkc : k = cites.length := by omega
                  have hpT : p = T2 := by have := HP.out; rw [hkc, List.drop_length] at this; exact this
                  have dk : decide ((k : Int) < (cites.length : Int)) = false := decide_eq_false (by omega)
                  subst hpT
                  have HC := Lib.hid (HIC.out wq HB6.out)
                  clear HP hp hT12
                  go_wp2_with fail
                  ((with_reducible refine HC.out.mono ?_))
                  rintro e W4 ⟨rfl, b4⟩
                  have HB9 : Hid (Below w.heap.size w W4) := Lib.hid (HB7.out.trans (b4.mono HB7.out.size))
                  clear b4 HC
                  go_wp2_with fail
                  go_roundw
                  case rel => exact ⟨i + 1, p + K, by omega, by go_num, by go_num, by omega, HN3, HB9⟩
                  case measure => simp [intOf]; omega
    · have hil : i = l.length := by omega
      have hRn : R = n := by rw [← HN.out, hil, List.drop_length]; rfl
      subst hRn
      have dl : decide ((i : Int) < (l.length : Int)) = false := decide_eq_false (by omega)
      go_wp2_with fail
      go_ret
      exact ⟨rfl, HBw.out⟩

end Go.Proofs.Ytfnloonmeilhlaa
namespace Go.Proofs.Ytfnloonmeilhlaa
open Go.RowKit Go.Pub
theorem t_weight : ∀ f, f ≤ 21 → WgtH f
  | 0, _ => t_weight0
  | f + 1, h => t_weight1 f (by omega) (t_weight f (by omega))
theorem blk_size : (Try.prog.info? 49).map (·.size) = some 11 := by kernel_rfl
theorem blk_info : (Try.prog.info? 49).map (fun i => (i.zero, i.size, i.bytes)) = some (some (.agg #[.int .i64 0, .int .i64 0, .string ⟨#[]⟩, .string ⟨#[]⟩, .string ⟨#[]⟩, .string ⟨#[]⟩, .string ⟨#[]⟩, .slice none 0 0, .slice none 0 0, .slice none 0 0, .slice none 0 0]), 11, 192) := by kernel_rfl
/-- A block that has a line alone. -/
def lnB (A : Option Addr) (n c : Nat) : Array Value := #[.int .i64 0, .int .i64 0, .string ⟨#[]⟩, .string ⟨#[]⟩, .string ⟨#[]⟩, .string ⟨#[]⟩, .string ⟨#[]⟩, .slice none 0 0, .slice none 0 0, .slice A n c, .slice none 0 0]
theorem t_heavy0 (w : World) : Calls Try.prog 29 #[.slice none 0 0, .int .i64 1] w fun e w' => e = .returned (.int .i64 0) ∧ w' = w := by
  go_enter Try.func29, Try.ntmps29
  go_wp2_with fail
  go_loopw [5, 6] (fun v5 v6 wr => v5 = .int .i64 0 ∧ v6 = .int .i64 0 ∧ wr = w) (fun _ _ _ => 0)
  case atStart => exact ⟨rfl, rfl, rfl⟩
  case round =>
    obtain ⟨rfl, rfl, rfl⟩ := hrel
    go_wp2_with fail
    go_ret
    exact ⟨rfl, rfl⟩
set_option maxHeartbeats 4000000 in
set_option maxRecDepth 100000 in
theorem t_heavy1 {S : Nat → Prop} {A : Option Addr} {c g : Nat} {vs : List (Array Value)} {l : List InT} (w : World) (h1 : RepIs w S vs l) (h2 : ReadsS w S 10 A l.length (vs.flatMap Array.toList)) (hS : ∀ g, S g → g < w.heap.size) (ho : okL l) (hb : Blk w g 49 (lnB A l.length c)) :
    Calls Try.prog 29 #[.slice (some ⟨g, 0, none⟩) 1 1, .int .i64 0] w (IntP (1 + wgtF 21 l) w) := by
  have HW : Hid (∀ W, Below w.heap.size w W → Calls Try.prog 46 #[.slice A l.length c, .int .i64 0] W fun e w' => e = .returned (.int .i64 (wgtF 21 l)) ∧ Below W.heap.size W w') := Lib.hid fun W hW =>
    t_weight 21 (Nat.le_refl _) S W A c 0 vs l rfl (h1.keep (fun g hg => hW.block g (hS g hg)) fun _ h => h) (h2.keep (fun g hg => hW.block g (hS g hg)) fun _ h => h) (fun g hg => Nat.lt_of_lt_of_le (hS g hg) hW.size) ho
  have hwb := wgtF_le 21 l ho
  have hm := h2.1.2
  unfold maxLen at hm
  generalize wgtF 21 l = K at *
  have HLG := Lib.hid fun (W : World) => t_long (S := fun _ => False) (A1 := none) (A2 := none) (c1 := 0) (c2 := 0) (a := noAt) W ReadsS.none_ ReadsS.none_ (fun _ h => h.elim) ⟨Nat.zero_le _, fun _ h => absurd h (by simp [noAt]), fun _ h => absurd h (by simp [noAt])⟩
  have hlg : longA noAt = false := by decide +kernel
  rw [hlg] at HLG
  have HLG : Hid (∀ W : World, Calls Try.prog 45 #[.agg #[.string ⟨#[]⟩, .slice none 0 0, .slice none 0 0]] W (BoolP false W)) := HLG
  have hgw := hb.lt
  have HBK := Lib.hid hb
  clear h1 h2 hS ho hb hlg
  go_enter Try.func29, Try.ntmps29
  go_wp2_with fail
  go_loopw [5, 6] (fun v5 v6 wr => ∃ i n : Nat, v5 = .int .i64 n ∧ v6 = .int .i64 i ∧ (i = 0 ∧ n = 1 ∨ i = 1 ∧ n = 1 + K) ∧ Hid (Below w.heap.size w wr)) (fun _ v6 _ => 1 - (intOf v6).toNat)
  case atStart => exact ⟨0, 1, rfl, rfl, .inl ⟨rfl, rfl⟩, Lib.hid (Below.refl _ w)⟩
  case round =>
    obtain ⟨i, n, rfl, rfl, hin, HBw⟩ := hrel
    rcases hin with ⟨rfl, rfl⟩ | ⟨rfl, rfl⟩
    · have hbw := HBw.out
      have hzw := hbw.size
      have HBK1 : Hid (Blk wr g 49 (lnB A l.length c)) := Lib.hid (HBK.out.below hbw hgw)
      have HB2 : Hid (Below wr.heap.size wr (wr.alloc (.cells (lnB A l.length c) 49))) := Lib.hid ((Below.refl _ wr).alloc (Nat.le_refl _) _)
      have hbk := Blk.new wr 49 (lnB A l.length c)
      have HBK2 := Lib.hid hbk
      have hz2 : (wr.alloc (.cells (lnB A l.length c) 49)).heap.size = wr.heap.size + 1 := by simp
      have x2 : (wr.alloc (.cells (lnB A l.length c) 49)).cell? ⟨wr.heap.size, 2, none⟩ = some (.string ⟨#[]⟩) := hbk.cell 2
      have x3 : (wr.alloc (.cells (lnB A l.length c) 49)).cell? ⟨wr.heap.size, 3, none⟩ = some (.string ⟨#[]⟩) := hbk.cell 3
      have x4 : (wr.alloc (.cells (lnB A l.length c) 49)).cell? ⟨wr.heap.size, 4, none⟩ = some (.string ⟨#[]⟩) := hbk.cell 4
      have x5 : (wr.alloc (.cells (lnB A l.length c) 49)).cell? ⟨wr.heap.size, 5, none⟩ = some (.string ⟨#[]⟩) := hbk.cell 5
      have x6 : (wr.alloc (.cells (lnB A l.length c) 49)).cell? ⟨wr.heap.size, 6, none⟩ = some (.string ⟨#[]⟩) := hbk.cell 6
      have x7 : (wr.alloc (.cells (lnB A l.length c) 49)).cell? ⟨wr.heap.size, 7, none⟩ = some (.slice none 0 0) := hbk.cell 7
      have x8 : (wr.alloc (.cells (lnB A l.length c) 49)).cell? ⟨wr.heap.size, 8, none⟩ = some (.slice none 0 0) := hbk.cell 8
      clear hbk hbw
      have HZ2 := Lib.hid hz2
      clear hz2
      go_wp2_with (first | (refine wpList_load_row rfl 49 (.tmp 28) rfl g rfl 49 (lnB A l.length c) _ _ HBK1.out Try.underlying49 rfl blk_size ?_) | (refine wpList_store_row rfl 49 (.tmp 7) (.tmp 29) rfl wr.heap.size (lnB A l.length c) rfl rfl 49 _ (Blk.new wr _ _) blk_size (by rfl) (by simp [lnB, Value.oneCell']) ?_; rw [World.setRow_alloc_new]; generalize wr.alloc (.cells (lnB A l.length c) 49) = W1 at *))
      ((with_reducible refine (HLG.out W1).mono ?_))
      rintro e W2 ⟨rfl, b2⟩
      have HBK3 : Hid (Blk W2 wr.heap.size 49 (lnB A l.length c)) := Lib.hid (HBK2.out.below b2 HBK2.out.lt)
      have HB3 : Hid (Below w.heap.size w W2) := Lib.hid (HBw.out.trans ((HB2.out.trans (b2.mono (by have := HZ2.out; omega))).mono hzw))
      have hz2b : wr.heap.size + 1 ≤ W2.heap.size := by have := b2.size; have := HZ2.out; omega
      have HS : Hid (∀ W, Below W2.heap.size W2 W → W.cell? ⟨wr.heap.size, 9, none⟩ = some (.slice A l.length c) ∧ W.cell? ⟨wr.heap.size, 10, none⟩ = some (.slice none 0 0) ∧ Below W2.heap.size W2 W) := Lib.hid fun W hW =>
        ⟨(hW.cell (p := ⟨wr.heap.size, 9, none⟩) (by show wr.heap.size < _; omega)).trans (HBK3.out.cell 9), (hW.cell (p := ⟨wr.heap.size, 10, none⟩) (by show wr.heap.size < _; omega)).trans (HBK3.out.cell 10), hW⟩
      have HC1 : Hid (∀ W, Below W2.heap.size W2 W → Calls Try.prog 46 #[.slice A l.length c, .int .i64 0] W fun e w' => e = .returned (.int .i64 K) ∧ Below W2.heap.size W2 w') := Lib.hid fun W hW => (HW.out W (HB3.out.trans (hW.mono HB3.out.size))).mono fun e w' h => ⟨h.1, hW.trans (h.2.mono hW.size)⟩
      have HC2 : Hid (∀ W, Below W2.heap.size W2 W → Calls Try.prog 29 #[.slice none 0 0, .int .i64 1] W fun e w' => e = .returned (.int .i64 0) ∧ Below W2.heap.size W2 w') := Lib.hid fun W hW => (t_heavy0 W).mono fun e w' h => ⟨h.1, by rw [h.2]; exact hW⟩
      have HEND : Hid (∀ W, Below W2.heap.size W2 W → Hid (Below w.heap.size w W)) := Lib.hid fun W hW => Lib.hid (HB3.out.trans (hW.mono HB3.out.size))
      have HB0 : Hid (Below W2.heap.size W2 W2) := Lib.hid (Below.refl _ _)
      obtain ⟨s0, s1, s2⟩ := HS.out W2 HB0.out
      have hw1 : IntKind.i64.wrap 1 = 1 := by decide
      have hw2 : IntKind.i64.wrap (K : Int) = (K : Int) := IntWalk.i64_in _ (by omega)
      have hw3 : IntKind.i64.wrap (1 + (K : Int)) = 1 + (K : Int) := IntWalk.i64_in _ (by omega)
      clear x2 x3 x4 x5 x6 x7 x8 b2 HLG HBK3 HB3 HW
      go_wp2_with fail
      go_region_held3 (fun w' => w'.cell? ⟨wr.heap.size, 9, none⟩ = some (.slice A l.length c) ∧ w'.cell? ⟨wr.heap.size, 10, none⟩ = some (.slice none 0 0) ∧ Below W2.heap.size W2 w')
        (first | exact HS.out _ b1 | exact HS.out _ HB0.out.drew | go_keep)
        (first
          | (go_at_call 46; (with_reducible refine (HC1.out _ (by assumption : _ ∧ _ ∧ Below W2.heap.size W2 _).2.2).mono ?_); rintro e W3 ⟨rfl, b1⟩)
          | (go_at_call 29; (with_reducible refine (HC2.out _ (by assumption : _ ∧ _ ∧ Below W2.heap.size W2 _).2.2).mono ?_); rintro e W3 ⟨rfl, b1⟩))
      go_wp2_with fail
      go_roundw
      case rel => exact ⟨1, 1 + K, by go_num, rfl, .inr ⟨rfl, rfl⟩, HEND.out _ b1⟩
      case measure => simp [intOf]
    · go_wp2_with fail
      go_ret
      exact ⟨by go_num, HBw.out⟩

set_option maxHeartbeats 4000000 in
set_option maxRecDepth 100000 in
theorem t_Small {S : Nat → Prop} {A : Option Addr} {c g : Nat} {vs : List (Array Value)} {l : List InT} (w : World) (h1 : RepIs w S vs l) (h2 : ReadsS w S 10 A l.length (vs.flatMap Array.toList)) (hS : ∀ g, S g → g < w.heap.size) (ho : okL l) (hb : Blk w g 49 (lnB A l.length c)) :
    Calls Try.prog 21 #[.agg #[.slice none 0 0, .slice (some ⟨g, 0, none⟩) 1 1]] w (BoolP (decide (1 + wgtF 21 l ≤ 120)) w) := by
  have HH : Hid (∀ W, Below w.heap.size w W → Calls Try.prog 29 #[.slice (some ⟨g, 0, none⟩) 1 1, .int .i64 0] W (IntP (1 + wgtF 21 l) W)) := Lib.hid fun W hW =>
    t_heavy1 W (h1.keep (fun g hg => hW.block g (hS g hg)) fun _ h => h) (h2.keep (fun g hg => hW.block g (hS g hg)) fun _ h => h) (fun g hg => Nat.lt_of_lt_of_le (hS g hg) hW.size) ho (hb.below hW hb.lt)
  have hbx : Below w.heap.size w (w.alloc (.cells #[.slice none 0 0, .slice (some ⟨g, 0, none⟩) 1 1] 51)) := (Below.refl _ w).alloc (Nat.le_refl _) _
  have HBX := Lib.hid hbx
  have HC := Lib.hid (HH.out _ hbx)
  have x0 : (w.alloc (.cells #[.slice none 0 0, .slice (some ⟨g, 0, none⟩) 1 1] 51)).cell? ⟨w.heap.size, 0, none⟩ = some (.slice none 0 0) := (Blk.new w 51 #[.slice none 0 0, .slice (some ⟨g, 0, none⟩) 1 1]).cell 0
  have x1 : (w.alloc (.cells #[.slice none 0 0, .slice (some ⟨g, 0, none⟩) 1 1] 51)).cell? ⟨w.heap.size, 1, none⟩ = some (.slice (some ⟨g, 0, none⟩) 1 1) := (Blk.new w 51 #[.slice none 0 0, .slice (some ⟨g, 0, none⟩) 1 1]).cell 1
  generalize wgtF 21 l = K at *
  clear hbx HH h1 h2 hS ho hb
  go_enter Try.func21, Try.ntmps21
  go_wp2_with fail
  generalize w.alloc (.cells #[.slice none 0 0, .slice (some ⟨g, 0, none⟩) 1 1] 51) = W1 at *
  go_loopw [3] (fun v3 wr => v3 = .int .i64 0 ∧ wr = W1) (fun _ _ => 0)
  case atStart => exact ⟨rfl, rfl⟩
  case round =>
    obtain ⟨rfl, rfl⟩ := hrel
    go_wp2_with fail
    ((with_reducible refine HC.out.mono ?_))
    rintro e W2 ⟨rfl, b2⟩
    have HF : Hid (BoolP (decide (1 + K ≤ 120)) w (.returned (.bool (decide (((1 + K : Nat) : Int) ≤ 120)))) W2) := Lib.hid ⟨by congr 2; exact decide_eq_decide.2 (by omega), HBX.out.trans (b2.mono HBX.out.size)⟩
    clear b2 HC
    go_wp2_with fail
    go_ret
    exact HF.out

theorem bl_fill (A : Option Addr) (n c : Nat) : Instr.fill (fun i => some (i * 11, 11)) ((Array.range (1 * 11)).map ((Value.agg (lnB none 0 0)).cells[· % (Value.agg (lnB none 0 0)).cells.size]!)) [(0, .agg (lnB A n c))] = some (lnB A n c) := by kernel_rfl
theorem wpList_blSlice {ops : Array Oper} {rest : List Oper} {o : Oper} {a : Act} {w : World} {Q : Exit → Act → World → Prop} (hg : o.guard = none) (x : Operand) (ho : o.op = .buildSlice 47 1 #[(0, x)]) (A : Option Addr) (n c : Nat) (hx : a.eval x = .agg (lnB A n c))
    (h : wpList Try.prog ops Q rest (a.put o.dst (.slice (some ⟨w.heap.size, 0, none⟩) 1 1)) (w.alloc (.cells (lnB A n c) 49))) : wpList Try.prog ops Q (o :: rest) a w := by
  obtain ⟨i0, hi0, hz0, hz1, hz2⟩ := info_parts blk_info
  refine wpList_buildSlice hg 47 49 1 _ ho _ i0 _ Try.underlying47 hi0 hz0 (by rw [hz1]; decide) (by rw [hz1]; decide) ?_ h
  rw [hz1]
  have e : (#[((0 : Nat), x)].map fun (q : Nat × Operand) => (q.1, a.eval q.2)).toList = [(0, a.eval x)] := by simp
  rw [hx] at e
  show Instr.fill _ _ (#[((0 : Nat), x)].map fun (q : Nat × Operand) => (q.1, a.eval q.2)).toList = _
  rw [e]
  exact bl_fill A n c
/-- The pieces looked at are short. -/
def FewN (ps : List PcT) (i : Nat) : Prop := ∀ j, j < i → (pcX ps j).ch.size ≤ 9 ∧ (pcX ps j).n ≤ 40
/-- The inlines so far lie in a row of the call's own. -/
def FwW (w : World) (S : Nat → Prop) (ps : List PcT) (i : Nat) (v : Value) (wr : World) : Prop :=
  FewN ps i ∧ (∃ vs, RepIs wr S vs ((ps.map (·.inl)).take i) ∧ wr.ownsRow w.heap.size 37 10 v i (vs.flatMap Array.toList)) ∧ Below w.heap.size w wr
theorem fewP_no {ps : List PcT} {i : Nat} (hi : i < ps.length) (h : ¬ ((pcX ps i).ch.size ≤ 9 ∧ (pcX ps i).n ≤ 40)) : fewP ps = false := by
  have e : pcX ps i = ps[i] := by unfold pcX; rw [List.getD_eq_getElem?_getD, List.getElem?_eq_getElem hi]; rfl
  rw [e] at h
  unfold fewP
  have : (ps.all fun p => decide (p.ch.size ≤ 9) && decide (p.n ≤ 40)) = false := by
    rw [List.all_eq_false]
    exact ⟨ps[i], List.getElem_mem hi, by simpa using h⟩
  rw [this]; simp
theorem fewP_yes {ps : List PcT} (hl : ps.length ≤ 40) (h : FewN ps ps.length) : fewP ps = decide (1 + wgtF 21 (ps.map (·.inl)) ≤ 120) := by
  unfold fewP
  have : (ps.all fun p => decide (p.ch.size ≤ 9) && decide (p.n ≤ 40)) = true := by
    rw [List.all_eq_true]
    intro p hp
    obtain ⟨i, hi, rfl⟩ := List.mem_iff_getElem.1 hp
    have e : pcX ps i = ps[i] := by unfold pcX; rw [List.getD_eq_getElem?_getD, List.getElem?_eq_getElem hi]; rfl
    have := h i hi
    rw [e] at this
    simpa using this
  rw [this]; simp [hl]
set_option maxHeartbeats 4000000 in
set_option maxRecDepth 100000 in
theorem t_few {S : Nat → Prop} {L : Value} {ps : List PcT} (w : World) (hL : PcsR w S L ps) (hS : ∀ g, S g → g < w.heap.size) (ho : OkPs ps) :
    Calls Try.prog 9 #[L] w (BoolP (fewP ps) w) := by
  obtain ⟨A0, c0, vs0, hL0, -⟩ := id hL
  subst hL0
  have hm := ho.1
  unfold maxLen at hm
  have HOK := Lib.hid ho.2
  by_cases h40 : 40 < ps.length
  · have hF : fewP ps = false := by unfold fewP; rw [decide_eq_false (by omega)]; rfl
    rw [hF]
    have h40' : (40 : Int) < (ps.length : Int) := by omega
    clear hL hF ho HOK
    go_enter Try.func9, Try.ntmps9
    go_wp2_with fail
    go_ret
    exact ⟨rfl, Below.refl _ w⟩
  have h40' : decide ((40 : Int) < (ps.length : Int)) = false := decide_eq_false (by omega)
  have hl40 : ps.length ≤ 40 := by omega
  have HL := Lib.hid hL
  have HS := Lib.hid hS
  obtain ⟨i0, hi0, hz0, hz1, hz2⟩ := info_parts inl_info
  have H0 : Hid (FwW w S ps 0 (.slice none 0 0) w) := Lib.hid ⟨fun j hj => absurd hj (by omega), ⟨[], .nil, World.ownsRow_nil _ _ _ _⟩, Below.refl _ w⟩
  clear hL hS ho
  go_enter Try.func9, Try.ntmps9
  go_wp2_with fail
  clear h40'
  go_loopw [3, 4] (fun v3 v4 wr => ∃ i : Nat, i ≤ ps.length ∧ v4 = .int .i64 i ∧ Hid (FwW w S ps i v3 wr)) (fun _ v4 _ => ps.length - (intOf v4).toNat)
  case atStart => exact ⟨0, Nat.zero_le _, rfl, H0⟩
  case round =>
    clear H0
    obtain ⟨i, hi, rfl, HI⟩ := hrel
    obtain ⟨hfn, ⟨vs, hrep, hown⟩, hbw⟩ := HI.out
    obtain ⟨A3, c3, hv3, -, -⟩ := own_form hown
    subst hv3
    have hzw := hbw.size
    by_cases hlt : i < ps.length
    · have hLr : PcsR wr S (.slice A0 ps.length c0) ps := HL.out.keep (fun g hg => hbw.block g (HS.out g hg)) fun _ h => h
      obtain ⟨b, off, c, e, hb, hat⟩ := hLr.opn (by omega)
      obtain ⟨x0, x1, x2, x3, x4, x5, x6, x7, x8, x9, hr, hrg, hone⟩ := hat i hlt
      injection e with e1 e2 e3
      subst e1
      subst e3
      have hch : wr.cell? ⟨b, off + i * 18 + 11, none⟩ = some (.string (pcX ps i).ch) := hrg 11 _ rfl
      have hcn : wr.cell? ⟨b, off + i * 18 + 12, none⟩ = some (.int .i64 (pcX ps i).n) := hrg 12 _ rfl
      have hii : (i : Int) < (ps.length : Int) := by omega
      have hi00 : (0 : Int) ≤ (i : Int) := by omega
      have epc : pcX ps i = ps[i] := by unfold pcX; rw [List.getD_eq_getElem?_getD, List.getElem?_eq_getElem hlt]; rfl
      have hok := HOK.out (pcX ps i) (by rw [epc]; exact List.getElem_mem hlt)
      obtain ⟨-, hcs, hn1, hn2⟩ := hok
      unfold reachBytes at hcs
      by_cases hs9 : 9 < (pcX ps i).ch.size
      · have hs9' : (9 : Int) < ((pcX ps i).ch.size : Int) := by omega
        have HF : Hid (BoolP (fewP ps) w (.returned (.bool false)) wr) := Lib.hid ⟨by rw [fewP_no hlt (fun h => by omega)], hbw⟩
        clear hfn hrep hown hbw hLr hat hr hrg hone HI HOK
        clear epc
        generalize (pcX ps i).ch = ch at *
        generalize (pcX ps i).n = pn at *
        go_wp2_with fail
        go_ret
        exact HF.out
      have hs9' : decide ((9 : Int) < ((pcX ps i).ch.size : Int)) = false := decide_eq_false (by omega)
      by_cases hn40 : 40 < (pcX ps i).n
      · have HF : Hid (BoolP (fewP ps) w (.returned (.bool false)) wr) := Lib.hid ⟨by rw [fewP_no hlt (fun h => by omega)], hbw⟩
        clear hfn hrep hown hbw hLr hat hr hrg hone HI HOK
        clear epc
        generalize (pcX ps i).ch = ch at *
        generalize (pcX ps i).n = pn at *
        go_wp2_with fail
        go_ret
        exact HF.out
      have hn40' : decide (40 < (pcX ps i).n) = false := decide_eq_false hn40
      have HG : Hid (wr.rangeAt b (off + i * 18 + 1) [x0, x1, x2, x3, x4, x5, x6, x7, x8, x9]) := Lib.hid fun j u hj => by
        have hj10 := (List.getElem?_eq_some_iff.1 hj).1
        simp only [List.length_cons, List.length_nil] at hj10
        rw [Nat.add_assoc (off + i * 18) 1 j]
        refine hrg (1 + j) u ?_
        rw [← hj, Nat.add_comm 1 j]
        match j, hj10 with
        | 0, _ => rfl
        | 1, _ => rfl
        | 2, _ => rfl
        | 3, _ => rfl
        | 4, _ => rfl
        | 5, _ => rfl
        | 6, _ => rfl
        | 7, _ => rfl
        | 8, _ => rfl
        | 9, _ => rfl
      have HV1 := Lib.hid hr.one
      have HOWN := Lib.hid (own_below hown ((Below.refl _ wr).alloc (Nat.le_refl _) (.cells #[x0, x1, x2, x3, x4, x5, x6, x7, x8, x9] 37)))
      have HPU : Hid (∀ (W7 : World) (g7 cap7 : Nat), W7.ownsRow w.heap.size 37 10 (.slice (some ⟨g7, 0, none⟩) (i + 1) cap7) (i + 1) (vs.flatMap Array.toList ++ [x0, x1, x2, x3, x4, x5, x6, x7, x8, x9]) → (wr.alloc (.cells #[x0, x1, x2, x3, x4, x5, x6, x7, x8, x9] 37)).grownBy W7 (Value.slice A3 i c3).ownBlock → FwW w S ps (i + 1) (.slice (some ⟨g7, 0, none⟩) (i + 1) cap7) W7) := Lib.hid fun W7 g7 cap7 h7 hgr => by
        have hbel : Below w.heap.size w W7 := ((hbw.alloc hzw _).grown hgr (by simp; omega) fun k hk => (hown.lt k hk).1)
        have hk : ∀ g, S g → W7.heap[g]? = wr.heap[g]? := fun g hg => (hbel.block g (HS.out g hg)).trans (hbw.block g (HS.out g hg)).symm
        refine ⟨fun j hj => ?_, ⟨vs ++ [#[x0, x1, x2, x3, x4, x5, x6, x7, x8, x9]], ?_, ?_⟩, hbel⟩
        · rcases Nat.lt_or_ge j i with hji | hji
          · exact hfn j hji
          · obtain rfl : j = i := by omega
            exact ⟨by omega, by omega⟩
        · have hlm : i < (ps.map (·.inl)).length := by rw [List.length_map]; exact hlt
          rw [List.take_succ_eq_append_getElem hlm, List.getElem_map, ← epc]
          exact (hrep.keep hk fun _ h => h).snoc (hr.keep hk fun _ h => h)
        · rw [List.flatMap_append, List.flatMap_singleton]; exact h7
      clear hfn hrep hown hLr hat hr hrg hone HI
      clear epc
      generalize (pcX ps i).ch = ch at *
      generalize (pcX ps i).n = pn at *
      go_wp2_with (first | (refine wpList_load_mid rfl 37 (.tmp 33) rfl b (off + i * 18 + 1) rfl _ _ HG.out Try.underlying37 rfl inl_size ?_) | (refine wpList_inSlice rfl (.tmp 34) rfl x0 x1 x2 x3 x4 x5 x6 x7 x8 x9 rfl ?_) | (at_builtin; refine wpList_append_lies _ rfl _ _ 26 rfl w.heap.size 37 i0 _ 10 192 Try.underlying26 hi0 hz0 hz1 hz2 rfl (by decide) _ _ _ rfl HOWN.out ⟨wr.heap.size, 0, none⟩ 1 1 [x0, x1, x2, x3, x4, x5, x6, x7, x8, x9] rfl rfl ?c1 ?c2 (by decide) ?c3 ?c4 ?c5 (wr.heap.size + 1) ?c6 ?_))
      case c2 => simpa using HV1.out
      case c3 => unfold maxLen; omega
      case c4 => omega
      case c5 => omega
      intro g7 cap7 W7 hown hgrow hlies hlt7
      have HF := Lib.hid (HPU.out W7 g7 cap7 hown hgrow)
      clear hown hgrow hlies hlt7 HPU
      go_wp2_with fail
      go_roundw
      case rel => exact ⟨i + 1, by omega, by go_num, HF⟩
      case measure => simp [intOf]; omega
    · obtain rfl : i = ps.length := by omega
      have hfy := fewP_yes hl40 hfn
      have htk : (ps.map (·.inl)).take ps.length = ps.map (·.inl) := by rw [← List.length_map (f := fun p : PcT => p.inl), List.take_length]
      rw [htk] at hrep
      have hll : (ps.map (·.inl)).length = ps.length := List.length_map _
      have hokl : okL (ps.map (·.inl)) := okL_of _ fun t ht => by
        obtain ⟨p, hp, rfl⟩ := List.mem_map.1 ht
        exact (HOK.out p hp).1
      have HB2 : Hid (Below wr.heap.size wr (wr.alloc (.cells (lnB A3 ps.length c3) 49))) := Lib.hid ((Below.refl _ wr).alloc (Nat.le_refl _) _)
      have hSM := Lib.hid (t_Small (S := fun g => S g ∨ (w.heap.size ≤ g ∧ g < wr.heap.size)) (A := A3) (c := c3) (g := wr.heap.size) (vs := vs) (l := ps.map (·.inl)) (wr.alloc (.cells (lnB A3 ps.length c3) 49)) (hrep.keep (fun g hg => HB2.out.block g (Nat.lt_of_lt_of_le (HS.out g hg) hzw)) fun _ h => .inl h) (by
        rw [hll]
        exact (ReadsS.of_own hown).keep (fun g hg => HB2.out.block g hg.2) fun _ h => .inr h) (fun g hg => Nat.lt_of_lt_of_le (by
        rcases hg with hg | hg
        · exact Nat.lt_of_lt_of_le (HS.out g hg) hzw
        · exact hg.2) HB2.out.size) hokl (by rw [hll]; exact Blk.new wr _ _))
      rw [← hfy] at hSM
      have HB3 : Hid (Below w.heap.size w (wr.alloc (.cells (lnB A3 ps.length c3) 49))) := Lib.hid (hbw.alloc hzw _)
      clear hfn hrep hown hbw HI hfy hokl
      have hln : (#[.int .i64 0, .int .i64 0, .string ⟨#[]⟩, .string ⟨#[]⟩, .string ⟨#[]⟩, .string ⟨#[]⟩, .string ⟨#[]⟩, .slice none 0 0, .slice none 0 0, .slice A3 ps.length c3, .slice none 0 0] : Array Value) = lnB A3 ps.length c3 := rfl
      go_wp2_with (refine wpList_blSlice rfl (.tmp 38) rfl A3 ps.length c3 rfl ?_; generalize wr.alloc (.cells (lnB A3 ps.length c3) 49) = W3 at *)
      ((with_reducible refine hSM.out.mono ?_))
      rintro e W4 ⟨rfl, b4⟩
      have HF := Lib.hid (HB3.out.trans (b4.mono HB3.out.size))
      clear b4 hSM
      go_wp2_with fail
      go_ret
      exact ⟨rfl, HF.out⟩

end Go.Proofs.Ytfnloonmeilhlaa
namespace Go.Proofs.Ytfnloonmeilhlaa
open Go.RowKit Go.Pub
theorem byteCellsOf : Try.prog.cellsOf 5 = 1 := by kernel_rfl
/-- What a builder's String leaves. -/
def StrP (B M : Nat) (l : List UInt8) (w : World) (e : Ending) (w' : World) : Prop :=
  e = .returned (.string ⟨l.toArray⟩) ∧ Below B w w' ∧ (∀ k, M ≤ k → w'.heap[k]? = w.heap[k]?) ∧ w'.heap.size = w.heap.size
set_option maxHeartbeats 1000000 in
set_option maxRecDepth 100000 in
theorem b_string (B b : Nat) (l : List UInt8) (w0 w : World) (h : Lib.IsBuilderF 84 5 B b (Lib.byteCells l) w0) (hbw : Below w0.heap.size w0 w) (h0 : l ≠ []) :
    Calls Try.prog 37 #[.pointer (some ⟨b, 0, none⟩)] w (StrP B w0.heap.size l w) := by
  obtain ⟨p, hAt⟩ : ∃ p, Lib.BuilderAtF 84 5 B b p (Lib.byteCells l) w0 := by
    rcases h with h | h
    · exact ⟨_, h⟩
    · exact ⟨_, h⟩
  obtain ⟨hB, v, hbk, hown, hne⟩ := hAt
  have hl0 : l.length ≠ 0 := by simpa using h0
  rw [Lib.byteCells_length] at hown
  obtain ⟨g, cap, cur, fz, rfl, hbg, hg, hfz, hnc, hcm, hcs, htake⟩ : ∃ g cap cur fz, v = .slice (some ⟨g, 0, none⟩) l.length cap ∧ B ≤ g ∧ w0.heap[g]? = some (.cells cur 5 fz) ∧ fz.2 ≤ l.length * 1 ∧ l.length ≤ cap ∧ cap ≤ maxLen ∧ cur.size = cap * 1 ∧ cur.toList.take (l.length * 1) = Lib.byteCells l := by
    rcases hown.2 with ⟨_, hz⟩ | ⟨g, cap, cur, fz, hv, r⟩
    · exact absurd hz hl0
    · exact ⟨g, cap, cur, fz, hv, r⟩
  have hgl : g < w0.heap.size := (Array.getElem?_eq_some_iff.1 hg).1
  have hbl : b < w0.heap.size := (Array.getElem?_eq_some_iff.1 hbk).1
  have hg : w.heap[g]? = some (.cells cur 5 fz) := (hbw.block g hgl).trans hg
  have hbk : w.heap[b]? = some (.cells #[p, .slice (some ⟨g, 0, none⟩) l.length cap] 84 (0, 0)) := (hbw.block b hbl).trans hbk
  have c1 : w.drew.cell? ⟨b, 1, none⟩ = some (.slice (some ⟨g, 0, none⟩) l.length cap) := by
    have : w.drew.heap[b]? = some (.cells #[p, .slice (some ⟨g, 0, none⟩) l.length cap] 84 (0, 0)) := hbk
    rw [Lib.cell_of_heap this]; rfl
  have hSD : (Builtin.unsafeSliceData_ #[82] 107 #[.slice (some ⟨g, 0, none⟩) l.length cap]).run Try.prog w.drew = .ok (.pointer (some ⟨g, 0, none⟩)) w.drew :=
    Lib.run_unsafeSliceData_row _ _ _ _ _ _ (by omega)
  have hUS : (Builtin.unsafeString_ #[107, 3] 9 #[.pointer (some ⟨g, 0, none⟩), .int .i64 l.length]).run Try.prog w.drew = .ok (.string ⟨l.toArray⟩) (w.drew.freeze ⟨g, 0, none⟩ l.length) := by
    refine Lib.run_unsafeString_row w.drew 107 3 9 5 Try.underlying107 byteCellsOf g cur.size (by have hg' : w.drew.heap[g]? = some (.cells cur 5 fz) := hg; simp [World.shape?, hg']) l h0 (by omega) (by unfold maxLen at hcm; omega) ?_
    intro j x hx
    have hj : j < l.length := (List.getElem?_eq_some_iff.1 hx).1
    have hx' : (Lib.byteCells l)[j]? = some (.int .u8 x.toNat) := by simp [Lib.byteCells, hx]
    rw [← htake, List.getElem?_take, if_pos (by omega), Array.getElem?_toList] at hx'
    have hg' : w.drew.heap[g]? = some (.cells cur 5 fz) := hg
    have hadd : (⟨g, 0, none⟩ : Addr).add j = ⟨g, j, none⟩ := by unfold Addr.add; split <;> simp_all
    rw [hadd, Lib.cell_of_heap hg']; exact hx'
  have HF : Hid (StrP B w0.heap.size l w (.returned (.string ⟨l.toArray⟩)) (w.drew.freeze ⟨g, 0, none⟩ l.length)) := Lib.hid ⟨rfl, Lib.below_freeze (Below.drew (Below.refl B w)) (p := ⟨g, 0, none⟩) hbg _, fun k hk => by
    have hkg : k ≠ g := by omega
    show (w.drew.freeze ⟨g, 0, none⟩ l.length).heap[k]? = w.drew.heap[k]?
    unfold World.freeze
    split
    · rfl
    · simp only [Array.getElem?_modify]
      rw [if_neg (by intro e; exact hkg e.symm)], by
    show (w.drew.freeze ⟨g, 0, none⟩ l.length).heap.size = w.drew.heap.size
    unfold World.freeze
    split
    · rfl
    · simp⟩
  clear h hbw hbk hg hown htake
  have mixed : Try.prog.follows .mixedOrders = true := by kernel_rfl
  go_enter Try.func37, Try.ntmps37
  go_wp2
  go_region_o
  all_goals (go_wp2; go_ret; exact HF.out)

end Go.Proofs.Ytfnloonmeilhlaa
