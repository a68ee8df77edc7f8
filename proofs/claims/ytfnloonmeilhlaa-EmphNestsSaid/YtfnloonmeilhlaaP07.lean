/-
  Texts of the proof, put together (what this law reaches): EmTD, EmMD, EmVB, EmXC, EmXD, EmXE, EmXF.
-/
import Derived.Test.YtfnloonmeilhlaaP06
import Derived.Test.YtfnloonmeilhlaaP01
import Derived.Test.YtfnloonmeilhlaaP03
import Derived.Test.YtfnloonmeilhlaaP05
set_option linter.unusedVariables false
set_option linter.unusedSimpArgs false
namespace Go.Pub
/-- An inline more behind what is joined. -/
def stepJ (out : List InT) (x : InT) : List InT :=
  if x.kind = 1 ∧ x.text.toList = [] then out else match out.getLast? with
    | none => out ++ [x]
    | some y => if x.kind = 1 ∧ y.kind = 1 then out.dropLast ++ [setTxt y (y.text.toList ++ x.text.toList)] else out ++ [x]
theorem stepJ_empty {out : List InT} {x : InT} (h : x.kind = 1 ∧ x.text.toList = []) : stepJ out x = out := by unfold stepJ; rw [if_pos h]
theorem stepJ_nil {x : InT} (h : ¬ (x.kind = 1 ∧ x.text.toList = [])) : stepJ [] x = [x] := by unfold stepJ; rw [if_neg h]; rfl
theorem stepJ_txt {o : List InT} {x y : InT} (h : x.kind = 1) (h2 : x.text.toList ≠ []) (hy : y.kind = 1) : stepJ (o ++ [y]) x = o ++ [setTxt y (y.text.toList ++ x.text.toList)] := by
  unfold stepJ
  rw [if_neg (fun e => h2 e.2), List.getLast?_concat]
  dsimp only
  rw [if_pos ⟨h, hy⟩, List.dropLast_concat]
theorem stepJ_add {o : List InT} {x y : InT} (h : ¬ (x.kind = 1 ∧ x.text.toList = [])) (hy : ¬ (x.kind = 1 ∧ y.kind = 1)) : stepJ (o ++ [y]) x = o ++ [y] ++ [x] := by
  unfold stepJ
  rw [if_neg h, List.getLast?_concat]
  dsimp only
  rw [if_neg hy]
theorem setTxt_twice (x : InT) (a b : List UInt8) : setTxt (setTxt x a) b = setTxt x b := by obtain ⟨k, t, d, ti, at', ar, c, ks⟩ := x; rfl
theorem joinT_two {x y : InT} {l : List InT} (hx : x.kind = 1) (hxt : x.text.toList ≠ []) (hy : y.kind = 1) (hyt : y.text.toList ≠ []) : joinT (x :: y :: l) = joinT (setTxt x (x.text.toList ++ y.text.toList) :: l) := by
  have hs : (setTxt x (x.text.toList ++ y.text.toList)).kind = 1 := by rw [setTxt_kind]; exact hx
  have hst : (setTxt x (x.text.toList ++ y.text.toList)).text.toList ≠ [] := by rw [setTxt_text]; simp [hxt]
  rw [joinT_cons x, if_neg (by simp [hx]), if_neg hxt, joinT_cons y, if_neg (by simp [hy]), if_neg hyt, joinT_cons (setTxt x _), if_neg (by simp [hs]), if_neg hst]
  cases joinT l with
  | nil => simp only [if_pos hy]
  | cons z r =>
    dsimp only
    by_cases hz : z.kind = 1
    · rw [if_pos hz, if_pos hz]
      dsimp only
      rw [if_pos (by rw [setTxt_kind]; exact hy), setTxt_text, setTxt_text, setTxt_twice, List.append_assoc]
    · rw [if_neg hz, if_neg hz]
      dsimp only
      rw [if_pos hy]
theorem foldJ : ∀ (l : List InT), (∀ out : List InT, (∀ y, out.getLast? = some y → y.kind ≠ 1) → l.foldl stepJ out = out ++ joinT l) ∧ (∀ (o : List InT) (y : InT), y.kind = 1 → y.text.toList ≠ [] → l.foldl stepJ (o ++ [y]) = o ++ joinT (y :: l))
  | [] => ⟨fun out _ => by show out = out ++ []; rw [List.append_nil], fun o y h1 h2 => by
      rw [joinT_cons, if_neg (by simp [h1]), if_neg h2]; rfl⟩
  | x :: l => by
    obtain ⟨ha, hb⟩ := foldJ l
    refine ⟨fun out ho => ?_, fun o y h1 h2 => ?_⟩
    · rw [List.foldl_cons]
      by_cases hk : x.kind = 1
      · by_cases ht : x.text.toList = []
        · rw [stepJ_empty ⟨hk, ht⟩, ha out ho, joinT_empty hk ht]
        · have e : stepJ out x = out ++ [x] := by
            rcases List.eq_nil_or_concat out with rfl | ⟨o, y, rfl⟩
            · exact stepJ_nil fun h => ht h.2
            · rw [List.concat_eq_append] at ho ⊢
              exact stepJ_add (fun h => ht h.2) fun h => ho y (List.getLast?_concat) h.2
          rw [e, hb out x hk ht]
      · have e : stepJ out x = out ++ [x] := by
          rcases List.eq_nil_or_concat out with rfl | ⟨o, y, rfl⟩
          · exact stepJ_nil fun h => hk h.1
          · rw [List.concat_eq_append]
            exact stepJ_add (fun h => hk h.1) fun h => hk h.1
        rw [e, ha (out ++ [x]) (fun y hy => by rw [List.getLast?_concat] at hy; injection hy with hy; rw [← hy]; exact hk), joinT_no hk, List.append_assoc]
        rfl
    · rw [List.foldl_cons]
      by_cases hk : x.kind = 1
      · by_cases ht : x.text.toList = []
        · rw [stepJ_empty ⟨hk, ht⟩, hb o y h1 h2, joinT_cons y, joinT_cons y (x :: l), joinT_empty hk ht]
        · rw [stepJ_txt hk ht h1, hb o _ (by rw [setTxt_kind]; exact h1) (by rw [setTxt_text]; simp [h2]), joinT_two h1 h2 hk ht]
      · rw [stepJ_add (fun h => hk h.1) (fun h => hk h.1), ha (o ++ [y] ++ [x]) (fun z hz => by rw [List.getLast?_concat] at hz; injection hz with hz; rw [← hz]; exact hk)]
        rw [joinT_txt0 h1 h2 (by rw [joinT_no hk]; intro z r e; injection e with e1 e2; rw [← e1]; exact hk), joinT_no hk]
        simp
theorem foldJ_all (l : List InT) : l.foldl stepJ [] = joinT l := by
  have := (foldJ l).1 [] (fun y h => by simp at h)
  simpa using this
theorem foldJ_take (l : List InT) (i : Nat) (h : i < l.length) : (l.take (i + 1)).foldl stepJ [] = stepJ ((l.take i).foldl stepJ []) l[i] := by
  rw [List.take_succ_eq_append_getElem h, List.foldl_append]; rfl
theorem stepJ_len (out : List InT) (x : InT) : (stepJ out x).length ≤ out.length + 1 := by
  unfold stepJ
  split
  · omega
  · split
    · simp
    · split
      · rw [List.length_append, List.length_dropLast, List.length_singleton]; omega
      · simp
/-- Texts that are empty give nothing. -/
def neT (x : InT) : Bool := !(decide (x.kind = 1) && decide (x.text.toList = []))
theorem joinT_filter : ∀ l : List InT, joinT (l.filter neT) = joinT l
  | [] => rfl
  | x :: l => by
    have ih := joinT_filter l
    by_cases h : x.kind = 1 ∧ x.text.toList = []
    · rw [List.filter_cons_of_neg (by simp [neT, h.1, h.2]), ih, joinT_empty h.1 h.2]
    · rw [List.filter_cons_of_pos (by simp only [neT, Bool.not_eq_true', Bool.and_eq_false_iff, decide_eq_false_iff_not]; by_cases h1 : x.kind = 1; exact .inr fun e => h ⟨h1, e⟩; exact .inl h1), joinT_cons, joinT_cons, ih]
theorem mergeL_filter (l : List InT) : mergeL (l.filter neT) = mergeL l := by
  unfold mergeL
  rw [mapI_eq, mapI_eq, ← joinT_filter (l.map mergeI), List.filter_map]
  congr 2
  refine List.filter_congr fun x _ => ?_
  show neT x = neT (mergeI x)
  unfold neT
  rw [(mergeI_kind x).1, (mergeI_kind x).2]
end Go.Pub
namespace Go.Pub
theorem catT_len : ∀ l : List InT, (catT l).length ≤ sizeL l
  | [] => Nat.zero_le _
  | x :: l => by
    have ih := catT_len l
    have hx : x.text.toList.length ≤ sizeI x := by
      obtain ⟨k, t, d, ti, a, ar, c, ks⟩ := x
      rw [sizeI]
      have : (InT.mk k t d ti a ar c ks).text.toList.length = t.size := by
        show t.toList.length = t.size
        rw [Lib.toList_data]; exact Array.length_toList
      omega
    show (x.text.toList ++ catT l).length ≤ _
    rw [List.length_append, sizeL]
    omega
theorem sizeL_app : ∀ a b : List InT, sizeL (a ++ b) = sizeL a + sizeL b
  | [], b => by rw [List.nil_append]; show _ = sizeL [] + _; rw [sizeL]; omega
  | x :: a, b => by rw [List.cons_append, sizeL, sizeL, sizeL_app a b]; omega
theorem segL_size (l : List InT) (i j : Nat) : sizeL (segL l i j) ≤ sizeL l := by
  unfold segL
  have h1 := sizeL_app ((l.drop i).take (j - i)) ((l.drop i).drop (j - i))
  have h2 := sizeL_app (l.take i) (l.drop i)
  rw [List.take_append_drop] at h1 h2
  omega
end Go.Pub
namespace Go.Proofs.Ytfnloonmeilhlaa
open Go.RowKit Go.Pub
/-- What holds in the loop over a run of texts. -/
structure TxW (l : List InT) (i j : Nat) (f : Int) (wr wx : World) : Prop where
  bel : Below wr.heap.size wr wx
  bld : Lib.IsBuilderF 84 5 wr.heap.size wr.heap.size (Lib.byteCells (catT (segL l i j))) wx
  kinds : ∀ (q : Nat) (hq : q < l.length), i ≤ q → q < j → l[q].kind = 1
  fst : (f = -1 ∧ firstT (segL l i j) = none) ∨ ∃ (q : Nat) (hq : q < l.length), f = q ∧ i ≤ q ∧ q < j ∧ firstT (segL l i j) = some l[q]
theorem TxW.start (l : List InT) (i : Nat) (wr : World) : TxW l i i (-1) wr (wr.alloc (.cells #[.pointer none, .slice none 0 0] 84)) :=
  ⟨(Below.refl _ wr).alloc (Nat.le_refl _) _, by rw [segL_nil]; exact Lib.IsBuilderF.of (Lib.fresh_isBuilder 84 5 wr), fun q hq h1 h2 => absurd h2 (by omega), .inl ⟨rfl, by rw [segL_nil]; rfl⟩⟩
theorem TxW.step {l : List InT} {i j : Nat} {f f' : Int} {wr wx w2 : World} (h : TxW l i j f wr wx) (hij : i ≤ j) (hj : j < l.length) (hk : l[j].kind = 1) (hb : Below wr.heap.size wx w2)
    (hbd : Lib.IsBuilderF 84 5 wr.heap.size wr.heap.size (Lib.byteCells (catT (segL l i j)) ++ Lib.byteCells l[j].text.toList) w2)
    (hf : f' = if f = -1 ∧ l[j].text.toList ≠ [] then (j : Int) else f) : TxW l i (j + 1) f' wr w2 := by
  refine ⟨h.bel.trans hb, ?_, fun q hq h1 h2 => ?_, ?_⟩
  · rw [segL_snoc hij hj, catT_snoc, Lib.byteCells_append]; exact hbd
  · rcases Nat.lt_or_ge q j with h3 | h3
    · exact h.kinds q hq h1 h3
    · obtain rfl : q = j := by omega
      exact hk
  · rw [segL_snoc hij hj, firstT_snoc]
    rcases h.fst with ⟨e, h0⟩ | ⟨q, hq, e, h1, h2, h0⟩
    · rw [h0, hf]
      by_cases ht : l[j].text.toList = []
      · rw [if_neg (fun h => h.2 ht)]
        exact .inl ⟨e, by simp [ht]⟩
      · rw [if_pos ⟨e, ht⟩]
        exact .inr ⟨j, hj, rfl, hij, by omega, by simp [ht]⟩
    · rw [h0, hf, if_neg (fun h => by have := h.1; omega)]
      exact .inr ⟨q, hq, e, h1, by omega, rfl⟩
end Go.Proofs.Ytfnloonmeilhlaa
namespace Go.Pub
theorem toI_core {ps : List PcT} {a b : ElL} (h1 : a.t = b.t) (h2 : a.run = b.run) (h3 : a.pc = b.pc) (h4 : a.left = b.left) : toI ps a = toI ps b := by
  unfold toI; rw [h1, h2, h3, h4]
theorem toI_run {ps : List PcT} {xs : List ElL} {i : Nat} (h : runX xs i = true) : toI ps (elX xs i) = txtT 1 ⟨(repB (pcX ps (pX xs i)).ch (lfX xs i)).toArray⟩ := by
  unfold toI
  rw [if_pos (show (elX xs i).run = true from h)]
  rfl
theorem toI_inl {ps : List PcT} {xs : List ElL} {i : Nat} (h : runX xs i = false) : toI ps (elX xs i) = (elX xs i).t := by
  unfold toI
  rw [if_neg (by rw [show (elX xs i).run = false from h]; decide)]
section
variable {ps : List PcT} {st : EmS} {o c j k : Nat} {ids : List Nat}
theorem toI_mtch (ho : o < st.xs.length) (hc : c < st.xs.length) (hne : o ≠ c) (h1 : j ≠ o) (h2 : j ≠ c) (h3 : j ≠ st.xs.length) : toI ps (elX (mtchA ps st o c).xs j) = toI ps (elX st.xs j) := by
  obtain ⟨e1, e2, e3, e4⟩ := core_mtch' (ps := ps) ho hc hne h3
  rw [if_neg (by omega)] at e4
  exact toI_core e1 e2 e3 e4
theorem toI_mtch0 (ho : o < st.xs.length) (hc : c < st.xs.length) (hne : o ≠ c) : toI ps (elX (mtchA ps st o c).xs st.xs.length) = kidT (pairK ps st.xs o c) (betA ps st.xs o c) := by
  obtain ⟨e1, e2⟩ := core_mtch0 (ps := ps) ho hc hne
  rw [toI_inl e2, e1]
theorem toI_mtchR (ho : o < st.xs.length) (hc : c < st.xs.length) (hne : o ≠ c) (hj : j = o ∨ j = c) (hr : runX st.xs j = true) : toI ps (elX (mtchA ps st o c).xs j) = txtT 1 ⟨(repB (pcX ps (pX st.xs j)).ch (lfX st.xs j - pairN st.xs o c)).toArray⟩ := by
  obtain ⟨e1, e2, e3, e4⟩ := core_mtch' (ps := ps) (j := j) ho hc hne (by omega)
  rw [if_pos hj] at e4
  rw [toI_run (e2.trans hr), e3, e4]
theorem pairN_one : 1 ≤ pairN st.xs o c ∧ pairN st.xs o c ≤ 2 := by unfold pairN; split <;> omega
theorem toI_ins {e : ElL} (h : j ≠ st.xs.length) : toI ps (elX (insX st.xs e 0) j) = toI ps (elX st.xs j) := by
  obtain ⟨e1, e2, e3, e4⟩ := core_ins' (xs := st.xs) (e := e) (k := 0) h
  exact toI_core e1 e2 e3 e4
theorem toI_ins0 {e : ElL} : toI ps (elX (insX st.xs e 0) st.xs.length) = toI ps e := by
  obtain ⟨e1, e2, e3, e4⟩ := core_ins0 (xs := st.xs) (e := e) (k := 0)
  exact toI_core e1 e2 e3 e4
/-- The inlines of elements. -/
def inlsA (ps : List PcT) (st : EmS) (ids : List Nat) : List InT := ids.map fun i => toI ps (elX st.xs i)
theorem inlsA_app (a b : List Nat) : inlsA ps st (a ++ b) = inlsA ps st a ++ inlsA ps st b := List.map_append
theorem inlsA_eq {st' : EmS} (h : ∀ i ∈ ids, toI ps (elX st'.xs i) = toI ps (elX st.xs i)) : inlsA ps st' ids = inlsA ps st ids := List.map_congr_left h
/-- What stands in the ring ahead of and behind the parts of a match is not of it. -/
theorem ring_parts {A B : List Nat} {R : Nat} {xs : List ElL} (h : RingI xs (A ++ R :: (B ++ [c]))) : (∀ i ∈ A, i ≠ R ∧ i ≠ c ∧ i < xs.length) ∧ (∀ i ∈ B, i ≠ R ∧ i ≠ c ∧ i < xs.length) ∧ R ≠ c ∧ R < xs.length ∧ c < xs.length := by
  have hn := (List.nodup_cons.1 h.nd).2
  rw [List.nodup_append] at hn
  obtain ⟨-, hn2, hn3⟩ := hn
  rw [List.nodup_cons, List.nodup_append] at hn2
  obtain ⟨hn4, -, -, hn5⟩ := hn2
  refine ⟨fun i hi => ⟨hn3 i hi R (by simp), hn3 i hi c (by simp), h.bd i (by simp [hi])⟩, fun i hi => ⟨fun e => hn4 (by simp [← e, hi]), hn5 i hi c (by simp), h.bd i (by simp [hi])⟩, fun e => hn4 (by simp [e]), h.bd R (by simp), h.bd c (by simp)⟩
/-- The inlines behind a match. -/
theorem inls_mtch {A B : List Nat} {R : Nat} {x : Nat} (h : RingI st.xs (A ++ R :: (B ++ [c]))) (hr : runX st.xs R = true) (hc : runX st.xs c = true) :
    inlsA ps (mtchA ps st R c) (A ++ (if lfX st.xs R ≤ pairN st.xs R c then [] else [R]) ++ st.xs.length :: (if lfX st.xs c ≤ pairN st.xs R c then [] else [c])) =
      inlsA ps st A ++ (if lfX st.xs R ≤ pairN st.xs R c then [] else [txtT 1 ⟨(repB (pcX ps (pX st.xs R)).ch (lfX st.xs R - pairN st.xs R c)).toArray⟩]) ++ kidT (pairK ps st.xs R c) (inlsA ps st B) ::
        (if lfX st.xs c ≤ pairN st.xs R c then [] else [txtT 1 ⟨(repB (pcX ps (pX st.xs c)).ch (lfX st.xs c - pairN st.xs R c)).toArray⟩]) := by
  obtain ⟨h1, h2, h3, h4, h5⟩ := ring_parts h
  rw [inlsA_app, inlsA_app, inlsA_eq (st' := mtchA ps st R c) (st := st) fun i hi => toI_mtch h4 h5 h3 (h1 i hi).1 (h1 i hi).2.1 (by have := (h1 i hi).2.2; omega)]
  congr 1
  · congr 1
    split
    · rfl
    · show [toI ps (elX _ R)] = _
      rw [toI_mtchR h4 h5 h3 (.inl rfl) hr]
  · show toI ps (elX _ _) :: List.map _ _ = _
    rw [toI_mtch0 h4 h5 h3, (betA_eq h).1]
    congr 1
    split
    · rfl
    · show [toI ps (elX _ c)] = _
      rw [toI_mtchR h4 h5 h3 (.inr rfl) hc]
end
theorem repB_len {c : ByteArray} (h : c.size = 1) : ∀ n, (repB c n).length = n
  | 0 => rfl
  | n + 1 => by
    show (c.toList ++ repB c n).length = _
    have hl : c.toList.length = c.size := by rw [Lib.toList_data]; exact Array.length_toList
    rw [List.length_append, repB_len h n, hl, h]; omega
theorem sizeI_txt (k : Int) (l : List UInt8) : sizeI (txtT k ⟨l.toArray⟩) = 1 + l.length := by
  unfold txtT
  rw [sizeI]
  show 1 + l.toArray.size + 0 + 0 + 0 + 0 + sizeL [] = _
  rw [sizeL]; simp
theorem sizeI_kid (k : Int) (l : List InT) : sizeI (kidT k l) = 1 + sizeL l := by
  unfold kidT
  rw [sizeI]; rfl
/-- The size of a piece's inlines and characters. -/
def pcZ (p : PcT) : Nat := sizeI p.inl + 1 + p.n.toNat
def sumZ (ps : List PcT) : Nat → Nat
  | 0 => 0
  | k + 1 => sumZ ps k + pcZ (pcX ps k)
theorem sizeL_one (x : InT) : sizeL [x] = sizeI x := by rw [sizeL, sizeL]; omega
theorem size_match (ps : List PcT) : ∀ k, k ≤ ps.length → ∃ ids, MatI ps k (matchF ps k) ids ∧ sizeL (inlsA ps (matchF ps k) ids) ≤ sumZ ps k := by
  refine match_ind ps (fun k st ids => sizeL (inlsA ps st ids) ≤ sumZ ps k) (Nat.zero_le _) ?_ ?_ ?_ ?_ ?_
  · intro k st ids h hk hp hc hP
    exact Nat.le_trans hP (Nat.le_add_right _ _)
  · intro k st ids h hk hp hk0 hi hP
    have e1 : inlsA ps (inlS ps st k) ids = inlsA ps st ids := inlsA_eq fun i hi => toI_ins (by have := h.em.ring.bd i hi; omega)
    have e2 : inlsA ps (inlS ps st k) [st.xs.length] = [(pcX ps k).inl] := by
      show [toI ps (elX (insX st.xs { t := (pcX ps k).inl } 0) st.xs.length)] = _
      rw [toI_ins0]; rfl
    rw [inlsA_app, sizeL_app, e1, e2, sizeL_one]
    show _ ≤ sumZ ps k + pcZ _
    unfold pcZ; omega
  · intro k st ids h hk hp hP
    have e1 : inlsA ps (runS ps st k) ids = inlsA ps st ids := inlsA_eq fun i hi => toI_ins (by have := h.em.ring.bd i hi; omega)
    have e2 : inlsA ps (runS ps st k) [st.xs.length] = [txtT 1 ⟨(repB (pcX ps k).ch (pcX ps k).n.toNat).toArray⟩] := by
      show [toI ps (elX (insX st.xs (runE k (pcX ps k).n.toNat) 0) st.xs.length)] = _
      rw [toI_ins0]; rfl
    rw [inlsA_app, sizeL_app, e1, e2, sizeL_one, sizeI_txt, repB_len (runP_size hp)]
    show _ ≤ sumZ ps k + pcZ _
    unfold pcZ; omega
  · intro k c st A B R hk hclo h hl hR hR0 hB hg hr hlr hP
    obtain ⟨r1, r2, r3⟩ := h.rb R hr
    obtain ⟨s1, s2, s3⟩ := h.rb c h.run
    rw [inls_mtch (x := 0) hg hr h.run]
    have hpn := pairN_one (st := st) (o := R) (c := c)
    have hsplit : inlsA ps st (A ++ R :: (B ++ [c])) = inlsA ps st A ++ txtT 1 ⟨(repB (pcX ps (pX st.xs R)).ch (lfX st.xs R)).toArray⟩ :: (inlsA ps st B ++ [txtT 1 ⟨(repB (pcX ps (pX st.xs c)).ch (lfX st.xs c)).toArray⟩]) := by
      rw [inlsA_app]
      congr 1
      show toI ps (elX st.xs R) :: List.map _ (B ++ [c]) = _
      rw [toI_run hr, List.map_append]
      congr 2
      show [toI ps (elX st.xs c)] = _
      rw [toI_run h.run]
    rw [hsplit, sizeL_app, sizeL, sizeL_app, sizeL_one, sizeI_txt, sizeI_txt, repB_len (runP_size r2), repB_len (runP_size s2)] at hP
    rw [sizeL_app, sizeL_app, sizeL, sizeI_kid]
    have t1 : sizeL (if lfX st.xs R ≤ pairN st.xs R c then [] else [txtT 1 ⟨(repB (pcX ps (pX st.xs R)).ch (lfX st.xs R - pairN st.xs R c)).toArray⟩]) ≤ lfX st.xs R := by
      split
      · rw [sizeL]; omega
      · rw [sizeL_one, sizeI_txt, repB_len (runP_size r2)]; omega
    have t2 : sizeL (if lfX st.xs c ≤ pairN st.xs R c then [] else [txtT 1 ⟨(repB (pcX ps (pX st.xs c)).ch (lfX st.xs c - pairN st.xs R c)).toArray⟩]) ≤ lfX st.xs c := by
      split
      · rw [sizeL]; omega
      · rw [sizeL_one, sizeI_txt, repB_len (runP_size s2)]; omega
    omega
  · intro k c st ids hP
    exact hP
end Go.Pub
namespace Go.Pub
/-- An element of the reference's state. -/
structure RE where
  pos : Option Nat
  left : Nat
  inl : InT
def zR : RE := ⟨none, 0, zeroT⟩
def toR (ps : List PcT) (e : RE) : InT := match e.pos with
  | some i => txtT 1 ⟨(repB (pcX ps i).ch e.left).toArray⟩
  | none => e.inl
def wrR (ps : List PcT) (s : List RE) : List InT := mergeL (s.map (toR ps))
def refE (p : PcT) (i : Nat) : List RE := if runP p = true then [⟨some i, p.n.toNat, zeroT⟩] else if p.kind = 0 then [⟨none, 0, p.inl⟩] else []
/-- The elements of the pieces from k on. -/
def futR (ps : List PcT) : Nat → Nat → List RE
  | _, 0 => []
  | k, m + 1 => refE (pcX ps k) k ++ futR ps (k + 1) m
def plcR (s : List RE) (c : Nat) : Nat := s.findIdx fun e => decide (e.pos = some c)
def reX (s : List RE) (i : Nat) : RE := s.getD i zR
def goodR (ps : List PcT) (s : List RE) (k c : Nat) (out : List Nat) (i : Nat) : Bool := match (reX s i).pos with
  | some a => decide (0 < (reX s i).left) && (!out.contains a && (fitsR (pcX ps a) (pcX ps c) && !(wrR ps ((s.take k).drop (i + 1))).isEmpty))
  | none => false
/-- The index of the opener, the first i looked at. -/
def opnR (ps : List PcT) (s : List RE) (k c : Nat) (out : List Nat) : Nat → Option Nat
  | 0 => none
  | i + 1 => if goodR ps s k c out i = true then some i else opnR ps s k c out i
structure SR where
  s : List RE
  prs : List (Nat × Nat × Nat)
  out : List Nat
def nR2 (a b : Nat) : Nat := if 2 ≤ a ∧ 2 ≤ b then 2 else 1
def kR2 (c : PcT) (n : Nat) : Int := if c.ch.toList = [126] then 8 else if n = 2 then 7 else 6
/-- A match. -/
def mtR (ps : List PcT) (x : SR) (i k c : Nat) : SR :=
  { s := x.s.take i ++ (⟨(reX x.s i).pos, (reX x.s i).left - nR2 (reX x.s i).left (reX x.s k).left, zeroT⟩ :: ⟨none, 0, kidT (kR2 (pcX ps c) (nR2 (reX x.s i).left (reX x.s k).left)) (wrR ps ((x.s.take k).drop (i + 1)))⟩ :: ⟨some c, (reX x.s k).left - nR2 (reX x.s i).left (reX x.s k).left, zeroT⟩ :: x.s.drop (k + 1)),
    prs := x.prs ++ [((reX x.s i).pos.getD 0, c, nR2 (reX x.s i).left (reX x.s k).left)],
    out := x.out ++ ((x.s.take k).drop (i + 1)).filterMap (·.pos) }
/-- All matches of a closer. -/
def clR (ps : List PcT) (c : Nat) : Nat → SR → SR
  | 0, x => x
  | f + 1, x => if plcR x.s c < x.s.length ∧ 0 < (reX x.s (plcR x.s c)).left then (match opnR ps x.s (plcR x.s c) c x.out (plcR x.s c) with
    | none => x
    | some i => clR ps c f (mtR ps x i (plcR x.s c) c)) else x
def solR (ps : List PcT) : Nat → SR
  | 0 => ⟨futR ps 0 ps.length, [], []⟩
  | c + 1 => if runP (pcX ps c) = true ∧ (pcX ps c).clo = true ∧ ¬ (solR ps c).out.contains c = true then clR ps c (pcX ps c).n.toNat (solR ps c) else solR ps c
def nestR (ps : List PcT) : List InT := wrR ps (solR ps ps.length).s
/-- Is an element not empty? -/
def nR (e : RE) : Bool := match e.pos with
  | some _ => decide (0 < e.left)
  | none => neT e.inl
theorem setTxt_merge (x : InT) (s : List UInt8) : mergeI (setTxt x s) = setTxt (mergeI x) s := by
  obtain ⟨k, t, d, ti, a, ar, c, ks⟩ := x
  show mergeI (.mk k ⟨s.toArray⟩ d ti a ar c ks) = setTxt (mergeI (.mk k t d ti a ar c ks)) s
  rw [mergeI, mergeI]; rfl
theorem joinT_map : ∀ l : List InT, (joinT l).map mergeI = joinT (l.map mergeI)
  | [] => rfl
  | x :: l => by
    have ih := joinT_map l
    obtain ⟨e1, e2⟩ := mergeI_kind x
    rw [List.map_cons]
    by_cases hk : x.kind = 1
    · by_cases ht : x.text.toList = []
      · rw [joinT_empty hk ht, ih, joinT_empty (e1.trans hk) (by rw [e2]; exact ht)]
      · rw [joinT_cons x, if_neg (by simp [hk]), if_neg ht, joinT_cons (mergeI x), if_neg (by simp [e1, hk]), if_neg (by rw [e2]; exact ht), ← ih]
        cases hj : joinT l with
        | nil => rfl
        | cons y r =>
          obtain ⟨g1, g2⟩ := mergeI_kind y
          simp only [List.map_cons]
          by_cases hy : y.kind = 1
          · rw [if_pos hy, if_pos (g1.trans hy), List.map_cons, setTxt_merge, e2, g2]
          · rw [if_neg hy, if_neg (by rw [g1]; exact hy), List.map_cons, List.map_cons]
    · rw [joinT_no hk, joinT_no (by rw [e1]; exact hk), List.map_cons, ih]
/-- No two texts stand together, none is empty. -/
def JoT : List InT → Prop
  | [] => True
  | x :: l => (x.kind = 1 → x.text.toList ≠ [] ∧ NoTxt l) ∧ JoT l
theorem joinT_jo : ∀ l : List InT, JoT (joinT l)
  | [] => trivial
  | x :: l => by
    have ih := joinT_jo l
    by_cases hk : x.kind = 1
    · by_cases ht : x.text.toList = []
      · rw [joinT_empty hk ht]; exact ih
      · rw [joinT_cons, if_neg (by simp [hk]), if_neg ht]
        cases hj : joinT l with
        | nil => exact ⟨fun _ => ⟨ht, fun a r e => by cases e⟩, trivial⟩
        | cons y r =>
          rw [hj] at ih
          dsimp only
          by_cases hy : y.kind = 1
          · rw [if_pos hy]
            exact ⟨fun _ => ⟨by rw [setTxt_text]; simp [ht], (ih.1 hy).2⟩, ih.2⟩
          · rw [if_neg hy]
            exact ⟨fun _ => ⟨ht, fun a q e => by injection e with e1 e2; rw [← e1]; exact hy⟩, ih⟩
    · rw [joinT_no hk]
      exact ⟨fun h => absurd h hk, ih⟩
theorem joinT_id : ∀ l : List InT, JoT l → joinT l = l
  | [], _ => rfl
  | x :: l, h => by
    have ih := joinT_id l h.2
    by_cases hk : x.kind = 1
    · rw [joinT_txt0 hk (h.1 hk).1 (by rw [ih]; exact (h.1 hk).2), ih]
    · rw [joinT_no hk, ih]
mutual
theorem mergeI_twice : ∀ x : InT, mergeI (mergeI x) = mergeI x
  | .mk k t d ti a ar c kids => by
    rw [mergeI, mergeI, mapI_eq, joinT_map, ← mapI_eq, mapI_twice kids, joinT_id _ (joinT_jo _)]
theorem mapI_twice : ∀ l : List InT, mapI (mapI l) = mapI l
  | [] => by rw [mapI, mapI]
  | x :: l => by rw [mapI, mapI, mergeI_twice x, mapI_twice l]
end
theorem mergeL_twice (l : List InT) : mergeL (mergeL l) = mergeL l := by
  unfold mergeL
  rw [mapI_eq (joinT _), joinT_map, ← mapI_eq, mapI_twice, joinT_id _ (joinT_jo _)]
theorem mergeL_congr {a b : List InT} (h : a.map mergeI = b.map mergeI) : mergeL a = mergeL b := by
  unfold mergeL; rw [mapI_eq, mapI_eq, h]
theorem mergeI_kid (k : Int) (l : List InT) : mergeI (kidT k l) = kidT k (mergeL l) := by
  unfold kidT; rw [mergeI]; rfl
theorem mergeL_ne {l : List InT} (h : l.filter neT ≠ []) : mergeL l ≠ [] := by
  rw [← mergeL_filter]
  cases hl : l.filter neT with
  | nil => exact absurd hl h
  | cons x r =>
    have hx : neT x = true := (List.mem_filter.1 (by rw [hl]; simp : x ∈ l.filter neT)).2
    unfold mergeL
    rw [mapI_eq, List.map_cons]
    obtain ⟨e1, e2⟩ := mergeI_kind x
    by_cases hk : x.kind = 1
    · have ht : x.text.toList ≠ [] := fun e => by unfold neT at hx; simp [hk, e] at hx
      rw [joinT_cons, if_neg (by simp [e1, hk]), if_neg (by rw [e2]; exact ht)]
      split
      · simp
      · split <;> simp
    · rw [joinT_no (by rw [e1]; exact hk)]; simp
end Go.Pub
namespace Go.Pub
/-- An element of the reference's state is one of the ring. -/
def EqE (st : EmS) (e : RE) (x : Nat) : Prop := if runX st.xs x = true then e.pos = some (pX st.xs x) ∧ e.left = lfX st.xs x else e.pos = none ∧ mergeI e.inl = mergeI (elX st.xs x).t
def Rl (st : EmS) : List RE → List Nat → Prop
  | [], [] => True
  | e :: s, x :: l => EqE st e x ∧ Rl st s l
  | _, _ => False
section
variable {st st' : EmS} {ps : List PcT}
theorem Rl.app : ∀ {l r : List Nat} {s : List RE}, Rl st s (l ++ r) → ∃ a b, s = a ++ b ∧ Rl st a l ∧ Rl st b r
  | [], r, s, h => ⟨[], s, rfl, trivial, h⟩
  | x :: l, r, [], h => h.elim
  | x :: l, r, e :: s, h => by
    obtain ⟨a, b, e1, h1, h2⟩ := Rl.app h.2
    exact ⟨e :: a, b, by rw [e1]; rfl, ⟨h.1, h1⟩, h2⟩
theorem Rl.app' : ∀ {a b : List RE} {l : List Nat}, Rl st (a ++ b) l → ∃ m n, l = m ++ n ∧ Rl st a m ∧ Rl st b n
  | [], b, l, h => ⟨[], l, rfl, trivial, h⟩
  | e :: a, b, [], h => h.elim
  | e :: a, b, x :: l, h => by
    obtain ⟨m, n, e1, h1, h2⟩ := Rl.app' h.2
    exact ⟨x :: m, n, by rw [e1]; rfl, ⟨h.1, h1⟩, h2⟩
theorem Rl.join : ∀ {a b : List RE} {l r : List Nat}, Rl st a l → Rl st b r → Rl st (a ++ b) (l ++ r)
  | [], _, [], _, _, h => h
  | [], _, _ :: _, _, h, _ => h.elim
  | _ :: _, _, [], _, h, _ => h.elim
  | e :: a, b, x :: l, r, h1, h2 => ⟨h1.1, Rl.join h1.2 h2⟩
theorem Rl.congr : ∀ {a : List RE} {l : List Nat}, Rl st a l → (∀ x ∈ l, ∀ e, EqE st e x → EqE st' e x) → Rl st' a l
  | [], [], _, _ => trivial
  | [], _ :: _, h, _ => h.elim
  | _ :: _, [], h, _ => h.elim
  | e :: a, x :: l, h, hc => ⟨hc x (by simp) e h.1, Rl.congr h.2 fun y hy => hc y (List.mem_cons_of_mem _ hy)⟩
theorem Rl.nil_iff {a : List RE} {l : List Nat} (h : Rl st a l) : a = [] ↔ l = [] := by
  cases a <;> cases l <;> simp_all [Rl]
theorem EqE.congr {e : RE} {x : Nat} (h : EqE st e x) (h1 : runX st'.xs x = runX st.xs x) (h2 : pX st'.xs x = pX st.xs x) (h3 : lfX st'.xs x = lfX st.xs x) (h4 : (elX st'.xs x).t = (elX st.xs x).t) : EqE st' e x := by
  unfold EqE at h ⊢
  rw [h1, h2, h3, h4]; exact h
theorem EqE.run {e : RE} {x : Nat} (h : EqE st e x) {a : Nat} (ha : e.pos = some a) : runX st.xs x = true ∧ pX st.xs x = a ∧ e.left = lfX st.xs x := by
  unfold EqE at h
  split at h
  · rename_i hr
    rw [ha] at h
    exact ⟨hr, (Option.some.inj h.1).symm, h.2⟩
  · rw [ha] at h; cases h.1
theorem EqE.toR {e : RE} {x : Nat} (h : EqE st e x) : mergeI (toR ps e) = mergeI (toI ps (elX st.xs x)) := by
  unfold EqE at h
  split at h
  · rename_i hr
    unfold Go.Pub.toR
    rw [h.1, h.2, toI_run hr]
  · rename_i hr
    unfold Go.Pub.toR
    rw [h.1, toI_inl (by simpa using hr)]
    exact h.2
theorem Rl.map : ∀ {a : List RE} {l : List Nat}, Rl st a l → (a.map (toR ps)).map mergeI = (inlsA ps st l).map mergeI
  | [], [], _ => rfl
  | [], _ :: _, h => h.elim
  | _ :: _, [], h => h.elim
  | e :: a, x :: l, h => by
    show mergeI (toR ps e) :: _ = mergeI (toI ps (elX st.xs x)) :: _
    rw [h.1.toR]
    congr 1
    exact Rl.map h.2
end
/-- The places of runs ascend, and are runs. -/
def AtB (ps : List PcT) (s : List RE) (k : Nat) : Prop := (∀ e ∈ s, ∀ a, e.pos = some a → a < k ∧ runP (pcX ps a) = true) ∧ (s.filterMap (·.pos)).Pairwise (· < ·)
theorem neT_toR {ps : List PcT} {e : RE} (h : ∀ a, e.pos = some a → runP (pcX ps a) = true) : neT (toR ps e) = nR e := by
  unfold toR nR
  cases hp : e.pos with
  | none => rfl
  | some a =>
    dsimp only
    have hl := repB_len (runP_size (h a hp)) e.left
    have et : (txtT 1 ⟨(repB (pcX ps a).ch e.left).toArray⟩).text.toList = repB (pcX ps a).ch e.left := toList_ofList _
    unfold neT
    rw [et]
    have ek : (txtT 1 ⟨(repB (pcX ps a).ch e.left).toArray⟩).kind = 1 := rfl
    rw [ek]
    by_cases h0 : 0 < e.left
    · have : repB (pcX ps a).ch e.left ≠ [] := fun e' => by rw [e'] at hl; simp at hl; omega
      simp [this, h0]
    · have h00 : e.left = 0 := by omega
      rw [h00]
      simp [repB]
theorem wr_filter {ps : List PcT} {s : List RE} (h : ∀ e ∈ s, ∀ a, e.pos = some a → runP (pcX ps a) = true) : wrR ps s = mergeL ((s.filter nR).map (toR ps)) := by
  unfold wrR
  rw [← mergeL_filter, List.filter_map]
  congr 2
  exact List.filter_congr fun e he => neT_toR (h e he)
theorem wr_rl {ps : List PcT} {st : EmS} {s : List RE} {l : List Nat} (h : ∀ e ∈ s, ∀ a, e.pos = some a → runP (pcX ps a) = true) (hr : Rl st (s.filter nR) l) : wrR ps s = mergeL (inlsA ps st l) := by
  rw [wr_filter h]; exact mergeL_congr hr.map
theorem wr_nil {ps : List PcT} {s : List RE} (h : ∀ e ∈ s, ∀ a, e.pos = some a → runP (pcX ps a) = true) : wrR ps s = [] ↔ s.filter nR = [] := by
  rw [wr_filter h]
  constructor
  · intro e
    refine Classical.byContradiction fun hne => mergeL_ne (l := (s.filter nR).map (toR ps)) ?_ e
    rw [List.filter_map]
    intro e2
    rw [List.map_eq_nil_iff, List.filter_eq_nil_iff] at e2
    obtain ⟨x, hx⟩ := List.exists_mem_of_ne_nil _ hne
    obtain ⟨h1, h2⟩ := List.mem_filter.1 hx
    have := e2 x hx
    rw [Function.comp, neT_toR (h x h1)] at this
    exact this h2
  · intro e
    rw [e]; rfl
theorem opnR_some {ps : List PcT} {s : List RE} {k c : Nat} {out : List Nat} {i : Nat} (hg : goodR ps s k c out i = true) : ∀ n, i < n → (∀ j, i < j → j < n → goodR ps s k c out j = false) → opnR ps s k c out n = some i
  | 0, h, _ => absurd h (by omega)
  | n + 1, h, hn => by
    unfold opnR
    by_cases e : n = i
    · subst e; rw [if_pos hg]
    · rw [if_neg (by rw [hn n (by omega) (by omega)]; decide)]
      exact opnR_some hg n (by omega) fun j h1 h2 => hn j h1 (by omega)
theorem opnR_none {ps : List PcT} {s : List RE} {k c : Nat} {out : List Nat} : ∀ n, (∀ j, j < n → goodR ps s k c out j = false) → opnR ps s k c out n = none
  | 0, _ => rfl
  | n + 1, h => by
    unfold opnR
    rw [if_neg (by rw [h n (by omega)]; decide)]
    exact opnR_none n fun j hj => h j (by omega)
theorem plc_at {s r : List RE} {k n : Nat} {t : InT} (h : ∀ e ∈ s, e.pos ≠ some k) : plcR (s ++ ⟨some k, n, t⟩ :: r) k = s.length := by
  unfold plcR
  induction s with
  | nil => rw [List.nil_append, List.findIdx_cons]; simp
  | cons e s ih =>
    rw [List.cons_append, List.findIdx_cons, show decide (e.pos = some k) = false from decide_eq_false (h e (by simp)), ih fun x hx => h x (List.mem_cons_of_mem _ hx)]
    simp
theorem reX_at {s r : List RE} {e : RE} : reX (s ++ e :: r) s.length = e := by
  unfold reX
  rw [List.getD_eq_getElem?_getD, List.getElem?_append_right (Nat.le_refl _), Nat.sub_self]; rfl
theorem seg_at {a b r : List RE} {e : RE} : ((a ++ e :: (b ++ r)).take (a.length + 1 + b.length)).drop (a.length + 1) = b := by
  have e1 : a ++ e :: (b ++ r) = (a ++ [e] ++ b) ++ r := by simp
  have e2 : a.length + 1 + b.length = (a ++ [e] ++ b).length := by simp; omega
  rw [e1, e2, List.take_left]
  have e3 : a.length + 1 = (a ++ [e]).length := by simp
  rw [e3, List.drop_left]
/-- What fits at an element: its run fits and something stands behind it. -/
theorem good_at {ps : List PcT} {a b r : List RE} {e : RE} {c : Nat} {out : List Nat} : goodR ps (a ++ e :: (b ++ r)) (a.length + 1 + b.length) c out a.length = (match e.pos with
  | some p => decide (0 < e.left) && (!out.contains p && (fitsR (pcX ps p) (pcX ps c) && !(wrR ps b).isEmpty))
  | none => false) := by
  unfold goodR
  rw [reX_at, seg_at]
  all_goals (cases e.pos <;> rfl)
theorem lastOf_app (x : Nat) : ∀ (l : List Nat) (a : Nat) (r : List Nat), lastOf a (l ++ x :: r) = lastOf x r
  | [], _, _ => rfl
  | y :: l, _, r => by
    show lastOf y (l ++ x :: r) = _
    exact lastOf_app x l y r
theorem lastOf_in {x : Nat} : ∀ {r : List Nat}, r ≠ [] → lastOf x r ∈ r
  | y :: r, _ => by
    show lastOf y r ∈ y :: r
    exact lastOf_mem r y
theorem split_at (l : List RE) (j : Nat) (h : j < l.length) : ∃ a b, l = a ++ l[j] :: b ∧ a.length = j :=
  ⟨l.take j, l.drop (j + 1), by rw [← List.drop_eq_getElem_cons h, List.take_append_drop], by rw [List.length_take]; omega⟩
/-- An element that the reference would take is a run of the ring that fits and does not stand right ahead of the closer. -/
theorem good_ring {ps : List PcT} {k c : Nat} {st : EmS} {L : List Nat} {s1 F : List RE} {out : List Nat} (h : ClI ps k c st L) (hl : lfX st.xs c ≠ 0) (hA : AtB ps s1 k) (hR : Rl st (s1.filter nR) L) {j : Nat} (hj : j < s1.length) (hg : goodR ps (s1 ++ F) s1.length k out j = true) :
    ∃ a e b x A' B', s1 = a ++ e :: b ∧ a.length = j ∧ L = A' ++ x :: B' ∧ runX st.xs x = true ∧ fitsR (pcX ps (pX st.xs x)) (pcX ps k) = true ∧ x ≠ bf st.xs c ∧ Rl st (a.filter nR) A' ∧ Rl st (b.filter nR) B' ∧ B' ≠ [] := by
  obtain ⟨a, b, e1, e2⟩ := split_at s1 j hj
  generalize s1[j] = e at *
  subst e1
  subst e2
  have hlen : (a ++ e :: b).length = a.length + 1 + b.length := by simp; omega
  rw [hlen, List.append_assoc, List.cons_append, good_at] at hg
  cases hp : e.pos with
  | none => rw [hp] at hg; cases hg
  | some p =>
    rw [hp] at hg
    simp only [Bool.and_eq_true, decide_eq_true_eq, Bool.not_eq_true', List.isEmpty_eq_false_iff] at hg
    obtain ⟨g1, -, g3, g4⟩ := hg
    have hne : nR e = true := by unfold nR; rw [hp]; simp [g1]
    rw [List.filter_append, List.filter_cons_of_pos hne] at hR
    obtain ⟨A', m, eL, hRa, hRb⟩ := Rl.app' hR
    cases m with
    | nil => exact hRb.elim
    | cons x B' =>
      obtain ⟨hE, hRb⟩ := hRb
      obtain ⟨r1, r2, r3⟩ := hE.run hp
      have hbb : ∀ e' ∈ b, ∀ q, e'.pos = some q → runP (pcX ps q) = true := fun e' he' q hq => (hA.1 e' (by simp [he']) q hq).2
      have hB : B' ≠ [] := fun eB => g4 ((wr_nil hbb).2 ((hRb.nil_iff).2 eB))
      refine ⟨a, e, b, x, A', B', rfl, rfl, eL, r1, by rw [r2]; exact g3, fun hx => ?_, hRa, hRb, hB⟩
      have hem := h.em.ring
      rw [if_neg hl] at hem
      have hbf := bf_last hem
      rw [eL, lastOf_app] at hbf
      have h1 : x ∈ B' := by
        have := lastOf_in (x := x) hB
        rw [← hbf, ← hx] at this
        exact this
      have hnd := (List.nodup_cons.1 hem.nd).2
      rw [eL, List.append_assoc] at hnd
      have h2 := (List.nodup_append.1 hnd).2.1
      rw [List.cons_append, List.nodup_cons] at h2
      exact h2.1 (List.mem_append_left _ h1)
end Go.Pub
namespace Go.Pub
section
variable {ps : List PcT} {st : EmS} {k c : Nat}
theorem Rl.length : ∀ {a : List RE} {l : List Nat}, Rl st a l → a.length = l.length
  | [], [], _ => rfl
  | [], _ :: _, h => h.elim
  | _ :: _, [], h => h.elim
  | e :: a, x :: l, h => by rw [List.length_cons, List.length_cons, Rl.length h.2]
/-- The filter's parts are a state's parts. -/
theorem Rl.cut {s : List RE} {A B : List Nat} {R : Nat} (h : Rl st (s.filter nR) (A ++ R :: B)) : ∃ a e b, s = a ++ e :: b ∧ Rl st (a.filter nR) A ∧ EqE st e R ∧ nR e = true ∧ Rl st (b.filter nR) B := by
  obtain ⟨fa, fr, e1, h1, h2⟩ := Rl.app h
  cases fr with
  | nil => exact h2.elim
  | cons e fb =>
    obtain ⟨l3, l4, rfl, e3, e4⟩ := List.filter_eq_append_iff.1 e1
    obtain ⟨l5, l6, rfl, e5, e6, e7⟩ := List.filter_eq_cons_iff.1 e4
    refine ⟨l3 ++ l5, e, l6, by simp, ?_, h2.1, e6, by rw [e7]; exact h2.2⟩
    rw [List.filter_append, e3, List.filter_eq_nil_iff.2 e5, List.append_nil]; exact h1
/-- The place behind. -/
theorem cut_in {A A' B B' : List Nat} {R x : Nat} (h : A ++ R :: B = A' ++ x :: B') (hl : B'.length < B.length) : x ∈ B := by
  rcases List.append_eq_append_iff.1 h with ⟨t, rfl, h2⟩ | ⟨t, rfl, h2⟩
  · cases t with
    | nil =>
      injection h2 with _ h3
      rw [h3] at hl; omega
    | cons y t =>
      injection h2 with _ h3
      rw [h3]; simp
  · have := congrArg List.length h2
    simp at this; omega
/-- A state with a closer in it. -/
def clX (s1 : List RE) (k l : Nat) (F : List RE) (prs : List (Nat × Nat × Nat)) (out : List Nat) : SR := ⟨s1 ++ ⟨some k, l, zeroT⟩ :: F, prs, out⟩
theorem clR_step {s1 F : List RE} {l f : Nat} {prs : List (Nat × Nat × Nat)} {out : List Nat} (h : ∀ e ∈ s1, e.pos ≠ some k) : clR ps k (f + 1) (clX s1 k l F prs out) = if 0 < l then (match opnR ps (s1 ++ ⟨some k, l, zeroT⟩ :: F) s1.length k out s1.length with
    | none => clX s1 k l F prs out
    | some i => clR ps k f (mtR ps (clX s1 k l F prs out) i s1.length k)) else clX s1 k l F prs out := by
  have e1 : plcR (clX s1 k l F prs out).s k = s1.length := plc_at h
  have e2 : reX (clX s1 k l F prs out).s s1.length = ⟨some k, l, zeroT⟩ := reX_at
  have e3 : s1.length < (clX s1 k l F prs out).s.length := by show _ < (s1 ++ _).length; simp
  rw [clR, e1, e2]
  by_cases hl : 0 < l
  · rw [if_pos ⟨e3, hl⟩, if_pos hl]; rfl
  · rw [if_neg (fun h => hl h.2), if_neg hl]
theorem mtR_at {a b F : List RE} {e : RE} {l : Nat} {prs : List (Nat × Nat × Nat)} {out : List Nat} : mtR ps (clX (a ++ e :: b) k l F prs out) a.length (a ++ e :: b).length k =
    clX (a ++ [⟨e.pos, e.left - nR2 e.left l, zeroT⟩, ⟨none, 0, kidT (kR2 (pcX ps k) (nR2 e.left l)) (wrR ps b)⟩]) k (l - nR2 e.left l) F (prs ++ [(e.pos.getD 0, k, nR2 e.left l)]) (out ++ b.filterMap (·.pos)) := by
  have e1 : reX (clX (a ++ e :: b) k l F prs out).s a.length = e := by
    show reX ((a ++ e :: b) ++ _) _ = e
    rw [List.append_assoc, List.cons_append]; exact reX_at
  have e2 : reX (clX (a ++ e :: b) k l F prs out).s (a ++ e :: b).length = ⟨some k, l, zeroT⟩ := reX_at
  have hlen : (a ++ e :: b).length = a.length + 1 + b.length := by simp; omega
  have e3 : ((clX (a ++ e :: b) k l F prs out).s.take (a ++ e :: b).length).drop (a.length + 1) = b := by
    rw [hlen]
    show (((a ++ e :: b) ++ _).take _).drop _ = b
    rw [List.append_assoc, List.cons_append]; exact seg_at
  have e4 : (clX (a ++ e :: b) k l F prs out).s.take a.length = a := by
    show ((a ++ e :: b) ++ _).take _ = a
    rw [List.append_assoc, List.take_left]
  have e5 : (clX (a ++ e :: b) k l F prs out).s.drop ((a ++ e :: b).length + 1) = F := by
    show ((a ++ e :: b) ++ ⟨some k, l, zeroT⟩ :: F).drop _ = F
    rw [show (a ++ e :: b) ++ (⟨some k, l, zeroT⟩ : RE) :: F = ((a ++ e :: b) ++ [⟨some k, l, zeroT⟩]) ++ F by simp]
    rw [show (a ++ e :: b).length + 1 = ((a ++ e :: b) ++ [(⟨some k, l, zeroT⟩ : RE)]).length by simp; omega, List.drop_left]
  unfold mtR
  rw [e1, e2, e3, e4, e5]
  unfold clX
  simp
/-- No pair to be made. -/
theorem clR_done {s1 F : List RE} {l : Nat} {prs : List (Nat × Nat × Nat)} {out : List Nat} (h : ∀ e ∈ s1, e.pos ≠ some k) (hn : l ≠ 0 → ∀ j, j < s1.length → goodR ps (s1 ++ ⟨some k, l, zeroT⟩ :: F) s1.length k out j = false) : ∀ f, clR ps k f (clX s1 k l F prs out) = clX s1 k l F prs out
  | 0 => rfl
  | f + 1 => by
    rw [clR_step h]
    split
    · rw [opnR_none _ (hn (by omega))]
    · rfl
/-- What the reference's state is while the pieces ahead of k are done. -/
def PRl (ps : List PcT) (k : Nat) (st : EmS) (ids : List Nat) : Prop := OpC ps st ids ∧ ∃ s1 out, solR ps k = ⟨s1 ++ futR ps k (ps.length - k), st.prs, out⟩ ∧ AtB ps s1 k ∧ (∀ a ∈ out, a < k ∧ ∀ e ∈ s1, e.pos ≠ some a) ∧ Rl st (s1.filter nR) ids
/-- And while the closer of the piece k works. -/
def QRl (ps : List PcT) (k c : Nat) (st : EmS) (L : List Nat) : Prop := OpC ps st L ∧ ∃ s1 out f, solR ps (k + 1) = (if (pcX ps k).clo = true then clR ps k f (clX s1 k (lfX st.xs c) (futR ps (k + 1) (ps.length - k - 1)) st.prs out) else clX s1 k (lfX st.xs c) (futR ps (k + 1) (ps.length - k - 1)) st.prs out) ∧ lfX st.xs c ≤ f ∧ AtB ps s1 k ∧ (∀ a ∈ out, a < k ∧ ∀ e ∈ s1, e.pos ≠ some a) ∧ Rl st (s1.filter nR) L
theorem AtB.ne {s : List RE} (h : AtB ps s k) : ∀ e ∈ s, e.pos ≠ some k := fun e he hp => by
  have := (h.1 e he k hp).1; omega
theorem AtB.runs {s : List RE} (h : AtB ps s k) : ∀ e ∈ s, ∀ a, e.pos = some a → runP (pcX ps a) = true := fun e he a ha => (h.1 e he a ha).2
theorem futR_one {n : Nat} (h : k < n) : futR ps k (n - k) = refE (pcX ps k) k ++ futR ps (k + 1) (n - k - 1) := by
  obtain ⟨m, hm⟩ : ∃ m, n - k = m + 1 := ⟨n - k - 1, by omega⟩
  rw [hm]; rfl
theorem sol_skip (h : runP (pcX ps k) = false) : solR ps (k + 1) = solR ps k := by
  show (if _ then _ else _) = _
  rw [if_neg (by rw [h]; simp)]
theorem AtB.more {s : List RE} {e : RE} (h : AtB ps s k) (he : e.pos = none ∨ (e.pos = some k ∧ runP (pcX ps k) = true)) : AtB ps (s ++ [e]) (k + 1) := by
  refine ⟨fun x hx a ha => ?_, ?_⟩
  · rcases List.mem_append.1 hx with hx | hx
    · obtain ⟨h1, h2⟩ := h.1 x hx a ha
      exact ⟨by omega, h2⟩
    · rw [List.mem_singleton.1 hx] at ha
      rcases he with he | ⟨he, hr⟩
      · rw [he] at ha; cases ha
      · rw [he] at ha
        injection ha with ha
        subst ha
        exact ⟨by omega, hr⟩
  · rw [List.filterMap_append, List.pairwise_append]
    refine ⟨h.2, ?_, ?_⟩
    · rcases he with he | ⟨he, -⟩ <;> simp [he]
    · intro a ha b hb
      obtain ⟨x, hx, hxa⟩ := List.mem_filterMap.1 ha
      have h1 := (h.1 x hx a hxa).1
      rcases he with he | ⟨he, -⟩
      · simp [he] at hb
      · simp [he] at hb; omega
theorem AtB.up {s : List RE} (h : AtB ps s k) : AtB ps s (k + 1) := ⟨fun x hx a ha => ⟨by have := (h.1 x hx a ha).1; omega, (h.1 x hx a ha).2⟩, h.2⟩
end
end Go.Pub
namespace Go.Pub
section
variable {ps : List PcT} {st : EmS} {k c : Nat} {L ids : List Nat}
theorem PRl.start (ps : List PcT) : PRl ps 0 start0 [] :=
  ⟨⟨fun j x hx => absurd hx (List.not_mem_nil), fun x hx => absurd hx (List.not_mem_nil)⟩, [], [], rfl, ⟨fun e he => absurd he (List.not_mem_nil), .nil⟩, fun a ha => absurd ha (List.not_mem_nil), trivial⟩
theorem PRl.skip (hk : k < ps.length) (hp : runP (pcX ps k) = false) (hi : ¬ ((pcX ps k).kind = 0 ∧ ((pcX ps k).inl.kind ≠ 1 ∨ (pcX ps k).inl.text.toList ≠ []))) (h : PRl ps k st ids) : PRl ps (k + 1) st ids := by
  obtain ⟨h1, s1, out, h2, h3, h4, h5⟩ := h
  rw [futR_one hk] at h2
  refine ⟨h1, s1 ++ refE (pcX ps k) k, out, ?_, ?_, ?_, ?_⟩
  · rw [sol_skip hp, h2, List.append_assoc, Nat.sub_sub]
  · unfold refE
    rw [if_neg (by rw [hp]; decide)]
    split
    · exact h3.more (.inl rfl)
    · rw [List.append_nil]; exact h3.up
  · intro a ha
    obtain ⟨g1, g2⟩ := h4 a ha
    refine ⟨by omega, fun e he => ?_⟩
    rcases List.mem_append.1 he with he | he
    · exact g2 e he
    · unfold refE at he
      rw [if_neg (by rw [hp]; decide)] at he
      split at he
      · rw [List.mem_singleton.1 he]; simp
      · exact absurd he (List.not_mem_nil)
  · have e : (refE (pcX ps k) k).filter nR = [] := by
      unfold refE
      rw [if_neg (by rw [hp]; decide)]
      split
      · rename_i h0
        have : nR ⟨none, 0, (pcX ps k).inl⟩ = false := by
          show neT (pcX ps k).inl = false
          unfold neT
          by_cases h6 : (pcX ps k).inl.kind = 1
          · by_cases h7 : (pcX ps k).inl.text.toList = []
            · simp [h6, h7]
            · exact absurd ⟨h0, .inr h7⟩ hi
          · exact absurd ⟨h0, .inl h6⟩ hi
        rw [List.filter_cons_of_neg (by rw [this]; decide)]; rfl
      · rfl
    rw [List.filter_append, e, List.append_nil]; exact h5
theorem PRl.ins (e : ElL) (hb : ∀ x ∈ ids, x < st.xs.length) {s : List RE} (h : Rl st s ids) : Rl { st with xs := insX st.xs e 0 } s ids :=
  h.congr fun x hx q hq => by
    obtain ⟨e1, e2, e3, e4⟩ := core_ins' (xs := st.xs) (e := e) (k := 0) (j := x) (by have := hb x hx; omega)
    exact hq.congr e2 e3 e4 e1
theorem OpC.ins (e : ElL) (hb : ∀ x ∈ ids, x < st.xs.length) (ho : ∀ j x, x ∈ st.ops j → x ∈ ids) (h : OpC ps st ids) : OpC ps { st with xs := insX st.xs e 0 } ids := by
  refine h.congr rfl (fun j x hx => ?_) fun x hx hr => ?_
  · obtain ⟨e1, e2, e3, e4⟩ := core_ins' (xs := st.xs) (e := e) (k := 0) (j := x) (by have := hb x (ho j x hx); omega)
    exact e3
  · obtain ⟨e1, e2, e3, e4⟩ := core_ins' (xs := st.xs) (e := e) (k := 0) (j := x) (by have := hb x hx; omega)
    exact ⟨hx, e2.symm.trans hr, e3⟩
theorem PRl.inl (hM : MatI ps k st ids) (hk : k < ps.length) (hp : runP (pcX ps k) = false) (h0 : (pcX ps k).kind = 0) (hi : (pcX ps k).inl.kind ≠ 1 ∨ (pcX ps k).inl.text.toList ≠ []) (h : PRl ps k st ids) : PRl ps (k + 1) (inlS ps st k) (ids ++ [st.xs.length]) := by
  obtain ⟨h1, s1, out, h2, h3, h4, h5⟩ := h
  rw [futR_one hk] at h2
  have hb := hM.em.ring.bd
  have er : refE (pcX ps k) k = [⟨none, 0, (pcX ps k).inl⟩] := by
    unfold refE
    rw [if_neg (by rw [hp]; decide), if_pos h0]
  obtain ⟨c1, c2, c3, c4⟩ := core_ins0 (xs := st.xs) (e := { t := (pcX ps k).inl }) (k := 0)
  have ho : OpC ps (inlS ps st k) ids := h1.ins _ hb fun j x hx => (hM.em.ops j x hx).1
  refine ⟨⟨ho.mem, fun x hx hr => ?_⟩, s1 ++ [⟨none, 0, (pcX ps k).inl⟩], out, ?_, h3.more (.inl rfl), ?_, ?_⟩
  · rcases List.mem_append.1 hx with hx | hx
    · exact ho.all x hx hr
    · rw [List.mem_singleton.1 hx] at hr
      exact Bool.noConfusion (show false = true from c2.symm.trans hr)
  · rw [sol_skip hp, h2, er, List.append_assoc, Nat.sub_sub]; rfl
  · intro a ha
    obtain ⟨g1, g2⟩ := h4 a ha
    refine ⟨by omega, fun e he => ?_⟩
    rcases List.mem_append.1 he with he | he
    · exact g2 e he
    · rw [List.mem_singleton.1 he]; simp
  · have hn : nR ⟨none, 0, (pcX ps k).inl⟩ = true := by
      show neT (pcX ps k).inl = true
      unfold neT
      rcases hi with hi | hi <;> simp [hi]
    rw [List.filter_append, List.filter_cons_of_pos hn]
    refine Rl.join (PRl.ins _ hb h5) ⟨?_, trivial⟩
    unfold EqE
    rw [if_neg (by rw [show runX (inlS ps st k).xs st.xs.length = false from c2]; decide)]
    exact ⟨rfl, by rw [show (elX (inlS ps st k).xs st.xs.length).t = (pcX ps k).inl from c1]⟩
theorem PRl.run (hM : MatI ps k st ids) (hk : k < ps.length) (hp : runP (pcX ps k) = true) (h : PRl ps k st ids) (hl : lfX (runS ps st k).xs st.xs.length = (pcX ps k).n.toNat) : QRl ps k st.xs.length (runS ps st k) ids := by
  obtain ⟨h1, s1, out, h2, h3, h4, h5⟩ := h
  rw [futR_one hk] at h2
  have hb := hM.em.ring.bd
  have er : refE (pcX ps k) k = [⟨some k, (pcX ps k).n.toNat, zeroT⟩] := by
    unfold refE
    rw [if_pos hp]
  have e0 : solR ps k = clX s1 k (pcX ps k).n.toNat (futR ps (k + 1) (ps.length - k - 1)) st.prs out := by rw [h2, er]; rfl
  refine ⟨h1.ins _ hb fun j x hx => (hM.em.ops j x hx).1, s1, out, (pcX ps k).n.toNat, ?_, by rw [hl]; exact Nat.le_refl _, h3, h4, PRl.ins _ hb h5⟩
  rw [hl]
  have hout : ¬ out.contains k = true := fun e => by
    rw [List.contains_iff_mem] at e
    have := (h4 k e).1; omega
  show (if _ then _ else _) = _
  rw [e0]
  by_cases hc : (pcX ps k).clo = true
  · rw [if_pos ⟨hp, hc, hout⟩, if_pos hc]; rfl
  · rw [if_neg (fun h => hc h.2.1), if_neg hc]; rfl
theorem QRl.done (hk : k < ps.length) (hp : runP (pcX ps k) = true) (h : ClI ps k c st L) (hQ : QRl ps k c st L) (he : (pcX ps k).clo = true → lfX st.xs c = 0 ∨ clO ps st c = 0) :
    PRl ps (k + 1) (if (pcX ps k).opn = true ∧ 0 < lfX st.xs c then opnS ps st k c else st) (withC st L c) := by
  obtain ⟨h1, s1, out, f, h2, h3, h4, h5, h6⟩ := hQ
  have hX : solR ps (k + 1) = clX s1 k (lfX st.xs c) (futR ps (k + 1) (ps.length - k - 1)) st.prs out := by
    rw [h2]
    split
    · rename_i hc
      refine clR_done h4.ne (fun hl j hj => ?_) f
      rcases he hc with he | he
      · exact absurd he hl
      · cases hg : goodR ps _ s1.length k out j with
        | false => rfl
        | true =>
          obtain ⟨a, e, b, x, A', B', -, -, g3, g4, g5, g6, -⟩ := good_ring h hl h4 h6 hj hg
          exact absurd (clO_none h h1 he (by rw [g3]; simp) g4 g5) g6
    · rfl
  have hOp : OpC ps (if (pcX ps k).opn = true ∧ 0 < lfX st.xs c then opnS ps st k c else st) (withC st L c) := by
    unfold withC
    by_cases hl : lfX st.xs c = 0
    · rw [if_neg (by omega), if_pos hl, List.append_nil]; exact h1
    · rw [if_neg hl]
      by_cases ho : (pcX ps k).opn = true
      · rw [if_pos ⟨ho, by omega⟩]
        refine ⟨fun j x hx => ?_, fun x hx hr hop => ?_⟩
        · show (pcX ps (pX st.xs x)).opn = true ∧ j = kindO (pcX ps (pX st.xs x))
          change x ∈ (if j = kindO (pcX ps k) then st.ops j ++ [c] else st.ops j) at hx
          split at hx
          · rename_i hj
            rcases List.mem_append.1 hx with hx | hx
            · exact h1.mem j x hx
            · rw [List.mem_singleton.1 hx, h.pc]; exact ⟨ho, hj⟩
          · exact h1.mem j x hx
        · show x ∈ (if kindO (pcX ps (pX st.xs x)) = kindO (pcX ps k) then st.ops (kindO (pcX ps (pX st.xs x))) ++ [c] else st.ops (kindO (pcX ps (pX st.xs x))))
          rcases List.mem_append.1 hx with hx | hx
          · have := h1.all x hx hr hop
            split
            · exact List.mem_append_left _ this
            · exact this
          · rw [List.mem_singleton.1 hx, h.pc, if_pos rfl]; simp
      · rw [if_neg (fun h => ho h.1)]
        refine ⟨h1.mem, fun x hx hr hop => ?_⟩
        rcases List.mem_append.1 hx with hx | hx
        · exact h1.all x hx hr hop
        · rw [List.mem_singleton.1 hx, h.pc] at hop
          exact absurd hop ho
  refine ⟨hOp, s1 ++ [⟨some k, lfX st.xs c, zeroT⟩], out, ?_, h4.more (.inr ⟨rfl, hp⟩), ?_, ?_⟩
  · have e1 : (if (pcX ps k).opn = true ∧ 0 < lfX st.xs c then opnS ps st k c else st).prs = st.prs := by split <;> rfl
    rw [hX, e1, List.append_assoc, Nat.sub_sub]; rfl
  · intro a ha
    obtain ⟨g1, g2⟩ := h5 a ha
    refine ⟨by omega, fun e he => ?_⟩
    rcases List.mem_append.1 he with he | he
    · exact g2 e he
    · rw [List.mem_singleton.1 he]
      intro e
      injection e with e
      omega
  · have e1 : (if (pcX ps k).opn = true ∧ 0 < lfX st.xs c then opnS ps st k c else st).xs = st.xs := by split <;> rfl
    have hcg : ∀ {a : List RE} {l : List Nat}, Rl st a l → Rl (if (pcX ps k).opn = true ∧ 0 < lfX st.xs c then opnS ps st k c else st) a l := fun ha => ha.congr fun x _ q hq => by
      unfold EqE at hq ⊢
      rw [e1]; exact hq
    refine hcg ?_
    unfold withC
    rw [List.filter_append]
    by_cases hl : lfX st.xs c = 0
    · have hn : nR ⟨some k, lfX st.xs c, zeroT⟩ = false := by unfold nR; simp [hl]
      rw [if_pos hl, List.filter_cons_of_neg (by rw [hn]; decide)]
      exact Rl.join h6 trivial
    · have hn : nR ⟨some k, lfX st.xs c, zeroT⟩ = true := by unfold nR; simp; omega
      rw [if_neg hl, List.filter_cons_of_pos hn]
      refine Rl.join h6 ⟨?_, trivial⟩
      unfold EqE
      rw [if_pos h.run, h.pc]
      exact ⟨rfl, rfl⟩
end
end Go.Pub
