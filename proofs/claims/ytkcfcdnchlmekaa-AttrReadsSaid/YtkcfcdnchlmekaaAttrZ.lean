/-
  The source of valid attributes is read as these attributes: plain mathematics.
-/
import Derived.Test.YtkcfcdnchlmekaaAttrP
import Derived.Test.YtkcfcdnchlmekaaAttrS
set_option linter.unusedVariables false
set_option linter.unusedSimpArgs false
namespace Go.Pub
theorem drop_cons {s : ByteArray} {i : Nat} {b : UInt8} {rest : List UInt8} (h : (bytesL s).drop i = b :: rest) : i < s.size ∧ s.get! i = b ∧ bt s i = b.toNat ∧ (bytesL s).drop (i + 1) = rest := by
  have hi : i < s.size := by
    rcases Nat.lt_or_ge i s.size with hlt | hge
    · exact hlt
    · rw [List.drop_eq_nil_of_le (by rw [bytesL_length]; exact hge)] at h; cases h
  have h0 : ((bytesL s).drop i)[0]? = some b := by rw [h]; rfl
  rw [List.getElem?_drop, Nat.add_zero, bytesL_get? s i hi] at h0
  injection h0 with h0
  refine ⟨hi, h0, by unfold bt; rw [h0], ?_⟩
  have : (bytesL s).drop (i + 1) = ((bytesL s).drop i).drop 1 := by rw [List.drop_drop]
  rw [this, h]; rfl
theorem drop_app {s : ByteArray} {i : Nat} {n rest : List UInt8} (h : (bytesL s).drop i = n ++ rest) : (bytesL s).drop (i + n.length) = rest := by
  have : (bytesL s).drop (i + n.length) = ((bytesL s).drop i).drop n.length := by rw [List.drop_drop]
  rw [this, h, List.drop_left]
theorem extract_run {s : ByteArray} {i : Nat} {n rest : List UInt8} (h : (bytesL s).drop i = n ++ rest) : s.extract i (i + n.length) = mk n := by
  rw [← mk_bytesL (s.extract i (i + n.length))]
  congr 1
  unfold bytesL
  rw [ByteArray.data_extract, Array.toList_extract, List.extract_eq_take_drop, Nat.add_sub_cancel_left]
  have : s.data.toList = bytesL s := rfl
  rw [this, h, List.take_left]
/-- A list that does not go on with a character of names. -/
def Stops (rest : List UInt8) : Prop := rest = [] ∨ ∃ c r, rest = c :: r ∧ partN c.toNat = false
theorem word_run {s : ByteArray} : ∀ (n : List UInt8) (i : Nat) (rest : List UInt8), (bytesL s).drop i = n ++ rest → (∀ b ∈ n, partN b.toNat = true) → Stops rest → ∀ f, s.size - i ≤ f → wEnd s f i = i + n.length
  | [], i, rest, h, _, hs, f, _ => by
    rw [List.nil_append] at h
    refine wEnd_stop s f i ?_
    rintro ⟨h1, h2⟩
    rcases hs with rfl | ⟨c, r, rfl, hc⟩
    · have := congrArg List.length h
      rw [List.length_drop, bytesL_length] at this
      simp at this; omega
    · obtain ⟨_, _, hb, _⟩ := drop_cons h
      rw [hb, hc] at h2; cases h2
  | b :: n, i, rest, h, hp, hs, f, hf => by
    obtain ⟨hi, _, hb, hd⟩ := drop_cons h
    rw [wEnd_step s f i hi (by rw [hb]; exact hp b (List.mem_cons_self ..)) hf]
    rw [word_run n (i + 1) rest hd (fun x hx => hp x (List.mem_cons_of_mem _ hx)) hs (f - 1) (by omega)]
    simp; omega
theorem word_run' {s : ByteArray} {n : List UInt8} {i : Nat} {rest : List UInt8} (h : (bytesL s).drop i = n ++ rest) (hp : ∀ b ∈ n, partN b.toNat = true) (hs : Stops rest) : wordAt s i = i + n.length := word_run n i rest h hp hs _ (Nat.le_refl _)
theorem wEnd_all {s : ByteArray} : ∀ (f i : Nat), wEnd s f i = s.size → ∀ j, i ≤ j → j < s.size → partN (bt s j) = true
  | 0, i, h, j, h1, h2 => by
    have : i = s.size := h
    omega
  | f + 1, i, h, j, h1, h2 => by
    unfold wEnd at h
    split at h
    · rename_i hc
      by_cases e : j = i
      · subst e; exact hc.2
      · exact wEnd_all f (i + 1) h j (by omega) h2
    · omega
theorem name_parts {x : ByteArray} (h : nameB x = true) : (∀ b ∈ bytesL x, partN b.toNat = true) ∧ 1 ≤ x.size ∧ letterN (bt x 0) = true := by
  unfold nameB at h
  simp only [Bool.and_eq_true, decide_eq_true_eq, beq_iff_eq] at h
  refine ⟨fun b hb => ?_, h.1.1.1, h.1.2⟩
  obtain ⟨j, hj⟩ := List.mem_iff_getElem?.1 hb
  have hj' : j < x.size := by
    rcases Nat.lt_or_ge j x.size with hlt | hge
    · exact hlt
    · rw [List.getElem?_eq_none (by rw [bytesL_length]; exact hge)] at hj; cases hj
  have := wEnd_all _ 0 h.2 j (Nat.zero_le _) hj'
  rw [bytesL_get? x j hj'] at hj
  injection hj with hj
  rw [← hj]; exact this
theorem sp_stop {s : ByteArray} {i : Nat} {c : UInt8} {r : List UInt8} (h : (bytesL s).drop i = c :: r) (hc : c.toNat ≠ 32) : spAt s i = i := by
  obtain ⟨_, _, hb, _⟩ := drop_cons h
  exact spEnd_stop s _ i fun hh => hc (by rw [← hb]; exact hh.2)
theorem sp_one {s : ByteArray} {i : Nat} {c : UInt8} {r : List UInt8} (h : (bytesL s).drop i = 32 :: c :: r) (hc : c.toNat ≠ 32) : spAt s i = i + 1 := by
  obtain ⟨hi, _, hb, hd⟩ := drop_cons h
  unfold spAt
  rw [spEnd_step s _ i hi hb (Nat.le_refl _)]
  obtain ⟨_, _, hb2, _⟩ := drop_cons hd
  exact spEnd_stop s _ (i + 1) fun hh => hc (by rw [← hb2]; exact hh.2)
theorem qv_run {s : ByteArray} : ∀ (v : List UInt8) (i : Nat) (acc rest : List UInt8) (f : Nat), (bytesL s).drop i = escL v ++ 34 :: rest → s.size ≤ i + f → qv s f i acc = some (acc ++ v, i + (escL v).length + 1)
  | [], i, acc, rest, f, h, hf => by
    obtain ⟨hi, _, hb, _⟩ := drop_cons (show (bytesL s).drop i = 34 :: rest from h)
    rw [qv_quote s f i acc hi hf hb, List.append_nil]; rfl
  | b :: v, i, acc, rest, f, h, hf => by
    have he : escL (b :: v) = escB b ++ escL v := rfl
    rw [he] at h ⊢
    by_cases c : b.toNat = 34 ∨ b.toNat = 92
    · have eb : escB b = [92, b] := if_pos c
      rw [eb] at h ⊢
      obtain ⟨hi, _, hb, hd⟩ := drop_cons (show (bytesL s).drop i = 92 :: (b :: (escL v ++ 34 :: rest)) from h)
      obtain ⟨hi2, hg2, hb2, hd2⟩ := drop_cons hd
      rw [qv_esc s f i acc hi hf hb, if_pos ⟨hi2, by rw [hb2]; exact c⟩, hg2, qv_run v (i + 2) (acc ++ [b]) rest (f - 1) hd2 (by omega)]
      simp; omega
    · have eb : escB b = [b] := if_neg c
      rw [eb] at h ⊢
      obtain ⟨hi, hg, hb, hd⟩ := drop_cons (show (bytesL s).drop i = b :: (escL v ++ 34 :: rest) from h)
      rw [qv_plain s f i acc hi hf (by rw [hb]; omega) (by rw [hb]; omega), hg, qv_run v (i + 1) (acc ++ [b]) rest (f - 1) hd (by omega)]
      simp; omega
end Go.Pub
namespace Go.Proofs.Ytkcfcdnchlmekaa
open Go.RowKit Go.Pub

theorem val_run {s : ByteArray} {v : ByteArray} {i : Nat} {rest : List UInt8} (h : (bytesL s).drop i = quotedL v ++ rest) : valL s i = (v, i + (quotedL v).length, lineB v) := by
  have h' : (bytesL s).drop i = 34 :: (escL (bytesL v) ++ 34 :: rest) := by rw [h]; unfold quotedL; simp
  obtain ⟨hi, _, hb, hd⟩ := drop_cons h'
  unfold valL
  rw [if_pos ⟨hi, hb⟩, qv_run (bytesL v) (i + 1) [] rest s.size hd (by omega)]
  show (mk ([] ++ bytesL v), _, lineB (mk ([] ++ bytesL v))) = _
  rw [List.nil_append, mk_bytesL]
  congr 2
  unfold quotedL
  simp; omega

/-- An item's text takes attributes to attributes. -/
inductive Step : ByteArray → AttrL → AttrL → Prop
  | id (a : AttrL) (x : ByteArray) : nameB x = true → a.id = ⟨#[]⟩ → Step (idItem x) a { a with id := x }
  | cl (a : AttrL) (x : ByteArray) : nameB x = true → Lib.containsS a.cl x = false → a.cl.length < 32 → Step (clItem x) a { a with cl := a.cl ++ [x] }
  | pr (a : AttrL) (k v : ByteArray) : nameB k = true → lineB v = true → hasKeyL a.pr k = false → a.pr.length < 32 → Step (prItem (k, v)) a { a with pr := a.pr ++ [(k, v)] }

theorem stops_of {c : UInt8} {r : List UInt8} (hc : c.toNat = 32 ∨ c.toNat = 125 ∨ c.toNat = 61) : Stops (c :: r) := by
  refine Or.inr ⟨c, r, rfl, ?_⟩
  rcases hc with h | h | h <;> rw [h] <;> decide

theorem letter_ne {b : Nat} (h : letterN b = true) : b ≠ 35 ∧ b ≠ 46 ∧ b ≠ 32 ∧ b ≠ 125 := by
  unfold letterN at h
  simp at h
  omega

theorem item_run {s x : ByteArray} {a a' : AttrL} {i : Nat} {c : UInt8} {rest : List UInt8} (hs : Step x a a') (h : (bytesL s).drop i = bytesL x ++ c :: rest) (hc : c.toNat = 32 ∨ c.toNat = 125) :
    itemL a s i = (i + x.size, 0, a') ∧ i < s.size ∧ bt s i ≠ 125 ∧ bt s i ≠ 32 := by
  have hc' : c.toNat = 32 ∨ c.toNat = 125 ∨ c.toNat = 61 := by omega
  cases hs with
  | id _ y hn hid =>
    have e : bytesL (idItem y) = 35 :: bytesL y := by unfold idItem; rw [bytesL_app]; rfl
    rw [e] at h
    obtain ⟨hi, _, hb, hd⟩ := drop_cons (show (bytesL s).drop i = 35 :: (bytesL y ++ c :: rest) from h)
    have hb' : bt s i = 35 := hb
    have hw := word_run' hd (name_parts hn).1 (stops_of hc')
    have hx : nameAt s (i + 1) = y := by unfold nameAt; rw [hw, extract_run hd, mk_bytesL]
    have hsz : (idItem y).size = 1 + y.size := by rw [← bytesL_length, e]; simp [bytesL_length]; omega
    refine ⟨?_, hi, by omega, by omega⟩
    unfold itemL
    rw [if_pos hb', hx, if_pos hn, if_pos hid, hw, bytesL_length, hsz]
    congr 1; omega
  | cl _ y hn hno hl =>
    have e : bytesL (clItem y) = 46 :: bytesL y := by unfold clItem; rw [bytesL_app]; rfl
    rw [e] at h
    obtain ⟨hi, _, hb, hd⟩ := drop_cons (show (bytesL s).drop i = 46 :: (bytesL y ++ c :: rest) from h)
    have hb' : bt s i = 46 := hb
    have hw := word_run' hd (name_parts hn).1 (stops_of hc')
    have hx : nameAt s (i + 1) = y := by unfold nameAt; rw [hw, extract_run hd, mk_bytesL]
    have hsz : (clItem y).size = 1 + y.size := by rw [← bytesL_length, e]; simp [bytesL_length]; omega
    have hE : classE a y = 0 := by unfold classE; rw [hno, if_neg (by decide), if_neg (by omega)]
    refine ⟨?_, hi, by omega, by omega⟩
    unfold itemL
    rw [if_neg (by omega), if_pos hb', hx, if_pos hn, hw, bytesL_length, hsz, hE]
    unfold classA
    rw [hE, if_pos rfl]
    congr 1; omega
  | pr _ k v hn hv hno hl =>
    have e : bytesL (prItem (k, v)) = bytesL k ++ 61 :: quotedL v := by
      have := bytes_prItem (k, v)
      simp at this
      exact this
    rw [e] at h
    have hd : (bytesL s).drop i = bytesL k ++ (61 :: (quotedL v ++ c :: rest)) := by rw [h]; simp
    obtain ⟨hparts, h1, hlet⟩ := name_parts hn
    have hw := word_run' hd hparts (stops_of (c := 61) (by decide))
    have hx : nameAt s i = k := by unfold nameAt; rw [hw, extract_run hd, mk_bytesL]
    have hd2 := drop_app hd
    rw [bytesL_length] at hd2 hw
    obtain ⟨hi2, _, hb2, hd3⟩ := drop_cons hd2
    have hval := val_run hd3
    have hk0 : ∃ r, bytesL k = k.get! 0 :: r := by
      have := bytesL_get? k 0 (by omega)
      cases hkl : bytesL k with
      | nil => rw [hkl] at this; cases this
      | cons x r => rw [hkl] at this; injection this with this; exact ⟨r, by rw [this]⟩
    obtain ⟨r0, hr0⟩ := hk0
    obtain ⟨hi, _, hb, _⟩ := drop_cons (show (bytesL s).drop i = k.get! 0 :: (r0 ++ (61 :: (quotedL v ++ c :: rest))) by rw [hd, hr0]; rfl)
    have hb' : bt s i = bt k 0 := hb
    obtain ⟨n1, n2, n3, n4⟩ := letter_ne hlet
    have hsz : (prItem (k, v)).size = k.size + 1 + (quotedL v).length := by rw [← bytesL_length, e]; simp [bytesL_length]; omega
    have hE : pairE a k = 0 := by unfold pairE; rw [hno, if_neg (by decide), if_neg (by omega)]
    refine ⟨?_, hi, by omega, by omega⟩
    unfold itemL
    rw [if_neg (by omega), if_neg (by omega), hx, if_pos hn, hw]
    unfold pairItem
    rw [if_pos ⟨hi2, hb2⟩, hval]
    dsimp only
    rw [if_pos hv, hE, hsz]
    unfold pairA
    rw [hE, if_pos rfl]
    congr 1; omega

theorem step_head {x : ByteArray} {a a' : AttrL} (h : Step x a a') : ∃ b r, bytesL x = b :: r ∧ b.toNat ≠ 32 := by
  cases h with
  | id _ y hn _ => exact ⟨35, bytesL y, by unfold idItem; rw [bytesL_app]; rfl, by decide⟩
  | cl _ y hn _ _ => exact ⟨46, bytesL y, by unfold clItem; rw [bytesL_app]; rfl, by decide⟩
  | pr _ k v hn _ _ _ =>
    obtain ⟨hparts, h1, hlet⟩ := name_parts hn
    obtain ⟨n1, n2, n3, n4⟩ := letter_ne hlet
    have e : bytesL (prItem (k, v)) = bytesL k ++ 61 :: quotedL v := by
      have := bytes_prItem (k, v)
      simp at this
      exact this
    have := bytesL_get? k 0 (by omega)
    cases hkl : bytesL k with
    | nil => rw [hkl] at this; cases this
    | cons x r =>
      rw [hkl] at this
      injection this with this
      refine ⟨x, r ++ 61 :: quotedL v, by rw [e, hkl]; rfl, ?_⟩
      rw [this]; exact n3

theorem step_size {x : ByteArray} {a a' : AttrL} (h : Step x a a') : 1 ≤ x.size := by
  obtain ⟨b, r, e, _⟩ := step_head h
  rw [← bytesL_length, e]; simp

inductive Steps : List ByteArray → AttrL → AttrL → Prop
  | nil (a : AttrL) : Steps [] a a
  | cons {x : ByteArray} {r : List ByteArray} {a b c : AttrL} : Step x a b → Steps r b c → Steps (x :: r) a c
theorem Steps.app {l m : List ByteArray} {a b c : AttrL} (h : Steps l a b) (k : Steps m b c) : Steps (l ++ m) a c := by
  induction h with
  | nil => exact k
  | cons hs _ ih => exact .cons hs (ih k)

theorem parse_run {s : ByteArray} {more : List UInt8} : ∀ (r : List ByteArray) (x : ByteArray) (a b c : AttrL) (i f : Nat), Step x a b → Steps r b c → (bytesL s).drop i = bytesL x ++ (spL r ++ 125 :: more) → s.size < i + f →
    parseF s f i true a = (c, i + x.size + (spL r).length + 1, 0)
  | [], x, a, b, c, i, f, h1, h2, hd, hf => by
    cases h2
    have hx1 := step_size h1
    obtain ⟨hit, hi, hn1, hn2⟩ := item_run h1 (show (bytesL s).drop i = bytesL x ++ 125 :: more from hd) (Or.inr rfl)
    have hd2 := drop_app (show (bytesL s).drop i = bytesL x ++ 125 :: more from hd)
    rw [bytesL_length] at hd2
    have hsp := sp_stop hd2 (by decide)
    obtain ⟨hi2, _, hb2, _⟩ := drop_cons hd2
    rw [parseF_next s f i a hi hf hn1 (by rw [hit]), hit]
    dsimp only
    rw [hsp, parseF_close s (f - 1) _ _ _ hi2 (by omega) hb2]
    rfl
  | y :: r, x, a, b, c, i, f, h1, h2, hd, hf => by
    cases h2 with
    | cons g1 g2 =>
      have hd' : (bytesL s).drop i = bytesL x ++ 32 :: (bytesL y ++ (spL r ++ 125 :: more)) := by rw [hd]; unfold spL; simp
      obtain ⟨hit, hi, hn1, hn2⟩ := item_run h1 hd' (Or.inl rfl)
      have hd2 := drop_app hd'
      rw [bytesL_length] at hd2
      obtain ⟨hy, ry, ey, hy32⟩ := step_head g1
      have hsp := sp_one (c := hy) (r := ry ++ (spL r ++ 125 :: more)) (by rw [hd2, ey]; rfl) hy32
      obtain ⟨hi2, _, _, hd3⟩ := drop_cons hd2
      rw [parseF_next s f i a hi hf hn1 (by rw [hit]), hit]
      dsimp only
      rw [hsp, show decide (i + x.size < i + x.size + 1) = true by simp, parse_run r y _ _ c (i + x.size + 1) (f - 1) g1 g2 hd3 (by omega)]
      have : (spL (y :: r)).length = 1 + y.size + (spL r).length := by unfold spL; rw [List.flatMap_cons, List.length_append, List.length_cons, bytesL_length]; omega
      rw [this]
      congr 2; omega

/-- The text of attributes, in bytes. -/
theorem textB_bytes (a : AttrL) : bytesL (textB a) = 123 :: ((spL (itemsL a)).drop 1 ++ [125]) := by
  unfold textB
  rw [bytesL_app, bytesL_app, bytesL_mk', join_spL]; rfl

theorem parse_text (a : AttrL) (more : ByteArray) (h : Steps (itemsL a) emptyA a) : parseL (textB a ++ more) 0 = (a, (textB a).size, 0) := by
  have hb : bytesL (textB a ++ more) = 123 :: ((spL (itemsL a)).drop 1 ++ (125 :: bytesL more)) := by rw [bytesL_app, textB_bytes]; simp
  have hts : (textB a).size = ((spL (itemsL a)).drop 1).length + 2 := by rw [← bytesL_length, textB_bytes]; simp
  generalize hs : textB a ++ more = s at *
  have h0 : (bytesL s).drop 0 = 123 :: ((spL (itemsL a)).drop 1 ++ (125 :: bytesL more)) := hb
  obtain ⟨hi, _, hb0, hd⟩ := drop_cons h0
  unfold parseL
  rw [if_pos ⟨by omega, by omega, hb0⟩]
  show parseF s (s.size + 1) (spAt s (0 + 1)) true emptyA = _
  rw [hts]
  cases hits : itemsL a with
  | nil =>
    rw [hits] at hd h
    cases h
    have hd' : (bytesL s).drop (0 + 1) = 125 :: bytesL more := hd
    rw [sp_stop hd' (by decide)]
    obtain ⟨hi2, _, hb2, _⟩ := drop_cons hd'
    rw [parseF_close s _ _ _ _ hi2 (by omega) hb2]
    rfl
  | cons x r =>
    rw [hits] at hd h
    cases h with
    | cons g1 g2 =>
      have hd' : (bytesL s).drop (0 + 1) = bytesL x ++ (spL r ++ 125 :: bytesL more) := by rw [hd]; unfold spL; simp
      obtain ⟨bx, rx, ex, hx32⟩ := step_head g1
      rw [sp_stop (c := bx) (r := rx ++ (spL r ++ 125 :: bytesL more)) (by rw [hd', ex]; rfl) hx32]
      rw [parse_run r x _ _ a (0 + 1) (s.size + 1) g1 g2 hd' (by omega)]
      have : ((spL (x :: r)).drop 1).length = x.size + (spL r).length := by unfold spL; rw [List.length_drop, List.flatMap_cons, List.length_append, List.length_cons, bytesL_length]; omega
      rw [this]
      congr 2; omega

theorem steps_cl : ∀ (l seen : List ByteArray) (a : AttrL), a.cl = seen → clsE seen l = 0 → seen.length + l.length ≤ 32 → Steps (l.map clItem) a { a with cl := seen ++ l }
  | [], seen, a, h, _, _ => by
    rw [List.append_nil, ← h]; exact .nil _
  | x :: l, seen, a, h, he, hl => by
    unfold clsE at he
    split at he
    · cases he
    · split at he
      · cases he
      · rename_i h1 h2
        have h1' : nameB x = true := by simpa using h1
        have h2' : Lib.containsS a.cl x = false := by rw [h]; simpa using h2
        have := steps_cl l (seen ++ [x]) { a with cl := a.cl ++ [x] } (by rw [h]) he (by simp at hl ⊢; omega)
        refine .cons (Step.cl a x h1' h2' (by rw [h]; simp at hl; omega)) ?_
        simpa using this
theorem steps_pr : ∀ (l seen : List (ByteArray × ByteArray)) (a : AttrL), a.pr = seen → prsE (keysOf seen) l = 0 → seen.length + l.length ≤ 32 → Steps (l.map prItem) a { a with pr := seen ++ l }
  | [], seen, a, h, _, _ => by
    rw [List.append_nil, ← h]; exact .nil _
  | (k, v) :: l, seen, a, h, he, hl => by
    unfold prsE at he
    split at he
    · cases he
    · split at he
      · cases he
      · split at he
        · cases he
        · rename_i h1 h2 h3
          have h1' : nameB k = true := by simpa using h1
          have h2' : lineB v = true := by simpa using h2
          have h3' : hasKeyL a.pr k = false := by rw [contains_keys, h]; simpa using h3
          have := steps_pr l (seen ++ [(k, v)]) { a with pr := a.pr ++ [(k, v)] } (by rw [h]) (by unfold keysOf at he ⊢; rw [List.map_append]; exact he) (by simp at hl ⊢; omega)
          refine .cons (Step.pr a k v h1' h2' h3' (by rw [h]; simp at hl; omega)) ?_
          simpa using this
theorem check_parts (a : AttrL) (h : checkE a = 0) : (a.id = ⟨#[]⟩ ∨ nameB a.id = true) ∧ clsE [] a.cl = 0 ∧ prsE [] a.pr = 0 := by
  have key : restE a = 0 → clsE [] a.cl = 0 ∧ prsE [] a.pr = 0 := by
    intro h
    unfold restE at h
    split at h
    · split at h
      · exact ⟨by assumption, by assumption⟩
      · rename_i h2; exact absurd h h2
    · rename_i h2; exact absurd h h2
  unfold checkE at h
  split at h
  · exact ⟨Or.inl (by assumption), key h⟩
  · split at h
    · exact ⟨Or.inr (by assumption), key h⟩
    · cases h
theorem steps_of (a : AttrL) (h : checkE a = 0) : Steps (itemsL a) emptyA a := by
  obtain ⟨h1, h2, h3⟩ := check_parts a h
  obtain ⟨l1, l2⟩ := checkE_lim a h
  unfold itemsL
  have s1 : Steps (idItems a.id) emptyA { emptyA with id := a.id } := by
    unfold idItems
    split
    · rename_i e; rw [e]; exact .nil _
    · rename_i e
      rcases h1 with h1 | h1
      · exact absurd h1 e
      · exact .cons (Step.id emptyA a.id h1 rfl) (.nil _)
  have s2 := steps_cl a.cl [] { emptyA with id := a.id } rfl h2 (by simpa using l1)
  have s3 := steps_pr a.pr [] { emptyA with id := a.id, cl := [] ++ a.cl } rfl h3 (by simpa using l2)
  have := (s1.app s2).app s3
  simpa using this
theorem returns_pure (a : AttrL) (more : ByteArray) (h : checkE a = 0) : parseL (textB a ++ more) 0 = (a, (textB a).size, 0) := parse_text a more (steps_of a h)
end Go.Proofs.Ytkcfcdnchlmekaa
