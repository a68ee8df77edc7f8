/-
  Texts of the proof, put together (what this law reaches): MkA, AttrI, MkC, MkD, MkJ, MkE.
-/
import Derived.Test.YtpoafhgbhnblmaaGreatDoorD08
import Derived.Test.YtpoafhgbhnblmaaGreatDoorD05
import Derived.Test.YtpoafhgbhnblmaaGreatDoorD07
import Derived.Test.YtpoafhgbhnblmaaGreatDoorD06
import Derived.Test.YtpoafhgbhnblmaaGreatDoorD04
import Derived.Deep.CutRange
import Derived.Deep.DeepCutAuto
import Derived.Deep.RegionHeld3
import Derived.StillTailTactics
set_option linter.unusedVariables false
set_option linter.unusedSimpArgs false
namespace Go.Pub
/-- The n bytes from i on of s are those from i' on of s'. -/
def Agr (s : ByteArray) (i : Nat) (s' : ByteArray) (i' n : Nat) : Prop := ∃ p r r', sfx s i = p ++ r ∧ sfx s' i' = p ++ r' ∧ p.length = n
section
variable {s s' : ByteArray} {i i' n : Nat}
theorem sfx_add (s : ByteArray) (i j : Nat) : sfx s (i + j) = (sfx s i).drop j := by unfold sfx; rw [List.drop_drop]
theorem Agr.tail (h : Agr s i s' i' n) {j : Nat} (hj : j ≤ n) : Agr s (i + j) s' (i' + j) (n - j) := by
  obtain ⟨p, r, r', h1, h2, h3⟩ := h
  refine ⟨p.drop j, r, r', ?_, ?_, by rw [List.length_drop]; omega⟩
  · rw [sfx_add, h1, List.drop_append_of_le_length (by omega)]
  · rw [sfx_add, h2, List.drop_append_of_le_length (by omega)]
theorem Agr.at (h : Agr s i s' i' n) {j : Nat} (hj : j < n) : i + j < s.size ∧ i' + j < s'.size ∧ s.get! (i + j) = s'.get! (i' + j) := by
  obtain ⟨p, r, r', h1, h2, h3⟩ := h.tail (Nat.le_of_lt hj)
  cases p with
  | nil => simp at h3; omega
  | cons c p =>
    have l1 : i + j < s.size := by have := congrArg List.length h1; rw [sfx_len, List.length_append, List.length_cons] at this; omega
    have l2 : i' + j < s'.size := by have := congrArg List.length h2; rw [sfx_len, List.length_append, List.length_cons] at this; omega
    rw [sfx_cons s _ l1] at h1
    rw [sfx_cons s' _ l2] at h2
    injection h1 with h1 _
    injection h2 with h2 _
    exact ⟨l1, l2, h1.trans h2.symm⟩
theorem Agr.btq (h : Agr s i s' i' n) {j : Nat} (hj : j < n) : bt s (i + j) = bt s' (i' + j) := by
  have := (h.at hj).2.2
  unfold bt; rw [this]
theorem Agr.subq (h : Agr s i s' i' n) {a e : Nat} (he : e ≤ n) : sub s (i + a) (i + e) = sub s' (i' + a) (i' + e) := by
  obtain ⟨p, r, r', h1, h2, h3⟩ := h
  have key : ∀ (s : ByteArray) (i : Nat) (r : List UInt8), sfx s i = p ++ r → sub s (i + a) (i + e) = (p.drop a).take (e - a) := fun s i r h => by
    have e1 : sub s (i + a) (i + e) = (sfx s (i + a)).take (e - a) := by
      unfold sub sfx; congr 1; omega
    rw [e1, sfx_add, h]
    rcases Nat.lt_or_ge a p.length with hl | hl
    · rw [List.drop_append_of_le_length (by omega), List.take_append_of_le_length (by rw [List.length_drop]; omega)]
    · have : e - a = 0 := by omega
      rw [this]; simp
  rw [key s i r h1, key s' i' r' h2]
theorem Agr.ext (h : Agr s i s' i' n) {a e : Nat} (he : e ≤ n) : s.extract (i + a) (i + e) = s'.extract (i' + a) (i' + e) := by
  rw [← mk_bytesL (s.extract _ _), ← mk_bytesL (s'.extract _ _), bytesL_sub, bytesL_sub, h.subq he]
end
/-- Where a word ends, said outright. -/
theorem wEnd_eq (s : ByteArray) : ∀ (f k e : Nat), k ≤ e → e ≤ s.size → e ≤ k + f → (∀ j, k ≤ j → j < e → partN (bt s j) = true) → ¬ (e < s.size ∧ partN (bt s e) = true) → wEnd s f k = e
  | f, k, e, h1, hs, h2, h3, h4 => by
    by_cases hke : k = e
    · subst hke; exact wEnd_stop s f k h4
    · obtain ⟨g, rfl⟩ : ∃ g, f = g + 1 := ⟨f - 1, by omega⟩
      have hp := h3 k (Nat.le_refl _) (by omega)
      show (if k < s.size ∧ partN (bt s k) = true then wEnd s g (k + 1) else k) = e
      rw [if_pos ⟨by omega, hp⟩]
      exact wEnd_eq s g (k + 1) e (by omega) hs (by omega) (fun j hj hl => h3 j (by omega) hl) h4
  termination_by f => f
theorem wordAt_eq (s : ByteArray) (k e : Nat) (h1 : k ≤ e) (hs : e ≤ s.size) (h3 : ∀ j, k ≤ j → j < e → partN (bt s j) = true) (h4 : ¬ (e < s.size ∧ partN (bt s e) = true)) : wordAt s k = e :=
  wEnd_eq s _ k e h1 hs (by omega) h3 h4
theorem wEnd_spec (s : ByteArray) : ∀ (f k : Nat), s.size ≤ k + f → (∀ j, k ≤ j → j < wEnd s f k → partN (bt s j) = true) ∧ ¬ (wEnd s f k < s.size ∧ partN (bt s (wEnd s f k)) = true)
  | 0, k, h => ⟨fun j h1 h2 => by simp only [wEnd] at h2; omega, fun h2 => by simp only [wEnd] at h2; omega⟩
  | f + 1, k, h => by
    by_cases hk : k < s.size ∧ partN (bt s k) = true
    · have e : wEnd s (f + 1) k = wEnd s f (k + 1) := by simp only [wEnd]; rw [if_pos hk]
      rw [e]
      obtain ⟨h1, h2⟩ := wEnd_spec s f (k + 1) (by omega)
      refine ⟨fun j hj hl => ?_, h2⟩
      by_cases hjk : j = k
      · subst hjk; exact hk.2
      · exact h1 j (by omega) hl
    · have e : wEnd s (f + 1) k = k := wEnd_stop s _ k hk
      rw [e]
      exact ⟨fun j hj hl => by omega, hk⟩
theorem wordAt_spec (s : ByteArray) (k : Nat) (hk : k ≤ s.size) : (∀ j, k ≤ j → j < wordAt s k → partN (bt s j) = true) ∧ ¬ (wordAt s k < s.size ∧ partN (bt s (wordAt s k)) = true) :=
  wEnd_spec s (s.size - k) k (by omega)
theorem wordAt_bd (s : ByteArray) (k : Nat) : k ≤ wordAt s k ∧ (k ≤ s.size → wordAt s k ≤ s.size) := wEnd_bd s _ k
theorem spEnd_eq (s : ByteArray) : ∀ (f k e : Nat), k ≤ e → e ≤ s.size → e ≤ k + f → (∀ j, k ≤ j → j < e → bt s j = 32) → ¬ (e < s.size ∧ bt s e = 32) → spEnd s f k = e
  | f, k, e, h1, hs, h2, h3, h4 => by
    by_cases hke : k = e
    · subst hke; exact spEnd_stop s f k h4
    · obtain ⟨g, rfl⟩ : ∃ g, f = g + 1 := ⟨f - 1, by omega⟩
      have hp := h3 k (Nat.le_refl _) (by omega)
      show (if k < s.size ∧ bt s k = 32 then spEnd s g (k + 1) else k) = e
      rw [if_pos ⟨by omega, hp⟩]
      exact spEnd_eq s g (k + 1) e (by omega) hs (by omega) (fun j hj hl => h3 j (by omega) hl) h4
  termination_by f => f
theorem spAt_eq (s : ByteArray) (k e : Nat) (h1 : k ≤ e) (hs : e ≤ s.size) (h3 : ∀ j, k ≤ j → j < e → bt s j = 32) (h4 : ¬ (e < s.size ∧ bt s e = 32)) : spAt s k = e :=
  spEnd_eq s _ k e h1 hs (by omega) h3 h4
theorem spEnd_spec (s : ByteArray) : ∀ (f k : Nat), s.size ≤ k + f → (∀ j, k ≤ j → j < spEnd s f k → bt s j = 32) ∧ ¬ (spEnd s f k < s.size ∧ bt s (spEnd s f k) = 32)
  | 0, k, h => ⟨fun j h1 h2 => by simp only [spEnd] at h2; omega, fun h2 => by simp only [spEnd] at h2; omega⟩
  | f + 1, k, h => by
    by_cases hk : k < s.size ∧ bt s k = 32
    · have e : spEnd s (f + 1) k = spEnd s f (k + 1) := by simp only [spEnd]; rw [if_pos hk]
      rw [e]
      obtain ⟨h1, h2⟩ := spEnd_spec s f (k + 1) (by omega)
      refine ⟨fun j hj hl => ?_, h2⟩
      by_cases hjk : j = k
      · subst hjk; exact hk.2
      · exact h1 j (by omega) hl
    · have e : spEnd s (f + 1) k = k := spEnd_stop s _ k hk
      rw [e]
      exact ⟨fun j hj hl => by omega, hk⟩
theorem spAt_spec (s : ByteArray) (k : Nat) : (∀ j, k ≤ j → j < spAt s k → bt s j = 32) ∧ ¬ (spAt s k < s.size ∧ bt s (spAt s k) = 32) := by
  unfold spAt
  rcases Nat.lt_or_ge s.size k with h | h
  · have : s.size - k = 0 := by omega
    rw [this]
    exact ⟨fun j h1 h2 => by simp only [spEnd] at h2; omega, fun h2 => by simp only [spEnd] at h2; omega⟩
  · exact spEnd_spec s (s.size - k) k (by omega)
theorem spAt_bd (s : ByteArray) (k : Nat) : k ≤ spAt s k ∧ (k ≤ s.size → spAt s k ≤ s.size) := spEnd_bd s _ k
section
variable {s s' : ByteArray} {i i' n : Nat}
theorem Agr.word (h : Agr s i s' i' n) {a e : Nat} (ha : wordAt s (i + a) = i + e) (he : e < n) : wordAt s' (i' + a) = i' + e := by
  have hb := (wordAt_bd s (i + a)).1
  rw [ha] at hb
  have h0 := (h.at he).1
  obtain ⟨h1, h2⟩ := wordAt_spec s (i + a) (by omega)
  rw [ha] at h1 h2
  refine wordAt_eq s' _ _ (by omega) (by have := (h.at he).2.1; omega) (fun j hj hl => ?_) (fun hh => ?_)
  · obtain ⟨d, rfl⟩ : ∃ d, j = i' + d := ⟨j - i', by omega⟩
    rw [← h.btq (by omega)]
    exact h1 _ (by omega) (by omega)
  · rw [← h.btq he] at hh
    exact h2 ⟨h0, hh.2⟩
theorem Agr.spaces (h : Agr s i s' i' n) {a e : Nat} (ha : spAt s (i + a) = i + e) (he : e < n) : spAt s' (i' + a) = i' + e := by
  have hb := (spAt_bd s (i + a)).1
  rw [ha] at hb
  have h0 := (h.at he).1
  obtain ⟨h1, h2⟩ := spAt_spec s (i + a)
  rw [ha] at h1 h2
  refine spAt_eq s' _ _ (by omega) (by have := (h.at he).2.1; omega) (fun j hj hl => ?_) (fun hh => ?_)
  · obtain ⟨d, rfl⟩ : ∃ d, j = i' + d := ⟨j - i', by omega⟩
    rw [← h.btq (by omega)]
    exact h1 _ (by omega) (by omega)
  · rw [← h.btq he] at hh
    exact h2 ⟨h0, hh.2⟩
theorem Agr.quoted (h : Agr s i s' i' n) : ∀ (f f' a : Nat) (acc l : List UInt8) (e : Nat), qv s f (i + a) acc = some (l, i + e) → e ≤ n → s'.size ≤ i' + a + f' → qv s' f' (i' + a) acc = some (l, i' + e)
  | 0, f', a, acc, l, e, hq, he, hf => by simp [qv] at hq
  | f + 1, f', a, acc, l, e, hq, he, hf => by
    have hb := qv_len s _ _ _ _ _ hq
    obtain ⟨l1, l2, hg⟩ := h.at (j := a) (by omega)
    have hbt := h.btq (j := a) (by omega)
    obtain ⟨g, rfl⟩ : ∃ g, f' = g + 1 := ⟨f' - 1, by omega⟩
    unfold qv at hq ⊢
    rw [if_pos l1] at hq
    rw [if_pos l2, ← hbt]
    by_cases c1 : bt s (i + a) = 34
    · rw [if_pos c1] at hq ⊢
      injection hq with hq
      injection hq with q1 q2
      subst q1
      rw [show i' + a + 1 = i' + e by omega]
    · rw [if_neg c1] at hq ⊢
      by_cases c2 : bt s (i + a) = 92
      · rw [if_pos c2] at hq ⊢
        split at hq
        · rename_i hc
          have hb2 := qv_len s _ _ _ _ _ hq
          obtain ⟨m1, m2, mg⟩ := h.at (j := a + 1) (by omega)
          have mbt := h.btq (j := a + 1) (by omega)
          have e1 : i' + a + 1 = i' + (a + 1) := by omega
          have e2 : i + a + 1 = i + (a + 1) := by omega
          rw [if_pos (by rw [e1, ← mbt, ← e2]; exact ⟨m2, hc.2⟩), e1, ← mg, ← e2]
          exact Agr.quoted h f g (a + 2) _ l e (by rw [show i + (a + 2) = i + a + 2 by omega]; exact hq) he (by omega)
        · cases hq
      · rw [if_neg c2] at hq ⊢
        rw [← hg]
        exact Agr.quoted h f g (a + 1) _ l e (by rw [show i + (a + 1) = i + a + 1 by omega]; exact hq) he (by omega)
end
end Go.Pub
namespace Go.Proofs.YtpoafhgbhnblmaaGreatDoor
open Go.RowKit Go.Pub
section
variable {s s' : ByteArray} {i i' n : Nat}
theorem agr_val (h : Agr s i s' i' n) {a e : Nat} {v : ByteArray} (hv : valL s (i + a) = (v, i + e, true)) (ha : a < n) (he : e < n) : valL s' (i' + a) = (v, i' + e, true) := by
  obtain ⟨l1, l2, hg⟩ := h.at ha
  have hbt := h.btq ha
  unfold valL at hv ⊢
  by_cases c : bt s (i + a) = 34
  · rw [if_pos ⟨l1, c⟩] at hv
    rw [if_pos ⟨l2, by rw [← hbt]; exact c⟩]
    cases hq : qv s s.size (i + a + 1) [] with
    | none => rw [hq] at hv; unfold valOf at hv; simp at hv
    | some r =>
      obtain ⟨l, j⟩ := r
      rw [hq] at hv
      unfold valOf at hv
      simp only [Prod.mk.injEq] at hv
      obtain ⟨v1, v2, v3⟩ := hv
      subst v2
      have := h.quoted s.size s'.size (a + 1) [] l e (by rw [← hq]; rfl) (by omega) (by omega)
      rw [show i' + a + 1 = i' + (a + 1) by omega, this]
      unfold valOf
      simp only [Prod.mk.injEq]
      exact ⟨v1, trivial, v3⟩
  · rw [if_neg (fun x => c x.2)] at hv
    rw [if_neg (fun x => c (by rw [hbt]; exact x.2))]
    unfold bareVal at hv ⊢
    simp only [Prod.mk.injEq] at hv ⊢
    obtain ⟨v1, v2, v3⟩ := hv
    have hw := h.word v2 he
    rw [v2] at v1 v3
    rw [hw, ← h.ext (Nat.le_of_lt he)]
    exact ⟨v1, rfl, v3⟩
theorem agr_name (h : Agr s i s' i' n) {a e : Nat} (hw : wordAt s (i + a) = i + e) (he : e < n) : nameAt s' (i' + a) = nameAt s (i + a) := by
  unfold nameAt
  rw [h.word hw he, hw, h.ext (Nat.le_of_lt he)]
theorem agr_item (h : Agr s i s' i' n) {a e : Nat} {A A' : AttrL} (ha : a < n) (hi : itemL A s (i + a) = (i + e, 0, A')) (he : e < n) : itemL A s' (i' + a) = (i' + e, 0, A') := by
  have hbd := itemL_bd A s (i + a) (h.at ha).1 (by rw [hi])
  rw [hi] at hbd
  have hbt := h.btq ha
  unfold itemL at hi ⊢
  rw [← hbt]
  have e1 : i' + a + 1 = i' + (a + 1) := by omega
  have e2 : i + a + 1 = i + (a + 1) := by omega
  by_cases c1 : bt s (i + a) = 35
  · rw [if_pos c1] at hi ⊢
    split at hi
    · rename_i hn
      split at hi
      · rename_i hid
        simp only [Prod.mk.injEq] at hi
        obtain ⟨v1, _, v3⟩ := hi
        rw [e2] at v1 hn v3
        rw [e1, agr_name h v1 he, if_pos hn, if_pos hid, h.word v1 he, v3]
      · simp at hi
    · simp at hi
  · rw [if_neg c1] at hi ⊢
    by_cases c2 : bt s (i + a) = 46
    · rw [if_pos c2] at hi ⊢
      split at hi
      · rename_i hn
        simp only [Prod.mk.injEq] at hi
        obtain ⟨v1, v2, v3⟩ := hi
        rw [e2] at v1 hn v3 v2
        rw [e1, agr_name h v1 he, if_pos hn, h.word v1 he, v3, v2]
      · simp at hi
    · rw [if_neg c2] at hi ⊢
      split at hi
      · rename_i hn
        have hwb := (wordAt_bd s (i + a)).1
        obtain ⟨d, hd⟩ : ∃ d, wordAt s (i + a) = i + d := ⟨wordAt s (i + a) - i, by omega⟩
        unfold pairItem at hi
        split at hi
        · rename_i hq
          split at hi
          · rename_i hv
            simp only [Prod.mk.injEq] at hi
            obtain ⟨v1, v2, v3⟩ := hi
            have hvb := valL_bd s (wordAt s (i + a) + 1) (by omega) hv
            have hdn : d + 1 < n := by omega
            have hv' : valL s (i + (d + 1)) = ((valL s (i + (d + 1))).1, i + e, true) := by
              have e3 : wordAt s (i + a) + 1 = i + (d + 1) := by omega
              rw [e3] at v1 hv
              rw [← v1, ← hv]
            have hm := agr_val h hv' hdn he
            rw [agr_name h hd (by omega), if_pos hn, h.word hd (by omega)]
            unfold pairItem
            rw [hd] at hq v3
            rw [if_pos ⟨(h.at (j := d) (by omega)).2.1, by rw [← h.btq (by omega)]; exact hq.2⟩, show i' + d + 1 = i' + (d + 1) by omega, hm]
            simp only [if_true, Prod.mk.injEq]
            rw [show i + d + 1 = i + (d + 1) by omega] at v3
            exact ⟨trivial, v2, v3⟩
          · simp at hi
        · simp at hi
      · simp at hi
theorem parseF_pos (s : ByteArray) : ∀ (f k : Nat) (b : Bool) (A A' : AttrL) (t : Nat), parseF s f k b A = (A', t, 0) → k < t ∧ t ≤ s.size ∧ bt s (t - 1) = 125
  | 0, k, b, A, A', t, h => by simp [parseF] at h
  | f + 1, k, b, A, A', t, h => by
    unfold parseF at h
    split at h
    · rename_i hk
      split at h
      · rename_i hc
        simp only [Prod.mk.injEq] at h
        obtain ⟨_, h2, _⟩ := h
        subst h2
        exact ⟨by omega, by omega, by rw [Nat.add_sub_cancel]; exact hc⟩
      · split at h
        · simp at h
        · split at h
          · rename_i he
            have hb := itemL_bd A s k hk he
            have := parseF_pos s f _ _ _ _ _ h
            have hs := (spAt_bd s (itemL A s k).1).1
            exact ⟨by omega, this.2⟩
          · rename_i he
            simp only [Prod.mk.injEq] at h
            exact absurd h.2.2 he
    · simp at h
theorem agr_parseF (h : Agr s i s' i' n) : ∀ (f f' a : Nat) (b : Bool) (A A' : AttrL), parseF s f (i + a) b A = (A', i + n, 0) → s'.size < i' + a + f' → parseF s' f' (i' + a) b A = (A', i' + n, 0)
  | 0, f', a, b, A, A', hp, hf => by simp [parseF] at hp
  | f + 1, f', a, b, A, A', hp, hf => by
    have hpos := parseF_pos s _ _ _ _ _ _ hp
    have ha : a < n := by omega
    obtain ⟨l1, l2, hg⟩ := h.at ha
    have hbt := h.btq ha
    obtain ⟨g, rfl⟩ : ∃ g, f' = g + 1 := ⟨f' - 1, by omega⟩
    unfold parseF at hp ⊢
    rw [if_pos l1] at hp
    rw [if_pos l2, ← hbt]
    by_cases c1 : bt s (i + a) = 125
    · rw [if_pos c1] at hp ⊢
      simp only [Prod.mk.injEq] at hp ⊢
      exact ⟨hp.1, by omega, trivial⟩
    · rw [if_neg c1] at hp ⊢
      cases b with
      | false => rw [if_pos rfl] at hp; simp at hp
      | true =>
        rw [if_neg (by decide)] at hp ⊢
        split at hp
        · rename_i he
          have hb := itemL_bd A s (i + a) l1 he
          have hpos2 := parseF_pos s _ _ _ _ _ _ hp
          have hs := spAt_bd s (itemL A s (i + a)).1
          obtain ⟨d, hd⟩ : ∃ d, (itemL A s (i + a)).1 = i + d := ⟨(itemL A s (i + a)).1 - i, by omega⟩
          obtain ⟨q, hq⟩ : ∃ q, spAt s (i + d) = i + q := ⟨spAt s (i + d) - i, by rw [hd] at hs; omega⟩
          rw [hd] at hp hpos2 hs
          rw [hq] at hp hpos2 hs
          have hi : itemL A s (i + a) = (i + d, 0, (itemL A s (i + a)).2.2) := by rw [← hd, ← he]
          have hm := agr_item h ha hi (by omega)
          rw [hm]
          simp only [if_true]
          rw [h.spaces hq (by omega)]
          have e1 : decide (i' + d < i' + q) = decide (i + d < i + q) := by
            rw [decide_eq_decide]; omega
          rw [e1]
          exact agr_parseF h f g q _ _ _ hp (by omega)
        · rename_i he
          simp only [Prod.mk.injEq] at hp
          exact absurd hp.2.2 he
theorem parseL_pos {s : ByteArray} {i : Nat} {A : AttrL} {t : Nat} (h : parseL s i = (A, t, 0)) : i < t ∧ t ≤ s.size ∧ bt s (t - 1) = 125 ∧ bt s i = 123 ∧ i < s.size := by
  unfold parseL at h
  split at h
  · rename_i hc
    have := parseF_pos s _ _ _ _ _ _ h
    have hs := (spAt_bd s ((i : Int).toNat + 1)).1
    simp only [Int.toNat_natCast] at *
    exact ⟨by omega, this.2.1, this.2.2, hc.2.2, by omega⟩
  · simp at h
/-- Attributes read at i of s up to i + n are read at i' of s', where the same bytes stand. -/
theorem parse_move (h : Agr s i s' i' n) {A : AttrL} (hp : parseL s i = (A, i + n, 0)) : parseL s' i' = (A, i' + n, 0) := by
  have hpos := parseL_pos hp
  have h0 : 0 < n := by omega
  obtain ⟨l1, l2, hg⟩ := h.at h0
  have hbt := h.btq h0
  rw [Nat.add_zero] at l1 l2 hbt
  rw [Nat.add_zero] at hbt
  unfold parseL at hp ⊢
  rw [if_pos ⟨by omega, by omega, by simpa using hpos.2.2.2.1⟩] at hp
  rw [if_pos ⟨by omega, by omega, by simp only [Int.toNat_natCast]; rw [← hbt]; exact hpos.2.2.2.1⟩]
  simp only [Int.toNat_natCast] at hp ⊢
  have hpos2 := parseF_pos s _ _ _ _ _ _ hp
  have hs := spAt_bd s (i + 1)
  obtain ⟨q, hq⟩ : ∃ q, spAt s (i + 1) = i + q := ⟨spAt s (i + 1) - i, by omega⟩
  rw [hq] at hp hpos2
  rw [h.spaces (a := 1) hq (by omega)]
  exact agr_parseF h _ _ q _ _ _ hp (by omega)
end
end Go.Proofs.YtpoafhgbhnblmaaGreatDoor
namespace Go.Proofs.YtpoafhgbhnblmaaGreatDoor
open Go.RowKit Go.Pub
/-- Attributes by value, their rows the caller's own. -/
structure OwnA (w : World) (base : Nat) (a : AttrL) (vC vP : Value) : Prop where
  cls : w.ownsRow base 9 1 vC a.cl.length (strs a.cl)
  prs : w.ownsRow base 81 2 vP a.pr.length (prs a.pr)
  le : base ≤ w.heap.size
  c32 : a.cl.length ≤ 32
  p32 : a.pr.length ≤ 32
theorem OwnA.below {w w' : World} {base : Nat} {a : AttrL} {vC vP : Value} (h : OwnA w base a vC vP) (hb : Below w.heap.size w w') : OwnA w' base a vC vP :=
  ⟨own_below h.cls hb, own_below h.prs hb, Nat.le_trans h.le hb.size, h.c32, h.p32⟩
theorem OwnA.val {w : World} {base : Nat} {a : AttrL} {vC vP : Value} (h : OwnA w base a vC vP) : AttrVal w base (.agg #[.string a.id, vC, vP]) a := ⟨⟨vC, vP, rfl, h.cls, h.prs⟩, h.c32, h.p32⟩
theorem OwnA.setCell {w : World} {base : Nat} {a : AttrL} {vC vP : Value} (h : OwnA w base a vC vP) {p : Addr} (h1 : ∀ k, vC.ownBlock = some k → p.block ≠ k) (h2 : ∀ k, vP.ownBlock = some k → p.block ≠ k) (u : Value) : OwnA (w.setCell p u) base a vC vP := by
  have hg : w.grownBy (w.setCell p u) (some p.block) := ⟨rfl, rfl, rfl, by simp [World.setCell], fun k _ hk => Below.heap_setCell _ _ _ _ (fun e => hk (by rw [e]))⟩
  refine ⟨h.cls.kept hg ?_, h.prs.kept hg ?_, by simpa [World.setCell] using h.le, h.c32, h.p32⟩
  · cases hv : vC.ownBlock with
    | none => exact Or.inl rfl
    | some b => right; intro e; injection e with e; exact h1 b hv e.symm
  · cases hv : vP.ownBlock with
    | none => exact Or.inl rfl
    | some b => right; intro e; injection e with e; exact h2 b hv e.symm
end Go.Proofs.YtpoafhgbhnblmaaGreatDoor
namespace Go.Proofs.YtpoafhgbhnblmaaGreatDoor
open Go.RowKit Go.Pub
/-- A mark. -/
structure MkL where
  kind : Nat := 0
  n : Nat := 0
  ch : ByteArray := ⟨#[]⟩
  off : Nat := 0
  info : ByteArray := ⟨#[]⟩
  rest : ByteArray := ⟨#[]⟩
  dest : ByteArray := ⟨#[]⟩
  title : ByteArray := ⟨#[]⟩
  att : AttrL := emptyA
def MkL.cells (m : MkL) (vC vP : Value) : Array Value := #[.int .i64 m.kind, .int .i64 m.n, .string m.ch, .int .i64 m.off, .string m.info, .string m.rest, .string m.dest, .string m.title, .string m.att.id, vC, vP]
def MkVal (w : World) (base : Nat) (v : Value) (m : MkL) : Prop := ∃ vC vP, v = .agg (m.cells vC vP) ∧ OwnA w base m.att vC vP
theorem ownA_empty (w : World) (base : Nat) (h : base ≤ w.heap.size) : OwnA w base emptyA (.slice none 0 0) (.slice none 0 0) := ⟨World.ownsRow_nil _ _ _ _, World.ownsRow_nil _ _ _ _, h, by decide, by decide⟩
theorem mkVal_plain {w : World} {base : Nat} {m : MkL} (h : m.att = emptyA) (hb : base ≤ w.heap.size) : MkVal w base (.agg (m.cells (.slice none 0 0) (.slice none 0 0))) m := ⟨_, _, rfl, by rw [h]; exact ownA_empty w base hb⟩
/-- Any mark's cells. -/
def AnyMk (v : Value) : Prop := ∃ (i0 i1 : Int) (s2 : ByteArray) (i3 : Int) (s4 s5 s6 s7 s8 : ByteArray) (A9 : Option Addr) (n9 c9 : Nat) (A10 : Option Addr) (n10 c10 : Nat), v = .agg #[.int .i64 i0, .int .i64 i1, .string s2, .int .i64 i3, .string s4, .string s5, .string s6, .string s7, .string s8, .slice A9 n9 c9, .slice A10 n10 c10]
theorem mkVal_any {w : World} {base : Nat} {v : Value} {m : MkL} (h : MkVal w base v m) : AnyMk v := by
  obtain ⟨vC, vP, rfl, h⟩ := h
  obtain ⟨A9, c9, rfl⟩ := own_slice h.cls
  obtain ⟨A10, c10, rfl⟩ := own_slice h.prs
  exact ⟨_, _, _, _, _, _, _, _, _, _, _, _, _, _, _, rfl⟩
/-- What a reader of marks returns: the mark, or that there is none. -/
def RdPost (r : Option MkL) (w : World) (e : Ending) (w' : World) : Prop :=
  (match r with
   | some m => ∃ v, e = .returned (.tuple #[v, .bool true]) ∧ MkVal w' w.heap.size v m
   | none => ∃ v, e = .returned (.tuple #[v, .bool false]) ∧ AnyMk v) ∧ Below w.heap.size w w'
theorem rd_none {r : Option MkL} {w w' : World} {v : Value} (hr : r = none) (hv : AnyMk v) (hb : Below w.heap.size w w') : RdPost r w (.returned (.tuple #[v, .bool false])) w' := by
  subst hr; exact ⟨⟨v, rfl, hv⟩, hb⟩
theorem rd_some {r : Option MkL} {m : MkL} {w w' : World} {v : Value} (hr : r = some m) (hv : MkVal w' w.heap.size v m) (hb : Below w.heap.size w w') : RdPost r w (.returned (.tuple #[v, .bool true])) w' := by
  subst hr; exact ⟨⟨v, rfl, hv⟩, hb⟩
/-- A reader that decides at its end. -/
theorem rd_if {r : Option MkL} {m : MkL} {b : Bool} {w w' : World} {v : Value} (hr : r = if b = true then some m else none) (hv : MkVal w' w.heap.size v m) (hb : Below w.heap.size w w') : RdPost r w (.returned (.tuple #[v, .bool b])) w' := by
  cases b
  · exact rd_none hr (mkVal_any hv) hb
  · exact rd_some hr hv hb
theorem blk11 {W : World} {g : Nat} {T : TypeId} {x0 x1 x2 x3 x4 x5 x6 x7 x8 x9 x10 : Value} (h : Blk W g T #[x0, x1, x2, x3, x4, x5, x6, x7, x8, x9, x10]) (y0 y1 y2 y3 y4 y5 y6 y7 y8 y9 y10 : Value) : Blk (((((((((((W.setCell ⟨g, 0, none⟩ y0).setCell ⟨g, 1, none⟩ y1).setCell ⟨g, 2, none⟩ y2).setCell ⟨g, 3, none⟩ y3).setCell ⟨g, 4, none⟩ y4).setCell ⟨g, 5, none⟩ y5).setCell ⟨g, 6, none⟩ y6).setCell ⟨g, 7, none⟩ y7).setCell ⟨g, 8, none⟩ y8).setCell ⟨g, 9, none⟩ y9).setCell ⟨g, 10, none⟩ y10) g T #[y0, y1, y2, y3, y4, y5, y6, y7, y8, y9, y10] := by
  have h0 := h.set_ 0 y0
  rw [show (#[x0, x1, x2, x3, x4, x5, x6, x7, x8, x9, x10] : Array Value).setIfInBounds 0 y0 = #[y0, x1, x2, x3, x4, x5, x6, x7, x8, x9, x10] from rfl] at h0
  have h1 := h0.set_ 1 y1
  rw [show (#[y0, x1, x2, x3, x4, x5, x6, x7, x8, x9, x10] : Array Value).setIfInBounds 1 y1 = #[y0, y1, x2, x3, x4, x5, x6, x7, x8, x9, x10] from rfl] at h1
  have h2 := h1.set_ 2 y2
  rw [show (#[y0, y1, x2, x3, x4, x5, x6, x7, x8, x9, x10] : Array Value).setIfInBounds 2 y2 = #[y0, y1, y2, x3, x4, x5, x6, x7, x8, x9, x10] from rfl] at h2
  have h3 := h2.set_ 3 y3
  rw [show (#[y0, y1, y2, x3, x4, x5, x6, x7, x8, x9, x10] : Array Value).setIfInBounds 3 y3 = #[y0, y1, y2, y3, x4, x5, x6, x7, x8, x9, x10] from rfl] at h3
  have h4 := h3.set_ 4 y4
  rw [show (#[y0, y1, y2, y3, x4, x5, x6, x7, x8, x9, x10] : Array Value).setIfInBounds 4 y4 = #[y0, y1, y2, y3, y4, x5, x6, x7, x8, x9, x10] from rfl] at h4
  have h5 := h4.set_ 5 y5
  rw [show (#[y0, y1, y2, y3, y4, x5, x6, x7, x8, x9, x10] : Array Value).setIfInBounds 5 y5 = #[y0, y1, y2, y3, y4, y5, x6, x7, x8, x9, x10] from rfl] at h5
  have h6 := h5.set_ 6 y6
  rw [show (#[y0, y1, y2, y3, y4, y5, x6, x7, x8, x9, x10] : Array Value).setIfInBounds 6 y6 = #[y0, y1, y2, y3, y4, y5, y6, x7, x8, x9, x10] from rfl] at h6
  have h7 := h6.set_ 7 y7
  rw [show (#[y0, y1, y2, y3, y4, y5, y6, x7, x8, x9, x10] : Array Value).setIfInBounds 7 y7 = #[y0, y1, y2, y3, y4, y5, y6, y7, x8, x9, x10] from rfl] at h7
  have h8 := h7.set_ 8 y8
  rw [show (#[y0, y1, y2, y3, y4, y5, y6, y7, x8, x9, x10] : Array Value).setIfInBounds 8 y8 = #[y0, y1, y2, y3, y4, y5, y6, y7, y8, x9, x10] from rfl] at h8
  have h9 := h8.set_ 9 y9
  rw [show (#[y0, y1, y2, y3, y4, y5, y6, y7, y8, x9, x10] : Array Value).setIfInBounds 9 y9 = #[y0, y1, y2, y3, y4, y5, y6, y7, y8, y9, x10] from rfl] at h9
  have h10 := h9.set_ 10 y10
  rw [show (#[y0, y1, y2, y3, y4, y5, y6, y7, y8, y9, x10] : Array Value).setIfInBounds 10 y10 = #[y0, y1, y2, y3, y4, y5, y6, y7, y8, y9, y10] from rfl] at h10
  exact h10
theorem below11 {B : Nat} {w W : World} (h : Below B w W) {g : Nat} (hg : B ≤ g) (y0 y1 y2 y3 y4 y5 y6 y7 y8 y9 y10 : Value) : Below B w (((((((((((W.setCell ⟨g, 0, none⟩ y0).setCell ⟨g, 1, none⟩ y1).setCell ⟨g, 2, none⟩ y2).setCell ⟨g, 3, none⟩ y3).setCell ⟨g, 4, none⟩ y4).setCell ⟨g, 5, none⟩ y5).setCell ⟨g, 6, none⟩ y6).setCell ⟨g, 7, none⟩ y7).setCell ⟨g, 8, none⟩ y8).setCell ⟨g, 9, none⟩ y9).setCell ⟨g, 10, none⟩ y10) :=
  (((((((((((h.setCell (p := ⟨g, 0, none⟩) hg y0).setCell (p := ⟨g, 1, none⟩) hg y1).setCell (p := ⟨g, 2, none⟩) hg y2).setCell (p := ⟨g, 3, none⟩) hg y3).setCell (p := ⟨g, 4, none⟩) hg y4).setCell (p := ⟨g, 5, none⟩) hg y5).setCell (p := ⟨g, 6, none⟩) hg y6).setCell (p := ⟨g, 7, none⟩) hg y7).setCell (p := ⟨g, 8, none⟩) hg y8).setCell (p := ⟨g, 9, none⟩) hg y9).setCell (p := ⟨g, 10, none⟩) hg y10)
/-- An empty mark in block g. -/
def ZM (W : World) (g : Nat) : Prop := Blk W g 74 #[.int .i64 0, .int .i64 0, .string ⟨#[]⟩, .int .i64 0, .string ⟨#[]⟩, .string ⟨#[]⟩, .string ⟨#[]⟩, .string ⟨#[]⟩, .string ⟨#[]⟩, .slice none 0 0, .slice none 0 0]
theorem ZM.facts {W : World} {g : Nat} (h : ZM W g) : W.cell? ⟨g, 0, none⟩ = some (.int .i64 0) ∧ W.cell? ⟨g, 1, none⟩ = some (.int .i64 0) ∧ W.cell? ⟨g, 2, none⟩ = some (.string ⟨#[]⟩) ∧ W.cell? ⟨g, 3, none⟩ = some (.int .i64 0) ∧ W.cell? ⟨g, 4, none⟩ = some (.string ⟨#[]⟩) ∧ W.cell? ⟨g, 5, none⟩ = some (.string ⟨#[]⟩) ∧ W.cell? ⟨g, 6, none⟩ = some (.string ⟨#[]⟩) ∧ W.cell? ⟨g, 7, none⟩ = some (.string ⟨#[]⟩) ∧ W.cell? ⟨g, 8, none⟩ = some (.string ⟨#[]⟩) ∧ W.cell? ⟨g, 9, none⟩ = some (.slice none 0 0) ∧ W.cell? ⟨g, 10, none⟩ = some (.slice none 0 0) ∧ W.frozen? ⟨g, 0, none⟩ = false ∧ W.frozen? ⟨g, 1, none⟩ = false ∧ W.frozen? ⟨g, 2, none⟩ = false ∧ W.frozen? ⟨g, 3, none⟩ = false ∧ W.frozen? ⟨g, 4, none⟩ = false ∧ W.frozen? ⟨g, 5, none⟩ = false ∧ W.frozen? ⟨g, 6, none⟩ = false ∧ W.frozen? ⟨g, 7, none⟩ = false ∧ W.frozen? ⟨g, 8, none⟩ = false ∧ W.frozen? ⟨g, 9, none⟩ = false ∧ W.frozen? ⟨g, 10, none⟩ = false :=
  ⟨h.cell 0, h.cell 1, h.cell 2, h.cell 3, h.cell 4, h.cell 5, h.cell 6, h.cell 7, h.cell 8, h.cell 9, h.cell 10, h.frozen 0, h.frozen 1, h.frozen 2, h.frozen 3, h.frozen 4, h.frozen 5, h.frozen 6, h.frozen 7, h.frozen 8, h.frozen 9, h.frozen 10⟩
theorem mk_facts {W : World} {g : Nat} {T : TypeId} {x0 x1 x2 x3 x4 x5 x6 x7 x8 x9 x10 : Value} (h : Blk W g T #[x0, x1, x2, x3, x4, x5, x6, x7, x8, x9, x10]) : W.cell? ⟨g, 0, none⟩ = some x0 ∧ W.cell? ⟨g, 1, none⟩ = some x1 ∧ W.cell? ⟨g, 2, none⟩ = some x2 ∧ W.cell? ⟨g, 3, none⟩ = some x3 ∧ W.cell? ⟨g, 4, none⟩ = some x4 ∧ W.cell? ⟨g, 5, none⟩ = some x5 ∧ W.cell? ⟨g, 6, none⟩ = some x6 ∧ W.cell? ⟨g, 7, none⟩ = some x7 ∧ W.cell? ⟨g, 8, none⟩ = some x8 ∧ W.cell? ⟨g, 9, none⟩ = some x9 ∧ W.cell? ⟨g, 10, none⟩ = some x10 ∧ W.frozen? ⟨g, 0, none⟩ = false ∧ W.frozen? ⟨g, 1, none⟩ = false ∧ W.frozen? ⟨g, 2, none⟩ = false ∧ W.frozen? ⟨g, 3, none⟩ = false ∧ W.frozen? ⟨g, 4, none⟩ = false ∧ W.frozen? ⟨g, 5, none⟩ = false ∧ W.frozen? ⟨g, 6, none⟩ = false ∧ W.frozen? ⟨g, 7, none⟩ = false ∧ W.frozen? ⟨g, 8, none⟩ = false ∧ W.frozen? ⟨g, 9, none⟩ = false ∧ W.frozen? ⟨g, 10, none⟩ = false :=
  ⟨h.cell 0, h.cell 1, h.cell 2, h.cell 3, h.cell 4, h.cell 5, h.cell 6, h.cell 7, h.cell 8, h.cell 9, h.cell 10, h.frozen 0, h.frozen 1, h.frozen 2, h.frozen 3, h.frozen 4, h.frozen 5, h.frozen 6, h.frozen 7, h.frozen 8, h.frozen 9, h.frozen 10⟩
theorem head_ret {W : World} {g : Nat} {x0 x1 x2 x3 x4 x5 x6 x7 x8 x9 x10 : Value} {u : Value} {P : Ending → World → Prop} {act : Act} (hr : Blk W g 74 #[x0, x1, x2, x3, x4, x5, x6, x7, x8, x9, x10]) (h4 : act.tmps.getD 4 undef = .pointer (some ⟨g, 0, none⟩)) (h5 : act.tmps.getD 5 undef = u) (hd : act.defers = []) (hP : P (.returned (.tuple #[.agg #[x0, x1, x2, x3, x4, x5, x6, x7, x8, x9, x10], u])) W) : bodyPost Tryz.prog Tryz.f59 P Exit.ret act W := by
  have c0 : W.cell? ⟨g, 0, none⟩ = some x0 := hr.cell 0
  have c1 : W.cell? ⟨g, 1, none⟩ = some x1 := hr.cell 1
  have c2 : W.cell? ⟨g, 2, none⟩ = some x2 := hr.cell 2
  have c3 : W.cell? ⟨g, 3, none⟩ = some x3 := hr.cell 3
  have c4 : W.cell? ⟨g, 4, none⟩ = some x4 := hr.cell 4
  have c5 : W.cell? ⟨g, 5, none⟩ = some x5 := hr.cell 5
  have c6 : W.cell? ⟨g, 6, none⟩ = some x6 := hr.cell 6
  have c7 : W.cell? ⟨g, 7, none⟩ = some x7 := hr.cell 7
  have c8 : W.cell? ⟨g, 8, none⟩ = some x8 := hr.cell 8
  have c9 : W.cell? ⟨g, 9, none⟩ = some x9 := hr.cell 9
  have c10 : W.cell? ⟨g, 10, none⟩ = some x10 := hr.cell 10
  refine bodyPost_ret (v := .tuple #[.agg #[x0, x1, x2, x3, x4, x5, x6, x7, x8, x9, x10], u]) ?_ hd hP
  rw [Array.getD_eq_getD_getElem?] at h4 h5
  simp [results, Tryz.results59, go_sem, h4, h5, c0, c1, c2, c3, c4, c5, c6, c7, c8, c9, c10]
theorem rule_ret {W : World} {g : Nat} {x0 x1 x2 x3 x4 x5 x6 x7 x8 x9 x10 : Value} {u : Value} {q : Addr} {P : Ending → World → Prop} {act : Act} (hr : Blk W g 74 #[x0, x1, x2, x3, x4, x5, x6, x7, x8, x9, x10]) (h4 : act.tmps.getD 4 undef = .pointer (some ⟨g, 0, none⟩)) (h5 : act.tmps.getD 5 undef = .pointer (some q)) (h6 : W.cell? q = some u) (hd : act.defers = []) (hP : P (.returned (.tuple #[.agg #[x0, x1, x2, x3, x4, x5, x6, x7, x8, x9, x10], u])) W) : bodyPost Tryz.prog Tryz.f60 P Exit.ret act W := by
  have c0 : W.cell? ⟨g, 0, none⟩ = some x0 := hr.cell 0
  have c1 : W.cell? ⟨g, 1, none⟩ = some x1 := hr.cell 1
  have c2 : W.cell? ⟨g, 2, none⟩ = some x2 := hr.cell 2
  have c3 : W.cell? ⟨g, 3, none⟩ = some x3 := hr.cell 3
  have c4 : W.cell? ⟨g, 4, none⟩ = some x4 := hr.cell 4
  have c5 : W.cell? ⟨g, 5, none⟩ = some x5 := hr.cell 5
  have c6 : W.cell? ⟨g, 6, none⟩ = some x6 := hr.cell 6
  have c7 : W.cell? ⟨g, 7, none⟩ = some x7 := hr.cell 7
  have c8 : W.cell? ⟨g, 8, none⟩ = some x8 := hr.cell 8
  have c9 : W.cell? ⟨g, 9, none⟩ = some x9 := hr.cell 9
  have c10 : W.cell? ⟨g, 10, none⟩ = some x10 := hr.cell 10
  refine bodyPost_ret (v := .tuple #[.agg #[x0, x1, x2, x3, x4, x5, x6, x7, x8, x9, x10], u]) ?_ hd hP
  rw [Array.getD_eq_getD_getElem?] at h4 h5
  simp [results, Tryz.results60, go_sem, h4, h5, h6, c0, c1, c2, c3, c4, c5, c6, c7, c8, c9, c10]
theorem quote_ret {W : World} {g : Nat} {x0 x1 x2 x3 x4 x5 x6 x7 x8 x9 x10 : Value} {u : Value} {P : Ending → World → Prop} {act : Act} (hr : Blk W g 74 #[x0, x1, x2, x3, x4, x5, x6, x7, x8, x9, x10]) (h4 : act.tmps.getD 4 undef = .pointer (some ⟨g, 0, none⟩)) (h5 : act.tmps.getD 5 undef = u) (hd : act.defers = []) (hP : P (.returned (.tuple #[.agg #[x0, x1, x2, x3, x4, x5, x6, x7, x8, x9, x10], u])) W) : bodyPost Tryz.prog Tryz.f61 P Exit.ret act W := by
  have c0 : W.cell? ⟨g, 0, none⟩ = some x0 := hr.cell 0
  have c1 : W.cell? ⟨g, 1, none⟩ = some x1 := hr.cell 1
  have c2 : W.cell? ⟨g, 2, none⟩ = some x2 := hr.cell 2
  have c3 : W.cell? ⟨g, 3, none⟩ = some x3 := hr.cell 3
  have c4 : W.cell? ⟨g, 4, none⟩ = some x4 := hr.cell 4
  have c5 : W.cell? ⟨g, 5, none⟩ = some x5 := hr.cell 5
  have c6 : W.cell? ⟨g, 6, none⟩ = some x6 := hr.cell 6
  have c7 : W.cell? ⟨g, 7, none⟩ = some x7 := hr.cell 7
  have c8 : W.cell? ⟨g, 8, none⟩ = some x8 := hr.cell 8
  have c9 : W.cell? ⟨g, 9, none⟩ = some x9 := hr.cell 9
  have c10 : W.cell? ⟨g, 10, none⟩ = some x10 := hr.cell 10
  refine bodyPost_ret (v := .tuple #[.agg #[x0, x1, x2, x3, x4, x5, x6, x7, x8, x9, x10], u]) ?_ hd hP
  rw [Array.getD_eq_getD_getElem?] at h4 h5
  simp [results, Tryz.results61, go_sem, h4, h5, c0, c1, c2, c3, c4, c5, c6, c7, c8, c9, c10]
theorem bullet_ret {W : World} {g : Nat} {x0 x1 x2 x3 x4 x5 x6 x7 x8 x9 x10 : Value} {u : Value} {P : Ending → World → Prop} {act : Act} (hr : Blk W g 74 #[x0, x1, x2, x3, x4, x5, x6, x7, x8, x9, x10]) (h4 : act.tmps.getD 4 undef = .pointer (some ⟨g, 0, none⟩)) (h5 : act.tmps.getD 5 undef = u) (hd : act.defers = []) (hP : P (.returned (.tuple #[.agg #[x0, x1, x2, x3, x4, x5, x6, x7, x8, x9, x10], u])) W) : bodyPost Tryz.prog Tryz.f62 P Exit.ret act W := by
  have c0 : W.cell? ⟨g, 0, none⟩ = some x0 := hr.cell 0
  have c1 : W.cell? ⟨g, 1, none⟩ = some x1 := hr.cell 1
  have c2 : W.cell? ⟨g, 2, none⟩ = some x2 := hr.cell 2
  have c3 : W.cell? ⟨g, 3, none⟩ = some x3 := hr.cell 3
  have c4 : W.cell? ⟨g, 4, none⟩ = some x4 := hr.cell 4
  have c5 : W.cell? ⟨g, 5, none⟩ = some x5 := hr.cell 5
  have c6 : W.cell? ⟨g, 6, none⟩ = some x6 := hr.cell 6
  have c7 : W.cell? ⟨g, 7, none⟩ = some x7 := hr.cell 7
  have c8 : W.cell? ⟨g, 8, none⟩ = some x8 := hr.cell 8
  have c9 : W.cell? ⟨g, 9, none⟩ = some x9 := hr.cell 9
  have c10 : W.cell? ⟨g, 10, none⟩ = some x10 := hr.cell 10
  refine bodyPost_ret (v := .tuple #[.agg #[x0, x1, x2, x3, x4, x5, x6, x7, x8, x9, x10], u]) ?_ hd hP
  rw [Array.getD_eq_getD_getElem?] at h4 h5
  simp [results, Tryz.results62, go_sem, h4, h5, c0, c1, c2, c3, c4, c5, c6, c7, c8, c9, c10]
theorem fence_ret {W : World} {g : Nat} {x0 x1 x2 x3 x4 x5 x6 x7 x8 x9 x10 : Value} {u : Value} {P : Ending → World → Prop} {act : Act} (hr : Blk W g 74 #[x0, x1, x2, x3, x4, x5, x6, x7, x8, x9, x10]) (h4 : act.tmps.getD 4 undef = .pointer (some ⟨g, 0, none⟩)) (h5 : act.tmps.getD 5 undef = u) (hd : act.defers = []) (hP : P (.returned (.tuple #[.agg #[x0, x1, x2, x3, x4, x5, x6, x7, x8, x9, x10], u])) W) : bodyPost Tryz.prog Tryz.f64 P Exit.ret act W := by
  have c0 : W.cell? ⟨g, 0, none⟩ = some x0 := hr.cell 0
  have c1 : W.cell? ⟨g, 1, none⟩ = some x1 := hr.cell 1
  have c2 : W.cell? ⟨g, 2, none⟩ = some x2 := hr.cell 2
  have c3 : W.cell? ⟨g, 3, none⟩ = some x3 := hr.cell 3
  have c4 : W.cell? ⟨g, 4, none⟩ = some x4 := hr.cell 4
  have c5 : W.cell? ⟨g, 5, none⟩ = some x5 := hr.cell 5
  have c6 : W.cell? ⟨g, 6, none⟩ = some x6 := hr.cell 6
  have c7 : W.cell? ⟨g, 7, none⟩ = some x7 := hr.cell 7
  have c8 : W.cell? ⟨g, 8, none⟩ = some x8 := hr.cell 8
  have c9 : W.cell? ⟨g, 9, none⟩ = some x9 := hr.cell 9
  have c10 : W.cell? ⟨g, 10, none⟩ = some x10 := hr.cell 10
  refine bodyPost_ret (v := .tuple #[.agg #[x0, x1, x2, x3, x4, x5, x6, x7, x8, x9, x10], u]) ?_ hd hP
  rw [Array.getD_eq_getD_getElem?] at h4 h5
  simp [results, Tryz.results64, go_sem, h4, h5, c0, c1, c2, c3, c4, c5, c6, c7, c8, c9, c10]
theorem formula_ret {W : World} {g : Nat} {x0 x1 x2 x3 x4 x5 x6 x7 x8 x9 x10 : Value} {u : Value} {P : Ending → World → Prop} {act : Act} (hr : Blk W g 74 #[x0, x1, x2, x3, x4, x5, x6, x7, x8, x9, x10]) (h4 : act.tmps.getD 4 undef = .pointer (some ⟨g, 0, none⟩)) (h5 : act.tmps.getD 5 undef = u) (hd : act.defers = []) (hP : P (.returned (.tuple #[.agg #[x0, x1, x2, x3, x4, x5, x6, x7, x8, x9, x10], u])) W) : bodyPost Tryz.prog Tryz.f65 P Exit.ret act W := by
  have c0 : W.cell? ⟨g, 0, none⟩ = some x0 := hr.cell 0
  have c1 : W.cell? ⟨g, 1, none⟩ = some x1 := hr.cell 1
  have c2 : W.cell? ⟨g, 2, none⟩ = some x2 := hr.cell 2
  have c3 : W.cell? ⟨g, 3, none⟩ = some x3 := hr.cell 3
  have c4 : W.cell? ⟨g, 4, none⟩ = some x4 := hr.cell 4
  have c5 : W.cell? ⟨g, 5, none⟩ = some x5 := hr.cell 5
  have c6 : W.cell? ⟨g, 6, none⟩ = some x6 := hr.cell 6
  have c7 : W.cell? ⟨g, 7, none⟩ = some x7 := hr.cell 7
  have c8 : W.cell? ⟨g, 8, none⟩ = some x8 := hr.cell 8
  have c9 : W.cell? ⟨g, 9, none⟩ = some x9 := hr.cell 9
  have c10 : W.cell? ⟨g, 10, none⟩ = some x10 := hr.cell 10
  refine bodyPost_ret (v := .tuple #[.agg #[x0, x1, x2, x3, x4, x5, x6, x7, x8, x9, x10], u]) ?_ hd hP
  rw [Array.getD_eq_getD_getElem?] at h4 h5
  simp [results, Tryz.results65, go_sem, h4, h5, c0, c1, c2, c3, c4, c5, c6, c7, c8, c9, c10]
theorem directive_ret {W : World} {g : Nat} {x0 x1 x2 x3 x4 x5 x6 x7 x8 x9 x10 : Value} {u : Value} {P : Ending → World → Prop} {act : Act} (hr : Blk W g 74 #[x0, x1, x2, x3, x4, x5, x6, x7, x8, x9, x10]) (h4 : act.tmps.getD 4 undef = .pointer (some ⟨g, 0, none⟩)) (h5 : act.tmps.getD 5 undef = u) (hd : act.defers = []) (hP : P (.returned (.tuple #[.agg #[x0, x1, x2, x3, x4, x5, x6, x7, x8, x9, x10], u])) W) : bodyPost Tryz.prog Tryz.f66 P Exit.ret act W := by
  have c0 : W.cell? ⟨g, 0, none⟩ = some x0 := hr.cell 0
  have c1 : W.cell? ⟨g, 1, none⟩ = some x1 := hr.cell 1
  have c2 : W.cell? ⟨g, 2, none⟩ = some x2 := hr.cell 2
  have c3 : W.cell? ⟨g, 3, none⟩ = some x3 := hr.cell 3
  have c4 : W.cell? ⟨g, 4, none⟩ = some x4 := hr.cell 4
  have c5 : W.cell? ⟨g, 5, none⟩ = some x5 := hr.cell 5
  have c6 : W.cell? ⟨g, 6, none⟩ = some x6 := hr.cell 6
  have c7 : W.cell? ⟨g, 7, none⟩ = some x7 := hr.cell 7
  have c8 : W.cell? ⟨g, 8, none⟩ = some x8 := hr.cell 8
  have c9 : W.cell? ⟨g, 9, none⟩ = some x9 := hr.cell 9
  have c10 : W.cell? ⟨g, 10, none⟩ = some x10 := hr.cell 10
  refine bodyPost_ret (v := .tuple #[.agg #[x0, x1, x2, x3, x4, x5, x6, x7, x8, x9, x10], u]) ?_ hd hP
  rw [Array.getD_eq_getD_getElem?] at h4 h5
  simp [results, Tryz.results66, go_sem, h4, h5, c0, c1, c2, c3, c4, c5, c6, c7, c8, c9, c10]
theorem note_ret {W : World} {g : Nat} {x0 x1 x2 x3 x4 x5 x6 x7 x8 x9 x10 : Value} {u : Value} {P : Ending → World → Prop} {act : Act} (hr : Blk W g 74 #[x0, x1, x2, x3, x4, x5, x6, x7, x8, x9, x10]) (h4 : act.tmps.getD 4 undef = .pointer (some ⟨g, 0, none⟩)) (h5 : act.tmps.getD 5 undef = u) (hd : act.defers = []) (hP : P (.returned (.tuple #[.agg #[x0, x1, x2, x3, x4, x5, x6, x7, x8, x9, x10], u])) W) : bodyPost Tryz.prog Tryz.f67 P Exit.ret act W := by
  have c0 : W.cell? ⟨g, 0, none⟩ = some x0 := hr.cell 0
  have c1 : W.cell? ⟨g, 1, none⟩ = some x1 := hr.cell 1
  have c2 : W.cell? ⟨g, 2, none⟩ = some x2 := hr.cell 2
  have c3 : W.cell? ⟨g, 3, none⟩ = some x3 := hr.cell 3
  have c4 : W.cell? ⟨g, 4, none⟩ = some x4 := hr.cell 4
  have c5 : W.cell? ⟨g, 5, none⟩ = some x5 := hr.cell 5
  have c6 : W.cell? ⟨g, 6, none⟩ = some x6 := hr.cell 6
  have c7 : W.cell? ⟨g, 7, none⟩ = some x7 := hr.cell 7
  have c8 : W.cell? ⟨g, 8, none⟩ = some x8 := hr.cell 8
  have c9 : W.cell? ⟨g, 9, none⟩ = some x9 := hr.cell 9
  have c10 : W.cell? ⟨g, 10, none⟩ = some x10 := hr.cell 10
  refine bodyPost_ret (v := .tuple #[.agg #[x0, x1, x2, x3, x4, x5, x6, x7, x8, x9, x10], u]) ?_ hd hP
  rw [Array.getD_eq_getD_getElem?] at h4 h5
  simp [results, Tryz.results67, go_sem, h4, h5, c0, c1, c2, c3, c4, c5, c6, c7, c8, c9, c10]
theorem def_ret {W : World} {g : Nat} {x0 x1 x2 x3 x4 x5 x6 x7 x8 x9 x10 : Value} {u : Value} {P : Ending → World → Prop} {act : Act} (hr : Blk W g 74 #[x0, x1, x2, x3, x4, x5, x6, x7, x8, x9, x10]) (h4 : act.tmps.getD 4 undef = .pointer (some ⟨g, 0, none⟩)) (h5 : act.tmps.getD 5 undef = u) (hd : act.defers = []) (hP : P (.returned (.tuple #[.agg #[x0, x1, x2, x3, x4, x5, x6, x7, x8, x9, x10], u])) W) : bodyPost Tryz.prog Tryz.f68 P Exit.ret act W := by
  have c0 : W.cell? ⟨g, 0, none⟩ = some x0 := hr.cell 0
  have c1 : W.cell? ⟨g, 1, none⟩ = some x1 := hr.cell 1
  have c2 : W.cell? ⟨g, 2, none⟩ = some x2 := hr.cell 2
  have c3 : W.cell? ⟨g, 3, none⟩ = some x3 := hr.cell 3
  have c4 : W.cell? ⟨g, 4, none⟩ = some x4 := hr.cell 4
  have c5 : W.cell? ⟨g, 5, none⟩ = some x5 := hr.cell 5
  have c6 : W.cell? ⟨g, 6, none⟩ = some x6 := hr.cell 6
  have c7 : W.cell? ⟨g, 7, none⟩ = some x7 := hr.cell 7
  have c8 : W.cell? ⟨g, 8, none⟩ = some x8 := hr.cell 8
  have c9 : W.cell? ⟨g, 9, none⟩ = some x9 := hr.cell 9
  have c10 : W.cell? ⟨g, 10, none⟩ = some x10 := hr.cell 10
  refine bodyPost_ret (v := .tuple #[.agg #[x0, x1, x2, x3, x4, x5, x6, x7, x8, x9, x10], u]) ?_ hd hP
  rw [Array.getD_eq_getD_getElem?] at h4 h5
  simp [results, Tryz.results68, go_sem, h4, h5, c0, c1, c2, c3, c4, c5, c6, c7, c8, c9, c10]
theorem of_ret {W : World} {g : Nat} {x0 x1 x2 x3 x4 x5 x6 x7 x8 x9 x10 : Value} {P : Ending → World → Prop} {act : Act} (hr : Blk W g 74 #[x0, x1, x2, x3, x4, x5, x6, x7, x8, x9, x10]) (h4 : act.tmps.getD 2 undef = .pointer (some ⟨g, 0, none⟩)) (hd : act.defers = []) (hP : P (.returned (.agg #[x0, x1, x2, x3, x4, x5, x6, x7, x8, x9, x10])) W) : bodyPost Tryz.prog Tryz.f38 P Exit.ret act W := by
  have c0 : W.cell? ⟨g, 0, none⟩ = some x0 := hr.cell 0
  have c1 : W.cell? ⟨g, 1, none⟩ = some x1 := hr.cell 1
  have c2 : W.cell? ⟨g, 2, none⟩ = some x2 := hr.cell 2
  have c3 : W.cell? ⟨g, 3, none⟩ = some x3 := hr.cell 3
  have c4 : W.cell? ⟨g, 4, none⟩ = some x4 := hr.cell 4
  have c5 : W.cell? ⟨g, 5, none⟩ = some x5 := hr.cell 5
  have c6 : W.cell? ⟨g, 6, none⟩ = some x6 := hr.cell 6
  have c7 : W.cell? ⟨g, 7, none⟩ = some x7 := hr.cell 7
  have c8 : W.cell? ⟨g, 8, none⟩ = some x8 := hr.cell 8
  have c9 : W.cell? ⟨g, 9, none⟩ = some x9 := hr.cell 9
  have c10 : W.cell? ⟨g, 10, none⟩ = some x10 := hr.cell 10
  refine bodyPost_ret (v := .agg #[x0, x1, x2, x3, x4, x5, x6, x7, x8, x9, x10]) ?_ hd hP
  rw [Array.getD_eq_getD_getElem?] at h4
  simp [results, Tryz.results38, go_sem, h4, c0, c1, c2, c3, c4, c5, c6, c7, c8, c9, c10]
end Go.Proofs.YtpoafhgbhnblmaaGreatDoor
namespace Go.Proofs.YtpoafhgbhnblmaaGreatDoor
open Go.RowKit Go.Pub
/-- Nothing but spaces. -/
def blankB (s : ByteArray) : Bool := decide (indA s 0 = s.size)
/-- Without at most n spaces ahead. -/
def stripB (s : ByteArray) (n : Nat) : ByteArray := s.extract (min n (indA s 0)) s.size
theorem stripB_size (s : ByteArray) (n : Nat) : (stripB s n).size ≤ s.size := by unfold stripB; rw [ByteArray.size_extract]; omega
/-- A space, or nothing. -/
def spB (s : ByteArray) : Bool := decide (s.size = 0) || decide (bt s 0 = 32)
def tl1 (s : ByteArray) : ByteArray := s.extract 1 s.size
theorem tl1_size (s : ByteArray) : (tl1 s).size = s.size - 1 := by unfold tl1; rw [ByteArray.size_extract]; omega
def quoteM (c : ByteArray) (ind : Nat) : Option MkL := if bt c 0 = 62 then some { kind := 4, off := ind + c.size - (stripB (tl1 c) 1).size, rest := stripB (tl1 c) 1 } else none
def bulletM (c : ByteArray) (ind : Nat) : Option MkL := if bt c 0 = 45 ∨ bt c 0 = 43 ∨ bt c 0 = 42 then (if spB (tl1 c) = true then some { kind := 5, ch := c.extract 0 1, off := ind + 2, rest := tl1 (tl1 c) } else none) else none
def mathM (c : ByteArray) : Option MkL := if Lib.hasPrefix (bytesL c) [36, 36] = true ∧ blankB (c.extract 2 c.size) = true then some { kind := 8 } else none
def fenceB (c : ByteArray) (n : Nat) : Bool := decide (3 ≤ n) && !(decide (bt c 0 = 96) && (sfx c n).contains 96)
def fenceM (c : ByteArray) (ind : Nat) : Option MkL :=
  if bt c 0 = 96 ∨ bt c 0 = 126 then (if fenceB c (firstN c (· != bt c 0)) = true then some { kind := 7, n := firstN c (· != bt c 0), ch := c.extract 0 1, info := mk (trimS (sfx c (firstN c (· != bt c 0)))), off := ind } else none) else none
theorem t_blank (s : ByteArray) (w : World) (hs : s.size ≤ 1000000) : Calls Tryz.prog 57 #[.string s] w fun e w' => e = .returned (.bool (blankB s)) ∧ w = w' := by
  have HI := Lib.hid fun W => t_indent s W hs
  have HB : Hid (blankB s = decide (indA s 0 = s.size)) := Lib.hid rfl
  generalize blankB s = b at *
  generalize indA s 0 = i at *
  have hb : ∃ q : Bool, (i == s.size) = q ∧ ((i : Int) == (s.size : Int)) = q ∧ Hid (b = q) := by
    by_cases h : i = s.size
    · exact ⟨true, by rw [beq_iff_eq]; exact h, by rw [beq_iff_eq]; omega, Lib.hid (by rw [HB.out]; exact decide_eq_true h)⟩
    · exact ⟨false, by rw [beq_eq_false_iff_ne]; exact h, by rw [beq_eq_false_iff_ne]; omega, Lib.hid (by rw [HB.out]; exact decide_eq_false h)⟩
  obtain ⟨q, n1, n2, hq⟩ := hb
  go_enter Tryz.func57, Tryz.ntmps57
  go_wp2_with fail
  ((with_reducible refine (HI.out _).mono ?_))
  rintro e w' ⟨rfl, rfl⟩
  go_wp2_with fail
  go_ret
  exact ⟨ret_bool (by rw [hq.out]), rfl⟩
theorem t_strip (s : ByteArray) (n : Nat) (w : World) (hs : s.size ≤ 1000000) (hn : n ≤ 1000000) : Calls Tryz.prog 107 #[.string s, .int .i64 n] w fun e w' => e = .returned (.string (stripB s n)) ∧ w = w' := by
  have HI := Lib.hid fun W => t_indent s W hs
  have hl := indA_le s
  have HB : Hid (stripB s n = s.extract (min n (indA s 0)) s.size) := Lib.hid rfl
  generalize stripB s n = b at *
  generalize indA s 0 = i at *
  have HMn : ∀ w : World, (Builtin.min_ #[3, 3] 3 #[.int .i64 n, .int .i64 i]).run Tryz.prog w = .ok (.int .i64 (min n i : Nat)) w := fun w => by
    rw [run_min_int2]
    congr 2
    split <;> omega
  have hm : min n i ≤ s.size := by omega
  generalize min n i = m at *
  go_enter Tryz.func107, Tryz.ntmps107
  go_wp2_with fail
  ((with_reducible refine (HI.out _).mono ?_))
  rintro e w' ⟨rfl, rfl⟩
  go_wp2_with fail
  go_ret
  exact ⟨ret_str (by rw [HB.out]), rfl⟩
theorem m_after (s : ByteArray) (w : World) (hs : s.size ≤ 1000000) : Calls Tryz.prog 103 #[.string s] w fun e w' => e = .returned (.tuple #[.string (tl1 s), .bool (spB s)]) ∧ Below w.heap.size w w' := by
  by_cases h : s.size = 0
  · have e0 : s = ⟨#[]⟩ := by
      have := (size_nil s).1 h
      rw [← mk_bytesL s, this]; rfl
    subst e0
    go_enter Tryz.func103, Tryz.ntmps103
    go_wp2_with fail
    go_ret2
    exact ⟨rfl, Below.refl _ _⟩
  · have hl : 1 ≤ s.size := by omega
    have hb : spB s = decide (bt s 0 = 32) := by unfold spB; rw [decide_eq_false h]; rfl
    obtain ⟨e1, e2⟩ := cons_list s (fun e => h ((size_nil s).2 e))
    have e3 : (s.toList == (⟨#[]⟩ : ByteArray).toList) = false := by
      rw [Lib.bytes_beq_false_iff]; intro e; subst e; exact h rfl
    have hg := get_bt s 0 hl
    have hx : ∃ q : Bool, ((bt s 0 : Int) == 32) = q ∧ Hid (spB s = q) := by
      by_cases h3 : bt s 0 = 32
      · exact ⟨true, by rw [h3]; rfl, Lib.hid (by rw [hb]; exact decide_eq_true h3)⟩
      · exact ⟨false, by rw [beq_eq_false_iff_ne]; omega, Lib.hid (by rw [hb]; exact decide_eq_false h3)⟩
    clear hb
    obtain ⟨q, q1, q2⟩ := hx
    have HT : Hid (tl1 s = s.extract 1 s.size) := Lib.hid rfl
    generalize tl1 s = T at *
    go_enter Tryz.func103, Tryz.ntmps103
    go_wp2_with fail
    go_quiet (fail)
    go_wp2_with fail
    go_ret2
    exact ⟨by rw [HT.out, q2.out]; rfl, below_drewN (Below.refl _ _) _⟩
set_option maxRecDepth 100000 in
set_option maxHeartbeats 1000000 in
theorem m_quote (c : ByteArray) (ind : Nat) (w : World) (hs : c.size ≤ 1000000) (h0 : 0 < c.size) (hi : ind ≤ 3) : Calls Tryz.prog 61 #[.string c, .int .i64 ind] w (RdPost (quoteM c ind) w) := by
  have hg := get_bt c 0 h0
  have h1 : 1 ≤ c.size := h0
  have HZ : Hid (ZM (w.alloc (.cells #[.int .i64 0, .int .i64 0, .string ⟨#[]⟩, .int .i64 0, .string ⟨#[]⟩, .string ⟨#[]⟩, .string ⟨#[]⟩, .string ⟨#[]⟩, .string ⟨#[]⟩, .slice none 0 0, .slice none 0 0] 74)) w.heap.size) := Lib.hid (Blk.new w _ _)
  have HB0 : Hid (Below w.heap.size w (w.alloc (.cells #[.int .i64 0, .int .i64 0, .string ⟨#[]⟩, .int .i64 0, .string ⟨#[]⟩, .string ⟨#[]⟩, .string ⟨#[]⟩, .string ⟨#[]⟩, .string ⟨#[]⟩, .slice none 0 0, .slice none 0 0] 74))) := Lib.hid ((Below.refl _ w).alloc (Nat.le_refl _) _)
  have HT : Hid (tl1 c = c.extract 1 c.size) := Lib.hid rfl
  have hts := tl1_size c
  have HS : Hid (∀ W, Calls Tryz.prog 107 #[.string (tl1 c), .int .i64 1] W fun e w' => e = .returned (.string (stripB (tl1 c) 1)) ∧ W = w') := Lib.hid fun W => t_strip (tl1 c) 1 W (by omega) (by omega)
  have hss := stripB_size (tl1 c) 1
  have HR : Hid (quoteM c ind = if bt c 0 = 62 then some { kind := 4, off := ind + c.size - (stripB (tl1 c) 1).size, rest := stripB (tl1 c) 1 } else none) := Lib.hid rfl
  generalize quoteM c ind = R at *
  rw [HT.out] at *
  generalize stripB (c.extract 1 c.size) 1 = S at *
  by_cases hq : bt c 0 = 62
  · have z1 : (((bt c 0 : Nat) : Int) != 62) = false := by rw [hq]; rfl
    have HF : Hid (R = some { kind := 4, off := ind + c.size - S.size, rest := S }) := Lib.hid (by rw [HR.out, if_pos hq])
    clear HR hq
    obtain ⟨o, ho⟩ : ∃ o, o = ind + c.size - S.size := ⟨_, rfl⟩
    have hoi : (ind : Int) + (c.size : Int) - (S.size : Int) = (o : Int) := by omega
    rw [← ho] at HF
    clear ho
    go_enter Tryz.func61, Tryz.ntmps61
    go_wp2_with fail
    ((with_reducible refine (HS.out _).mono ?_))
    rintro e w' ⟨rfl, rfl⟩
    go_wp2_with fail
    exact quote_ret (Blk.new w _ _) rfl rfl rfl (rd_some HF.out (mkVal_plain (m := { kind := 4, off := o, rest := S }) rfl ((Below.refl _ w).alloc (Nat.le_refl _) _).size) ((Below.refl _ w).alloc (Nat.le_refl _) _))
  · have z1 : (((bt c 0 : Nat) : Int) != 62) = true := by rw [bne_iff_ne]; omega
    have HF : Hid (R = none) := Lib.hid (by rw [HR.out, if_neg hq])
    clear HR hq
    go_enter Tryz.func61, Tryz.ntmps61
    go_wp2_with fail
    exact quote_ret (Blk.new w _ _) rfl rfl rfl (rd_none HF.out ⟨_, _, _, _, _, _, _, _, _, _, _, _, _, _, _, rfl⟩ ((Below.refl _ w).alloc (Nat.le_refl _) _))

end Go.Proofs.YtpoafhgbhnblmaaGreatDoor
namespace Go.Proofs.YtpoafhgbhnblmaaGreatDoor
open Go.RowKit Go.Pub
set_option maxRecDepth 100000 in
set_option maxHeartbeats 1000000 in
theorem m_escaped (s : ByteArray) (k : Nat) (w : World) (hs : s.size ≤ 1000000) (hk : k < s.size) :
    Calls Tryz.prog 167 #[.string s, .int .i64 k] w fun e w' => e = .returned (.bool (escAt s k)) ∧ w = w' := by
  have hlt2 : ((s[k].toNat : Nat) : Int) < 256 := by rw [get_bt s k hk]; have := bt_lt s k; omega
  by_cases h0 : bt s k = 92
  · have z0 : (((s[k].toNat : Nat) : Int) == 92) = true := by rw [get_bt s k hk, h0]; rfl
    by_cases h1 : k + 1 < s.size
    · have HE := Lib.hid (escAt_in s k h1)
      have hlt3 : ((s[k + 1].toNat : Nat) : Int) < 256 := by rw [get_bt s (k + 1) h1]; have := bt_lt s (k + 1); omega
      have hbi := Lib.hid (bt_int s (k + 1) h1)
      have H0 := Lib.hid h0
      clear h0
      generalize escAt s k = E at *
      by_cases h2 : bt s (k + 1) < 128
      · have z2 : ((s[k + 1].toNat : Nat) : Int) < 128 := by rw [get_bt s (k + 1) h1]; omega
        have HR : Hid (E = inB (bt s (k + 1) : Int) punctL) := Lib.hid (by rw [HE.out, H0.out, decide_eq_true h2]; simp)
        go_enter Tryz.func167, Tryz.ntmps167
        go_wp2_with (go_at_call 211; refine (punct_any _ _).mono ?_; rintro e w' ⟨rfl, rfl⟩)
        go_ret
        exact ⟨ret_bool (by rw [HR.out, hbi.out]), rfl⟩
      · have z2 : 128 ≤ ((s[k + 1].toNat : Nat) : Int) := by rw [get_bt s (k + 1) h1]; omega
        have HR : Hid (E = false) := Lib.hid (by rw [HE.out, decide_eq_false h2]; simp)
        go_enter Tryz.func167, Tryz.ntmps167
        go_wp2
        go_ret
        exact ⟨ret_bool (by rw [HR.out]), rfl⟩
    · have HR := Lib.hid (escAt_end s k (by omega))
      generalize escAt s k = E at *
      go_enter Tryz.func167, Tryz.ntmps167
      go_wp2
      go_ret
      exact ⟨ret_bool (by rw [HR.out]), rfl⟩
  · have z0 : (((s[k].toNat : Nat) : Int) == 92) = false := by rw [get_bt s k hk, beq_eq_false_iff_ne]; omega
    have HR := Lib.hid (escAt_not s k h0)
    generalize escAt s k = E at *
    go_enter Tryz.func167, Tryz.ntmps167
    go_wp2
    go_ret
    exact ⟨ret_bool (by rw [HR.out]), rfl⟩

set_option maxRecDepth 100000 in
set_option maxHeartbeats 4000000 in
theorem m_unescape (s : ByteArray) (w : World) (hs : s.size ≤ 1000000) : Calls Tryz.prog 168 #[.string s] w fun e w' => e = .returned (.string (mk (unescL (bytesL s)))) ∧ Below w.heap.size w w' := by
  have HX : Hid (unescL (sfx s 0) = unescL (bytesL s)) := Lib.hid rfl
  generalize unescL (bytesL s) = R at *
  go_enter Tryz.func168, Tryz.ntmps168
  go_wp2
  go_loopw [4] (fun v wr => URel s R w v wr) (fun v _ => s.size - (intOf v).toNat)
  case atStart => exact ⟨0, [], rfl, by omega, Lib.IsBuilderF.of (Lib.fresh_isBuilder 158 5 w), (Below.refl _ w).alloc (Nat.le_refl _) _, HX, by simp, by simp⟩
  case round =>
    obtain ⟨k, acc, rfl, hk, hI, hbw, Hacc, hal, hsz⟩ := hrel
    by_cases hlt : k < s.size
    · have HC := Lib.hid fun W => m_escaped s k W hs hlt
      by_cases hE : escAt s k = true
      · have hk1 : k + 1 < s.size := (escAt_lt hE).1
        have hst := Lib.hid (unesc_esc s k hE)
        have hlt2 : ((s[k + 1].toNat : Nat) : Int) < 256 := by rw [get_bt s (k + 1) hk1]; have := bt_lt s (k + 1); omega
        have hbi := Lib.hid (bt_int s (k + 1) hk1)
        rw [hE] at HC
        clear hE
        go_wp2_with fail
        ((with_reducible refine (HC.out _).mono ?_))
        rintro e w' ⟨rfl, rfl⟩
        go_wp2_with fail
        refine (writeByte_k w.heap.size w.heap.size _ _ _ hI (by rw [Lib.byteCells_length]; omega) (by omega)).mono ?_
        rintro e W1 ⟨rfl, h1, b1, _⟩
        have hz1 := b1.size
        go_wp2
        go_roundw
        case rel =>
          refine ⟨k + 2, acc ++ [s.get! (k + 1)], by go_num, by omega, by rw [Lib.byteCells_append, byteCell1, ← hbi.out]; exact Or.inr h1, hbw.trans b1, Lib.hid (by rw [← Hacc.out, hst.out]; simp), by simp; omega, by omega⟩
        case measure => simp [intOf]; omega
      · rw [Bool.not_eq_true] at hE
        have hst := Lib.hid (unesc_step s k hlt hE)
        have hlt2 : ((s[k].toNat : Nat) : Int) < 256 := by rw [get_bt s k hlt]; have := bt_lt s k; omega
        have hbi := Lib.hid (bt_int s k hlt)
        rw [hE] at HC
        clear hE
        go_wp2_with fail
        ((with_reducible refine (HC.out _).mono ?_))
        rintro e w' ⟨rfl, rfl⟩
        go_wp2_with fail
        refine (writeByte_k w.heap.size w.heap.size _ _ _ hI (by rw [Lib.byteCells_length]; omega) (by omega)).mono ?_
        rintro e W1 ⟨rfl, h1, b1, _⟩
        have hz1 := b1.size
        go_wp2
        go_roundw
        case rel =>
          refine ⟨k + 1, acc ++ [s.get! k], by go_num, by omega, by rw [Lib.byteCells_append, byteCell1, ← hbi.out]; exact Or.inr h1, hbw.trans b1, Lib.hid (by rw [← Hacc.out, hst.out]; simp), by simp; omega, by omega⟩
        case measure => simp [intOf]; omega
    · have HR : Hid (acc = R) := Lib.hid (by rw [← Hacc.out, unesc_end s k (by omega), List.append_nil])
      go_wp2_with fail
      refine (Tryz.Builder_String_any_k w.heap.size w.heap.size acc _ hI (by omega)).mono ?_
      rintro e W1 ⟨rfl, h1, b1, _⟩
      go_wp2
      go_ret
      exact ⟨ret_str (by rw [HR.out]; rfl), hbw.trans b1⟩

theorem m_unescape_sub (s : ByteArray) (i k : Nat) (w : World) (hs : s.size ≤ 1000000) : Calls Tryz.prog 168 #[.string (s.extract i k)] w fun e w' => e = .returned (.string (mk (unescL (sub s i k)))) ∧ Below w.heap.size w w' := by
  have h := m_unescape (s.extract i k) w (by have : (s.extract i k).size ≤ s.size := by rw [ByteArray.size_extract]; omega
                                             omega)
  rw [bytesL_sub] at h
  exact h
set_option maxRecDepth 100000 in
set_option maxHeartbeats 8000000 in
theorem m_label (s : ByteArray) (w : World) (hs : s.size ≤ 1000000) :
    Calls Tryz.prog 112 #[.string s] w fun e w' => e = .returned (.string (mk (labelL (bytesL s)))) ∧ Below w.heap.size w w' := by
  have HC := Lib.hid fun W => fold_any s W hs
  have hR : labelL (bytesL s) = if 60 < (foldL s).length then [] else if (pts (mk (foldL s))).all fun p => labB p.1 then foldL s else [] := by unfold labelL; rw [mk_bytesL]
  have HR := Lib.hid hR
  clear hR
  generalize labelL (bytesL s) = R at *
  generalize foldL s = F at *
  obtain ⟨g, hg⟩ : ∃ g : ByteArray, g = mk F := ⟨_, rfl⟩
  have HG : Hid (mk F = g) := Lib.hid hg.symm
  have hgs : g.size = F.length := by rw [hg]; show F.toArray.size = _; simp
  have HC' : Hid (∀ W, Calls Tryz.prog 99 #[.string s] W fun e w' => e = .returned (.string g) ∧ Below W.heap.size W w') := Lib.hid (by rw [hg]; exact HC.out)
  clear HC hg
  by_cases hl : 60 < g.size
  · have HF : Hid (R = []) := Lib.hid (by rw [HR.out, if_pos (by omega)])
    clear hgs
    go_enter Tryz.func112, Tryz.ntmps112
    go_wp2_with fail
    ((with_reducible refine (HC'.out _).mono ?_))
    rintro e w1 ⟨rfl, b1⟩
    go_wp2
    go_ret
    exact ⟨ret_str (by rw [HF.out]; rfl), b1⟩
  · have HR2 : Hid (R = if (pts g).all (fun p => labB p.1) then F else []) := Lib.hid (by rw [HR.out, if_neg (by omega), HG.out])
    have zl : decide (60 < (g.size : Int)) = false := by simp; omega
    clear hgs HR
    go_enter Tryz.func112, Tryz.ntmps112
    go_wp2_with fail
    ((with_reducible refine (HC'.out _).mono ?_))
    rintro e w1 ⟨rfl, b1⟩
    have hz1 := b1.size
    go_wp2
    go_loopw [] (fun wr => LbRel g w w1 (.string g) wr) (fun wr => g.size - wr.iterPos w1.heap.size)
    case atStart =>
      exact ⟨0, g.size, [], rfl, World.iter_heap w1 g 0, b1.alloc hz1 _, Lib.hid rfl, Lib.hid rfl, by omega, by omega⟩
    case round =>
      obtain ⟨pos, f, acc, _, hit, hbw, Hacc, Hok, hf, hps⟩ := hrel
      by_cases hp : pos < g.size
      · have hd := dec_bd g pos hp
        have hall : Hid (pts g = (acc ++ [Utf8.decode g pos]) ++ ptsFrom g (f - 1) (pos + (Utf8.decode g pos).2)) := Lib.hid (by rw [← Hacc.out, ptsFrom_step g f pos hp hf]; simp)
        have hnx : ∀ ty, (Instr.next (.pointer (some ⟨w1.heap.size, 0, none⟩)) true ty).run Tryz.prog wr = _ := fun ty => Lib.run_next_any_at wr w1.heap.size g pos ty hit hp
        have hit2 := Lib.hid (Lib.iterAt_heap wr w1.heap.size g pos (pos + (Utf8.decode g pos).2) hit)
        have hbw2 := Lib.below_iterAt hbw (k := w1.heap.size) hz1 g (pos + (Utf8.decode g pos).2)
        have hitk := Lib.hid hit
        clear hit
        generalize Utf8.decode g pos = D at *
        have HL : Hid (∀ W, Calls Tryz.prog 100 #[.int .i64 D.1] W fun e w' => e = .returned (.bool (inB D.1 letterL)) ∧ W = w') := Lib.hid fun W => letter_any D.1 W
        have HD : Hid (∀ W, Calls Tryz.prog 101 #[.int .i64 D.1] W fun e w' => e = .returned (.bool (digitB D.1)) ∧ W = w') := Lib.hid fun W => digit_any D.1 W
        cases hlb : labB (D.1 : Int)
        · have HF : Hid (R = []) := Lib.hid (by
            rw [HR2.out, hall.out, if_neg]
            simp only [List.all_append, List.all_cons, hlb]
            simp)
          obtain ⟨y1, y2, y3, y4, y5, y6, y7⟩ := labB_no _ hlb
          clear hlb
          rw [y1] at HL
          rw [y2] at HD
          clear y1 y2
          go_wp2_with fail
          ((with_reducible refine (HL.out _).mono ?_))
          rintro e w' ⟨rfl, rfl⟩
          go_wp2_with fail
          ((with_reducible refine (HD.out _).mono ?_))
          rintro e w' ⟨rfl, rfl⟩
          go_wp2
          go_ret
          exact ⟨ret_str (by rw [HF.out]; rfl), hbw2⟩
        · have dn : Hid (LbRel g w w1 (.string g) (wr.iterAt w1.heap.size g (pos + D.2))) := Lib.hid
            ⟨pos + D.2, f - 1, acc ++ [D], rfl, hit2.out, hbw2, Lib.hid hall.out.symm, Lib.hid (by rw [List.all_append, Hok.out]; simp [hlb]), by omega, by omega⟩
          have hy := labB_yes _ hlb
          clear hlb
          rcases hy with y1 | ⟨y1, y2 | ⟨y2, y3 | ⟨y3, y4 | ⟨y4, y5 | ⟨y5, y6 | ⟨y6, y7⟩⟩⟩⟩⟩⟩
          · rw [y1] at HL
            clear y1
            go_wp2_with fail
            ((with_reducible refine (HL.out _).mono ?_))
            rintro e w' ⟨rfl, rfl⟩
            go_wp2
            go_roundw
            case rel => exact dn.out
            case measure =>
              simp only [World.iterPos, hit2.out, hitk.out]
              omega
          all_goals
            rw [y1] at HL
            rw [y2] at HD
            clear y1 y2
            go_wp2_with fail
            ((with_reducible refine (HL.out _).mono ?_))
            rintro e w' ⟨rfl, rfl⟩
            go_wp2_with fail
            ((with_reducible refine (HD.out _).mono ?_))
            rintro e w' ⟨rfl, rfl⟩
            go_wp2
            go_roundw
            case rel => exact dn.out
            case measure =>
              simp only [World.iterPos, hit2.out, hitk.out]
              omega
      · have hnx : ∀ ty, (Instr.next (.pointer (some ⟨w1.heap.size, 0, none⟩)) true ty).run Tryz.prog wr = _ := fun ty => Lib.run_next_end_at wr w1.heap.size g pos ty hit hp
        have HF : Hid (R = F) := Lib.hid (by rw [HR2.out, if_pos]; rw [← Hacc.out, ptsFrom_end g f pos hp, List.append_nil]; exact Hok.out)
        go_wp2
        go_ret
        exact ⟨ret_str (by rw [HF.out]; exact HG.out.symm), hbw⟩

set_option maxRecDepth 100000 in
set_option maxHeartbeats 4000000 in
theorem m_angled (s : ByteArray) (w : World) (hs : s.size ≤ 1000000) (hi : 0 < s.size) :
    Calls Tryz.prog 166 #[.string s] w (PartPost (betw s 0 62 60) w) := by
  have HS : Hid (∀ k, scanA s 62 60 (1) = some k → betw s 0 62 60 = some (unescL (sub s (1) k), k + 1)) := Lib.hid fun k h => by rw [show betw s 0 62 60 = (scanA s 62 60 1).map fun k => (unescL (sub s 1 k), k + 1) from rfl, h]; rfl
  have HN : Hid (scanA s 62 60 (1) = none → betw s 0 62 60 = none) := Lib.hid fun h => by rw [show betw s 0 62 60 = (scanA s 62 60 1).map fun k => (unescL (sub s 1 k), k + 1) from rfl, h]; rfl
  generalize betw s 0 62 60 = R at *
  go_enter Tryz.func166, Tryz.ntmps166
  go_wp2
  go_loop [5] (fun v => ∃ k : Nat, 1 ≤ k ∧ k ≤ s.size ∧ v = .int .i64 k ∧ Hid (scanA s 62 60 k = scanA s 62 60 (1))) (fun v => s.size - (intOf v).toNat)
  case atStart => exact ⟨1, by omega, by omega, rfl, Lib.hid rfl⟩
  case round =>
    obtain ⟨k, hk1, hk, rfl, Hk⟩ := hrel
    by_cases hlt : k < s.size
    · have HC := Lib.hid fun W => m_escaped s k W hs hlt
      have hlt2 : ((s[k].toNat : Nat) : Int) < 256 := by rw [get_bt s k hlt]; have := bt_lt s k; omega
      by_cases hE : escAt s k = true
      · have hk2 : k + 1 < s.size := (escAt_lt hE).1
        have hst : Hid (scanA s 62 60 (k + 2) = scanA s 62 60 (1)) := Lib.hid (by rw [← Hk.out]; exact (scanA_esc s 62 60 k (by decide) (by decide) (by decide) (by decide) hE).symm)
        rw [hE] at HC
        clear hE
        go_wp2_with fail
        ((with_reducible refine (HC.out _).mono ?_))
        rintro e w' ⟨rfl, rfl⟩
        go_wp2
        go_round
        case rel => exact ⟨k + 2, by omega, by omega, by go_num, hst⟩
        case measure => simp [intOf]; omega
      · rw [Bool.not_eq_true] at hE
        have HE := Lib.hid hE
        rw [hE] at HC
        clear hE
        by_cases c1 : bt s k = 62
        · have z1 : (((s[k].toNat : Nat) : Int) == 62) = true := by rw [get_bt s k hlt, c1]; rfl
          have HR : Hid (R = some (unescL (sub s (1) k), k + 1)) := Lib.hid (HS.out k (by rw [← Hk.out]; exact scanA_stop s 62 60 k hlt (by decide) c1))
          have HU := Lib.hid fun W => m_unescape_sub s (1) k W hs
          clear c1
          go_wp2_with fail
          ((with_reducible refine (HC.out _).mono ?_))
          rintro e w' ⟨rfl, rfl⟩
          go_wp2_with fail
          ((with_reducible refine (HU.out _).mono ?_))
          rintro e w' ⟨rfl, b1⟩
          go_wp2
          go_ret3
          exact part_some HR.out (by omega) b1
        · have z1 : (((s[k].toNat : Nat) : Int) == 62) = false := by rw [get_bt s k hlt, beq_eq_false_iff_ne]; omega
          by_cases c2 : bt s k = 60 ∨ bt s k = 10
          · have HR : Hid (R = none) := Lib.hid (HN.out (by rw [← Hk.out]; exact scanA_bad s 62 60 k hlt (by decide) (by decide) c1 c2))
            have cc : (((s[k].toNat : Nat) : Int) == 60) = true ∨ ((((s[k].toNat : Nat) : Int) == 60) = false ∧ (((s[k].toNat : Nat) : Int) == 10) = true) := by
              rw [get_bt s k hlt]
              rcases c2 with c | c
              · left; rw [c]; rfl
              · right; rw [c]; exact ⟨rfl, rfl⟩
            clear c1 c2
            rcases cc with z2 | ⟨z2, z3⟩
            all_goals
              go_wp2_with fail
              ((with_reducible refine (HC.out _).mono ?_))
              rintro e w' ⟨rfl, rfl⟩
              go_wp2
              go_ret3
              exact part_none HR.out (Below.refl _ _)
          · have z2 : (((s[k].toNat : Nat) : Int) == 60) = false := by rw [get_bt s k hlt, beq_eq_false_iff_ne]; omega
            have z3 : (((s[k].toNat : Nat) : Int) == 10) = false := by rw [get_bt s k hlt, beq_eq_false_iff_ne]; omega
            have hst : Hid (scanA s 62 60 (k + 1) = scanA s 62 60 (1)) := Lib.hid (by rw [← Hk.out]; exact (scanA_step s 62 60 k hlt (by decide) (by decide) c1 (by omega) (by omega) HE.out).symm)
            clear c1 c2
            go_wp2_with fail
            ((with_reducible refine (HC.out _).mono ?_))
            rintro e w' ⟨rfl, rfl⟩
            go_wp2
            go_round
            case rel => exact ⟨k + 1, by omega, by omega, by go_num, hst⟩
            case measure => simp [intOf]; omega
    · have HR : Hid (R = none) := Lib.hid (HN.out (by rw [← Hk.out]; exact scanA_end s 62 60 k (by omega)))
      go_wp2
      go_ret3
      exact part_none HR.out (Below.refl _ _)

set_option maxRecDepth 100000 in
set_option maxHeartbeats 4000000 in
theorem m_title_in (s : ByteArray) (q : Nat) (w : World) (hs : s.size ≤ 1000000) (hi : 0 < s.size) (hq : q = 34 ∨ q = 39) (hq0 : bt s 0 = q) :
    Calls Tryz.prog 115 #[.string s] w (PartPost (betw s 0 q q) w) := by
  have HS : Hid (∀ k, scanA s q q (1) = some k → betw s 0 q q = some (unescL (sub s (1) k), k + 1)) := Lib.hid fun k h => by rw [show betw s 0 q q = (scanA s q q 1).map fun k => (unescL (sub s 1 k), k + 1) from rfl, h]; rfl
  have HN : Hid (scanA s q q (1) = none → betw s 0 q q = none) := Lib.hid fun h => by rw [show betw s 0 q q = (scanA s q q 1).map fun k => (unescL (sub s 1 k), k + 1) from rfl, h]; rfl
  generalize betw s 0 q q = R at *
  have hq1 : q < 256 ∧ q ≠ 92 ∧ q ≠ 10 := by omega
  have hg0 : s[0].toNat = q := by rw [get_bt s 0 hi, hq0]
  have hqq : (((q : Nat) : Int) != 34) = false ∨ ((((q : Nat) : Int) != 34) = true ∧ (((q : Nat) : Int) != 39) = false) := by
    rcases hq with h | h
    · left; rw [h]; rfl
    · right; rw [h]; exact ⟨rfl, rfl⟩
  obtain ⟨x1, x2⟩ := cons_list s (fun e => by have := (size_nil s).2 e; omega)
  clear hq hq0
  go_enter Tryz.func115, Tryz.ntmps115
  go_upto_region 1 with fail
  go_cut [17] (fun s17 wx => s17 = .bool false ∧ w = wx)
  case first =>
    rcases hqq with z | ⟨z, z'⟩
    all_goals
      go_wp2_with fail
      go_meet
      exact ⟨rfl, rfl⟩
  case rest =>
  obtain ⟨rfl, rfl⟩ := hcut
  clear hqq
  go_wp2_with fail
  go_loopw [5] (fun v wr => ∃ k : Nat, 1 ≤ k ∧ k ≤ s.size ∧ v = .int .i64 k ∧ Hid (scanA s q q k = scanA s q q 1) ∧ Below w.heap.size w wr) (fun v _ => s.size - (intOf v).toNat)
  case atStart => exact ⟨1, by omega, by omega, rfl, Lib.hid rfl, Below.refl _ _⟩
  case round =>
    obtain ⟨k, hk1, hk, rfl, Hk, hbw⟩ := hrel
    have HBW := Lib.hid hbw
    clear hbw
    by_cases hlt : k < s.size
    · have HC := Lib.hid fun W => m_escaped s k W hs hlt
      have hlt2 : ((s[k].toNat : Nat) : Int) < 256 := by rw [get_bt s k hlt]; have := bt_lt s k; omega
      by_cases hE : escAt s k = true
      · have hk2 : k + 1 < s.size := (escAt_lt hE).1
        have hst : Hid (scanA s q q (k + 2) = scanA s q q (1)) := Lib.hid (by rw [← Hk.out]; exact (scanA_esc s q q k hq1.1 hq1.1 hq1.2.1 hq1.2.1 hE).symm)
        rw [hE] at HC
        clear hE
        go_wp2_with fail
        ((with_reducible refine (HC.out _).mono ?_))
        rintro e w' ⟨rfl, rfl⟩
        go_wp2
        go_roundw
        case rel => exact ⟨k + 2, by omega, by omega, by go_num, hst, HBW.out⟩
        case measure => simp [intOf]; omega
      · rw [Bool.not_eq_true] at hE
        have HE := Lib.hid hE
        rw [hE] at HC
        clear hE
        by_cases c1 : bt s k = q
        · have z1 : (((s[k].toNat : Nat) : Int) == (q : Int)) = true := by rw [get_bt s k hlt, c1]; simp
          have z1' : (s[k].toNat == q) = true := by rw [get_bt s k hlt, c1]; simp
          have HR : Hid (R = some (unescL (sub s (1) k), k + 1)) := Lib.hid (HS.out k (by rw [← Hk.out]; exact scanA_stop s q q k hlt hq1.1 c1))
          have HU := Lib.hid fun W => m_unescape_sub s (1) k W hs
          clear c1
          go_wp2_with fail
          ((with_reducible refine (HC.out _).mono ?_))
          rintro e w' ⟨rfl, rfl⟩
          go_wp2_with fail
          go_quiet (fail)
          go_wp2_with fail
          ((with_reducible refine (HU.out _).mono ?_))
          rintro e w' ⟨rfl, b1⟩
          go_wp2
          go_ret3
          exact part_some HR.out (by omega) ((below_drewN HBW.out _).trans (b1.mono HBW.out.size))
        · have z1 : (((s[k].toNat : Nat) : Int) == (q : Int)) = false := by rw [get_bt s k hlt, beq_eq_false_iff_ne]; omega
          have z1' : (s[k].toNat == q) = false := by rw [get_bt s k hlt, beq_eq_false_iff_ne]; omega
          by_cases c2 : bt s k = 10
          · have HR : Hid (R = none) := Lib.hid (HN.out (by rw [← Hk.out]; exact scanA_bad s q q k hlt hq1.1 hq1.1 c1 (Or.inr c2)))
            have z2 : (((s[k].toNat : Nat) : Int) == 10) = true := by rw [get_bt s k hlt, c2]; rfl
            clear c1 c2
            go_wp2_with fail
            ((with_reducible refine (HC.out _).mono ?_))
            rintro e w' ⟨rfl, rfl⟩
            go_wp2_with fail
            go_quiet (fail)
            go_wp2
            go_ret3
            exact part_none HR.out (below_drewN HBW.out _)
          · have z3 : (((s[k].toNat : Nat) : Int) == 10) = false := by rw [get_bt s k hlt, beq_eq_false_iff_ne]; omega
            have hst : Hid (scanA s q q (k + 1) = scanA s q q (1)) := Lib.hid (by rw [← Hk.out]; exact (scanA_step s q q k hlt hq1.1 hq1.1 c1 c1 c2 HE.out).symm)
            clear c1 c2
            go_wp2_with fail
            ((with_reducible refine (HC.out _).mono ?_))
            rintro e w' ⟨rfl, rfl⟩
            go_wp2_with fail
            go_quiet (fail)
            go_wp2
            go_roundw
            case rel => exact ⟨k + 1, by omega, by omega, by go_num, hst, below_drewN HBW.out _⟩
            case measure => simp [intOf]; omega
    · have HR : Hid (R = none) := Lib.hid (HN.out (by rw [← Hk.out]; exact scanA_end s q q k (by omega)))
      go_wp2
      go_ret3
      exact part_none HR.out HBW.out

set_option maxRecDepth 100000 in
set_option maxHeartbeats 1000000 in
theorem m_title (s : ByteArray) (w : World) (hs : s.size ≤ 1000000) : Calls Tryz.prog 115 #[.string s] w (PartPost (titleR s 0) w) := by
  by_cases h0 : s.size = 0
  · have hR : titleR s 0 = none := by unfold titleR; rw [if_neg (by omega)]
    have e0 : s = ⟨#[]⟩ := by rw [← mk_bytesL s, (size_nil s).1 h0]; rfl
    subst e0
    go_enter Tryz.func115, Tryz.ntmps115
    go_wp2_with fail
    go_ret3
    exact part_none hR (Below.refl _ _)
  · have hi : 0 < s.size := by omega
    by_cases hq : bt s 0 = 34 ∨ bt s 0 = 39
    · have hR : titleR s 0 = betw s 0 (bt s 0) (bt s 0) := by
        unfold titleR
        rw [if_pos ⟨by omega, by omega⟩, show ((0 : Int).toNat) = 0 from rfl]
        rcases hq with h | h
        · rw [if_pos h, h]
        · rw [if_neg (by omega), if_pos h, h]
      rw [hR]
      exact m_title_in s (bt s 0) w hs hi hq rfl
    · have hR : titleR s 0 = none := by
        unfold titleR
        rw [if_pos ⟨by omega, by omega⟩, show ((0 : Int).toNat) = 0 from rfl, if_neg (fun h => hq (Or.inl h)), if_neg (fun h => hq (Or.inr h))]
      have hg0 := get_bt s 0 hi
      have z1 : (((bt s 0 : Nat) : Int) != 34) = true := by rw [bne_iff_ne]; omega
      have z2 : (((bt s 0 : Nat) : Int) != 39) = true := by rw [bne_iff_ne]; omega
      obtain ⟨x1, x2⟩ := cons_list s (fun e => by have := (size_nil s).2 e; omega)
      have HR := Lib.hid hR
      clear hR hq
      generalize titleR s 0 = R at *
      go_enter Tryz.func115, Tryz.ntmps115
      go_wp2_with fail
      go_ret3
      exact part_none HR.out (Below.refl _ _)

set_option maxRecDepth 100000 in
set_option maxHeartbeats 1000000 in
theorem m_dest_ang (s : ByteArray) (w : World) (hs : s.size ≤ 1000000) (hi : 0 < s.size) (h : bt s 0 = 60) :
    Calls Tryz.prog 114 #[.string s] w (PartPost (destR s 0) w) := by
  have HC : Hid (∀ W, Calls Tryz.prog 166 #[.string s] W (PartPost (destR s 0) W)) := Lib.hid fun W => by
    have e : destR s 0 = betw s 0 62 60 := by unfold destR; rw [if_pos ⟨by omega, by omega⟩, show ((0 : Int).toNat) = 0 from rfl, if_pos h]
    rw [e]; exact m_angled s W hs hi
  generalize destR s 0 = R at *
  have z0 : (((s[0].toNat : Nat) : Int) == 60) = true := by rw [get_bt s 0 hi, h]; rfl
  obtain ⟨x1, x2⟩ := cons_list s (fun e => by have := (size_nil s).2 e; omega)
  clear h
  cases R with
  | none =>
    go_enter Tryz.func114, Tryz.ntmps114
    go_wp2_with fail
    ((with_reducible refine (HC.out _).mono ?_))
    rintro e w' ⟨rfl, b1⟩
    go_wp2
    go_ret3
    exact part_none rfl b1
  | some p =>
    go_enter Tryz.func114, Tryz.ntmps114
    go_wp2_with fail
    ((with_reducible refine (HC.out _).mono ?_))
    rintro e w' ⟨rfl, b1⟩
    go_wp2
    go_ret3
    exact part_some rfl rfl b1

set_option maxRecDepth 100000 in
set_option maxHeartbeats 8000000 in
theorem m_dest_plain (s : ByteArray) (w : World) (hs : s.size ≤ 1000000) (hi : 0 < s.size) (h : bt s 0 ≠ 60) :
    Calls Tryz.prog 114 #[.string s] w (PartPost (destR s 0) w) := by
  have e : destR s 0 = (destA s 0 0).bind fun k => if k = 0 then none else some (unescL (sub s 0 k), k) := by unfold destR; rw [if_pos ⟨by omega, by omega⟩, show ((0 : Int).toNat) = 0 from rfl, if_neg h]
  have HS : Hid (∀ k, k ≠ 0 → destA s 0 0 = some k → destR s 0 = some (unescL (sub s 0 k), k)) := Lib.hid fun k hk hd => by rw [e, hd]; exact if_neg hk
  have HN : Hid (destA s 0 0 = none → destR s 0 = none) := Lib.hid fun hd => by rw [e, hd]; rfl
  have HI : Hid (destA s 0 0 = some 0 → destR s 0 = none) := Lib.hid fun hd => by rw [e, hd]; rfl
  clear e
  generalize destR s 0 = R at *
  have z0 : (((s[0].toNat : Nat) : Int) == 60) = false := by rw [get_bt s 0 hi, beq_eq_false_iff_ne]; omega
  obtain ⟨x1, x2⟩ := cons_list s (fun e => by have := (size_nil s).2 e; omega)
  clear h
  go_enter Tryz.func114, Tryz.ntmps114
  go_wp2
  go_loop [5, 6] (fun a b => DRel s 0 a b) (fun _ b => s.size - (intOf b).toNat)
  case atStart => exact ⟨0, 0, by omega, by omega, by omega, rfl, rfl, Lib.hid rfl⟩
  case round =>
    obtain ⟨o, k, ho, hk1, hk, rfl, rfl, Hk⟩ := hrel
    by_cases hx : s.size ≤ k ∨ (k < s.size ∧ dstop s o k)
    · have hv : destA s o k = if o = 0 then some k else none := by
        rcases hx with hx | ⟨hx, hy⟩
        · exact destA_end s o k hx
        · exact destA_stop s o k hx hy
      have HV := Lib.hid hv
      clear hv
      have hw : s.size ≤ k ∨ (∃ hlt : k < s.size, (((s[k].toNat : Nat) : Int) == 32) = true) ∨ (∃ hlt : k < s.size, (((s[k].toNat : Nat) : Int) == 32) = false ∧ (((s[k].toNat : Nat) : Int) == 10) = true) ∨ (∃ hlt : k < s.size, (((s[k].toNat : Nat) : Int) == 32) = false ∧ (((s[k].toNat : Nat) : Int) == 10) = false ∧ (((s[k].toNat : Nat) : Int) == 41) = true ∧ o = 0) := by
        rcases hx with hx | ⟨hx, hy⟩
        · exact Or.inl hx
        · right
          rcases hy with hy | hy | ⟨hy, hz⟩
          · left; exact ⟨hx, by rw [get_bt s k hx, hy]; rfl⟩
          · right; left; exact ⟨hx, by rw [get_bt s k hx, hy]; exact ⟨rfl, rfl⟩⟩
          · right; right; exact ⟨hx, by rw [get_bt s k hx, hy]; exact ⟨rfl, rfl, rfl, hz⟩⟩
      clear hx
      by_cases e1 : k = 0 ∨ 0 < o
      · have HR : Hid (R = none) := Lib.hid (by
          by_cases h0 : o = 0
          · obtain rfl : k = 0 := by omega
            exact HI.out (by rw [← Hk.out, HV.out, if_pos h0])
          · exact HN.out (by rw [← Hk.out, HV.out, if_neg h0]))
        have hE : (((k : Int) == 0) = true ∧ (k == 0) = true) ∨ (((k : Int) == 0) = false ∧ (k == 0) = false ∧ 0 < o) := by
          by_cases h0 : k = 0
          · left; rw [h0]; simp
          · right; exact ⟨by rw [beq_eq_false_iff_ne]; omega, by rw [beq_eq_false_iff_ne]; omega, by omega⟩
        clear e1
        rcases hw with hw | ⟨hlt, y1⟩ | ⟨hlt, y1, y2⟩ | ⟨hlt, y1, y2, y3, rfl⟩
        all_goals
          rcases hE with ⟨x1, x3⟩ | ⟨x1, x3, x2⟩
          all_goals
            first
            | omega
            | (go_wp2
               go_ret3
               exact part_none HR.out (Below.refl _ _))
      · obtain rfl : o = 0 := by omega
        have HR : Hid (R = some (unescL (sub s 0 k), k)) := Lib.hid (HS.out k (by omega) (by rw [← Hk.out, HV.out, if_pos rfl]))
        have x1 : ((k : Int) == 0) = false := by rw [beq_eq_false_iff_ne]; omega
        have x2 : (k == 0) = false := by rw [beq_eq_false_iff_ne]; omega
        have HU := Lib.hid fun W => m_unescape_sub s 0 k W hs
        clear e1
        rcases hw with hw | ⟨hlt, y1⟩ | ⟨hlt, y1, y2⟩ | ⟨hlt, y1, y2, y3, _⟩
        all_goals
          go_wp2_with fail
          ((with_reducible refine (HU.out _).mono ?_))
          rintro e w' ⟨rfl, b1⟩
          go_wp2
          go_ret3
          exact part_some HR.out rfl b1
    · have hlt : k < s.size := by omega
      have hns : ¬ dstop s o k := fun e => hx (Or.inr ⟨hlt, e⟩)
      clear hx
      have HC := Lib.hid fun W => m_escaped s k W hs hlt
      have hlt2 : ((s[k].toNat : Nat) : Int) < 256 := by rw [get_bt s k hlt]; have := bt_lt s k; omega
      have n32 : bt s k ≠ 32 := fun e => hns (Or.inl e)
      have n10 : bt s k ≠ 10 := fun e => hns (Or.inr (Or.inl e))
      have y1 : (((s[k].toNat : Nat) : Int) == 32) = false := by rw [get_bt s k hlt, beq_eq_false_iff_ne]; omega
      have y2 : (((s[k].toNat : Nat) : Int) == 10) = false := by rw [get_bt s k hlt, beq_eq_false_iff_ne]; omega
      by_cases hE : escAt s k = true
      · obtain ⟨hk2, h92⟩ := escAt_lt hE
        have y3 : (((s[k].toNat : Nat) : Int) == 41) = false := by rw [get_bt s k hlt, beq_eq_false_iff_ne]; omega
        have hst : Hid (destA s o (k + 2) = destA s 0 0) := Lib.hid (by rw [← Hk.out]; exact (destA_esc s o k hE).symm)
        rw [hE] at HC
        clear hE n32 n10 hns h92
        go_wp2_with fail
        ((with_reducible refine (HC.out _).mono ?_))
        rintro e w' ⟨rfl, rfl⟩
        go_wp2
        go_round
        case rel => exact ⟨o, k + 2, by omega, by omega, by omega, rfl, by go_num, hst⟩
        case measure => simp [intOf]; omega
      · rw [Bool.not_eq_true] at hE
        have HE := Lib.hid hE
        rw [hE] at HC
        clear hE
        by_cases c40 : bt s k = 40
        · have y3 : (((s[k].toNat : Nat) : Int) == 41) = false := by rw [get_bt s k hlt, beq_eq_false_iff_ne]; omega
          have y4 : (((s[k].toNat : Nat) : Int) == 40) = true := by rw [get_bt s k hlt, c40]; rfl
          have hst := destA_open s o k hlt c40
          have Hst := Lib.hid hst
          clear n32 n10 hns hst c40
          by_cases h8 : 8 ≤ o
          · obtain rfl : o = 8 := by omega
            have HR : Hid (R = none) := Lib.hid (HN.out (by rw [← Hk.out, Hst.out, if_pos h8]))
            go_wp2_with fail
            ((with_reducible refine (HC.out _).mono ?_))
            rintro e w' ⟨rfl, rfl⟩
            go_wp2
            go_ret3
            exact part_none HR.out (Below.refl _ _)
          · have hst : Hid (destA s (o + 1) (k + 1) = destA s 0 0) := Lib.hid (by rw [← Hk.out, Hst.out, if_neg h8])
            go_wp2_with fail
            ((with_reducible refine (HC.out _).mono ?_))
            rintro e w' ⟨rfl, rfl⟩
            go_wp2
            go_round
            case rel => exact ⟨o + 1, k + 1, by omega, by omega, by omega, by go_num, by go_num, hst⟩
            case measure => simp [intOf]; omega
        · have y4 : (((s[k].toNat : Nat) : Int) == 40) = false := by rw [get_bt s k hlt, beq_eq_false_iff_ne]; omega
          by_cases c41 : bt s k = 41
          · have y3 : (((s[k].toNat : Nat) : Int) == 41) = true := by rw [get_bt s k hlt, c41]; rfl
            have ho0 : 0 < o := by
              rcases Nat.eq_zero_or_pos o with e | e
              · exact absurd (Or.inr (Or.inr ⟨c41, e⟩)) hns
              · exact e
            have y5 : ((o : Int) == 0) = false := by rw [beq_eq_false_iff_ne]; omega
            have hst : Hid (destA s (o - 1) (k + 1) = destA s 0 0) := Lib.hid (by rw [← Hk.out, destA_close s o k hlt c41 ho0])
            clear n32 n10 hns c40 c41
            go_wp2_with fail
            ((with_reducible refine (HC.out _).mono ?_))
            rintro e w' ⟨rfl, rfl⟩
            go_wp2
            go_round
            case rel => exact ⟨o - 1, k + 1, by omega, by omega, by omega, congrArg (Value.int .i64) (by omega), by go_num, hst⟩
            case measure => simp [intOf]; omega
          · have y3 : (((s[k].toNat : Nat) : Int) == 41) = false := by rw [get_bt s k hlt, beq_eq_false_iff_ne]; omega
            have hst : Hid (destA s o (k + 1) = destA s 0 0) := Lib.hid (by rw [← Hk.out, destA_step s o k hlt hns HE.out c40 c41])
            clear n32 n10 hns c40 c41
            go_wp2_with fail
            ((with_reducible refine (HC.out _).mono ?_))
            rintro e w' ⟨rfl, rfl⟩
            go_wp2
            go_round
            case rel => exact ⟨o, k + 1, by omega, by omega, by omega, rfl, by go_num, hst⟩
            case measure => simp [intOf]; omega

theorem m_dest (s : ByteArray) (w : World) (hs : s.size ≤ 1000000) : Calls Tryz.prog 114 #[.string s] w (PartPost (destR s 0) w) := by
  by_cases h0 : s.size = 0
  · have hR : destR s 0 = none := by unfold destR; rw [if_neg (by omega)]
    have e0 : s = ⟨#[]⟩ := by rw [← mk_bytesL s, (size_nil s).1 h0]; rfl
    subst e0
    go_enter Tryz.func114, Tryz.ntmps114
    go_wp2_with fail
    go_ret3
    exact part_none hR (Below.refl _ _)
  · by_cases hc : bt s 0 = 60
    · exact m_dest_ang s w hs (by omega) hc
    · exact m_dest_plain s w hs (by omega) hc
end Go.Proofs.YtpoafhgbhnblmaaGreatDoor
namespace Go.Proofs.YtpoafhgbhnblmaaGreatDoor
open Go.RowKit Go.Pub
/-- The world with an empty mark. -/
def zw (w : World) : World := w.alloc (.cells #[.int .i64 0, .int .i64 0, .string ⟨#[]⟩, .int .i64 0, .string ⟨#[]⟩, .string ⟨#[]⟩, .string ⟨#[]⟩, .string ⟨#[]⟩, .string ⟨#[]⟩, .slice none 0 0, .slice none 0 0] 74)
theorem zw_zm (w : World) : ZM (zw w) w.heap.size := Blk.new w _ _
theorem zw_below (w : World) : Below w.heap.size w (zw w) := (Below.refl _ w).alloc (Nat.le_refl _) _
theorem zw_size (w : World) : (zw w).heap.size = w.heap.size + 1 := by unfold zw; simp
theorem ZM.below {W W' : World} {g : Nat} (h : ZM W g) (hb : Below W.heap.size W W') : ZM W' g := Blk.below h hb (Blk.lt h)
theorem zw_after {w w' : World} (hb : Below (zw w).heap.size (zw w) w') : ZM w' w.heap.size ∧ Below w.heap.size w w' := ⟨(zw_zm w).below hb, (zw_below w).trans (hb.mono (zw_below w).size)⟩
set_option maxRecDepth 100000 in
set_option maxHeartbeats 1000000 in
theorem m_bullet (c : ByteArray) (ind : Nat) (w : World) (hs : c.size ≤ 1000000) (h0 : 0 < c.size) (hi : ind ≤ 3) : Calls Tryz.prog 62 #[.string c, .int .i64 ind] w (RdPost (bulletM c ind) w) := by
  have hg := get_bt c 0 h0
  have h1 : 1 ≤ c.size := h0
  have HT : Hid (tl1 c = c.extract 1 c.size) := Lib.hid rfl
  have hts := tl1_size c
  have HS := Lib.hid fun W => m_after (tl1 c) W (by omega)
  have HR : Hid (bulletM c ind = if bt c 0 = 45 ∨ bt c 0 = 43 ∨ bt c 0 = 42 then (if spB (tl1 c) = true then some { kind := 5, ch := c.extract 0 1, off := ind + 2, rest := tl1 (tl1 c) } else none) else none) := Lib.hid rfl
  generalize bulletM c ind = R at *
  have HC : Hid (c.extract 0 1 = c.extract 0 1) := Lib.hid rfl
  rw [HT.out] at *
  generalize tl1 (c.extract 1 c.size) = S at *
  generalize spB (c.extract 1 c.size) = b at *
  have hoi : (ind : Int) + 2 = ((ind + 2 : Nat) : Int) := by omega
  obtain ⟨o, ho⟩ : ∃ o, o = ind + 2 := ⟨_, rfl⟩
  rw [← ho] at HR hoi
  clear ho
  by_cases hq : bt c 0 = 45 ∨ bt c 0 = 43 ∨ bt c 0 = 42
  · have HF : Hid (R = if b = true then some { kind := 5, ch := c.extract 0 1, off := o, rest := S } else none) := Lib.hid (by rw [HR.out, if_pos hq])
    clear HR
    generalize bt c 0 = a at *
    rcases hq with rfl | rfl | rfl
    all_goals
      go_enter Tryz.func62, Tryz.ntmps62
      go_wp2_with fail
      ((with_reducible refine (HS.out _).mono ?_))
      rintro e w' ⟨rfl, b1⟩
      obtain ⟨HZ, HB⟩ := zw_after b1
      obtain ⟨k0, k1, k2, k3, k4, k5, k6, k7, k8, k9, k10, y0, y1, y2, y3, y4, y5, y6, y7, y8, y9, y10⟩ := ZM.facts HZ
      go_wp2_with fail
      exact bullet_ret (blk11 HZ _ _ _ _ _ _ _ _ _ _ _) rfl rfl rfl (rd_if HF.out (mkVal_plain (m := { kind := 5, ch := c.extract 0 1, off := o, rest := S }) rfl (below11 HB (Nat.le_refl _) _ _ _ _ _ _ _ _ _ _ _).size) (below11 HB (Nat.le_refl _) _ _ _ _ _ _ _ _ _ _ _))
  · have z1 : (((bt c 0 : Nat) : Int) != 45) = true := by rw [bne_iff_ne]; omega
    have z2 : (((bt c 0 : Nat) : Int) != 43) = true := by rw [bne_iff_ne]; omega
    have z3 : (((bt c 0 : Nat) : Int) != 42) = true := by rw [bne_iff_ne]; omega
    have HF : Hid (R = none) := Lib.hid (by rw [HR.out, if_neg hq])
    clear HR hq
    go_enter Tryz.func62, Tryz.ntmps62
    go_wp2_with fail
    exact bullet_ret (Blk.new w _ _) rfl rfl rfl (rd_none HF.out ⟨_, _, _, _, _, _, _, _, _, _, _, _, _, _, _, rfl⟩ ((Below.refl _ w).alloc (Nat.le_refl _) _))

set_option maxRecDepth 100000 in
set_option maxHeartbeats 1000000 in
theorem m_formula (c : ByteArray) (ind : Nat) (w : World) (hs : c.size ≤ 1000000) (h0 : 0 < c.size) : Calls Tryz.prog 65 #[.string c, .int .i64 ind] w (RdPost (mathM c) w) := by
  have HP : Hid (∀ W, Calls Tryz.prog 108 #[.string c, .string ⟨#[36, 36]⟩] W fun e w' => e = .returned (.bool (Lib.hasPrefix (bytesL c) [36, 36])) ∧ W = w') := Lib.hid fun W => (Tryz.strings_HasPrefix c ⟨#[36, 36]⟩ W).mono fun e w' ⟨h, h'⟩ => ⟨h, h'.symm⟩
  have hsz : (c.extract 2 c.size).size ≤ 1000000 := by rw [ByteArray.size_extract]; omega
  have HB := Lib.hid fun W => t_blank (c.extract 2 c.size) W hsz
  have HR : Hid (mathM c = if Lib.hasPrefix (bytesL c) [36, 36] = true ∧ blankB (c.extract 2 c.size) = true then some { kind := 8 } else none) := Lib.hid rfl
  have hl : Lib.hasPrefix (bytesL c) [36, 36] = true → 2 ≤ c.size := fun h => by
    have : [36, 36] <+: bytesL c := by simpa [Lib.hasPrefix] using h
    have := this.length_le
    rw [bytesL_length] at this
    exact this
  generalize mathM c = R at *
  generalize blankB (c.extract 2 c.size) = b at *
  cases hp : Lib.hasPrefix (bytesL c) [36, 36]
  · rw [hp] at HP HR
    have HF : Hid (R = if false = true then some { kind := 8 } else none) := Lib.hid (by rw [HR.out]; simp)
    clear HR hp hl
    go_enter Tryz.func65, Tryz.ntmps65
    go_wp2_with fail
    ((with_reducible refine (HP.out _).mono ?_))
    rintro e w' ⟨rfl, rfl⟩
    go_wp2_with fail
    exact formula_ret (Blk.new w _ _) rfl rfl rfl (rd_if HF.out (mkVal_plain (m := { kind := 8 }) rfl ((Below.refl _ w).alloc (Nat.le_refl _) _).size) ((Below.refl _ w).alloc (Nat.le_refl _) _))
  · have h2 := hl hp
    rw [hp] at HP HR
    have HF : Hid (R = if b = true then some { kind := 8 } else none) := Lib.hid (by rw [HR.out]; simp)
    clear HR hp hl
    go_enter Tryz.func65, Tryz.ntmps65
    go_wp2_with fail
    ((with_reducible refine (HP.out _).mono ?_))
    rintro e w' ⟨rfl, rfl⟩
    go_wp2_with fail
    ((with_reducible refine (HB.out _).mono ?_))
    rintro e w' ⟨rfl, rfl⟩
    go_wp2_with fail
    exact formula_ret (Blk.new w _ _) rfl rfl rfl (rd_if HF.out (mkVal_plain (m := { kind := 8 }) rfl ((Below.refl _ w).alloc (Nat.le_refl _) _).size) ((Below.refl _ w).alloc (Nat.le_refl _) _))

set_option maxRecDepth 100000 in
set_option maxHeartbeats 2000000 in
theorem m_fence (c : ByteArray) (ind : Nat) (w : World) (hs : c.size ≤ 1000000) (h0 : 0 < c.size) (hi : ind ≤ 3) : Calls Tryz.prog 64 #[.string c, .int .i64 ind] w (RdPost (fenceM c ind) w) := by
  have hg := get_bt c 0 h0
  have h1 : 1 ≤ c.size := h0
  have hnl := firstN_le c (· != bt c 0)
  have h1i : (1 : Int) ≤ (c.size : Int) := by omega
  have hnli : (firstN c (· != bt c 0) : Int) ≤ (c.size : Int) := by omega
  have HRn := Lib.hid fun W => m_run c (bt c 0) (bt_lt c 0) W hs
  have HR : Hid (fenceM c ind = if bt c 0 = 96 ∨ bt c 0 = 126 then (if fenceB c (firstN c (· != bt c 0)) = true then some { kind := 7, n := firstN c (· != bt c 0), ch := c.extract 0 1, info := mk (trimS (sfx c (firstN c (· != bt c 0)))), off := ind } else none) else none) := Lib.hid rfl
  have HFB : Hid (fenceB c (firstN c (· != bt c 0)) = (decide (3 ≤ firstN c (· != bt c 0)) && !(decide (bt c 0 = 96) && (sfx c (firstN c (· != bt c 0))).contains 96))) := Lib.hid rfl
  generalize firstN c (· != bt c 0) = n at *
  have HX := Lib.hid (extract_drop c n)
  have hxs : (c.extract n c.size).size ≤ 1000000 := by rw [ByteArray.size_extract]; omega
  have HTr : Hid (∀ W, Calls Tryz.prog 105 #[.string (c.extract n c.size)] W fun e w' => e = .returned (.string (mk (trimS (sfx c n)))) ∧ w' = W) := Lib.hid fun W => by
    have h := (t_trim (c.extract n c.size) W hxs).mono fun e w' h => (⟨h.1, h.2.symm⟩ : _ ∧ w' = W)
    rw [HX.out, bytesL_mk'] at h
    rw [HX.out]
    exact h
  have HI : Hid (∀ W, Calls Tryz.prog 91 #[.string (c.extract n c.size), .int .u8 96] W fun e w' => e = .returned (.int .i64 (Lib.indexByte (sfx c n) 96)) ∧ W = w') := Lib.hid fun W => by
    have h := (Tryz.strings_IndexByte (c.extract n c.size) 96 W).mono fun e w' ⟨h, h'⟩ => (⟨h, h'.symm⟩ : _ ∧ W = w')
    have e1 : (c.extract n c.size).data.toList = sfx c n := by
      have := bytesL_mk' (sfx c n)
      rw [← HX.out] at this
      exact this
    rw [e1] at h
    exact h
  obtain ⟨hd1, hd2⟩ := indexByte_neg (sfx c n) 96
  have HCn : Hid (decide (0 ≤ Lib.indexByte (sfx c n) 96) = (sfx c n).contains 96) := Lib.hid (Lib.contains_iff_indexByte _ _).symm
  clear hd2
  generalize Lib.indexByte (sfx c n) 96 = x at *
  generalize (sfx c n).contains 96 = q at *
  generalize mk (trimS (sfx c n)) = T at *
  clear HX
  generalize fenceM c ind = R at *
  by_cases hq : bt c 0 = 96 ∨ bt c 0 = 126
  · rw [if_pos hq] at HR
    generalize bt c 0 = a at *
    have hcase : (((a : Int) != 96) = false ∧ ((a : Int) == 96) = true ∧ Hid (decide (a = 96) = true)) ∨ (((a : Int) != 96) = true ∧ ((a : Int) != 126) = false ∧ ((a : Int) == 96) = false ∧ Hid (decide (a = 96) = false)) := by
      rcases hq with rfl | rfl
      · left; exact ⟨rfl, rfl, Lib.hid rfl⟩
      · right; exact ⟨rfl, rfl, rfl, Lib.hid rfl⟩
    clear hq
    by_cases h3 : n < 3
    · have HF : Hid (R = none) := Lib.hid (by rw [HR.out, HFB.out, decide_eq_false (show ¬ 3 ≤ n by omega)]; rfl)
      have d1 : decide ((n : Int) < 3) = true := decide_eq_true (by omega)
      have d2 : decide (n < 3) = true := decide_eq_true h3
      clear HR HFB
      rcases hcase with ⟨z1, z2, -⟩ | ⟨z1, z2, z3, -⟩
      all_goals
        go_enter Tryz.func64, Tryz.ntmps64
        go_wp2_with fail
        ((with_reducible refine (HRn.out _).mono ?_))
        rintro e w' ⟨rfl, b1⟩
        obtain ⟨HZ, HB⟩ := zw_after b1
        obtain ⟨k0, k1, k2, k3, k4, k5, k6, k7, k8, k9, k10, y0, y1, y2, y3, y4, y5, y6, y7, y8, y9, y10⟩ := ZM.facts HZ
        go_wp2_with fail
        exact fence_ret (blk11 HZ _ _ _ _ _ _ _ _ _ _ _) rfl rfl rfl (rd_none HF.out ⟨_, _, _, _, _, _, _, _, _, _, _, _, _, _, _, rfl⟩ (below11 HB (Nat.le_refl _) _ _ _ _ _ _ _ _ _ _ _))
    · have d1 : decide ((n : Int) < 3) = false := decide_eq_false (by omega)
      have d2 : decide (n < 3) = false := decide_eq_false h3
      have h3' : decide (3 ≤ n) = true := decide_eq_true (by omega)
      rw [h3'] at HFB
      rcases hcase with ⟨z1, z2, z4⟩ | ⟨z1, z2, z3, z4⟩
      · rw [z4.out] at HFB
        cases q
        · have HF : Hid (R = some { kind := 7, n := n, ch := c.extract 0 1, info := T, off := ind }) := Lib.hid (by rw [HR.out, HFB.out]; rfl)
          have dx := HCn.out
          clear HR HFB HCn h3 h3'
          go_enter Tryz.func64, Tryz.ntmps64
          go_wp2_with fail
          ((with_reducible refine (HRn.out _).mono ?_))
          rintro e w' ⟨rfl, b1⟩
          obtain ⟨HZ, HB⟩ := zw_after b1
          obtain ⟨k0, k1, k2, k3, k4, k5, k6, k7, k8, k9, k10, y0, y1, y2, y3, y4, y5, y6, y7, y8, y9, y10⟩ := ZM.facts HZ
          go_wp2_with fail
          ((with_reducible refine (HI.out _).mono ?_))
          rintro e w2 ⟨rfl, rfl⟩
          go_wp2_with fail
          refine wp_region_still_tail 9 (by kernel_rfl) (by kernel_rfl) ?_
          simp only [List.take_succ_cons, List.take_zero, List.drop_succ_cons, List.drop_zero]
          repeat still_step
          still_call (HTr.out _)
          repeat still_step
          refine wpStill_nil ?_
          go_wp2_with fail
          exact fence_ret (Blk.drewN (blk11 HZ _ _ _ _ _ _ _ _ _ _ _) 1) rfl rfl rfl (rd_some HF.out (mkVal_plain (m := { kind := 7, n := n, ch := c.extract 0 1, info := T, off := ind }) rfl (below_drewN (below11 HB (Nat.le_refl _) _ _ _ _ _ _ _ _ _ _ _) 1).size) (below_drewN (below11 HB (Nat.le_refl _) _ _ _ _ _ _ _ _ _ _ _) 1))
        · have HF : Hid (R = none) := Lib.hid (by rw [HR.out, HFB.out]; rfl)
          have dx := HCn.out
          clear HR HFB HCn h3 h3'
          go_enter Tryz.func64, Tryz.ntmps64
          go_wp2_with fail
          ((with_reducible refine (HRn.out _).mono ?_))
          rintro e w' ⟨rfl, b1⟩
          obtain ⟨HZ, HB⟩ := zw_after b1
          obtain ⟨k0, k1, k2, k3, k4, k5, k6, k7, k8, k9, k10, y0, y1, y2, y3, y4, y5, y6, y7, y8, y9, y10⟩ := ZM.facts HZ
          go_wp2_with fail
          ((with_reducible refine (HI.out _).mono ?_))
          rintro e w2 ⟨rfl, rfl⟩
          go_wp2_with fail
          exact fence_ret (blk11 HZ _ _ _ _ _ _ _ _ _ _ _) rfl rfl rfl (rd_none HF.out ⟨_, _, _, _, _, _, _, _, _, _, _, _, _, _, _, rfl⟩ (below11 HB (Nat.le_refl _) _ _ _ _ _ _ _ _ _ _ _))
      · rw [z4.out] at HFB
        have HF : Hid (R = some { kind := 7, n := n, ch := c.extract 0 1, info := T, off := ind }) := Lib.hid (by rw [HR.out, HFB.out]; rfl)
        clear HR HFB HCn h3 h3'
        go_enter Tryz.func64, Tryz.ntmps64
        go_wp2_with fail
        ((with_reducible refine (HRn.out _).mono ?_))
        rintro e w' ⟨rfl, b1⟩
        obtain ⟨HZ, HB⟩ := zw_after b1
        obtain ⟨k0, k1, k2, k3, k4, k5, k6, k7, k8, k9, k10, y0, y1, y2, y3, y4, y5, y6, y7, y8, y9, y10⟩ := ZM.facts HZ
        go_wp2_with fail
        refine wp_region_still_tail 9 (by kernel_rfl) (by kernel_rfl) ?_
        simp only [List.take_succ_cons, List.take_zero, List.drop_succ_cons, List.drop_zero]
        repeat still_step
        still_call (HTr.out _)
        repeat still_step
        refine wpStill_nil ?_
        go_wp2_with fail
        exact fence_ret (Blk.drewN (blk11 HZ _ _ _ _ _ _ _ _ _ _ _) 1) rfl rfl rfl (rd_some HF.out (mkVal_plain (m := { kind := 7, n := n, ch := c.extract 0 1, info := T, off := ind }) rfl (below_drewN (below11 HB (Nat.le_refl _) _ _ _ _ _ _ _ _ _ _ _) 1).size) (below_drewN (below11 HB (Nat.le_refl _) _ _ _ _ _ _ _ _ _ _ _) 1))
  · have z1 : (((bt c 0 : Nat) : Int) != 96) = true := by rw [bne_iff_ne]; omega
    have z2 : (((bt c 0 : Nat) : Int) != 126) = true := by rw [bne_iff_ne]; omega
    have HF : Hid (R = none) := Lib.hid (by rw [HR.out, if_neg hq])
    clear HR hq
    go_enter Tryz.func64, Tryz.ntmps64
    go_wp2_with fail
    exact fence_ret (Blk.new w _ _) rfl rfl rfl (rd_none HF.out ⟨_, _, _, _, _, _, _, _, _, _, _, _, _, _, _, rfl⟩ ((Below.refl _ w).alloc (Nat.le_refl _) _))

end Go.Proofs.YtpoafhgbhnblmaaGreatDoor
