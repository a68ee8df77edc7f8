/-
  Texts of the proof, put together: MkR, MkS, SetMap, AttrL, AttrM, AttrQ.
-/
import Derived.Test.YthfienjmigidbaaDoorB19
import Derived.Test.YthfienjmigidbaaDoorB24
import Derived.Test.YthfienjmigidbaaDoorB11
import Derived.Maps.Own
import Derived.Deep.QuietTactic
import Derived.BigQuiet
import Derived.Laws.StructEq
set_option linter.unusedVariables false
set_option linter.unusedSimpArgs false
namespace Go.Pub
/-- How many bytes of a kind a list begins with. -/
def cntW (p : Nat → Bool) : List UInt8 → Nat
  | [] => 0
  | c :: l => if p c.toNat = true then cntW p l + 1 else 0
/-- How many bytes of a kind stand from i on. -/
def runF (s : ByteArray) (i : Nat) (p : Nat → Bool) : Nat := cntW p (sfx s i)
theorem runF_end (s : ByteArray) (i : Nat) (p : Nat → Bool) (h : s.size ≤ i) : runF s i p = 0 := by unfold runF; rw [sfx_nil s i h]; rfl
theorem runF_yes (s : ByteArray) (i : Nat) (p : Nat → Bool) (h : i < s.size) (hp : p (bt s i) = true) : runF s i p = runF s (i + 1) p + 1 := by
  unfold runF; rw [sfx_cons s i h]
  show (if p (bt s i) = true then _ else _) = _
  rw [if_pos hp]
theorem runF_no (s : ByteArray) (i : Nat) (p : Nat → Bool) (h : i < s.size) (hp : p (bt s i) = false) : runF s i p = 0 := by
  unfold runF; rw [sfx_cons s i h]
  show (if p (bt s i) = true then _ else _) = _
  rw [if_neg (by rw [hp]; exact Bool.false_ne_true)]
theorem cntW_le (p : Nat → Bool) : ∀ l : List UInt8, cntW p l ≤ l.length
  | [] => Nat.le_refl _
  | c :: l => by unfold cntW; have := cntW_le p l; split <;> simp <;> omega
theorem runF_le (s : ByteArray) (i : Nat) (p : Nat → Bool) : runF s i p ≤ s.size - i := by
  unfold runF; have := cntW_le p (sfx s i); rwa [sfx_len] at this
theorem runF_all (s : ByteArray) (p : Nat → Bool) : ∀ (n i : Nat), s.size - i ≤ n → (∀ j, i ≤ j → j < i + runF s i p → p (bt s j) = true) ∧ (i + runF s i p < s.size → p (bt s (i + runF s i p)) = false)
  | 0, i, h => by
    rw [runF_end s i p (by omega)]
    exact ⟨fun j h1 h2 => by omega, fun h1 => by omega⟩
  | n + 1, i, h => by
    by_cases hi : i < s.size
    · cases hp : p (bt s i)
      · rw [runF_no s i p hi hp]
        exact ⟨fun j h1 h2 => by omega, fun _ => hp⟩
      · have ih := runF_all s p n (i + 1) (by omega)
        rw [runF_yes s i p hi hp]
        rw [show i + (runF s (i + 1) p + 1) = i + 1 + runF s (i + 1) p by omega]
        refine ⟨fun j h1 h2 => ?_, ih.2⟩
        by_cases hj : j = i
        · subst hj; exact hp
        · exact ih.1 j (by omega) h2
    · rw [runF_end s i p (by omega)]
      exact ⟨fun j h1 h2 => by omega, fun h1 => by omega⟩
theorem firstN_run (s : ByteArray) (p q : Nat → Bool) (hpq : ∀ b, q b = !p b) : firstN s q = runF s 0 p := by
  have h := runF_all s p s.size 0 (by omega)
  have hl := runF_le s 0 p
  rw [Nat.zero_add] at h
  refine firstN_eq s q _ (by omega) (fun j hj => ?_) (fun hj => ?_)
  · rw [hpq, h.1 j (Nat.zero_le _) hj]; rfl
  · rw [hpq, h.2 hj]; rfl
theorem runF_eq (s : ByteArray) (p : Nat → Bool) (i n : Nat) (h : i + n ≤ s.size) (h1 : ∀ j, i ≤ j → j < i + n → p (bt s j) = true) (h2 : i + n < s.size → p (bt s (i + n)) = false) : runF s i p = n := by
  have k := runF_all s p s.size i (by omega)
  have hl := runF_le s i p
  rcases Nat.lt_trichotomy (runF s i p) n with h3 | h3 | h3
  · have e1 := k.2 (by omega)
    rw [h1 _ (by omega) (by omega)] at e1; cases e1
  · exact h3
  · have e1 := k.1 (i + n) (by omega) (by omega)
    rw [h2 (by omega)] at e1; cases e1
theorem indN_cnt : ∀ l : List UInt8, indN l = cntW (· == 32) l
  | [] => rfl
  | c :: l => by
    unfold indN cntW
    rw [indN_cnt l]
    by_cases h : c = 32
    · subst h; rfl
    · rw [if_neg h, if_neg]
      intro e
      rw [beq_iff_eq] at e
      exact h ((u8_nat c 32 (by decide)).2 e)
theorem indA_run (s : ByteArray) (i : Nat) : indA s i = i + runF s i (· == 32) := by unfold indA runF; rw [indN_cnt]
theorem indA_bd (s : ByteArray) (i : Nat) (h : i ≤ s.size) : i ≤ indA s i ∧ indA s i ≤ s.size := by
  rw [indA_run]; have := runF_le s i (· == 32); omega
theorem indA_sp (s : ByteArray) (i : Nat) (h : i ≤ s.size) : indA s i = spAt s i := by
  have k := spAt_spec s i
  have hb := spAt_bd s i
  have hb2 := hb.2 h
  rw [indA_run, runF_eq s (· == 32) i (spAt s i - i) (by omega) (fun j h1 h2 => by rw [beq_iff_eq]; exact k.1 j h1 (by omega)) (fun h2 => by
    rw [show i + (spAt s i - i) = spAt s i by omega] at h2 ⊢
    rw [beq_eq_false_iff_ne]; exact fun e => k.2 ⟨h2, e⟩)]
  omega
/-- Nothing but spaces behind. -/
theorem sp_all (s : ByteArray) (i : Nat) (h : i ≤ s.size) : indA s i = s.size ↔ ∀ b ∈ sfx s i, b = 32 := by
  have k := runF_all s (· == 32) s.size i (by omega)
  have hl := runF_le s i (· == 32)
  rw [indA_run]
  constructor
  · intro e b hb
    obtain ⟨j, hj, rfl⟩ := List.mem_iff_getElem.1 hb
    rw [sfx_len] at hj
    have e1 := k.1 (i + j) (by omega) (by omega)
    rw [beq_iff_eq] at e1
    have e2 : (sfx s i)[j]? = some (s.get! (i + j)) := by
      unfold sfx; rw [List.getElem?_drop]; exact bytesL_at s (i + j) (by omega)
    rw [List.getElem?_eq_getElem (by rw [sfx_len]; exact hj)] at e2
    injection e2 with e2
    rw [e2]; exact (g32 s _).2 e1
  · intro hb
    rcases Nat.lt_or_ge (i + runF s i (· == 32)) s.size with h1 | h1
    · have e1 := k.2 h1
      rw [beq_eq_false_iff_ne] at e1
      refine absurd ((g32 s _).1 (hb _ ?_)) e1
      refine List.mem_iff_getElem?.2 ⟨runF s i (· == 32), ?_⟩
      unfold sfx; rw [List.getElem?_drop]; exact bytesL_at s _ h1
    · omega
theorem trimF_all : ∀ l : List UInt8, (∀ b ∈ l, b = 32) → trimF l = []
  | [], _ => rfl
  | c :: l, h => by
    rw [h c (List.mem_cons_self ..), trimF_sp]
    exact trimF_all l fun b hb => h b (List.mem_cons_of_mem _ hb)
theorem trimF_split : ∀ l : List UInt8, ∃ r, l = r ++ trimF l ∧ ∀ b ∈ r, b = 32
  | [] => ⟨[], rfl, fun b h => by cases h⟩
  | c :: l => by
    by_cases h : c = 32
    · subst h
      obtain ⟨r, h1, h2⟩ := trimF_split l
      refine ⟨32 :: r, by rw [trimF_sp]; exact congrArg (32 :: ·) h1, fun b hb => ?_⟩
      rcases List.mem_cons.1 hb with rfl | hb
      · rfl
      · exact h2 b hb
    · exact ⟨[], by rw [trimF_no _ _ h]; rfl, fun b h => by cases h⟩
theorem trimR_split (l : List UInt8) : ∃ r, l = trimR l ++ r ∧ ∀ b ∈ r, b = 32 := by
  obtain ⟨r, h1, h2⟩ := trimF_split l.reverse
  refine ⟨r.reverse, ?_, fun b hb => h2 b (List.mem_reverse.1 hb)⟩
  unfold trimR
  have := congrArg List.reverse h1
  rw [List.reverse_reverse, List.reverse_append] at this
  exact this
theorem trimR_back : ∀ (r p : List UInt8), (∀ b ∈ r, b = 32) → p.getLast? ≠ some 32 → trimR (p ++ r) = p := by
  intro r p hr hp
  unfold trimR
  rw [List.reverse_append]
  have e : ∀ (a b : List UInt8), (∀ x ∈ a, x = 32) → b.head? ≠ some 32 → (a ++ b).dropWhile (· == 32) = b := by
    intro a
    induction a with
    | nil =>
      intro b _ hb
      cases b with
      | nil => rfl
      | cons c b => exact List.dropWhile_cons_of_neg (by simpa using hb)
    | cons c a ih =>
      intro b ha hb
      rw [ha c (List.mem_cons_self ..)]
      show ((32 : UInt8) :: (a ++ b)).dropWhile _ = _
      rw [List.dropWhile_cons_of_pos (by decide)]
      exact ih b (fun x hx => ha x (List.mem_cons_of_mem _ hx)) hb
  rw [e _ _ (fun x hx => hr x (List.mem_reverse.1 hx)) (by rw [List.head?_reverse]; exact hp), List.reverse_reverse]
theorem trimF_sfx (s : ByteArray) (k : Nat) : trimF (sfx s k) = sfx s (indA s k) := by
  rw [trimF_ind]; unfold indA sfx; rw [List.drop_drop]
theorem trimS_sfx (s : ByteArray) (k : Nat) : trimS (sfx s k) = trimR (sfx s (indA s k)) := by unfold trimS; rw [trimF_sfx]
end Go.Pub
namespace Go.Proofs.YthfienjmigidbaaDoor
open Go.RowKit Go.Pub

/-- Optional attributes and spaces up to the end. -/
def attrRestM (c : ByteArray) (k : Nat) : Option AttrL :=
  if indA c k = c.size then some emptyA else if (parseL c (indA c k)).2.2 = 0 ∧ ¬ (indA c (parseL c (indA c k)).2.1 < c.size) then some (parseL c (indA c k)).1 else none
theorem getLast_at (s : ByteArray) (i t : Nat) (h1 : i < t) (h2 : t ≤ s.size) : (sub s i t).getLast? = some (s.get! (t - 1)) := by
  have := sub_snoc s i (t - 1) (by omega) (by omega)
  rw [show t - 1 + 1 = t by omega] at this
  rw [this, List.getLast?_concat]
theorem sfx_sub (s : ByteArray) (i t : Nat) (h1 : i ≤ t) : sfx s i = sub s i t ++ sfx s t := by
  have := List.take_append_drop (t - i) (sfx s i)
  unfold sub
  rw [← sfx_add] at this
  rw [show i + (t - i) = t by omega] at this
  exact this.symm
theorem sub_size (s : ByteArray) (i t : Nat) (h1 : i ≤ t) (h2 : t ≤ s.size) : (sub s i t).length = t - i := by
  unfold sub
  rw [List.length_take, List.length_drop, bytesL_length]; omega
theorem parse_at {s : ByteArray} {i t : Nat} (h : (parseL s i).2.2 = 0) (ht : (parseL s i).2.1 = t) : parseL s i = ((parseL s i).1, t, 0) := by rw [← h, ← ht]
theorem only_rest (c : ByteArray) (k : Nat) (hk : k ≤ c.size) : onlyR (c.extract k c.size) = attrRestM c k := by
  have hb := indA_bd c k hk
  have hX : bytesL (c.extract k c.size) = sfx c k := by rw [extract_drop, bytesL_mk']
  unfold onlyR attrRestM
  rw [hX, trimS_sfx]
  generalize hi : indA c k = i at *
  obtain ⟨r, hr, hr32⟩ := trimR_split (sfx c i)
  have hhd : (sfx c i).head? ≠ some 32 := by
    have := trimF_head (sfx c k)
    rwa [trimF_sfx, hi] at this
  generalize hT : trimR (sfx c i) = T at *
  have hTz : (mk T).size = T.length := mk_size T
  have hlen := congrArg List.length hr
  rw [sfx_len, List.length_append] at hlen
  have hiff : (mk T).size = 0 ↔ i = c.size := by
    rw [hTz]
    constructor
    · intro h0
      have : T = [] := List.length_eq_zero_iff.1 h0
      subst this
      cases r with
      | nil => simp at hlen; omega
      | cons x r =>
        rw [hr] at hhd
        refine absurd ?_ hhd
        show some x = some 32
        rw [hr32 x (List.mem_cons_self ..)]
    · intro h0; omega
  by_cases h0 : i = c.size
  · rw [if_pos (hiff.2 h0), if_pos h0]
  · rw [if_neg (fun h => h0 (hiff.1 h)), if_neg h0]
    have ha : Agr c i (mk T) 0 T.length := ⟨T, r, [], hr, by unfold sfx; rw [bytesL_mk']; simp, rfl⟩
    by_cases h1 : (parseL (mk T) 0).2.2 = 0 ∧ (parseL (mk T) 0).2.1 = (mk T).size
    · have hp := parse_move ha.symm (A := (parseL (mk T) 0).1) (by
        show parseL (mk T) 0 = _
        rw [Nat.zero_add, ← hTz]; exact parse_at (s := mk T) (i := 0) h1.1 h1.2)
      rw [if_pos h1, hp, if_pos]
      refine ⟨rfl, ?_⟩
      have e : i + T.length ≤ c.size := by omega
      have : indA c (i + T.length) = c.size := (sp_all c _ e).2 fun b hb => hr32 b (by
        rwa [sfx_app hr] at hb)
      show ¬ (indA c (i + T.length) < c.size)
      omega
    · rw [if_neg h1, if_neg]
      rintro ⟨g1, g2⟩
      apply h1
      have hp := parse_at g1 rfl
      generalize (parseL c i).1 = A at *
      generalize (parseL c i).2.1 = t at *
      obtain ⟨p1, p2, p3, p4, p5⟩ := parseL_pos hp
      have hbt := indA_bd c t p2
      have hall := (sp_all c t p2).1 (by omega)
      have hT2 : T = sub c i t := by
        rw [← hT, sfx_sub c i t (by omega)]
        refine trimR_back _ _ hall ?_
        rw [getLast_at c i t p1 p2]
        intro e
        injection e with e
        rw [g32] at e
        omega
      have hTl : T.length = t - i := by rw [hT2]; exact sub_size c i t (by omega) p2
      have hm := parse_move ha (A := A) (by rw [hp]; congr 2; omega)
      rw [show ((0 : Nat) : Int) = 0 from rfl] at hm
      rw [hm]
      exact ⟨rfl, by rw [hTz]; exact Nat.zero_add _⟩
end Go.Proofs.YthfienjmigidbaaDoor
namespace Go.Proofs.YthfienjmigidbaaDoor
open Go.RowKit Go.Pub

def shiftM (k : Nat) (m : MkL) : MkL := if m.kind = 4 ∨ m.kind = 5 ∨ m.kind = 6 ∨ m.kind = 7 then { m with off := m.off + k } else m
theorem shift_none {o : Option MkL} (k : Nat) (h : ∀ m, o = some m → ¬ (m.kind = 4 ∨ m.kind = 5 ∨ m.kind = 6 ∨ m.kind = 7)) : o = o.map (shiftM k) := by
  cases o with
  | none => rfl
  | some m => show some m = some (shiftM k m); unfold shiftM; rw [if_neg (h m rfl)]
theorem head_kind {c : ByteArray} {m : MkL} (h : headM c = some m) : m.kind = 2 := by
  unfold headM at h
  split at h
  · split at h
    · injection h with h; subst h; rfl
    · cases h
  · cases h
theorem rule_kind {c : ByteArray} {m : MkL} (h : ruleM c = some m) : m.kind = 3 := by
  unfold ruleM at h
  split at h
  · split at h
    · injection h with h; subst h; rfl
    · cases h
  · cases h
theorem quote_some {c : ByteArray} {ind : Nat} {m : MkL} (h : quoteM c ind = some m) : bt c 0 = 62 ∧ m = { kind := 4, off := ind + c.size - (stripB (tl1 c) 1).size, rest := stripB (tl1 c) 1 } := by
  unfold quoteM at h
  split at h
  · rename_i h0; injection h with h; exact ⟨h0, h.symm⟩
  · cases h
theorem bullet_some {c : ByteArray} {ind : Nat} {m : MkL} (h : bulletM c ind = some m) : m = { kind := 5, ch := c.extract 0 1, off := ind + 2, rest := tl1 (tl1 c) } := by
  unfold bulletM at h
  split at h
  · split at h
    · injection h with h; exact h.symm
    · cases h
  · cases h
theorem number_some {c : ByteArray} {ind : Nat} {m : MkL} (h : numberM c ind = some m) : ∃ k v, m = { kind := 6, n := v, ch := c.extract k (k + 1), off := ind + k + 2, info := c.extract 0 k, rest := tl1 (c.extract (k + 1) c.size) } := by
  unfold numberM numR at h
  split at h
  · split at h
    · injection h with h; exact ⟨_, _, h.symm⟩
    · cases h
  · cases h
theorem fence_some {c : ByteArray} {ind : Nat} {m : MkL} (h : fenceM c ind = some m) : m.kind = 7 := by
  unfold fenceM at h
  split at h
  · split at h
    · injection h with h; subst h; rfl
    · cases h
  · cases h
theorem math_kind {c : ByteArray} {m : MkL} (h : mathM c = some m) : m.kind = 8 := by
  unfold mathM at h
  split at h
  · injection h with h; subst h; rfl
  · cases h
theorem div_kind {c : ByteArray} {m : MkL} (h : divM c = some m) : m.kind = 9 := by
  unfold divM divT at h
  split at h
  · split at h
    · generalize onlyR _ = o at h
      cases o with
      | none => cases h
      | some a => injection h with h; subst h; rfl
    · cases h
  · cases h
theorem note_some {c : ByteArray} {m : MkL} (h : noteM c = some m) : cutB (c.extract 2 c.size) = true ∧ m = { kind := 10, info := cutHead (c.extract 2 c.size), off := 4, rest := stripB (tl1 (cutRest (c.extract 2 c.size))) 1 } := by
  unfold noteM noteX at h
  split at h
  · split at h
    · rename_i h0; injection h with h; exact ⟨h0.1, h.symm⟩
    · cases h
  · cases h
theorem defTitle_kind {L : ByteArray} {d : List UInt8} {A : ByteArray} {n : Nat} {m : MkL} (h : defTitle L d A n = some m) : m.kind = 11 := by
  unfold defTitle at h
  by_cases h1 : A.size = 0
  · rw [if_pos h1] at h; injection h with h; rw [← h]
  rw [if_neg h1] at h
  by_cases h2 : A.size = n
  · rw [if_pos h2] at h; cases h
  rw [if_neg h2] at h
  generalize titleR A 0 = o at h
  cases o with
  | none => cases h
  | some p =>
    obtain ⟨t, q⟩ := p
    simp only at h
    by_cases h3 : blankB (A.extract q A.size) = true
    · rw [if_pos h3] at h; injection h with h; rw [← h]
    · rw [if_neg h3] at h; cases h
theorem defTail_kind {L r : ByteArray} {m : MkL} (h : defTail L r = some m) : m.kind = 11 := by
  unfold defTail at h
  generalize destR r 0 = o at h
  cases o with
  | none => cases h
  | some p => exact defTitle_kind h
theorem def_kind {c : ByteArray} {m : MkL} (h : defM c = some m) : m.kind = 11 := by
  unfold defM at h
  by_cases h1 : bt c 0 = 91 ∧ cutB (tl1 c) = true ∧ Lib.hasPrefix (bytesL (cutRest (tl1 c))) [58] = true ∧ labelL (bytesL (cutHead (tl1 c))) ≠ []
  · rw [if_pos h1] at h; exact defTail_kind h
  · rw [if_neg h1] at h; cases h
theorem shift_off {k : Nat} {m : MkL} (h : m.kind = 4 ∨ m.kind = 5 ∨ m.kind = 6 ∨ m.kind = 7) : shiftM k m = { m with off := m.off + k } := if_pos h
theorem quote_shift (c : ByteArray) (ind k : Nat) : quoteM c (ind + k) = (quoteM c ind).map (shiftM k) := by
  have h1 := stripB_size (tl1 c) 1
  have h2 := tl1_size c
  unfold quoteM
  generalize stripB (tl1 c) 1 = S at *
  by_cases h : bt c 0 = 62
  · rw [if_pos h, if_pos h]
    have e : ind + k + c.size - S.size = ind + c.size - S.size + k := by omega
    rw [e]
    exact congrArg some (shift_off (k := k) (m := { kind := 4, off := ind + c.size - S.size, rest := S }) (Or.inl rfl)).symm
  · rw [if_neg h, if_neg h]; rfl
theorem bullet_shift (c : ByteArray) (ind k : Nat) : bulletM c (ind + k) = (bulletM c ind).map (shiftM k) := by
  unfold bulletM
  generalize tl1 (tl1 c) = S
  by_cases h : bt c 0 = 45 ∨ bt c 0 = 43 ∨ bt c 0 = 42
  · rw [if_pos h, if_pos h]
    by_cases h' : spB (tl1 c) = true
    · rw [if_pos h', if_pos h', show ind + k + 2 = ind + 2 + k by omega]
      exact congrArg some (shift_off (k := k) (m := { kind := 5, ch := c.extract 0 1, off := ind + 2, rest := S }) (Or.inr (Or.inl rfl))).symm
    · rw [if_neg h', if_neg h']; rfl
  · rw [if_neg h, if_neg h]; rfl
theorem numR_shift (c : ByteArray) (ind k d v : Nat) : numR c (ind + k) d v = (numR c ind d v).map (shiftM k) := by
  unfold numR
  generalize tl1 (c.extract (d + 1) c.size) = S
  by_cases h : (1 ≤ d ∧ d ≤ 9 ∧ d < c.size) ∧ (bt c d = 46 ∨ bt c d = 41)
  · rw [if_pos h, if_pos h]
    by_cases h' : spB (c.extract (d + 1) c.size) = true
    · rw [if_pos h', if_pos h', show ind + k + d + 2 = ind + d + 2 + k by omega]
      exact congrArg some (shift_off (k := k) (m := { kind := 6, n := v, ch := c.extract d (d + 1), off := ind + d + 2, info := c.extract 0 d, rest := S }) (Or.inr (Or.inr (Or.inl rfl)))).symm
    · rw [if_neg h', if_neg h']; rfl
  · rw [if_neg h, if_neg h]; rfl
theorem number_shift (c : ByteArray) (ind k : Nat) : numberM c (ind + k) = (numberM c ind).map (shiftM k) := numR_shift c ind k _ _
theorem fence_shift (c : ByteArray) (ind k : Nat) : fenceM c (ind + k) = (fenceM c ind).map (shiftM k) := by
  unfold fenceM
  generalize firstN c (· != bt c 0) = n
  generalize mk (trimS (sfx c n)) = S
  by_cases h : bt c 0 = 96 ∨ bt c 0 = 126
  · rw [if_pos h, if_pos h]
    by_cases h' : fenceB c n = true
    · rw [if_pos h', if_pos h']
      exact congrArg some (shift_off (k := k) (m := { kind := 7, n := n, ch := c.extract 0 1, info := S, off := ind }) (Or.inr (Or.inr (Or.inr rfl)))).symm
    · rw [if_neg h', if_neg h']; rfl
  · rw [if_neg h, if_neg h]; rfl
theorem rdrs_shift (c : ByteArray) (ind k : Nat) : rdrs c (ind + k) = (rdrs c ind).map (Option.map (shiftM k)) := by
  unfold rdrs
  simp only [List.map_cons, List.map_nil]
  rw [quote_shift, bullet_shift, number_shift, fence_shift]
  congr 1
  · exact shift_none k fun m h => by rw [head_kind h]; omega
  congr 1
  · exact shift_none k fun m h => by rw [rule_kind h]; omega
  congr 5
  · exact shift_none k fun m h => by rw [math_kind h]; omega
  congr 1
  · exact shift_none k fun m h => by rw [div_kind h]; omega
  congr 1
  · refine shift_none k fun m h => ?_
    obtain ⟨_, rfl⟩ := note_some h
    show ¬ ((10 : Nat) = 4 ∨ (10 : Nat) = 5 ∨ (10 : Nat) = 6 ∨ (10 : Nat) = 7)
    omega
  congr 1
  · exact shift_none k fun m h => by rw [def_kind h]; omega
theorem first_map (f : MkL → MkL) : ∀ l : List (Option MkL), firstS (l.map (Option.map f)) = (firstS l).map f
  | [] => rfl
  | some m :: l => rfl
  | none :: l => first_map f l
theorem first_mem : ∀ (l : List (Option MkL)) (m : MkL), firstS l = some m → some m ∈ l
  | some x :: l, m, h => by injection h with h; subst h; exact List.mem_cons_self ..
  | none :: l, m, h => List.mem_cons_of_mem _ (first_mem l m h)
/-- k spaces ahead. -/
def spA (k : Nat) (s : ByteArray) : ByteArray := mk (List.replicate k 32 ++ bytesL s)
theorem spA_size (k : Nat) (s : ByteArray) : (spA k s).size = k + s.size := by unfold spA; rw [mk_size, List.length_append, List.length_replicate, bytesL_length]
theorem spA_ind (k : Nat) (s : ByteArray) : indA (spA k s) 0 = k + indA s 0 := by
  have e : ∀ k (l : List UInt8), indN (List.replicate k 32 ++ l) = k + indN l := by
    intro k l
    induction k with
    | zero => show indN l = 0 + indN l; omega
    | succ k ih =>
      show (if (32 : UInt8) = 32 then indN (List.replicate k 32 ++ l) + 1 else 0) = _
      rw [if_pos rfl, ih]; omega
  unfold indA sfx spA
  rw [bytesL_mk', List.drop_zero, List.drop_zero, e]; omega
theorem spA_core (k : Nat) (s : ByteArray) (i : Nat) : (spA k s).extract (k + i) (spA k s).size = s.extract i s.size := by
  rw [extract_drop, extract_drop]
  unfold sfx spA
  rw [bytesL_mk', List.drop_append, List.length_replicate, List.drop_eq_nil_of_le (by rw [List.length_replicate]; omega), List.nil_append, show k + i - k = i by omega]
theorem mark_shift (s : ByteArray) (k : Nat) (h : indA s 0 + k ≤ 3) : markM (spA k s) = shiftM k (markM s) := by
  have hb : blankB (spA k s) = blankB s := by
    unfold blankB
    rw [spA_ind, spA_size]
    by_cases e : indA s 0 = s.size
    · rw [decide_eq_true e, decide_eq_true (by omega)]
    · rw [decide_eq_false e, decide_eq_false (by omega)]
  unfold markM
  rw [hb]
  split
  · rfl
  · rw [spA_ind, spA_core]
    unfold markC
    rw [if_neg (by omega), if_neg (by omega), Nat.add_comm k, rdrs_shift, first_map]
    generalize firstS _ = o
    cases o with
    | some m => rfl
    | none =>
      show _ = shiftM k _
      unfold shiftM
      rw [if_neg]; rfl
      show ¬ ((0 : Nat) = 4 ∨ (0 : Nat) = 5 ∨ (0 : Nat) = 6 ∨ (0 : Nat) = 7)
      omega
theorem sfx_mk (c : ByteArray) (a b : Nat) : mk (sfx (mk (sfx c a)) b) = mk (sfx c (a + b)) := by
  unfold sfx; rw [bytesL_mk', List.drop_drop]
theorem tl1_sfx (x : ByteArray) : tl1 x = mk (sfx x 1) := extract_drop x 1
theorem strip_sfx (x : ByteArray) (n : Nat) : stripB x n = mk (sfx x (min n (indA x 0))) := extract_drop x _
/-- The rest of a mark is the end of its line. -/
def RestAt (c : ByteArray) (ind : Nat) (m : MkL) : Prop := m.kind = 4 ∨ m.kind = 5 ∨ m.kind = 6 ∨ m.kind = 10 → ∃ j, m.rest = mk (sfx c j) ∧ (m.kind = 10 → m.off = 4) ∧ (m.kind ≠ 10 → m.off = ind + j)
theorem rdrs_rest (c : ByteArray) (ind : Nat) (h0 : 0 < c.size) (m : MkL) (h : some m ∈ rdrs c ind) : RestAt c ind m := by
  unfold rdrs at h
  simp only [List.mem_cons, List.not_mem_nil, or_false] at h
  intro hk
  rcases h with h | h | h | h | h | h | h | h | h | h
  · have := head_kind h.symm; omega
  · have := rule_kind h.symm; omega
  · obtain ⟨hq, rfl⟩ := quote_some h.symm
    have e : stripB (tl1 c) 1 = mk (sfx c (1 + min 1 (indA (tl1 c) 0))) := by rw [strip_sfx, tl1_sfx, sfx_mk, ← tl1_sfx]
    refine ⟨1 + min 1 (indA (tl1 c) 0), e, (fun h => by cases h), fun _ => ?_⟩
    have h1 := indA_le (tl1 c)
    have h2 := tl1_size c
    show ind + c.size - (stripB (tl1 c) 1).size = _
    rw [e, mk_size, sfx_len]
    omega
  · have := bullet_some h.symm
    subst this
    exact ⟨2, by show tl1 (tl1 c) = _; rw [tl1_sfx, tl1_sfx, sfx_mk], (fun h => by cases h), fun _ => rfl⟩
  · obtain ⟨k, v, rfl⟩ := number_some h.symm
    refine ⟨k + 2, ?_, (fun h => by cases h), fun _ => ?_⟩
    · show tl1 (c.extract (k + 1) c.size) = _
      rw [extract_drop, tl1_sfx, sfx_mk]
    · show ind + k + 2 = _; omega
  · have := fence_some h.symm; omega
  · have := math_kind h.symm; omega
  · have := div_kind h.symm; omega
  · obtain ⟨hc, rfl⟩ := note_some h.symm
    unfold cutB at hc
    have hc := of_decide_eq_true hc
    refine ⟨2 + (brk (bytesL (c.extract 2 c.size)) + 1) + (1 + min 1 (indA (tl1 (cutRest (c.extract 2 c.size))) 0)), ?_, fun _ => rfl, fun h => absurd rfl h⟩
    show stripB (tl1 (cutRest (c.extract 2 c.size))) 1 = _
    rw [strip_sfx]
    generalize min 1 (indA (tl1 (cutRest (c.extract 2 c.size))) 0) = q
    have e : cutRest (c.extract 2 c.size) = mk (sfx c (2 + (brk (bytesL (c.extract 2 c.size)) + 1))) := by
      unfold cutRest
      rw [if_pos hc, extract_drop, extract_drop, sfx_mk]
    rw [e, tl1_sfx, sfx_mk, sfx_mk]
  · have := def_kind h.symm; omega
theorem mark_rest (s : ByteArray) (hk : (markM s).kind = 4 ∨ (markM s).kind = 5 ∨ (markM s).kind = 6 ∨ (markM s).kind = 10) :
    (markM s).rest.size ≤ s.size ∧ s.extract (s.size - (markM s).rest.size) s.size = (markM s).rest ∧ ((markM s).kind = 10 → (markM s).off = 4) ∧ ((markM s).kind ≠ 10 → s.size - (markM s).rest.size = (markM s).off ∨ (markM s).rest.size = 0 ∧ s.size - (markM s).rest.size ≤ (markM s).off) := by
  have hR : (0 < (s.extract (indA s 0) s.size).size ∧ some (markM s) ∈ rdrs (s.extract (indA s 0) s.size) (indA s 0)) := by
    unfold markM at hk ⊢
    by_cases hb : blankB s = true
    · rw [if_pos hb] at hk
      have : (1 : Nat) = 4 ∨ (1 : Nat) = 5 ∨ (1 : Nat) = 6 ∨ (1 : Nat) = 10 := hk
      omega
    · rw [if_neg hb] at hk ⊢
      unfold markC at hk ⊢
      by_cases h3 : 3 < indA s 0
      · rw [if_pos h3] at hk
        have : (0 : Nat) = 4 ∨ (0 : Nat) = 5 ∨ (0 : Nat) = 6 ∨ (0 : Nat) = 10 := hk
        omega
      · rw [if_neg h3] at hk ⊢
        have h1 := indA_le s
        have h2 : indA s 0 ≠ s.size := fun e => hb (by unfold blankB; exact decide_eq_true e)
        refine ⟨by rw [ByteArray.size_extract]; omega, ?_⟩
        cases hf : firstS (rdrs (s.extract (indA s 0) s.size) (indA s 0)) with
        | none =>
          rw [hf] at hk
          have : (0 : Nat) = 4 ∨ (0 : Nat) = 5 ∨ (0 : Nat) = 6 ∨ (0 : Nat) = 10 := hk
          omega
        | some m => exact first_mem _ _ hf
  obtain ⟨h0, hm⟩ := hR
  obtain ⟨j, e1, e2, e3⟩ := rdrs_rest _ _ h0 _ hm hk
  have e4 : (markM s).rest = mk (sfx s (indA s 0 + j)) := by rw [e1, extract_drop, sfx_mk]
  have hz : (markM s).rest.size = s.size - (indA s 0 + j) := by rw [e4, mk_size, sfx_len]
  refine ⟨by omega, ?_, e2, fun h => ?_⟩
  · rw [hz, extract_drop, e4]
    rcases Nat.le_total (indA s 0 + j) s.size with h | h
    · rw [show s.size - (s.size - (indA s 0 + j)) = indA s 0 + j by omega]
    · rw [sfx_nil s _ h, sfx_nil s _ (by omega)]
  · have := e3 h
    omega
/-- Fences. -/
theorem firstN_rep (q : UInt8) (r : List UInt8) (hr : r.head? ≠ some q) : ∀ a, firstN (mk (List.replicate a q ++ r)) (· != q.toNat) = a := by
  intro a
  unfold firstN
  rw [bytesL_mk']
  induction a with
  | zero =>
    cases r with
    | nil => rfl
    | cons b r =>
      have hb : (b.toNat != q.toNat) = true := by rw [bne_iff_ne]; intro e; exact hr (by rw [UInt8.toNat_inj.1 e]; rfl)
      show List.findIdx (fun b => b.toNat != q.toNat) (b :: r) = 0
      rw [List.findIdx_cons]
      simp only [hb, cond_true]
  | succ a ih =>
    show List.findIdx _ (q :: (List.replicate a q ++ r)) = a + 1
    have hb : (q.toNat != q.toNat) = false := by simp
    have ih' : List.findIdx (fun b => b.toNat != q.toNat) (List.replicate a q ++ r) = a := ih
    show List.findIdx (fun b => b.toNat != q.toNat) (q :: (List.replicate a q ++ r)) = a + 1
    rw [List.findIdx_cons]
    simp only [hb, cond_false, ih']
theorem mark_first (s : ByteArray) (h0 : 0 < s.size) (hq : bt s 0 = 96 ∨ bt s 0 = 126) : markM s = (fenceM s 0).getD { rest := s } := by
  have hi : indA s 0 = 0 := indA_no s 0 h0 (by omega)
  have hz : s.extract 0 s.size = s := ByteArray.extract_zero_size
  unfold markM blankB
  rw [hi, decide_eq_false (by omega), if_neg Bool.false_ne_true, hz]
  unfold markC
  rw [if_neg (by omega)]
  have hr : ∀ n : Nat, bt s 0 ≠ n → firstN s (· != n) = 0 := fun n hn => firstN_eq s _ 0 (by omega) (fun j hj => by omega) (fun _ => by rw [bne_iff_ne]; exact hn)
  have r0 : headM s = none := by unfold headM; rw [hr 35 (by omega), if_neg (by omega)]
  have r1 : ruleM s = none := by unfold ruleM; rw [if_neg (by omega)]
  have r2 : quoteM s 0 = none := by unfold quoteM; rw [if_neg (by omega)]
  have r3 : bulletM s 0 = none := by unfold bulletM; rw [if_neg (by omega)]
  have r4 : numberM s 0 = none := by
    have : numDig s = 0 := firstN_eq s _ 0 (by omega) (fun j hj => by omega) (fun _ => by
      cases hd : digN (bt s 0)
      · rfl
      · have := (digN_iff _).1 hd; omega)
    unfold numberM numR
    rw [this, if_neg (by omega)]
  have hp : ∀ (x y : UInt8), x.toNat ≠ bt s 0 → Lib.hasPrefix (bytesL s) [x, y] = false := fun x y hx => by
    have e := sfx_cons s 0 h0
    unfold sfx at e
    rw [List.drop_zero] at e
    rw [e]
    have hx' : ¬ (x = s.get! 0) := fun e => hx (by rw [e]; rfl)
    show ([x, y].isPrefixOf (s.get! 0 :: _)) = false
    rw [List.isPrefixOf, show (x == s.get! 0) = false from beq_eq_false_iff_ne.2 hx']; rfl
  have r6 : mathM s = none := by
    unfold mathM; rw [hp 36 36 (by show 36 ≠ _; omega), if_neg (fun h => by cases h.1)]
  have r7 : divM s = none := by unfold divM; rw [hr 58 (by omega), if_neg (by omega)]
  have r8 : noteM s = none := by
    unfold noteM; rw [hp 91 94 (by show 91 ≠ _; omega), if_neg Bool.false_ne_true]
  have r9 : defM s = none := by unfold defM; rw [if_neg (fun h => by omega)]
  unfold rdrs
  rw [r0, r1, r2, r3, r4, r6, r7, r8, r9]
  show (firstS [fenceM s 0, none, none, none, none]).getD _ = _
  cases fenceM s 0 <;> rfl
end Go.Proofs.YthfienjmigidbaaDoor
namespace Go.Pub
open Go.RowKit Go.ChangeMaps Go.MapKept
open Go.Maps (Keyed)
def SetMap (w : World) (b : Nat) (keys : List ByteArray) : Prop :=
  ∃ es clock, w.heap[b]? = some (.map es clock) ∧ es.toList.map (fun e => (e.key, e.val)) = keys.map (fun k => (Value.string k, Value.bool true)) ∧ ∀ k ∈ keys, k.size ≤ maxLen
section
variable {P : Program} {w w' : World} {b : Nat} {keys : List ByteArray}
theorem SetMap.lt (h : SetMap w b keys) : b < w.heap.size := by
  obtain ⟨es, clock, hb, _⟩ := h
  exact (Array.getElem?_eq_some_iff.1 hb).1
theorem SetMap.new (w : World) : SetMap (w.alloc (.map #[] 0)) w.heap.size [] := ⟨#[], 0, (MapKept.heap_alloc w _).1, rfl, fun _ h => absurd h (by simp)⟩
theorem SetMap.kept (h : SetMap w b keys) (hb : w'.heap[b]? = w.heap[b]?) : SetMap w' b keys := by
  obtain ⟨es, clock, h1, h2⟩ := h
  exact ⟨es, clock, hb.trans h1, h2⟩
theorem SetMap.alloc (h : SetMap w b keys) (o : Obj) : SetMap (w.alloc o) b keys := h.kept (Below.heap_alloc _ _ _ h.lt)
theorem SetMap.below (h : SetMap w b keys) (hb : Below w.heap.size w w') : SetMap w' b keys := h.kept (hb.block _ h.lt)
theorem keyOf_str {k : TypeId} (hk : P.underlying k = some .string) {s : ByteArray} (hs : s.size ≤ maxLen) : ∃ l, keyOf P k (.string s) = some l := by
  unfold keyOf
  rw [hk]
  simp [mapKey, hk, hs]
theorem SetMap.entries {k : TypeId} (hk : P.underlying k = some .string) {es : Array MapEntry} (he : es.toList.map (fun e => (e.key, e.val)) = keys.map (fun k => (Value.string k, Value.bool true))) (hm : ∀ k ∈ keys, k.size ≤ maxLen) :
    ∀ e ∈ es.toList, ∃ s, s ∈ keys ∧ e.key = .string s ∧ e.val = .bool true ∧ ∃ l, keyOf P k e.key = some l := by
  intro e hmem
  have : (e.key, e.val) ∈ es.toList.map (fun e => (e.key, e.val)) := List.mem_map.2 ⟨e, hmem, rfl⟩
  rw [he] at this
  obtain ⟨s, hs, he'⟩ := List.mem_map.1 this
  injection he' with e1 e2
  obtain ⟨l, hl⟩ := keyOf_str hk (hm s hs)
  exact ⟨s, hs, e1.symm, e2.symm, l, by rw [← e1]; exact hl⟩
theorem SetMap.find {k : TypeId} (hk : P.underlying k = some .string) {es : Array MapEntry} (he : es.toList.map (fun e => (e.key, e.val)) = keys.map (fun k => (Value.string k, Value.bool true))) (hm : ∀ k ∈ keys, k.size ≤ maxLen)
    (x : ByteArray) (hx : x.size ≤ maxLen) (w : World) : (x ∉ keys ∧ (Instr.findKey k (.string x) es.toList).run P w = .ok none w) ∨ (x ∈ keys ∧ ∃ j, (Instr.findKey k (.string x) es.toList).run P w = .ok (some (j, .bool true)) w) := by
  obtain ⟨lx, hlx⟩ := keyOf_str hk hx
  have hE := SetMap.entries hk he hm
  rcases (Maps.string_keyed hk).find w hlx es.toList (fun e hmem => (hE e hmem).choose_spec.2.2.2) with ⟨h1, h2⟩ | ⟨j, e, h1, h2, h3⟩
  · left
    refine ⟨fun hmem => ?_, h1⟩
    have : (Value.string x, Value.bool true) ∈ keys.map (fun k => (Value.string k, Value.bool true)) := List.mem_map.2 ⟨x, hmem, rfl⟩
    rw [← he] at this
    obtain ⟨e, hmem', he'⟩ := List.mem_map.1 this
    injection he' with e1 e2
    exact h2 e hmem' e1
  · right
    have hmem := List.mem_of_getElem? h2
    obtain ⟨s, hs, k1, k2, _⟩ := hE e hmem
    rw [h3] at k1
    injection k1 with k1
    subst k1
    rw [k2] at h1
    exact ⟨hs, j, h1⟩
theorem SetMap.look {t k e : TypeId} (h : SetMap w b keys) (ht : P.underlying t = some (.map k e)) (hk : P.underlying k = some .string) (hz : (zeroValue e).run P w = .ok (.bool false) w) (x : ByteArray) (hx : x.size ≤ maxLen) :
    (Instr.lookup t (.map (some b)) (.string x) false).run P w = .ok (.bool (Lib.containsS keys x)) w := by
  obtain ⟨es, clock, hb, he, hm⟩ := h
  obtain ⟨lx, hlx⟩ := keyOf_str hk hx
  have hck := (Maps.string_keyed hk).check w es.isEmpty hlx
  rcases SetMap.find hk he hm x hx w with ⟨h1, h2⟩ | ⟨h1, j, h2⟩
  · have hc : Lib.containsS keys x = false := by rw [← Bool.not_eq_true, Lib.containsS_iff]; exact h1
    simp [Instr.lookup, run_underlying ht, MapKept.run_getObj_map hb, hck, h2, hz, hc, Result.andThen]
  · have hc : Lib.containsS keys x = true := (Lib.containsS_iff _ _).2 h1
    simp [Instr.lookup, run_underlying ht, MapKept.run_getObj_map hb, hck, h2, hc, Result.andThen]
theorem SetMap.put {t k e : TypeId} (h : SetMap w b keys) (ht : P.underlying t = some (.map k e)) (hk : P.underlying k = some .string) (x : ByteArray) (hx : x.size ≤ maxLen) (hno : Lib.containsS keys x = false) :
    ∃ w1, (Instr.mapUpdate t (.map (some b)) (.string x) (.bool true)).run P w = .ok () w1 ∧ SetMap w1 b (keys ++ [x]) ∧ w.grownBy w1 (some b) ∧ w1.heap.size = w.heap.size := by
  have hlt := h.lt
  obtain ⟨es, clock, hb, he, hm⟩ := h
  obtain ⟨lx, hlx⟩ := keyOf_str hk hx
  have hck := (Maps.string_keyed hk).check w false hlx
  rcases SetMap.find hk he hm x hx w with ⟨h1, h2⟩ | ⟨h1, j, h2⟩
  · refine ⟨setBlock w b (.map (es.push ⟨.string x, .bool true, clock⟩) (clock + 1)), ?_, ⟨es.push ⟨.string x, .bool true, clock⟩, clock + 1, ?_, ?_, ?_⟩, ⟨rfl, rfl, rfl, ?_, ?_⟩, ?_⟩
    · simp [Instr.mapUpdate, run_underlying ht, MapKept.run_getObj_map hb, hck, h2, MapKept.run_setObj_map _ hb, Result.andThen, setBlock]
    · simp [setBlock, Array.getElem?_setIfInBounds, hlt]
    · rw [Array.toList_push, List.map_append, List.map_append, he]; rfl
    · intro y hy
      rcases List.mem_append.1 hy with hy | hy
      · exact hm y hy
      · simp at hy; subst hy; exact hx
    · simp [setBlock]
    · intro i _ hi
      simp only [setBlock]
      rw [Array.getElem?_setIfInBounds, if_neg (fun e => hi (by rw [e]))]
    · simp [setBlock]
  · have := (Lib.containsS_iff _ _).2 h1
    rw [hno] at this; cases this
theorem SetMap.clear {t : TypeId} {k e : TypeId} (h : SetMap w b keys) (ht : P.underlying t = some (.map k e)) :
    ∃ w1, (∀ ty, (Builtin.clear_ #[t] ty #[.map (some b)]).run P w = .ok (.tuple #[]) w1) ∧ SetMap w1 b [] ∧ w.grownBy w1 (some b) ∧ w1.heap.size = w.heap.size := by
  have hlt := h.lt
  obtain ⟨es, clock, hb, he, hm⟩ := h
  refine ⟨setBlock w b (.map #[] clock), ?_, ⟨#[], clock, ?_, rfl, fun _ h => absurd h (by simp)⟩, ⟨rfl, rfl, rfl, ?_, ?_⟩, ?_⟩
  · intro ty
    simp [Builtin.clear_, run_underlying ht, MapKept.run_getObj_map hb, MapKept.run_setObj_map _ hb, Result.andThen, setBlock]
  · simp [setBlock, Array.getElem?_setIfInBounds, hlt]
  · simp [setBlock]
  · intro i _ hi
    simp only [setBlock]
    rw [Array.getElem?_setIfInBounds, if_neg (fun e => hi (by rw [e]))]
  · simp [setBlock]
end
end Go.Pub
namespace Go.Proofs.YthfienjmigidbaaDoor
open Go.RowKit Go.Pub

def clsE : List ByteArray → List ByteArray → Nat
  | _, [] => 0
  | seen, c :: r => if nameB c = false then 6 else if Lib.containsS seen c = true then 7 else clsE (seen ++ [c]) r
def prsE : List ByteArray → List (ByteArray × ByteArray) → Nat
  | _, [] => 0
  | seen, p :: r => if nameB p.1 = false then 6 else if lineB p.2 = false then 17 else if Lib.containsS seen p.1 = true then 7 else prsE (seen ++ [p.1]) r
def limE (a : AttrL) : Nat := if 32 < a.cl.length ∨ 32 < a.pr.length then 3 else 0
def restE (a : AttrL) : Nat := if clsE [] a.cl = 0 then (if prsE [] a.pr = 0 then limE a else prsE [] a.pr) else clsE [] a.cl
/-- The first error of attributes. -/
def checkE (a : AttrL) : Nat := if a.id = ⟨#[]⟩ then restE a else if nameB a.id = true then restE a else 6

theorem clsE_at (l : List ByteArray) (k : Nat) (h : k < l.length) : clsE (l.take k) (l.drop k) = if nameB l[k] = false then 6 else if Lib.containsS (l.take k) l[k] = true then 7 else clsE (l.take (k + 1)) (l.drop (k + 1)) := by
  rw [List.drop_eq_getElem_cons h, clsE, List.take_succ_eq_append_getElem h]
theorem clsE_end (l : List ByteArray) (k : Nat) (h : l.length ≤ k) : clsE (l.take k) (l.drop k) = 0 := by
  rw [List.drop_eq_nil_of_le h]; rfl
def keysOf (l : List (ByteArray × ByteArray)) : List ByteArray := l.map (·.1)
theorem prsE_at (l : List (ByteArray × ByteArray)) (k : Nat) (h : k < l.length) : prsE (keysOf (l.take k)) (l.drop k) = if nameB l[k].1 = false then 6 else if lineB l[k].2 = false then 17 else if Lib.containsS (keysOf (l.take k)) l[k].1 = true then 7 else prsE (keysOf (l.take (k + 1))) (l.drop (k + 1)) := by
  rw [List.drop_eq_getElem_cons h, prsE, List.take_succ_eq_append_getElem h]
  unfold keysOf
  rw [List.map_append]; rfl
theorem prsE_end (l : List (ByteArray × ByteArray)) (k : Nat) (h : l.length ≤ k) : prsE (keysOf (l.take k)) (l.drop k) = 0 := by
  rw [List.drop_eq_nil_of_le h]; rfl

/-- Attributes that are read alone. -/
structure ReadA (w : World) (B : Nat) (a : AttrL) (A : Option Addr) (c : Nat) (D : Option Addr) (d : Nat) : Prop where
  cls : Reads w B 1 A a.cl.length (strs a.cl)
  prs : Reads w B 2 D a.pr.length (prs a.pr)
  le : B ≤ w.heap.size
  nc : a.cl.length ≤ 1000000
  np : a.pr.length ≤ 1000000
  sid : a.id.size ≤ 1000000
  scl : ∀ x ∈ a.cl, x.size ≤ 1000000
  spr : ∀ x ∈ a.pr, x.1.size ≤ 1000000 ∧ x.2.size ≤ 1000000
theorem ReadA.below {w w' : World} {B : Nat} {a : AttrL} {A : Option Addr} {c : Nat} {D : Option Addr} {d : Nat} (h : ReadA w B a A c D d) (hb : Below w.heap.size w w') : ReadA w' B a A c D d :=
  ⟨h.cls.below (hb.mono h.le), h.prs.below (hb.mono h.le), Nat.le_trans h.le hb.size, h.nc, h.np, h.sid, h.scl, h.spr⟩

theorem zero_bool (w : World) : (zeroValue 4).run Tryd.prog w = .ok (.bool false) w := by kernel_rfl

/-- What stands in memory in Check's loops. -/
structure CInv (w : World) (a : AttrL) (A : Option Addr) (c : Nat) (D : Option Addr) (d : Nat) (keys : List ByteArray) (wr : World) : Prop where
  blk : Blk wr w.heap.size 26 #[.string a.id, .slice A a.cl.length c, .slice D a.pr.length d]
  map : SetMap wr (w.heap.size + 1) keys
  bel : Below w.heap.size w wr
theorem CInv.put {w : World} {a : AttrL} {A : Option Addr} {c : Nat} {D : Option Addr} {d : Nat} {keys keys' : List ByteArray} {wr w1 : World} (h : CInv w a A c D d keys wr) (hm : SetMap w1 (w.heap.size + 1) keys') (hg : wr.grownBy w1 (some (w.heap.size + 1))) : CInv w a A c D d keys' w1 :=
  ⟨h.blk.grown hg (by simp), hm, h.bel.grown hg h.bel.size (fun k hk => by injection hk with hk; omega)⟩
theorem CInv.below {w : World} {a : AttrL} {A : Option Addr} {c : Nat} {D : Option Addr} {d : Nat} {keys : List ByteArray} {wr w1 : World} (h : CInv w a A c D d keys wr) (hb : Below wr.heap.size wr w1) : CInv w a A c D d keys w1 :=
  ⟨h.blk.below hb h.blk.lt, h.map.below hb, h.bel.trans (hb.mono h.bel.size)⟩

end Go.Proofs.YthfienjmigidbaaDoor
namespace Go.Pub
open Go.RowKit
theorem quiet_add_left {P : Program} {f : FuncId} {args : Array Value} {w : World} {a n : Nat} {v : Value}
    (h : Calls P f args (w.drewN (a + n)) fun e w' => e = .returned v ∧ w.drewN (a + n) = w') :
    Calls P f args (w.drewN (a + n)) fun e w'' => e = .returned v ∧ ∃ m, w'' = w.drewN (a + m) :=
  h.mono fun _ _ ⟨he, hm⟩ => ⟨he, n, hm.symm⟩
theorem quiet_left {P : Program} {f : FuncId} {args : Array Value} {w : World} {n : Nat} {v : Value}
    (h : Calls P f args (w.drewN n) fun e w' => e = .returned v ∧ w.drewN n = w') : Calls P f args (w.drewN n) fun e w'' => e = .returned v ∧ ∃ m, w'' = w.drewN m :=
  h.mono fun _ _ ⟨he, hm⟩ => ⟨he, n, hm.symm⟩
theorem Reads.take {w : World} {B size n k : Nat} {A : Option Addr} {xs : List Value} (h : Reads w B size A n xs) (hk : k ≤ n) : Reads w B size A k (xs.take (k * size)) := by
  refine ⟨by rw [List.length_take, h.1]; exact Nat.min_eq_left (Nat.mul_le_mul_right _ hk), fun h0 => ?_⟩
  obtain ⟨ad, e, hb, hc⟩ := h.2 (by omega)
  refine ⟨ad, e, hb, fun j u hu => hc j u ?_⟩
  rw [List.getElem?_take] at hu
  split at hu
  · exact hu
  · cases hu
theorem strs_take (l : List ByteArray) (k : Nat) : strs (l.take k) = (strs l).take (k * 1) := by unfold strs; rw [Nat.mul_one, List.map_take]
theorem prs_take (l : List (ByteArray × ByteArray)) (k : Nat) : prs (l.take k) = (prs l).take (k * 2) := by
  induction l generalizing k with
  | nil => simp [prs]
  | cons p l ih =>
    cases k with
    | zero => simp [prs]
    | succ k =>
      have := ih k
      unfold prs at this ⊢
      rw [List.take_succ_cons, List.flatMap_cons, List.flatMap_cons, this]
      rw [show (k + 1) * 2 = (k * 2) + 2 by omega]
      rfl
end Go.Pub
namespace Go.Proofs.YthfienjmigidbaaDoor
open Go.RowKit Go.Pub

theorem contains_keys (zs : List (ByteArray × ByteArray)) (x : ByteArray) : hasKeyL zs x = Lib.containsS (keysOf zs) x := by
  rw [Bool.eq_iff_iff, Lib.containsS_iff]
  unfold hasKeyL keysOf
  induction zs with
  | nil => simp [getL]
  | cons p l ih =>
    unfold getL
    by_cases h : p.1 = x
    · rw [if_pos h]; simp [h]
    · rw [if_neg h, ih]; simp; intro e; exact absurd e.symm h

structure BInv (w : World) (a : AttrL) (A : Option Addr) (c : Nat) (D : Option Addr) (d : Nat) (wr : World) : Prop where
  blk : Blk wr w.heap.size 26 #[.string a.id, .slice A a.cl.length c, .slice D a.pr.length d]
  bel : Below w.heap.size w wr
theorem BInv.below {w : World} {a : AttrL} {A : Option Addr} {c : Nat} {D : Option Addr} {d : Nat} {wr w1 : World} (h : BInv w a A c D d wr) (hb : Below wr.heap.size wr w1) : BInv w a A c D d w1 :=
  ⟨h.blk.below hb h.blk.lt, h.bel.trans (hb.mono h.bel.size)⟩
theorem BInv.drewN {w : World} {a : AttrL} {A : Option Addr} {c : Nat} {D : Option Addr} {d : Nat} {wr : World} (h : BInv w a A c D d wr) (n : Nat) : BInv w a A c D d (wr.drewN n) := ⟨h.blk, below_drewN h.bel n⟩

end Go.Proofs.YthfienjmigidbaaDoor
namespace Go.Pub
theorem AttrL.eq_iff (a b : AttrL) : a = b ↔ a.id = b.id ∧ a.cl = b.cl ∧ a.pr = b.pr := by
  cases a; cases b; simp
end Go.Pub
namespace Go.Proofs.YthfienjmigidbaaDoor
open Go.RowKit Go.Pub

theorem pair_eq (a b c d : ByteArray) (w : World) : (Op.equalIn 10000 59 (.agg #[.string a, .string b]) (.agg #[.string c, .string d])).run Tryd.prog w = .ok (a.toList == c.toList && b.toList == d.toList) w := by
  have u9 := Tryd.underlying9
  have a9 := Tryd.isAgg9
  have z9 := Tryd.sizeOf9
  have hS : Tryd.prog.underlying 59 = some (.struct (Tryd.prog.fieldsOf 59)) := by kernel_rfl
  have hp : Tryd.prog.stoodInHeld 59 = false := by kernel_rfl
  rw [show (10000 : Nat) = 9999 + 1 from rfl, run_equalIn_agg w 9999 59 _ _ hS hp]
  simp only [Program.fieldsOf, Tryd.underlying59]
  go_simp
  by_cases h1 : a.toList = c.toList <;> by_cases h2 : b.toList = d.toList <;> simp [h1, h2]

def SamePost (a b : AttrL) (w : World) (e : Ending) (w' : World) : Prop := ∃ r : Bool, e = .returned (.bool r) ∧ (r = true ↔ a = b) ∧ Below w.heap.size w w'

structure TwoBlk (w : World) (u v : Array Value) (wr : World) : Prop where
  b1 : Blk wr w.heap.size 26 u
  b2 : Blk wr (w.heap.size + 1) 26 v
  bel : Below w.heap.size w wr
theorem TwoBlk.drewN {w wr : World} {u v : Array Value} (h : TwoBlk w u v wr) (n : Nat) : TwoBlk w u v (wr.drewN n) := ⟨h.b1, h.b2, below_drewN h.bel n⟩

set_option maxRecDepth 100000 in
set_option maxHeartbeats 4000000 in
theorem rsame_any (w : World) (a b : AttrL) (A : Option Addr) (c : Nat) (D : Option Addr) (d B : Nat) (A' : Option Addr) (c' : Nat) (D' : Option Addr) (d' B' : Nat) (h : ReadA w B a A c D d) (h' : ReadA w B' b A' c' D' d') :
    Calls Tryd.prog 23 #[.agg #[.string a.id, .slice A a.cl.length c, .slice D a.pr.length d], .agg #[.string b.id, .slice A' b.cl.length c', .slice D' b.pr.length d']] w (SamePost a b w) := by
  have HQ := Lib.hid pair_eq
  have HR := Lib.hid h
  have HR' := Lib.hid h'
  have hnc := h.nc
  have hnp := h.np
  have hnc' := h'.nc
  have hnp' := h'.np
  clear h h'
  have HI := Lib.hid (AttrL.eq_iff a b)
  have HT0 : Hid (TwoBlk w #[.string a.id, .slice A a.cl.length c, .slice D a.pr.length d] #[.string b.id, .slice A' b.cl.length c', .slice D' b.pr.length d'] ((w.alloc (.cells #[.string a.id, .slice A a.cl.length c, .slice D a.pr.length d] 26)).alloc (.cells #[.string b.id, .slice A' b.cl.length c', .slice D' b.pr.length d'] 26))) := Lib.hid ⟨(Blk.new _ _ _).alloc _, by
      have := Blk.new (w.alloc (.cells #[.string a.id, .slice A a.cl.length c, .slice D a.pr.length d] 26)) 26 #[.string b.id, .slice A' b.cl.length c', .slice D' b.pr.length d']
      simpa using this, ((Below.refl _ _).alloc (Nat.le_refl _) _).alloc (by simp) _⟩
  by_cases e1 : a.id = b.id
  · have y1 : (a.id.toList == b.id.toList) = true := (Lib.bytes_beq_iff _ _).2 e1
    have E1 := Lib.hid e1
    clear e1
    by_cases e2 : a.cl.length = b.cl.length
    · have z2 : ((a.cl.length : Int) != (b.cl.length : Int)) = false := by rw [e2]; simp
      have z2' : (a.cl.length != b.cl.length) = false := by rw [e2]; simp
      have E2 := Lib.hid e2
      clear e2
      by_cases e3 : a.pr.length = b.pr.length
      · have z3 : ((a.pr.length : Int) != (b.pr.length : Int)) = false := by rw [e3]; simp
        have z3' : (a.pr.length != b.pr.length) = false := by rw [e3]; simp
        have E3 := Lib.hid e3
        clear e3
        go_enter Tryd.func23, Tryd.ntmps23
        go_wp2_with fail
        go_loopw [5] (fun v wr => ∃ k : Nat, v = .int .i64 k ∧ k ≤ a.cl.length ∧ Hid (TwoBlk w #[.string a.id, .slice A a.cl.length c, .slice D a.pr.length d] #[.string b.id, .slice A' b.cl.length c', .slice D' b.pr.length d'] wr) ∧ Hid (∀ j, j < k → a.cl[j]? = b.cl[j]?)) (fun v _ => a.cl.length - (intOf v).toNat)
        case atStart => exact ⟨0, rfl, by omega, HT0, Lib.hid fun j hj => absurd hj (by omega)⟩
        case round =>
          clear HT0
          obtain ⟨k, rfl, hk, KT, KN⟩ := hrel
          have t1 := KT.out.b1.cell 1
          have t2 := KT.out.b1.cell 2
          have u1 := KT.out.b2.cell 1
          have u2 := KT.out.b2.cell 2
          simp at t1 t2 u1 u2
          by_cases hlt : k < a.cl.length
          · have hlt' : k < b.cl.length := by rw [← E2.out]; exact hlt
            obtain ⟨b1, o1, rfl, l1, hcell⟩ := (HR.out.cls.below (KT.out.bel.mono HR.out.le)).row (by omega) (by omega)
            have hc1 := hcell k _ (strs_at a.cl k hlt)
            clear hcell
            obtain ⟨b2, o2, rfl, l2, hcell⟩ := (HR'.out.cls.below (KT.out.bel.mono HR'.out.le)).row (by omega) (by omega)
            have hc2 := hcell k _ (strs_at b.cl k hlt')
            clear hcell
            have i0 : (0 : Int) ≤ (k : Int) := Int.natCast_nonneg _
            have i1 : (k : Int) < (a.cl.length : Int) := by omega
            have i2 : (k : Int) < (b.cl.length : Int) := by omega
            have hak := Lib.hid (List.getElem?_eq_getElem hlt)
            have hbk := Lib.hid (List.getElem?_eq_getElem hlt')
            by_cases he : a.cl[k] = b.cl[k]
            · have y2 : (a.cl[k].toList == b.cl[k].toList) = true := (Lib.bytes_beq_iff _ _).2 he
              have HE := Lib.hid he
              clear he
              go_wp2_with fail
              go_quiet (fail)
              go_wp2_with fail
              go_roundw
              case rel =>
                refine ⟨k + 1, by go_num, by omega, Lib.hid (KT.out.drewN _), Lib.hid fun j hj => ?_⟩
                by_cases hj' : j < k
                · exact KN.out j hj'
                · obtain rfl : j = k := by omega
                  rw [hak.out, hbk.out, HE.out]
              case measure => simp [intOf]; omega
            · have y2 : (a.cl[k].toList == b.cl[k].toList) = false := (Lib.bytes_beq_false_iff _ _).2 he
              have hne : Hid (a ≠ b) := Lib.hid fun e => he (by
                have := hak.out.symm.trans ((congrArg (fun l : List ByteArray => l[k]?) (HI.out.1 e).2.1).trans hbk.out)
                injection this)
              clear he
              go_wp2_with fail
              go_quiet (fail)
              go_wp2_with fail
              go_ret
              exact ⟨false, rfl, ⟨fun h => absurd h (by decide), fun h => absurd h hne.out⟩, below_drewN KT.out.bel _⟩
          · have hcl : Hid (a.cl = b.cl) := Lib.hid (List.ext_getElem? fun j => by
              by_cases hj : j < a.cl.length
              · exact KN.out j (by omega)
              · rw [List.getElem?_eq_none (by omega), List.getElem?_eq_none (by rw [← E2.out]; omega)])
            go_wp2_with fail
            clear t1 t2 u1 u2
            obtain ⟨wo, rfl⟩ : ∃ wo : World, wo = wr := ⟨_, rfl⟩
            go_loopw [6] (fun v wr => ∃ k : Nat, v = .int .i64 k ∧ k ≤ a.pr.length ∧ Hid (TwoBlk w #[.string a.id, .slice A a.cl.length c, .slice D a.pr.length d] #[.string b.id, .slice A' b.cl.length c', .slice D' b.pr.length d'] wr) ∧ Hid (∀ j, j < k → a.pr[j]? = b.pr[j]?)) (fun v _ => a.pr.length - (intOf v).toNat)
            case atStart => exact ⟨0, rfl, by omega, KT, Lib.hid fun j hj => absurd hj (by omega)⟩
            case round =>
              clear KT KN
              obtain ⟨k, rfl, hk, KT, KN⟩ := hrel
              have t2 := KT.out.b1.cell 2
              have u2 := KT.out.b2.cell 2
              simp at t2 u2
              by_cases hlt : k < a.pr.length
              · have hlt' : k < b.pr.length := by rw [← E3.out]; exact hlt
                obtain ⟨b1, o1, rfl, l1, hcell⟩ := (HR.out.prs.below (KT.out.bel.mono HR.out.le)).row (by omega) (by omega)
                have hc1 := hcell _ _ (prs_at a.pr k hlt).1
                have hc2 := hcell _ _ (prs_at a.pr k hlt).2
                rw [← Nat.add_assoc] at hc2
                clear hcell
                obtain ⟨b2, o2, rfl, l2, hcell⟩ := (HR'.out.prs.below (KT.out.bel.mono HR'.out.le)).row (by omega) (by omega)
                have hc3 := hcell _ _ (prs_at b.pr k hlt').1
                have hc4 := hcell _ _ (prs_at b.pr k hlt').2
                rw [← Nat.add_assoc] at hc4
                clear hcell
                have i0 : (0 : Int) ≤ (k : Int) := Int.natCast_nonneg _
                have i1 : (k : Int) < (a.pr.length : Int) := by omega
                have i2 : (k : Int) < (b.pr.length : Int) := by omega
                have hak := Lib.hid (List.getElem?_eq_getElem hlt)
                have hbk := Lib.hid (List.getElem?_eq_getElem hlt')
                have hq := HQ.out a.pr[k].1 a.pr[k].2 b.pr[k].1 b.pr[k].2
                by_cases he : a.pr[k] = b.pr[k]
                · have y2 : (a.pr[k].1.toList == b.pr[k].1.toList) = true := (Lib.bytes_beq_iff _ _).2 (by rw [he])
                  have y3 : (a.pr[k].2.toList == b.pr[k].2.toList) = true := (Lib.bytes_beq_iff _ _).2 (by rw [he])
                  rw [y2, y3, Bool.and_self] at hq
                  have HE := Lib.hid he
                  clear he y2 y3
                  go_wp2_with fail
                  go_quiet (fail)
                  go_wp2_with fail
                  go_roundw
                  case rel =>
                    refine ⟨k + 1, by go_num, by omega, Lib.hid (KT.out.drewN _), Lib.hid fun j hj => ?_⟩
                    by_cases hj' : j < k
                    · exact KN.out j hj'
                    · obtain rfl : j = k := by omega
                      rw [hak.out, hbk.out, HE.out]
                  case measure => simp [intOf]; omega
                · have y2 : (a.pr[k].1.toList == b.pr[k].1.toList && a.pr[k].2.toList == b.pr[k].2.toList) = false := by
                    rw [← Bool.not_eq_true, Bool.and_eq_true, Lib.bytes_beq_iff, Lib.bytes_beq_iff]
                    intro h2; exact he (Prod.ext h2.1 h2.2)
                  rw [y2] at hq
                  have hne : Hid (a ≠ b) := Lib.hid fun e => he (by
                    have := hak.out.symm.trans ((congrArg (fun l : List (ByteArray × ByteArray) => l[k]?) (HI.out.1 e).2.2).trans hbk.out)
                    injection this)
                  clear he y2
                  go_wp2_with fail
                  go_quiet (fail)
                  go_wp2_with fail
                  go_ret
                  exact ⟨false, rfl, ⟨fun h => absurd h (by decide), fun h => absurd h hne.out⟩, below_drewN KT.out.bel _⟩
              · have hpr : Hid (a.pr = b.pr) := Lib.hid (List.ext_getElem? fun j => by
                  by_cases hj : j < a.pr.length
                  · exact KN.out j (by omega)
                  · rw [List.getElem?_eq_none (by omega), List.getElem?_eq_none (by rw [← E3.out]; omega)])
                go_wp2_with fail
                go_ret
                exact ⟨true, rfl, ⟨fun _ => HI.out.2 ⟨E1.out, hcl.out, hpr.out⟩, fun _ => rfl⟩, KT.out.bel⟩
      · have z3 : ((a.pr.length : Int) != (b.pr.length : Int)) = true := by simp; omega
        have z3' : (a.pr.length != b.pr.length) = true := by simp; omega
        have hne : Hid (a ≠ b) := Lib.hid fun e => e3 (by rw [(HI.out.1 e).2.2])
        clear e3
        go_enter Tryd.func23, Tryd.ntmps23
        go_wp2_with fail
        go_ret
        exact ⟨false, rfl, ⟨fun h => absurd h (by decide), fun h => absurd h hne.out⟩, HT0.out.bel⟩
    · have z2 : ((a.cl.length : Int) != (b.cl.length : Int)) = true := by simp; omega
      have z2' : (a.cl.length != b.cl.length) = true := by simp; omega
      have hne : Hid (a ≠ b) := Lib.hid fun e => e2 (by rw [(HI.out.1 e).2.1])
      clear e2
      go_enter Tryd.func23, Tryd.ntmps23
      go_wp2_with fail
      go_ret
      exact ⟨false, rfl, ⟨fun h => absurd h (by decide), fun h => absurd h hne.out⟩, HT0.out.bel⟩
  · have y1 : (a.id.toList == b.id.toList) = false := (Lib.bytes_beq_false_iff _ _).2 e1
    have hne : Hid (a ≠ b) := Lib.hid fun e => e1 (HI.out.1 e).1
    clear e1
    go_enter Tryd.func23, Tryd.ntmps23
    go_wp2_with fail
    go_ret
    exact ⟨false, rfl, ⟨fun h => absurd h (by decide), fun h => absurd h hne.out⟩, HT0.out.bel⟩
end Go.Proofs.YthfienjmigidbaaDoor
