/-
  Tables, in plain lists: trimming, the parts of a line, cells; no program in sight.
-/
import Derived.Test.YtoageahnddepcaaDoorBase
import Derived.Lib.ReplaceLaws
import Derived.Lib.IndexMore
set_option linter.unusedVariables false
set_option linter.unusedSimpArgs false
namespace Go.Pub

/-- Without the spaces ahead. -/
def trimF (l : List UInt8) : List UInt8 := l.dropWhile (· == 32)
/-- Without the spaces at the end. -/
def trimR (l : List UInt8) : List UInt8 := (l.reverse.dropWhile (· == 32)).reverse
def trimS (l : List UInt8) : List UInt8 := trimR (trimF l)
theorem trimR_nil : trimR [] = [] := rfl
theorem trimR_sp (l : List UInt8) : trimR (l ++ [32]) = trimR l := by
  unfold trimR
  rw [List.reverse_append]
  show ((32 :: l.reverse).dropWhile _).reverse = _
  rw [List.dropWhile_cons_of_pos (by decide)]
theorem trimR_no (l : List UInt8) (c : UInt8) (h : c ≠ 32) : trimR (l ++ [c]) = l ++ [c] := by
  unfold trimR
  rw [List.reverse_append]
  show ((c :: l.reverse).dropWhile _).reverse = _
  rw [List.dropWhile_cons_of_neg (by simpa using h)]
  simp
theorem trimF_sp (l : List UInt8) : trimF (32 :: l) = trimF l := by
  unfold trimF; rw [List.dropWhile_cons_of_pos (by decide)]
theorem trimF_no (l : List UInt8) (c : UInt8) (h : c ≠ 32) : trimF (c :: l) = c :: l := by
  unfold trimF; rw [List.dropWhile_cons_of_neg (by simpa using h)]
/-- The number of spaces ahead. -/
def indN : List UInt8 → Nat
  | [] => 0
  | c :: l => if c = 32 then indN l + 1 else 0
theorem trimF_ind : ∀ l : List UInt8, trimF l = l.drop (indN l)
  | [] => rfl
  | c :: l => by
    unfold indN
    split
    · rename_i h; subst h; rw [trimF_sp, trimF_ind l]; rfl
    · rename_i h; rw [trimF_no _ _ h]; rfl
theorem indN_le : ∀ l : List UInt8, indN l ≤ l.length
  | [] => Nat.le_refl _
  | c :: l => by unfold indN; have := indN_le l; split <;> simp <;> omega
/-- A text that begins and ends with no space (or is empty). -/
theorem trimS_id (l : List UInt8) (h1 : l.head? ≠ some 32) (h2 : l.getLast? ≠ some 32) : trimS l = l := by
  unfold trimS
  have e1 : trimF l = l := by
    cases l with
    | nil => rfl
    | cons c l => exact trimF_no l c (fun e => h1 (by rw [e]; rfl))
  rw [e1]
  rcases List.eq_nil_or_concat l with rfl | ⟨l', c, rfl⟩
  · rfl
  · rw [List.concat_eq_append] at h2 ⊢
    rw [trimR_no]
    intro e
    apply h2
    rw [List.getLast?_concat, e]
theorem trimF_head (l : List UInt8) : (trimF l).head? ≠ some 32 := by
  induction l with
  | nil => decide
  | cons c l ih =>
    by_cases h : c = 32
    · subst h; rw [trimF_sp]; exact ih
    · rw [trimF_no _ _ h]; simpa using h
theorem trimR_last (l : List UInt8) : (trimR l).getLast? ≠ some 32 := by
  have := trimF_head l.reverse
  unfold trimR
  rw [List.getLast?_reverse]
  exact this
theorem trimR_pre (l : List UInt8) : ∃ r, l = trimR l ++ r := by
  unfold trimR
  refine ⟨(l.reverse.takeWhile (· == 32)).reverse, ?_⟩
  rw [← List.reverse_append, List.takeWhile_append_dropWhile, List.reverse_reverse]
theorem trimS_head (l : List UInt8) : (trimS l).head? ≠ some 32 := by
  unfold trimS
  have h := trimF_head l
  obtain ⟨r, hr⟩ := trimR_pre (trimF l)
  generalize trimR (trimF l) = T at *
  cases T with
  | nil => simp
  | cons c t => rw [hr] at h; exact h
theorem trimS_last (l : List UInt8) : (trimS l).getLast? ≠ some 32 := trimR_last _
theorem trimS_twice (l : List UInt8) : trimS (trimS l) = trimS l := trimS_id _ (trimS_head l) (trimS_last l)
theorem trimS_len (l : List UInt8) : (trimS l).length ≤ l.length := by
  unfold trimS
  obtain ⟨r, hr⟩ := trimR_pre (trimF l)
  have := congrArg List.length hr
  rw [List.length_append, trimF_ind, List.length_drop] at this
  rw [trimF_ind] at *
  omega
theorem trimS_around (l : List UInt8) (h1 : l.head? ≠ some 32) (h2 : l.getLast? ≠ some 32) : trimS (32 :: (l ++ [32])) = l := by
  unfold trimS
  rw [trimF_sp]
  cases l with
  | nil => rfl
  | cons c l =>
    rw [List.cons_append, trimF_no _ _ (fun e => h1 (by rw [e]; rfl)), ← List.cons_append, trimR_sp]
    have := trimS_id (c :: l) h1 h2
    unfold trimS at this
    rw [trimF_no _ _ (fun e => h1 (by rw [e]; rfl))] at this
    exact this

/-- A byte ahead of the first part. -/
def ahead (c : UInt8) : List (List UInt8) → List (List UInt8)
  | [] => [[c]]
  | h :: t => (c :: h) :: t
/-- The parts between the separators; e: a backslash stands ahead. -/
def splitGo : Bool → List UInt8 → List (List UInt8)
  | _, [] => [[]]
  | e, c :: l => if c = 124 ∧ e = false then [] :: splitGo false l else ahead c (splitGo (c == 92) l)
theorem splitGo_sep (l : List UInt8) : splitGo false (124 :: l) = [] :: splitGo false l := by
  show (if (124 : UInt8) = 124 ∧ false = false then _ else _) = _
  rw [if_pos ⟨rfl, rfl⟩]
theorem splitGo_no (e : Bool) (c : UInt8) (l : List UInt8) (h : ¬ (c = 124 ∧ e = false)) : splitGo e (c :: l) = ahead c (splitGo (c == 92) l) := by
  show (if _ then _ else _) = _
  rw [if_neg h]
theorem splitGo_ne : ∀ (l : List UInt8) (e : Bool), splitGo e l ≠ []
  | [], _ => by simp [splitGo]
  | c :: l, e => by
    unfold splitGo
    split
    · simp
    · have := splitGo_ne l (c == 92)
      cases h : splitGo (c == 92) l with
      | nil => exact absurd h this
      | cons a b => simp [ahead]
/-- A text ahead of the first part. -/
def aheadL : List UInt8 → List (List UInt8) → List (List UInt8)
  | p, [] => [p]
  | p, h :: t => (p ++ h) :: t
theorem aheadL_snoc (p : List UInt8) (c : UInt8) (ls : List (List UInt8)) (h : ls ≠ []) : aheadL p (ahead c ls) = aheadL (p ++ [c]) ls := by
  cases ls with
  | nil => exact absurd rfl h
  | cons a b => simp [ahead, aheadL]
theorem aheadL_nil (ls : List (List UInt8)) (h : ls ≠ []) : aheadL [] ls = ls := by
  cases ls with
  | nil => exact absurd rfl h
  | cons a b => rfl

/-- The byte at i is a separator. -/
def sepB (s : ByteArray) (i : Nat) : Bool := bt s i == 124 && (i == 0 || bt s (i - 1) != 92)
/-- A backslash stands ahead of i. -/
def slB (s : ByteArray) (i : Nat) : Bool := decide (0 < i) && bt s (i - 1) == 92
/-- The parts from i on, the first of which began at a. -/
def restP (s : ByteArray) (a i : Nat) : List (List UInt8) := aheadL (sub s a i) (splitGo (slB s i) (sfx s i))
theorem sub_self (s : ByteArray) (i : Nat) : sub s i i = [] := by unfold sub; simp
theorem sub_snoc (s : ByteArray) (a i : Nat) (h : a ≤ i) (hi : i < s.size) : sub s a (i + 1) = sub s a i ++ [s.get! i] := by
  unfold sub
  rw [show i + 1 - a = (i - a) + 1 by omega, List.take_add_one]
  congr 1
  rw [List.getElem?_drop, show a + (i - a) = i by omega]
  have := sfx_cons s i hi
  unfold sfx at this
  have h2 : (bytesL s)[i]? = some (s.get! i) := by
    rw [← List.head?_drop, this]; rfl
  rw [h2]; rfl
theorem sepB_iff (s : ByteArray) (i : Nat) : sepB s i = true ↔ (s.get! i = 124 ∧ slB s i = false) := by
  have h : s.get! i = 124 ↔ bt s i = 124 := bt_u8 s i 124 (by decide)
  unfold sepB slB
  rw [h]
  simp only [Bool.and_eq_true, Bool.or_eq_true, beq_iff_eq, bne_iff_ne, ne_eq, Bool.and_eq_false_iff, decide_eq_false_iff_not, beq_eq_false_iff_ne]
  constructor
  · rintro ⟨h1, h2 | h2⟩
    · exact ⟨h1, Or.inl (by omega)⟩
    · exact ⟨h1, Or.inr h2⟩
  · rintro ⟨h1, h2 | h2⟩
    · exact ⟨h1, Or.inl (by omega)⟩
    · exact ⟨h1, Or.inr h2⟩
theorem slB_succ (s : ByteArray) (i : Nat) : slB s (i + 1) = (s.get! i == 92) := by
  have h : s.get! i = 92 ↔ bt s i = 92 := bt_u8 s i 92 (by decide)
  unfold slB
  rw [Bool.eq_iff_iff]
  simp only [Nat.add_sub_cancel, Bool.and_eq_true, decide_eq_true_eq, beq_iff_eq, h]
  exact ⟨fun e => e.2, fun e => ⟨by omega, e⟩⟩
theorem restP_sep (s : ByteArray) (a i : Nat) (hi : i < s.size) (h : sepB s i = true) : restP s a i = sub s a i :: restP s (i + 1) (i + 1) := by
  obtain ⟨h1, h2⟩ := (sepB_iff s i).1 h
  unfold restP
  rw [sfx_cons s i hi, h2, h1, splitGo_sep, sub_self, aheadL_nil _ (splitGo_ne _ _), slB_succ, h1]
  show (sub s a i ++ []) :: _ = _
  rw [List.append_nil]; rfl
theorem restP_no (s : ByteArray) (a i : Nat) (ha : a ≤ i) (hi : i < s.size) (h : sepB s i = false) : restP s a i = restP s a (i + 1) := by
  have h' : ¬ (s.get! i = 124 ∧ slB s i = false) := fun e => by rw [(sepB_iff s i).2 e] at h; exact absurd h (by simp)
  unfold restP
  rw [sfx_cons s i hi, splitGo_no _ _ _ h', aheadL_snoc _ _ _ (splitGo_ne _ _), sub_snoc s a i ha hi, slB_succ]
theorem restP_end (s : ByteArray) (a i : Nat) (hi : s.size ≤ i) : restP s a i = [sub s a i] := by
  unfold restP
  rw [sfx_nil s i hi]
  show [sub s a i ++ []] = _
  rw [List.append_nil]
theorem restP_zero (s : ByteArray) : restP s 0 0 = splitGo false (bytesL s) := by
  unfold restP
  rw [sub_self, aheadL_nil _ (splitGo_ne _ _)]; rfl
theorem aheadL_len (p : List UInt8) (ls : List (List UInt8)) (h : ls ≠ []) : (aheadL p ls).length = ls.length := by
  cases ls with
  | nil => exact absurd rfl h
  | cons a b => rfl
theorem splitGo_len : ∀ (l : List UInt8) (e : Bool), (splitGo e l).length ≤ l.length + 1
  | [], _ => by simp [splitGo]
  | c :: l, e => by
    unfold splitGo
    split
    · have := splitGo_len l false; simp; omega
    · have := splitGo_len l (c == 92)
      have h := splitGo_ne l (c == 92)
      cases hs : splitGo (c == 92) l with
      | nil => exact absurd hs h
      | cons a b => rw [hs] at this; simp [ahead] at this ⊢; omega
theorem splitGo_mem : ∀ (l : List UInt8) (e : Bool), ∀ p ∈ splitGo e l, p.length ≤ l.length
  | [], _, p, hp => by simp [splitGo] at hp; subst hp; simp
  | c :: l, e, p, hp => by
    unfold splitGo at hp
    split at hp
    · rcases List.mem_cons.1 hp with rfl | hp
      · simp
      · have := splitGo_mem l false p hp; simp; omega
    · cases hs : splitGo (c == 92) l with
      | nil => exact absurd hs (splitGo_ne _ _)
      | cons a b =>
        rw [hs] at hp
        rcases List.mem_cons.1 hp with rfl | hp
        · have := splitGo_mem l (c == 92) a (by rw [hs]; exact List.mem_cons_self); simp; omega
        · have := splitGo_mem l (c == 92) p (by rw [hs]; exact List.mem_cons_of_mem _ hp); simp; omega

/-- A bar behind a backslash becomes a bar. -/
def unbarL : List UInt8 → List UInt8
  | [] => []
  | c :: l => if c = 92 ∧ l.head? = some 124 then (match l with | [] => [] | d :: l' => d :: unbarL l') else c :: unbarL l
theorem unbarL_cons (c : UInt8) (l : List UInt8) : unbarL (c :: l) = if c = 92 ∧ l.head? = some 124 then (match l with | [] => [] | d :: l' => d :: unbarL l') else c :: unbarL l := by cases l <;> rfl
theorem unbarL_hit (l : List UInt8) : unbarL (92 :: 124 :: l) = 124 :: unbarL l := by rw [unbarL_cons, if_pos ⟨rfl, rfl⟩]
theorem unbarL_no (c : UInt8) (l : List UInt8) (h : ¬ (c = 92 ∧ l.head? = some 124)) : unbarL (c :: l) = c :: unbarL l := by rw [unbarL_cons, if_neg h]
/-- Each bar behind a backslash. -/
def barL (l : List UInt8) : List UInt8 := l.flatMap fun c => if c = 124 then [92, 124] else [c]
theorem barL_cons (c : UInt8) (l : List UInt8) : barL (c :: l) = (if c = 124 then [92, 124] else [c]) ++ barL l := rfl

def oldU : List UInt8 := [92, 124]
theorem occ_old (l : List UInt8) (i : Nat) : Lib.occAt l oldU i = true ↔ ((l.drop i).head? = some 92 ∧ (l.drop (i + 1)).head? = some 124) := by
  unfold Lib.occAt oldU
  rw [← List.drop_drop]
  generalize l.drop i = m
  cases m with
  | nil => simp
  | cons a m =>
    cases m with
    | nil => simp
    | cons b m =>
      show ((92 : UInt8) == a && ((124 : UInt8) == b && true)) = true ↔ (some a = some 92 ∧ some b = some 124)
      simp only [Bool.and_true, Bool.and_eq_true, beq_iff_eq, Option.some.injEq]
      exact ⟨fun h => ⟨h.1.symm, h.2.symm⟩, fun h => ⟨h.1.symm, h.2.symm⟩⟩
theorem occ_zero (c : UInt8) (l : List UInt8) : Lib.occAt (c :: l) oldU 0 = true ↔ (c = 92 ∧ l.head? = some 124) := by
  rw [occ_old]; simp
theorem occ_succ (c : UInt8) (l s : List UInt8) (i : Nat) : Lib.occAt (c :: l) s (i + 1) = Lib.occAt l s i := rfl
theorem unbar_none : ∀ l : List UInt8, (∀ j, j ≤ l.length → Lib.occAt l oldU j = false) → unbarL l = l
  | [], _ => rfl
  | c :: l, h => by
    rw [unbarL_no c l (fun e => by have := h 0 (by simp); rw [(occ_zero c l).2 e] at this; exact absurd this (by simp)), unbar_none l (fun j hj => by rw [← occ_succ c]; exact h (j + 1) (by simp; omega))]
theorem unbar_first : ∀ (i : Nat) (l : List UInt8), Lib.occAt l oldU i = true → Lib.NoOcc l oldU i → unbarL l = l.take i ++ [124] ++ unbarL (l.drop (i + 2))
  | 0, l, h, _ => by
    match l with
    | [] => simp [Lib.occAt, oldU] at h
    | [c] => rw [occ_zero] at h; simp at h
    | c :: d :: l =>
      rw [occ_zero] at h
      obtain ⟨rfl, h⟩ := h
      obtain rfl : d = 124 := by simpa using h
      rw [unbarL_hit]; rfl
  | i + 1, l, h, hn => by
    match l with
    | [] => simp [Lib.occAt, oldU] at h
    | c :: l =>
      rw [occ_succ] at h
      have h0 := hn 0 (by omega)
      rw [unbarL_no c l (fun e => by rw [(occ_zero c l).2 e] at h0; exact absurd h0 (by simp)), unbar_first i l h (fun j hj => by rw [← occ_succ c]; exact hn (j + 1) (by omega))]
      rfl
theorem repl_unbar : ∀ (n : Nat) (l : List UInt8), l.length ≤ n → Lib.replaceK oldU [124] (Lib.count l oldU) l = unbarL l
  | n, l, hl => by
    rcases Lib.index_spec l oldU with ⟨h1, h2⟩ | ⟨i, h1, h2, h3, h4⟩
    · rw [Lib.count_miss h1, unbar_none l h2]; rfl
    · have hr := Lib.index_room l oldU (by rw [h1]; omega)
      rw [h1] at hr
      have hr2 : i + 2 ≤ l.length := by have : oldU.length = 2 := rfl; omega
      rw [Lib.count_hit (by decide) h1, Nat.add_comm, Lib.replaceK_hit _ _ _ _ i h1, unbar_first i l h3 h4]
      match n with
      | 0 => omega
      | n + 1 => rw [repl_unbar n (l.drop (i + oldU.length)) (by rw [List.length_drop]; have : oldU.length = 2 := rfl; omega)]; rfl
theorem occ_bar (c : UInt8) (l : List UInt8) : Lib.occAt (c :: l) [124] 0 = true ↔ c = 124 := by
  show ((124 : UInt8) == c && true) = true ↔ c = 124
  simp only [Bool.and_true, beq_iff_eq]
  exact ⟨Eq.symm, Eq.symm⟩
theorem bar_none : ∀ l : List UInt8, (∀ j, j ≤ l.length → Lib.occAt l [124] j = false) → barL l = l
  | [], _ => rfl
  | c :: l, h => by
    rw [barL_cons, if_neg (fun e => by have := h 0 (by simp); rw [(occ_bar c l).2 e] at this; exact absurd this (by simp)), bar_none l (fun j hj => by rw [← occ_succ c]; exact h (j + 1) (by simp; omega))]; rfl
theorem bar_first : ∀ (i : Nat) (l : List UInt8), Lib.occAt l [124] i = true → Lib.NoOcc l [124] i → barL l = l.take i ++ [92, 124] ++ barL (l.drop (i + 1))
  | 0, l, h, _ => by
    match l with
    | [] => simp [Lib.occAt] at h
    | c :: l =>
      rw [occ_bar] at h
      rw [barL_cons, if_pos h]; rfl
  | i + 1, l, h, hn => by
    match l with
    | [] => simp [Lib.occAt] at h
    | c :: l =>
      rw [occ_succ] at h
      have h0 := hn 0 (by omega)
      rw [barL_cons, if_neg (fun e => by rw [(occ_bar c l).2 e] at h0; exact absurd h0 (by simp)), bar_first i l h (fun j hj => by rw [← occ_succ c]; exact hn (j + 1) (by omega))]
      rfl
theorem repl_bar : ∀ (n : Nat) (l : List UInt8), l.length ≤ n → Lib.replaceK [124] [92, 124] (Lib.count l [124]) l = barL l
  | n, l, hl => by
    rcases Lib.index_spec l [124] with ⟨h1, h2⟩ | ⟨i, h1, h2, h3, h4⟩
    · rw [Lib.count_miss h1, bar_none l h2]; rfl
    · have hr := Lib.index_room l [124] (by rw [h1]; omega)
      rw [h1] at hr
      have hr2 : i + 1 ≤ l.length := by simp at hr; omega
      rw [Lib.count_hit (by decide) h1, Nat.add_comm, Lib.replaceK_hit _ _ _ _ i h1, bar_first i l h3 h4]
      match n with
      | 0 => omega
      | n + 1 => rw [repl_bar n (l.drop (i + ([124] : List UInt8).length)) (by rw [List.length_drop]; simp; omega)]; rfl
end Go.Pub
