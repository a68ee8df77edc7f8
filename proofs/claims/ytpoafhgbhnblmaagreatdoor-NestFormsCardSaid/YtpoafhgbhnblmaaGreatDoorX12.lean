/-
  Texts of the proof, put together (what this law reaches): TabP, TabA, TabB, RegIn, MkB.
-/
import Derived.Test.YtpoafhgbhnblmaaGreatDoorX05
import Derived.Lib.ReplaceLaws
import Derived.Lib.IndexMore
import Derived.Test.YtpoafhgbhnblmaaGreatDoorX02
import Derived.Test.YtpoafhgbhnblmaaGreatDoorProg
import Derived.WalkKit
import Derived.Lib.Hide
import Derived.RangeFuncNested
import Derived.RangeFuncBound
import Derived.RangeFuncCalls
import Derived.RangeFuncLeaves
import Derived.Shelf.Abstract
import Derived.Shelf.RegionOpen
import Derived.OwnWalkIn
import Derived.TacticsInMore
import Derived.LoopNIn
import Derived.LoopIn
import Derived.Deep.RegionHeld3
import Derived.OrdersIn
import Derived.TacticsIn
import Derived.RangeFuncBox
import Derived.Test.YtpoafhgbhnblmaaGreatDoorX06
import Derived.Outline
set_option linter.unusedVariables false
set_option linter.unusedSimpArgs false
namespace Go.Pub
/-- Without the spaces ahead. -/
def trimF (l : List UInt8) : List UInt8 := l.dropWhile (· == 32)
/-- Without the spaces at the end. -/
def trimR (l : List UInt8) : List UInt8 := (l.reverse.dropWhile (· == 32)).reverse
def trimS (l : List UInt8) : List UInt8 := trimR (trimF l)
theorem trimR_sp (l : List UInt8) : trimR (l ++ [32]) = trimR l := by
  unfold trimR
  rw [List.reverse_append]
  show ((32 :: l.reverse).dropWhile _).reverse = _
  rw [List.dropWhile_cons_of_pos (by decide)]
theorem trimR_no (l : List UInt8) (c : UInt8) (h : c ≠ 32) : trimR (l ++ [c]) = l ++ [c] := by
  unfold trimR
  rw [List.reverse_append]
  show ((c :: l.reverse).dropWhile _).reverse = _
  rw [List.dropWhile_cons_of_neg (by simpa using h)]
  simp
theorem trimF_sp (l : List UInt8) : trimF (32 :: l) = trimF l := by
  unfold trimF; rw [List.dropWhile_cons_of_pos (by decide)]
theorem trimF_no (l : List UInt8) (c : UInt8) (h : c ≠ 32) : trimF (c :: l) = c :: l := by
  unfold trimF; rw [List.dropWhile_cons_of_neg (by simpa using h)]
/-- The number of spaces ahead. -/
def indN : List UInt8 → Nat
  | [] => 0
  | c :: l => if c = 32 then indN l + 1 else 0
theorem trimF_ind : ∀ l : List UInt8, trimF l = l.drop (indN l)
  | [] => rfl
  | c :: l => by
    unfold indN
    split
    · rename_i h; subst h; rw [trimF_sp, trimF_ind l]; rfl
    · rename_i h; rw [trimF_no _ _ h]; rfl
theorem indN_le : ∀ l : List UInt8, indN l ≤ l.length
  | [] => Nat.le_refl _
  | c :: l => by unfold indN; have := indN_le l; split <;> simp <;> omega
theorem trimF_head (l : List UInt8) : (trimF l).head? ≠ some 32 := by
  induction l with
  | nil => decide
  | cons c l ih =>
    by_cases h : c = 32
    · subst h; rw [trimF_sp]; exact ih
    · rw [trimF_no _ _ h]; simpa using h
theorem trimR_pre (l : List UInt8) : ∃ r, l = trimR l ++ r := by
  unfold trimR
  refine ⟨(l.reverse.takeWhile (· == 32)).reverse, ?_⟩
  rw [← List.reverse_append, List.takeWhile_append_dropWhile, List.reverse_reverse]
theorem trimS_len (l : List UInt8) : (trimS l).length ≤ l.length := by
  unfold trimS
  obtain ⟨r, hr⟩ := trimR_pre (trimF l)
  have := congrArg List.length hr
  rw [List.length_append, trimF_ind, List.length_drop] at this
  rw [trimF_ind] at *
  omega
/-- A byte ahead of the first part. -/
def ahead (c : UInt8) : List (List UInt8) → List (List UInt8)
  | [] => [[c]]
  | h :: t => (c :: h) :: t
/-- The parts between the separators; e: a backslash stands ahead. -/
def splitGo : Bool → List UInt8 → List (List UInt8)
  | _, [] => [[]]
  | e, c :: l => if c = 124 ∧ e = false then [] :: splitGo false l else ahead c (splitGo (c == 92) l)
theorem splitGo_sep (l : List UInt8) : splitGo false (124 :: l) = [] :: splitGo false l := by
  show (if (124 : UInt8) = 124 ∧ false = false then _ else _) = _
  rw [if_pos ⟨rfl, rfl⟩]
theorem splitGo_no (e : Bool) (c : UInt8) (l : List UInt8) (h : ¬ (c = 124 ∧ e = false)) : splitGo e (c :: l) = ahead c (splitGo (c == 92) l) := by
  show (if _ then _ else _) = _
  rw [if_neg h]
theorem splitGo_ne : ∀ (l : List UInt8) (e : Bool), splitGo e l ≠ []
  | [], _ => by simp [splitGo]
  | c :: l, e => by
    unfold splitGo
    split
    · simp
    · have := splitGo_ne l (c == 92)
      cases h : splitGo (c == 92) l with
      | nil => exact absurd h this
      | cons a b => simp [ahead]
/-- A text ahead of the first part. -/
def aheadL : List UInt8 → List (List UInt8) → List (List UInt8)
  | p, [] => [p]
  | p, h :: t => (p ++ h) :: t
theorem aheadL_snoc (p : List UInt8) (c : UInt8) (ls : List (List UInt8)) (h : ls ≠ []) : aheadL p (ahead c ls) = aheadL (p ++ [c]) ls := by
  cases ls with
  | nil => exact absurd rfl h
  | cons a b => simp [ahead, aheadL]
theorem aheadL_nil (ls : List (List UInt8)) (h : ls ≠ []) : aheadL [] ls = ls := by
  cases ls with
  | nil => exact absurd rfl h
  | cons a b => rfl
/-- The byte at i is a separator. -/
def sepB (s : ByteArray) (i : Nat) : Bool := bt s i == 124 && (i == 0 || bt s (i - 1) != 92)
/-- A backslash stands ahead of i. -/
def slB (s : ByteArray) (i : Nat) : Bool := decide (0 < i) && bt s (i - 1) == 92
/-- The parts from i on, the first of which began at a. -/
def restP (s : ByteArray) (a i : Nat) : List (List UInt8) := aheadL (sub s a i) (splitGo (slB s i) (sfx s i))
theorem sub_self (s : ByteArray) (i : Nat) : sub s i i = [] := by unfold sub; simp
theorem sub_snoc (s : ByteArray) (a i : Nat) (h : a ≤ i) (hi : i < s.size) : sub s a (i + 1) = sub s a i ++ [s.get! i] := by
  unfold sub
  rw [show i + 1 - a = (i - a) + 1 by omega, List.take_add_one]
  congr 1
  rw [List.getElem?_drop, show a + (i - a) = i by omega]
  have := sfx_cons s i hi
  unfold sfx at this
  have h2 : (bytesL s)[i]? = some (s.get! i) := by
    rw [← List.head?_drop, this]; rfl
  rw [h2]; rfl
theorem sepB_iff (s : ByteArray) (i : Nat) : sepB s i = true ↔ (s.get! i = 124 ∧ slB s i = false) := by
  have h : s.get! i = 124 ↔ bt s i = 124 := bt_u8 s i 124 (by decide)
  unfold sepB slB
  rw [h]
  simp only [Bool.and_eq_true, Bool.or_eq_true, beq_iff_eq, bne_iff_ne, ne_eq, Bool.and_eq_false_iff, decide_eq_false_iff_not, beq_eq_false_iff_ne]
  constructor
  · rintro ⟨h1, h2 | h2⟩
    · exact ⟨h1, Or.inl (by omega)⟩
    · exact ⟨h1, Or.inr h2⟩
  · rintro ⟨h1, h2 | h2⟩
    · exact ⟨h1, Or.inl (by omega)⟩
    · exact ⟨h1, Or.inr h2⟩
theorem slB_succ (s : ByteArray) (i : Nat) : slB s (i + 1) = (s.get! i == 92) := by
  have h : s.get! i = 92 ↔ bt s i = 92 := bt_u8 s i 92 (by decide)
  unfold slB
  rw [Bool.eq_iff_iff]
  simp only [Nat.add_sub_cancel, Bool.and_eq_true, decide_eq_true_eq, beq_iff_eq, h]
  exact ⟨fun e => e.2, fun e => ⟨by omega, e⟩⟩
theorem restP_sep (s : ByteArray) (a i : Nat) (hi : i < s.size) (h : sepB s i = true) : restP s a i = sub s a i :: restP s (i + 1) (i + 1) := by
  obtain ⟨h1, h2⟩ := (sepB_iff s i).1 h
  unfold restP
  rw [sfx_cons s i hi, h2, h1, splitGo_sep, sub_self, aheadL_nil _ (splitGo_ne _ _), slB_succ, h1]
  show (sub s a i ++ []) :: _ = _
  rw [List.append_nil]; rfl
theorem restP_no (s : ByteArray) (a i : Nat) (ha : a ≤ i) (hi : i < s.size) (h : sepB s i = false) : restP s a i = restP s a (i + 1) := by
  have h' : ¬ (s.get! i = 124 ∧ slB s i = false) := fun e => by rw [(sepB_iff s i).2 e] at h; exact absurd h (by simp)
  unfold restP
  rw [sfx_cons s i hi, splitGo_no _ _ _ h', aheadL_snoc _ _ _ (splitGo_ne _ _), sub_snoc s a i ha hi, slB_succ]
theorem restP_end (s : ByteArray) (a i : Nat) (hi : s.size ≤ i) : restP s a i = [sub s a i] := by
  unfold restP
  rw [sfx_nil s i hi]
  show [sub s a i ++ []] = _
  rw [List.append_nil]
theorem restP_zero (s : ByteArray) : restP s 0 0 = splitGo false (bytesL s) := by
  unfold restP
  rw [sub_self, aheadL_nil _ (splitGo_ne _ _)]; rfl
theorem splitGo_len : ∀ (l : List UInt8) (e : Bool), (splitGo e l).length ≤ l.length + 1
  | [], _ => by simp [splitGo]
  | c :: l, e => by
    unfold splitGo
    split
    · have := splitGo_len l false; simp; omega
    · have := splitGo_len l (c == 92)
      have h := splitGo_ne l (c == 92)
      cases hs : splitGo (c == 92) l with
      | nil => exact absurd hs h
      | cons a b => rw [hs] at this; simp [ahead] at this ⊢; omega
theorem splitGo_mem : ∀ (l : List UInt8) (e : Bool), ∀ p ∈ splitGo e l, p.length ≤ l.length
  | [], _, p, hp => by simp [splitGo] at hp; subst hp; simp
  | c :: l, e, p, hp => by
    unfold splitGo at hp
    split at hp
    · rcases List.mem_cons.1 hp with rfl | hp
      · simp
      · have := splitGo_mem l false p hp; simp; omega
    · cases hs : splitGo (c == 92) l with
      | nil => exact absurd hs (splitGo_ne _ _)
      | cons a b =>
        rw [hs] at hp
        rcases List.mem_cons.1 hp with rfl | hp
        · have := splitGo_mem l (c == 92) a (by rw [hs]; exact List.mem_cons_self); simp; omega
        · have := splitGo_mem l (c == 92) p (by rw [hs]; exact List.mem_cons_of_mem _ hp); simp; omega
/-- A bar behind a backslash becomes a bar. -/
def unbarL : List UInt8 → List UInt8
  | [] => []
  | c :: l => if c = 92 ∧ l.head? = some 124 then (match l with | [] => [] | d :: l' => d :: unbarL l') else c :: unbarL l
theorem unbarL_cons (c : UInt8) (l : List UInt8) : unbarL (c :: l) = if c = 92 ∧ l.head? = some 124 then (match l with | [] => [] | d :: l' => d :: unbarL l') else c :: unbarL l := by cases l <;> rfl
theorem unbarL_hit (l : List UInt8) : unbarL (92 :: 124 :: l) = 124 :: unbarL l := by rw [unbarL_cons, if_pos ⟨rfl, rfl⟩]
theorem unbarL_no (c : UInt8) (l : List UInt8) (h : ¬ (c = 92 ∧ l.head? = some 124)) : unbarL (c :: l) = c :: unbarL l := by rw [unbarL_cons, if_neg h]
def oldU : List UInt8 := [92, 124]
theorem occ_old (l : List UInt8) (i : Nat) : Lib.occAt l oldU i = true ↔ ((l.drop i).head? = some 92 ∧ (l.drop (i + 1)).head? = some 124) := by
  unfold Lib.occAt oldU
  rw [← List.drop_drop]
  generalize l.drop i = m
  cases m with
  | nil => simp
  | cons a m =>
    cases m with
    | nil => simp
    | cons b m =>
      show ((92 : UInt8) == a && ((124 : UInt8) == b && true)) = true ↔ (some a = some 92 ∧ some b = some 124)
      simp only [Bool.and_true, Bool.and_eq_true, beq_iff_eq, Option.some.injEq]
      exact ⟨fun h => ⟨h.1.symm, h.2.symm⟩, fun h => ⟨h.1.symm, h.2.symm⟩⟩
theorem occ_zero (c : UInt8) (l : List UInt8) : Lib.occAt (c :: l) oldU 0 = true ↔ (c = 92 ∧ l.head? = some 124) := by
  rw [occ_old]; simp
theorem occ_succ (c : UInt8) (l s : List UInt8) (i : Nat) : Lib.occAt (c :: l) s (i + 1) = Lib.occAt l s i := rfl
theorem unbar_none : ∀ l : List UInt8, (∀ j, j ≤ l.length → Lib.occAt l oldU j = false) → unbarL l = l
  | [], _ => rfl
  | c :: l, h => by
    rw [unbarL_no c l (fun e => by have := h 0 (by simp); rw [(occ_zero c l).2 e] at this; exact absurd this (by simp)), unbar_none l (fun j hj => by rw [← occ_succ c]; exact h (j + 1) (by simp; omega))]
theorem unbar_first : ∀ (i : Nat) (l : List UInt8), Lib.occAt l oldU i = true → Lib.NoOcc l oldU i → unbarL l = l.take i ++ [124] ++ unbarL (l.drop (i + 2))
  | 0, l, h, _ => by
    match l with
    | [] => simp [Lib.occAt, oldU] at h
    | [c] => rw [occ_zero] at h; simp at h
    | c :: d :: l =>
      rw [occ_zero] at h
      obtain ⟨rfl, h⟩ := h
      obtain rfl : d = 124 := by simpa using h
      rw [unbarL_hit]; rfl
  | i + 1, l, h, hn => by
    match l with
    | [] => simp [Lib.occAt, oldU] at h
    | c :: l =>
      rw [occ_succ] at h
      have h0 := hn 0 (by omega)
      rw [unbarL_no c l (fun e => by rw [(occ_zero c l).2 e] at h0; exact absurd h0 (by simp)), unbar_first i l h (fun j hj => by rw [← occ_succ c]; exact hn (j + 1) (by omega))]
      rfl
theorem repl_unbar : ∀ (n : Nat) (l : List UInt8), l.length ≤ n → Lib.replaceK oldU [124] (Lib.count l oldU) l = unbarL l
  | n, l, hl => by
    rcases Lib.index_spec l oldU with ⟨h1, h2⟩ | ⟨i, h1, h2, h3, h4⟩
    · rw [Lib.count_miss h1, unbar_none l h2]; rfl
    · have hr := Lib.index_room l oldU (by rw [h1]; omega)
      rw [h1] at hr
      have hr2 : i + 2 ≤ l.length := by have : oldU.length = 2 := rfl; omega
      rw [Lib.count_hit (by decide) h1, Nat.add_comm, Lib.replaceK_hit _ _ _ _ i h1, unbar_first i l h3 h4]
      match n with
      | 0 => omega
      | n + 1 => rw [repl_unbar n (l.drop (i + oldU.length)) (by rw [List.length_drop]; have : oldU.length = 2 := rfl; omega)]; rfl
end Go.Pub
namespace Go.Pub
/-- The first byte from k on that is no space. -/
def indA (s : ByteArray) (k : Nat) : Nat := k + indN (sfx s k)
theorem g32 (s : ByteArray) (k : Nat) : s.get! k = 32 ↔ bt s k = 32 := bt_u8 s k 32 (by decide)
theorem indA_end (s : ByteArray) (k : Nat) (h : s.size ≤ k) : indA s k = k := by unfold indA; rw [sfx_nil s k h]; rfl
theorem indA_yes (s : ByteArray) (k : Nat) (h : k < s.size) (hc : bt s k = 32) : indA s k = indA s (k + 1) := by
  unfold indA; rw [sfx_cons s k h]
  show k + (if s.get! k = 32 then indN (sfx s (k + 1)) + 1 else 0) = _
  rw [if_pos ((g32 s k).2 hc)]; omega
theorem indA_no (s : ByteArray) (k : Nat) (h : k < s.size) (hc : bt s k ≠ 32) : indA s k = k := by
  unfold indA; rw [sfx_cons s k h]
  show k + (if s.get! k = 32 then indN (sfx s (k + 1)) + 1 else 0) = _
  rw [if_neg (fun e => hc ((g32 s k).1 e))]; rfl
theorem indA_le (s : ByteArray) : indA s 0 ≤ s.size := by
  unfold indA; have := indN_le (sfx s 0); rw [sfx_len] at this; omega
theorem ind_extract (s : ByteArray) : bytesL (s.extract (indA s 0) s.size) = trimF (bytesL s) := by
  rw [extract_drop, bytesL_mk', trimF_ind]
  unfold sfx indA sfx
  rw [List.drop_zero, Nat.zero_add]
theorem bytesL_snoc (x : ByteArray) (h : 0 < x.size) : bytesL x = bytesL (x.extract 0 (x.size - 1)) ++ [x.get! (x.size - 1)] := by
  have := sub_snoc x 0 (x.size - 1) (by omega) (by omega)
  rw [show x.size - 1 + 1 = x.size by omega] at this
  have e : sub x 0 x.size = bytesL x := by
    unfold sub; rw [List.drop_zero, List.take_of_length_le (by rw [bytesL_length]; omega)]
  rw [← e, this, bytesL_sub]
theorem trim_step (x : ByteArray) (h : 0 < x.size) (hc : bt x (x.size - 1) = 32) : trimR (bytesL x) = trimR (bytesL (x.extract 0 (x.size - 1))) := by
  rw [bytesL_snoc x h, (g32 x _).2 hc, trimR_sp]
theorem trim_stop (x : ByteArray) (h : 0 < x.size) (hc : bt x (x.size - 1) ≠ 32) : trimR (bytesL x) = bytesL x := by
  rw [bytesL_snoc x h, trimR_no _ _ (fun e => hc ((g32 x _).1 e))]
theorem trim_zero (x : ByteArray) (h : x.size = 0) : trimR (bytesL x) = bytesL x := by
  rw [(size_nil x).1 h]; rfl
def strLen : Value → Nat
  | .string b => b.size
  | _ => 0
end Go.Pub
namespace Go.Proofs.YtpoafhgbhnblmaaGreatDoor
open Go.RowKit Go.Pub
set_option maxRecDepth 100000 in
set_option maxHeartbeats 1000000 in
theorem t_indent (s : ByteArray) (w : World) (hs : s.size ≤ 1000000) : Calls Tryz.prog 58 #[.string s] w fun e w' => e = .returned (.int .i64 (indA s 0)) ∧ w = w' := by
  generalize hR : indA s 0 = R at *
  have HR := Lib.hid hR
  clear hR
  go_enter Tryz.func58, Tryz.ntmps58
  go_wp2
  go_loop [3] (fun v => ∃ k : Nat, k ≤ s.size ∧ v = .int .i64 k ∧ Hid (indA s k = R)) (fun v => s.size - (intOf v).toNat)
  case atStart => exact ⟨0, by omega, rfl, HR⟩
  case round =>
    obtain ⟨k, hk, rfl, Hk⟩ := hrel
    by_cases hlt : k < s.size
    · have hlt2 : ((s[k].toNat : Nat) : Int) < 256 := by rw [get_bt s k hlt]; have := bt_lt s k; omega
      by_cases hc : bt s k = 32
      · have z : (((s[k].toNat : Nat) : Int) == 32) = true := by rw [get_bt s k hlt, hc]; rfl
        have HF : Hid (indA s (k + 1) = R) := Lib.hid (by rw [← Hk.out, indA_yes s k hlt hc])
        clear hc
        go_wp2_with fail
        go_round
        case rel => exact ⟨k + 1, by omega, by go_num, HF⟩
        case measure => simp [intOf]; omega
      · have z : (((s[k].toNat : Nat) : Int) == 32) = false := by rw [get_bt s k hlt, beq_eq_false_iff_ne]; omega
        have HF : Hid (k = R) := Lib.hid (by rw [← Hk.out, indA_no s k hlt hc])
        clear hc
        go_wp2_with fail
        go_ret
        exact ⟨ret_int (by rw [HF.out]), rfl⟩
    · have HF : Hid (k = R) := Lib.hid (by rw [← Hk.out, indA_end s k (by omega)])
      go_wp2_with fail
      go_ret
      exact ⟨ret_int (by rw [HF.out]), rfl⟩

set_option maxRecDepth 100000 in
set_option maxHeartbeats 1000000 in
theorem t_trim (s : ByteArray) (w : World) (hs : s.size ≤ 1000000) : Calls Tryz.prog 105 #[.string s] w fun e w' => e = .returned (.string (mk (trimS (bytesL s)))) ∧ w = w' := by
  have HI := Lib.hid fun W => t_indent s W hs
  have hi := indA_le s
  have HX := Lib.hid (show trimR (bytesL (s.extract (indA s 0) s.size)) = trimS (bytesL s) by rw [ind_extract]; rfl)
  have hz : (s.extract (indA s 0) s.size).size ≤ s.size := by rw [ByteArray.size_extract]; omega
  generalize trimS (bytesL s) = R at *
  generalize indA s 0 = I at *
  go_enter Tryz.func105, Tryz.ntmps105
  go_wp2_with fail
  ((with_reducible refine (HI.out _).mono ?_))
  rintro e w0 ⟨rfl, rfl⟩
  go_wp2_with fail
  go_loop [0] (fun v => ∃ x : ByteArray, v = .string x ∧ x.size ≤ s.size ∧ Hid (trimR (bytesL x) = R)) (fun v => strLen v)
  case atStart => exact ⟨_, rfl, hz, HX⟩
  case round =>
    clear hz HX
    obtain ⟨x, rfl, hx, Hx⟩ := hrel
    by_cases h0 : x.size = 0
    · have HF : Hid (mk R = x) := Lib.hid (by rw [← Hx.out, trim_zero x h0, mk_bytesL])
      obtain ⟨x1, x2⟩ := nil_list x ((size_nil x).1 h0)
      go_wp2_with fail
      go_ret
      exact ⟨ret_str HF.out.symm, rfl⟩
    · obtain ⟨x1, x2⟩ := cons_list x (fun e => h0 ((size_nil x).2 e))
      have hpos : 0 < x.size := by omega
      have hlt : x.size - 1 < x.size := by omega
      have hcast : ((x.size : Int) - 1) = ((x.size - 1 : Nat) : Int) := by omega
      have hnat : ((x.size : Int) - 1).toNat = x.size - 1 := by omega
      by_cases hc : bt x (x.size - 1) = 32
      · have z : (((x[x.size - 1].toNat : Nat) : Int) == 32) = true := by rw [get_bt x _ hlt, hc]; rfl
        have HF : Hid (trimR (bytesL (x.extract 0 (x.size - 1))) = R) := Lib.hid (by rw [← Hx.out, trim_step x hpos hc])
        have hz : (x.extract 0 (x.size - 1)).size = x.size - 1 := by rw [ByteArray.size_extract]; omega
        clear hc h0
        go_wp2_with fail
        go_round
        case rel => exact ⟨_, by rfl, by rw [hz]; omega, HF⟩
        case measure => simp only [strLen]; rw [hz]; omega
      · have z : (((x[x.size - 1].toNat : Nat) : Int) == 32) = false := by rw [get_bt x _ hlt, beq_eq_false_iff_ne]; omega
        have HF : Hid (mk R = x) := Lib.hid (by rw [← Hx.out, trim_stop x hpos hc, mk_bytesL])
        clear hc h0
        go_wp2_with fail
        go_ret
        exact ⟨ret_str HF.out.symm, rfl⟩

set_option maxRecDepth 100000 in
set_option maxHeartbeats 1000000 in
theorem t_sep (s : ByteArray) (i : Nat) (w : World) (hs : s.size ≤ 1000000) (hi : i < s.size) : Calls Tryz.prog 213 #[.string s, .int .i64 i] w fun e w' => e = .returned (.bool (sepB s i)) ∧ w = w' := by
  have hE : sepB s i = (bt s i == 124 && (i == 0 || bt s (i - 1) != 92)) := rfl
  by_cases h1 : bt s i = 124
  · have z1 : (((s[i].toNat : Nat) : Int) == 124) = true := by rw [get_bt s i hi, h1]; rfl
    by_cases h2 : i = 0
    · subst h2
      have HF : Hid (sepB s 0 = true) := Lib.hid (by rw [hE, h1]; rfl)
      clear hE h1
      generalize sepB s 0 = R at *
      go_enter Tryz.func213, Tryz.ntmps213
      go_wp2_with fail
      go_ret
      exact ⟨ret_bool HF.out.symm, rfl⟩
    · have hlt : i - 1 < s.size := by omega
      have hnat : ((i : Int) - 1).toNat = i - 1 := by omega
      have HF : Hid (sepB s i = ((i : Int) == 0 || ((s[i - 1].toNat : Nat) : Int) != 92)) := Lib.hid (by
        rw [hE, h1, get_bt s _ hlt, show (i == 0) = false by rw [beq_eq_false_iff_ne]; exact h2, show ((i : Int) == 0) = false by rw [beq_eq_false_iff_ne]; omega]
        show (bt s (i - 1) != 92) = (((bt s (i - 1) : Nat) : Int) != 92)
        rw [Bool.eq_iff_iff]; simp only [bne_iff_ne, ne_eq]; omega)
      clear hE h1
      generalize sepB s i = R at *
      go_enter Tryz.func213, Tryz.ntmps213
      go_wp2_with fail
      go_ret
      exact ⟨ret_bool HF.out.symm, rfl⟩
  · have z1 : (((s[i].toNat : Nat) : Int) == 124) = false := by rw [get_bt s i hi, beq_eq_false_iff_ne]; omega
    have HF : Hid (sepB s i = false) := Lib.hid (by rw [hE, beq_eq_false_iff_ne.2 h1]; rfl)
    clear hE h1
    generalize sepB s i = R at *
    go_enter Tryz.func213, Tryz.ntmps213
    go_wp2_with fail
    go_ret
    exact ⟨ret_bool HF.out.symm, rfl⟩

end Go.Proofs.YtpoafhgbhnblmaaGreatDoor
namespace Go.Pub
/-- A part, with its bound. -/
abbrev Pt := { x : ByteArray // x.size ≤ 1000000 }
def toPt (p : List UInt8) : Pt := if h : p.length ≤ 1000000 then ⟨mk p, by rw [mk_size]; exact h⟩ else ⟨⟨#[]⟩, by show 0 ≤ _; omega⟩
theorem toPt_val (p : List UInt8) (h : p.length ≤ 1000000) : (toPt p).1 = mk p := by unfold toPt; rw [dif_pos h]
theorem extract_sub (s : ByteArray) (a i : Nat) : s.extract a i = mk (sub s a i) := by rw [← bytesL_sub, mk_bytesL]
theorem toPt_sub (s : ByteArray) (a i : Nat) (h : s.size ≤ 1000000) : (toPt (sub s a i)).1 = s.extract a i := by
  rw [toPt_val _ (by have := sub_len s a i; omega), extract_sub]
/-- The line without the spaces around it and the bar ahead. -/
def core1 (l : List UInt8) : ByteArray := mk (Lib.trimPrefix (trimS l) [124])
/-- What is parted. -/
def coreB (l : List UInt8) : ByteArray := if 0 < (core1 l).size ∧ sepB (core1 l) ((core1 l).size - 1) = true then (core1 l).extract 0 ((core1 l).size - 1) else core1 l
/-- The parts of a line. -/
def partsL (l : List UInt8) : List (List UInt8) := splitGo false (bytesL (coreB l))
theorem core1_size (l : List UInt8) : (core1 l).size ≤ l.length := by
  unfold core1 Lib.trimPrefix
  rw [mk_size]
  have := trimS_len l
  split
  · rw [List.length_drop]; omega
  · exact this
theorem coreB_size (l : List UInt8) : (coreB l).size ≤ l.length := by
  have := core1_size l
  unfold coreB
  split
  · rw [ByteArray.size_extract]; omega
  · exact this
end Go.Pub
namespace Go.Proofs.YtpoafhgbhnblmaaGreatDoor
open Go.RowKit Go.Pub Go.Shelf
attribute [local go_sem] Oper.semAt_some
set_option maxRecDepth 100000 in
set_option maxHeartbeats 1000000 in
theorem t_parts (s : ByteArray) (w : World) (hs : s.size ≤ 1000000) : Calls Tryz.prog 171 #[.string s] w fun e w' =>
    e = .returned (.func (.func 214) #[] #[.pointer (some ⟨w.heap.size, 0, none⟩)]) ∧ w' = w.alloc (.cells #[.string (coreB (bytesL s))] 9) := by
  have HT := Lib.hid fun W => t_trim s W hs
  have HP : Hid (∀ W, Calls Tryz.prog 212 #[.string (mk (trimS (bytesL s))), .string ⟨#[124]⟩] W fun e w' => e = .returned (.string (core1 (bytesL s))) ∧ w' = W) := Lib.hid fun W => by
    have h := Tryz.strings_TrimPrefix (mk (trimS (bytesL s))) ⟨#[124]⟩ W
    exact h
  have HX : Hid (coreB (bytesL s) = if 0 < (core1 (bytesL s)).size ∧ sepB (core1 (bytesL s)) ((core1 (bytesL s)).size - 1) = true then (core1 (bytesL s)).extract 0 ((core1 (bytesL s)).size - 1) else core1 (bytesL s)) := Lib.hid rfl
  have hz := core1_size (bytesL s)
  rw [bytesL_length] at hz
  generalize coreB (bytesL s) = R at *
  generalize core1 (bytesL s) = C at *
  generalize mk (trimS (bytesL s)) = T at *
  by_cases h0 : 0 < C.size
  · have hnat : ((C.size : Int) - 1).toNat = C.size - 1 := by omega
    have hcast : ((C.size : Int) - 1) = ((C.size - 1 : Nat) : Int) := by omega
    have HS := Lib.hid fun W => t_sep C (C.size - 1) W (by omega) (by omega)
    cases hsb : sepB C (C.size - 1)
    · have HF : Hid (R = C) := Lib.hid (by rw [HX.out, if_neg (by rw [hsb]; simp)])
      rw [hsb] at HS
      clear hsb
      go_enter Tryz.func171, Tryz.ntmps171
      go_wp2_with fail
      ((with_reducible refine (HT.out _).mono ?_))
      rintro e w0 ⟨rfl, rfl⟩
      go_wp2_with fail
      ((with_reducible refine (HP.out _).mono ?_))
      rintro e w0 ⟨rfl, rfl⟩
      go_wp2_with fail
      ((with_reducible refine (HS.out _).mono ?_))
      rintro e w0 ⟨rfl, rfl⟩
      go_wp2_with fail
      go_ret
      exact ⟨rfl, by rw [HF.out]⟩
    · have HF : Hid (R = C.extract 0 (C.size - 1)) := Lib.hid (by rw [HX.out, if_pos ⟨h0, hsb⟩])
      rw [hsb] at HS
      clear hsb
      go_enter Tryz.func171, Tryz.ntmps171
      go_wp2_with fail
      ((with_reducible refine (HT.out _).mono ?_))
      rintro e w0 ⟨rfl, rfl⟩
      go_wp2_with fail
      ((with_reducible refine (HP.out _).mono ?_))
      rintro e w0 ⟨rfl, rfl⟩
      go_wp2_with fail
      ((with_reducible refine (HS.out _).mono ?_))
      rintro e w0 ⟨rfl, rfl⟩
      go_wp2_with fail
      go_ret
      exact ⟨rfl, by rw [HF.out]⟩
  · have HF : Hid (R = C) := Lib.hid (by rw [HX.out, if_neg (fun e => h0 e.1)])
    go_enter Tryz.func171, Tryz.ntmps171
    go_wp2_with fail
    ((with_reducible refine (HT.out _).mono ?_))
    rintro e w0 ⟨rfl, rfl⟩
    go_wp2_with fail
    ((with_reducible refine (HP.out _).mono ?_))
    rintro e w0 ⟨rfl, rfl⟩
    go_wp2_with fail
    go_ret
    exact ⟨rfl, by rw [HF.out]⟩

/-- A round keeps what the iterator has captured. -/
def KpB (Bn : Nat) (W W' : World) : Prop := W'.heap[Bn]? = W.heap[Bn]?
set_option maxRecDepth 100000 in
set_option maxHeartbeats 2000000 in
theorem parts_stops (n : Nat) (hn : 1 ≤ n) (Bn : Nat) (s : ByteArray) (hs : s.size ≤ 1000000) (w : World) (hB : w.heap[Bn]? = some (.cells #[.string s] 9 (0, 0))) :
    SeqStopsK Fence.wide n Tryz.prog 214 #[.pointer (some ⟨Bn, 0, none⟩)] (fun x : Pt => #[Value.string x.1]) (KpB Bn) (fun ys => ys = (restP s 0 0).map toPt) (fun pre => pre <+: (restP s 0 0).map toPt) (restP s 0 0).length w := fun l J Jx W hW _ _ hY h0 => by
  have hlt : Bn < w.heap.size := by
    rcases Nat.lt_or_ge Bn w.heap.size with h | h
    · exact h
    · rw [Array.getElem?_eq_none h] at hB; cases hB
  have hBW : W.heap[Bn]? = some (.cells #[.string s] 9 (0, 0)) := (hW.block Bn hlt).trans hB
  have hcW : W.cell? ⟨Bn, 0, none⟩ = some (.string s) := cell_of_row W Bn 0 _ _ _ hBW
  have HA : Hid (restP s 0 0 = restP s 0 0) := Lib.hid rfl
  generalize hall : restP s 0 0 = all at *
  have HALL := Lib.hid hall
  clear hall HA
  refine callsIn_of_wp Tryz.func214 rfl trivial ?_ rfl
  simp only [Tryz.ntmps214, List.size_toArray, List.length_cons, List.length_nil, Nat.reduceAdd, Nat.reduceSub, Array.replicate_succ, Array.replicate_zero, List.push_toArray, List.append_toArray, List.nil_append, List.cons_append]
  gi_wp2
  gi_loopw [3, 7] (fun v3 v7 wr => ∃ (a i : Nat) (done : List (List UInt8)), v3 = .int .i64 a ∧ v7 = .int .i64 i ∧ a ≤ i ∧ i ≤ s.size ∧ wr.heap[Bn]? = some (.cells #[.string s] 9 (0, 0)) ∧ Hid (done ++ restP s a i = all) ∧ J (done.map toPt) wr)
    (fun _ v7 _ => s.size - (intOf v7).toNat)
  case atStart => exact ⟨0, 0, [], rfl, rfl, by omega, by omega, hBW, HALL, h0⟩
  case round =>
    clear hcW hBW h0
    obtain ⟨a, i, done, rfl, rfl, hai, hi, hBr, Hall, hJs⟩ := hrel
    have hc : wr.cell? ⟨Bn, 0, none⟩ = some (.string s) := cell_of_row wr Bn 0 _ _ _ hBr
    by_cases hlt2 : i < s.size
    · have HS := Lib.hid fun W => callsIn_wide (n := n - 1).2 (t_sep s i W hs hlt2)
      cases hsb : sepB s i
      · rw [hsb] at HS
        have HN : Hid (done ++ restP s a (i + 1) = all) := Lib.hid (by rw [← restP_no s a i hai hlt2 hsb]; exact Hall.out)
        clear hsb
        gi_wp2_with fail
        refine ⟨trivial, ?_⟩
        ((with_reducible refine (HS.out _).mono ?_))
        rintro e w0 ⟨rfl, rfl⟩
        gi_wp2_with fail
        go_roundw
        case rel => exact ⟨a, i + 1, done, rfl, by go_num, by omega, by omega, hBr, HN, hJs⟩
        case measure => simp [intOf]; omega
      · rw [hsb] at HS
        have HN : Hid (done ++ [sub s a i] ++ restP s (i + 1) (i + 1) = all) := Lib.hid (by rw [← Hall.out, restP_sep s a i hlt2 hsb]; simp)
        clear hsb
        have ex := toPt_sub s a i hs
        obtain ⟨fn, tmps, assign, body, hy, hR⟩ := hY (done.map toPt) (toPt (sub s a i)) wr hJs (by rw [← HN.out]; simp)
        rw [ex] at hy
        gi_wp2_with fail
        refine ⟨trivial, ?_⟩
        ((with_reducible refine (HS.out _).mono ?_))
        rintro e w0 ⟨rfl, rfl⟩
        gi_wp2_with fail
        refine hR.mono ?_
        rintro e W3 (⟨rfl, hJ3, hk3⟩ | ⟨rfl, hJx3⟩)
        · have hB3 : W3.heap[Bn]? = some (.cells #[.string s] 9 (0, 0)) := hk3.trans hBr
          gi_wp2_with fail
          go_roundw
          case rel => exact ⟨i + 1, i + 1, done ++ [sub s a i], by go_num, by go_num, by omega, by omega, hB3, HN, by rw [List.map_append]; exact hJ3⟩
          case measure => simp [intOf]; omega
        · gi_wp2_with fail
          refine bodyPost_ret (results_none rfl _ _ _) rfl ?_
          exact ⟨⟨_, rfl⟩, .inr ⟨_, ⟨(restP s (i + 1) (i + 1)).map toPt, by rw [← HN.out]; simp⟩, hJx3⟩⟩
    · obtain rfl : i = s.size := by omega
      have HN : Hid (done ++ [sub s a s.size] = all) := Lib.hid (by rw [← Hall.out, restP_end s a s.size (Nat.le_refl _)])
      have ex := toPt_sub s a s.size hs
      obtain ⟨fn, tmps, assign, body, hy, hR⟩ := hY (done.map toPt) (toPt (sub s a s.size)) wr hJs (by rw [← HN.out]; simp)
      rw [ex] at hy
      gi_wp2_with fail
      refine hR.mono ?_
      rintro e W3 (⟨rfl, hJ3, hk3⟩ | ⟨rfl, hJx3⟩)
      · gi_wp2_with fail
        go_end0
        exact ⟨⟨_, rfl⟩, .inl ⟨_, by rw [← HN.out]; simp, hJ3⟩⟩
      · gi_wp2_with fail
        go_end0
        exact ⟨⟨_, rfl⟩, .inr ⟨_, ⟨[], by rw [← HN.out]; simp⟩, hJx3⟩⟩

end Go.Proofs.YtpoafhgbhnblmaaGreatDoor
namespace Go.Pub
open Go Go.RowKit
def isDefer : Op → Bool
  | .defer _ => true
  | _ => false
theorem not_defer {o : Op} (h : isDefer o = false) : ∀ c, o ≠ .defer c := by
  rintro c rfl; cases h
theorem opIn_of_wp {P : Program} {o : Oper} {a : Act} {w : World} {K : Act → World → Prop} {Q : Exit → Act → World → Prop} {l n : Nat} (hd : isDefer o.op = false) (h : o.wp P a w K Q) : o.wpIn (Fence.wide.inRound l) n P a w K Q := by
  unfold Oper.wpIn
  unfold Oper.wp at h
  refine ⟨fun _ _ => trivial, ?_⟩
  rw [show (Fence.wide.inRound l).round = some l from rfl, Oper.semAt_some l _ _ (not_defer hd)]
  generalize (execOp a.eval o).run P w = r at *
  cases r with
  | ok x w' =>
    cases x with
    | value v => exact h
    | skip => exact h
    | defer d => exact h
    | enter f args => exact ⟨fun hh => (by cases hh), CallsIn.inRound l (callsIn_wide.2 h)⟩
    | row r args => exact ⟨fun hh => (by cases hh), fun c cs _ => let ⟨v, w', hr, hs⟩ := h c cs; ⟨v, w', hr, stepsIn_wide.2 hs⟩⟩
    | _ => exact h.elim
  | halt x w' => cases x <;> first | exact h | exact h.elim
theorem anyIn_of_any {P : Program} {ops : Array Oper} {Q : Exit → Act → World → Prop} {md : Region.Mode} {l n : Nat} (hd : ∀ (i : Nat) (o : Oper), ops[i]? = some o → isDefer o.op = false) (hlo : LetsOut Q → False) :
    ∀ (fuel : Nat) (listed : Array Bool) (a : Act) (w : World), wpAny P md ops Q fuel listed a w → wpAnyIn (Fence.wide.inRound l) n P md ops Q fuel listed a w
  | 0, _, _, _, h => h
  | fuel + 1, listed, a, w, h => by
    refine ⟨h.1, fun i hi => ?_⟩
    have h1 := h.2 i hi
    unfold wpOp at h1
    unfold wpOpIn
    cases ho : ops[i]? with
    | none =>
      rw [ho] at h1
      exact anyIn_of_any hd hlo fuel _ _ _ h1
    | some o =>
      rw [ho] at h1
      simp only at h1 ⊢
      split
      · rename_i hw
        rw [if_pos hw] at h1
        rcases h1 with h1 | h1
        · exact Oper.wpIn_mono (fun a w h2 => anyIn_of_any hd hlo fuel _ a w h2) (opIn_of_wp (hd i o ho) h1)
        · exact (hlo h1.2).elim
      · rename_i hw
        rw [if_neg hw] at h1
        exact ⟨fun _ _ => trivial, anyIn_of_any hd hlo fuel _ _ _ h1⟩
/-- The region in a round, by the held walk. -/
theorem regionIn_held {P : Program} {ops : List Oper} {Q : Exit → Act → World → Prop} {S : World → Prop} {id l n : Nat} {a : Act} {w : World} (hm : P.follows .mixedOrders = true) (hd : (ops.all fun o => !isDefer o.op) = true) (hlo : LetsOut Q → False) (hS : S w.drew)
    (h : S w.drew → wpAnyH P .any ops.toArray Q S ops.length (Array.replicate ops.length false) a w.drew) : (Code.region id ops.toArray true).wpIn (Fence.wide.inRound l) n P Q a w := by
  refine wpIn_region_any hm ?_
  refine anyIn_of_any (fun i o ho => ?_) hlo _ _ _ _ (wpAny_of_held _ _ _ _ (h hS))
  have hm2 : o ∈ ops := by
    have := List.mem_of_getElem? (l := ops) (i := i) (by simpa using ho)
    exact this
  have := List.all_eq_true.1 hd o hm2
  simpa using this
theorem keeps_of_below {W W' : World} (h : Below W.heap.size W W') : KeepsOthers W W' :=
  ⟨h.size, fun k o hk _ => (h.block k (Array.getElem?_eq_some_iff.1 hk).1).trans hk⟩
theorem own_base {W : World} {b b' : Nat} {e : TypeId} {size : Nat} {v : Value} {k : Nat} {xs : List Value} (h : W.ownsRow b e size v k xs) (hb : b' ≤ b) : W.ownsRow b' e size v k xs := by
  refine ⟨h.1, ?_⟩
  rcases h.2 with ⟨rfl, h0⟩ | ⟨g, cap, cur, rfl, hg, rest⟩
  · exact .inl ⟨rfl, h0⟩
  · exact .inr ⟨g, cap, cur, rfl, Nat.le_trans hb hg, rest⟩
theorem own_far {W : World} {b : Nat} {e : TypeId} {size : Nat} {v : Value} {k : Nat} {xs : List Value} (h : W.ownsRow b e size v k xs) {g : Nat} (hg : g < b) : some g ≠ v.ownBlock := by
  rcases h.2 with ⟨rfl, h0⟩ | ⟨g', cap, cur, rfl, hg', rest⟩
  · simp [Value.ownBlock]
  · intro e'
    have : g = g' := by simpa [Value.ownBlock] using e'
    omega
/-- 'out = append(out, ..)' in a loop, beside a box that the iterator reads. -/
theorem appended2 {W w1 : World} {B : Nat} {t t2 e : TypeId} {size : Nat} {v v' c : Value} {k m : Nat} {xs ys : List Value} {tmp : Obj}
    (hv : Boxed W B t v) (hs : Boxed W (B + 1) t2 c) (hrow : W.ownsRow (B + 2) e size v k xs)
    (hown' : w1.ownsRow (B + 2) e size v' m ys) (hgrow : (W.alloc tmp).grownBy w1 v.ownBlock) :
    Boxed w1 B t v ∧ Boxed (w1.setCell ⟨B, 0, none⟩ v') B t v' ∧ Boxed (w1.setCell ⟨B, 0, none⟩ v') (B + 1) t2 c ∧ (w1.setCell ⟨B, 0, none⟩ v').ownsRow (B + 2) e size v' m ys ∧ KeepsOthers W (w1.setCell ⟨B, 0, none⟩ v') ∧ Below B W (w1.setCell ⟨B, 0, none⟩ v') := by
  have hlt := hs.lt
  have hv1 : Boxed w1 B t v := (hv.alloc tmp).kept hgrow (own_far hrow (by omega))
  have hs1 : Boxed w1 (B + 1) t2 c := (hs.alloc tmp).kept hgrow (own_far hrow (by omega))
  refine ⟨hv1, hv1.set v', hs1.kept (grownBy_setCell' w1 B v') (by simp), hown'.kept (grownBy_setCell' w1 B v') (.inr (own_far hown' (by omega)).symm), ?_, ?_⟩
  · refine ((KeepsOthers.alloc W tmp).trans (KeepsOthers.of_grownBy hgrow fun j o ej hj => ?_)).trans (KeepsOthers.setCell _ _ _)
    rcases (hrow.alloc tmp).2 with ⟨rfl, _⟩ | ⟨g, cap, cur, rfl, _, hgb, _⟩
    · simp [Value.ownBlock] at ej
    · obtain rfl : g = j := by simpa [Value.ownBlock] using ej
      rw [hgb] at hj; cases hj; rfl
  · refine (((Below.refl B W).alloc (by omega) tmp).grown hgrow (by simp; omega) fun j ej => ?_).setCell (p := ⟨B, 0, none⟩) (Nat.le_refl _) v'
    have := own_far hrow (g := j)
    rcases Nat.lt_or_ge j B with h | h
    · exact absurd ej.symm (this (by omega))
    · exact h
theorem regionIn_any {P : Program} {ops : List Oper} {Q : Exit → Act → World → Prop} {id l n : Nat} {a : Act} {w : World} (hm : P.follows .mixedOrders = true) (hd : (ops.all fun o => !isDefer o.op) = true) (hlo : LetsOut Q → False)
    (h : wpAny P .any ops.toArray Q ops.length (Array.replicate ops.length false) a w.drew) : (Code.region id ops.toArray true).wpIn (Fence.wide.inRound l) n P Q a w := by
  refine wpIn_region_any hm ?_
  refine anyIn_of_any (fun i o ho => ?_) hlo _ _ _ _ h
  have hm2 : o ∈ ops := List.mem_of_getElem? (l := ops) (i := i) (by simpa using ho)
  have := List.all_eq_true.1 hd o hm2
  simpa using this
end Go.Pub
namespace Go.Pub
/-- The first byte of a kind, or the end. -/
def firstN (s : ByteArray) (p : Nat → Bool) : Nat := (bytesL s).findIdx fun b => p b.toNat
theorem bytesL_at (s : ByteArray) (k : Nat) (h : k < s.size) : (bytesL s)[k]? = some (s.get! k) := by
  have := sfx_cons s k h
  unfold sfx at this
  rw [← List.head?_drop, this]; rfl
theorem firstN_eq (s : ByteArray) (p : Nat → Bool) (k : Nat) (h : k ≤ s.size) (h1 : ∀ j, j < k → p (bt s j) = false) (h2 : k < s.size → p (bt s k) = true) : firstN s p = k := by
  unfold firstN
  rcases Nat.lt_or_ge k s.size with hk | hk
  · have hkl : k < (bytesL s).length := by rw [bytesL_length]; exact hk
    rw [List.findIdx_eq hkl]
    have hat : ∀ j (hj : j < (bytesL s).length), (bytesL s)[j] = s.get! j := fun j hj => by
      have := bytesL_at s j (by rw [bytesL_length] at hj; exact hj)
      rw [List.getElem?_eq_getElem hj] at this
      injection this
    refine ⟨by rw [hat k hkl]; exact h2 hk, fun j hj => ?_⟩
    rw [hat j (by omega)]
    exact h1 j hj
  · have hke : k = (bytesL s).length := by rw [bytesL_length]; omega
    rw [hke, List.findIdx_eq_length]
    intro b hb
    obtain ⟨j, hj, rfl⟩ := List.mem_iff_getElem.1 hb
    have := bytesL_at s j (by rw [bytesL_length] at hj; exact hj)
    rw [List.getElem?_eq_getElem hj] at this
    injection this with this
    rw [this]
    exact h1 j (by omega)
theorem firstN_le (s : ByteArray) (p : Nat → Bool) : firstN s p ≤ s.size := by
  unfold firstN
  rw [← bytesL_length]
  exact List.findIdx_le_length
theorem range_pre' {k n : Nat} (h : k ≤ n) : List.range k <+: List.range n := by
  have := List.take_prefix k (List.range n)
  rw [List.take_range, Nat.min_eq_left h] at this
  exact this
theorem pre_range {l : List Nat} {n : Nat} (h : l <+: List.range n) : l = List.range l.length ∧ l.length ≤ n := by
  have h1 := h.length_le
  rw [List.length_range] at h1
  have := List.prefix_iff_eq_take.1 h
  rw [List.take_range, Nat.min_eq_left h1] at this
  exact ⟨this, h1⟩
theorem pre_snoc {l : List Nat} {x n : Nat} (h : l ++ [x] <+: List.range n) : l = List.range x ∧ x < n := by
  obtain ⟨h1, h2⟩ := pre_range h
  rw [List.length_append, List.length_singleton] at h1 h2
  rw [List.range_succ] at h1
  obtain ⟨h3, h4⟩ := List.append_inj' h1 rfl
  injection h4 with h4
  subst h4
  exact ⟨h3, by omega⟩
def lastF {n : Nat} (l : List (Fin n)) : Int := match l.getLast? with | some x => ((x.1 : Nat) : Int) | none => 0
theorem lastF_snoc {n : Nat} (l : List (Fin n)) (x : Fin n) : lastF (l ++ [x]) = ((x.1 : Nat) : Int) := by unfold lastF; rw [List.getLast?_concat]
end Go.Pub
namespace Go.Proofs.YtpoafhgbhnblmaaGreatDoor
open Go.RowKit Go.Pub Go.Shelf
attribute [local go_sem] Oper.semAt_some
theorem characters_any (s : ByteArray) (w : World) : Calls Tryz.prog 106 #[.string s] w fun e w' =>
    e = .returned (.func (.func 163) #[] #[.pointer (some ⟨w.heap.size, 0, none⟩)]) ∧ w' = w.alloc (.cells #[.string s] 9) := by
  go_enter Tryz.func106, Tryz.ntmps106
  go_wp2
  go_ret
  exact ⟨rfl, rfl⟩
set_option maxRecDepth 100000 in
set_option maxHeartbeats 2000000 in
theorem chars_stops (n : Nat) (hn : 1 ≤ n) (Bn : Nat) (s : ByteArray) (hs : s.size ≤ 1000000) (w : World) (hB : w.heap[Bn]? = some (.cells #[.string s] 9 (0, 0))) :
    SeqStopsK Fence.wide n Tryz.prog 163 #[.pointer (some ⟨Bn, 0, none⟩)] (fun x : Fin s.size => #[Value.int .i64 (x.1 : Nat), Value.int .u8 (bt s x.1)]) (KpB Bn) (fun ys => ys.map Fin.val = List.range s.size) (fun pre => pre.map Fin.val <+: List.range s.size) s.size w := fun l J Jx W hW _ _ hY h0 => by
  have hlt : Bn < w.heap.size := by
    rcases Nat.lt_or_ge Bn w.heap.size with h | h
    · exact h
    · rw [Array.getElem?_eq_none h] at hB; cases hB
  have hBW : W.heap[Bn]? = some (.cells #[.string s] 9 (0, 0)) := (hW.block Bn hlt).trans hB
  have hcW : W.cell? ⟨Bn, 0, none⟩ = some (.string s) := cell_of_row W Bn 0 _ _ _ hBW
  refine callsIn_of_wp Tryz.func163 rfl trivial ?_ rfl
  simp only [Tryz.ntmps163, List.size_toArray, List.length_cons, List.length_nil, Nat.reduceAdd, Nat.reduceSub, Array.replicate_succ, Array.replicate_zero, List.push_toArray, List.append_toArray, List.nil_append, List.cons_append]
  gi_wp2
  gi_loopw [6] (fun v6 wr => ∃ (i : Nat) (pre : List (Fin s.size)), v6 = .int .i64 i ∧ i ≤ s.size ∧ wr.heap[Bn]? = some (.cells #[.string s] 9 (0, 0)) ∧ Hid (pre.map Fin.val = List.range i) ∧ J pre wr)
    (fun v6 _ => s.size - (intOf v6).toNat)
  case atStart => exact ⟨0, [], rfl, by omega, hBW, Lib.hid rfl, h0⟩
  case round =>
    clear hcW hBW h0
    obtain ⟨i, pre, rfl, hi, hBr, HPre, hJs⟩ := hrel
    have hc : wr.cell? ⟨Bn, 0, none⟩ = some (.string s) := cell_of_row wr Bn 0 _ _ _ hBr
    have hpl : pre.length = i := by
      have := congrArg List.length HPre.out
      rwa [List.length_map, List.length_range] at this
    by_cases hlt2 : i < s.size
    · have hg := get_bt s i hlt2
      have HN : Hid ((pre ++ [(⟨i, hlt2⟩ : Fin s.size)]).map Fin.val = List.range (i + 1)) := Lib.hid (by rw [List.map_append, HPre.out, List.range_succ]; rfl)
      obtain ⟨fn, tmps, assign, body, hy, hR⟩ := hY pre ⟨i, hlt2⟩ wr hJs (by omega)
      clear hpl
      gi_wp2_with fail
      refine hR.mono ?_
      rintro e W3 (⟨rfl, hJ3, hk3⟩ | ⟨rfl, hJx3⟩)
      · have hB3 : W3.heap[Bn]? = some (.cells #[.string s] 9 (0, 0)) := hk3.trans hBr
        gi_wp2_with fail
        go_roundw
        case rel => exact ⟨i + 1, _, by go_num, by omega, hB3, HN, hJ3⟩
        case measure => simp [intOf]; omega
      · gi_wp2_with fail
        refine bodyPost_ret (results_none rfl _ _ _) rfl ?_
        exact ⟨⟨_, rfl⟩, .inr ⟨_, by rw [HN.out]; exact range_pre' (by omega), hJx3⟩⟩
    · obtain rfl : i = s.size := by omega
      gi_wp2_with fail
      go_end0
      exact ⟨⟨_, rfl⟩, .inl ⟨_, HPre.out, hJs⟩⟩

set_option maxRecDepth 100000 in
set_option maxHeartbeats 4000000 in
theorem m_run (s : ByteArray) (c : Nat) (hc : c < 256) (w : World) (hs : s.size ≤ 1000000) : Calls Tryz.prog 102 #[.string s, .int .u8 c] w fun e w' => e = .returned (.int .i64 (firstN s (· != c))) ∧ Below w.heap.size w w' := by
  have HP := Lib.hid fun W => characters_any s W
  refine (callsIn_wide (n := 5)).1 ?_
  refine callsIn_of_wp_marks Tryz.func102 rfl trivial ?_ rfl
  simp only [Tryz.ntmps102, List.size_toArray, List.length_cons, List.length_nil, Nat.reduceAdd, Nat.reduceSub, Array.replicate_succ, Array.replicate_zero, List.push_toArray, List.append_toArray, List.nil_append, List.cons_append]
  gi_wp2_with fail
  refine ⟨trivial, ?_⟩
  ((with_reducible refine (callsIn_wide.2 (HP.out _)).mono ?_))
  rintro e w' ⟨rfl, rfl⟩
  gi_wp2_with fail
  have bC := Boxed.new w 5 (.int .u8 c)
  have bR := Boxed.new (w.alloc (.cells #[.int .u8 c] 5)) 3 (.int .i64 0)
  rw [World.size_alloc] at bR
  have bS := Boxed.new ((w.alloc (.cells #[.int .u8 c] 5)).alloc (.cells #[.int .i64 0] 3)) 9 (.string s)
  rw [World.size_alloc, World.size_alloc] at bS
  have hB0 : Below w.heap.size w (((w.alloc (.cells #[.int .u8 c] 5)).alloc (.cells #[.int .i64 0] 3)).alloc (.cells #[.string s] 9)) := (((Below.refl _ w).alloc (Nat.le_refl _) _).alloc (by simp) _).alloc (by simp; omega) _
  have bC' := (bC.alloc (.cells #[.int .i64 0] 3)).alloc (.cells #[.string s] 9)
  have bR' := bR.alloc (.cells #[.string s] 9)
  have hzW : (((w.alloc (.cells #[.int .u8 c] 5)).alloc (.cells #[.int .i64 0] 3)).alloc (.cells #[.string s] 9)).heap.size = w.heap.size + 3 := by simp
  generalize (((w.alloc (.cells #[.int .u8 c] 5)).alloc (.cells #[.int .i64 0] 3)).alloc (.cells #[.string s] 9)) = W0 at *
  clear bC bR
  refine wpIn_rangeFunc_ownG rfl (by omega) (gf := 163) (lb := #[.pointer (some ⟨w.heap.size + 1 + 1, 0, none⟩)]) rfl trivial (enters_of Tryz.func163 (by kernel_rfl) rfl)
    (chars_stops 4 (by omega) (w.heap.size + 1 + 1) s hs _ bS) (Kp := KpB (w.heap.size + 1 + 1)) (fun h1 h2 => h2.trans h1) (fun W l o o' hl ho hc _ => World.putObj_heap_other (fun e => by omega)) (Below.refl _ _) (fun _ => rfl)
    (fun (pre : List (Fin s.size)) W => (Boxed W w.heap.size 5 (.int .u8 c) ∧ Boxed W (w.heap.size + 1 + 1) 9 (.string s)) ∧ Boxed W (w.heap.size + 1) 3 (.int .i64 0) ∧ (∀ j ∈ pre, bt s j.1 = c) ∧ Below w.heap.size w W)
    (fun q (pre : List (Fin s.size)) W => (q = Code.ret ∧ ∃ pr x, pre = pr ++ [x] ∧ (∀ j ∈ pr, bt s j.1 = c) ∧ bt s x.1 ≠ c) ∧ Boxed W (w.heap.size + 1) 3 (.int .i64 (lastF pre)) ∧ Below w.heap.size w W)
    (OwnFrom.and (OwnFrom.and (Own.from (boxed_own _ _ (fun _ => .int .u8 c)) _) (Own.from (boxed_own _ _ (fun _ => .string s)) _)) (OwnFrom.and (Own.from (boxed_own _ _ (fun _ => .int .i64 0)) _) (OwnFrom.and (ownFrom_pure _ _) (ownFrom_below (Nat.le_refl _) (by omega)))))
    (fun q => OwnFrom.and (ownFrom_pure _ _) (OwnFrom.and (Own.from (boxed_own _ _ (fun pre => .int .i64 (lastF pre))) _) (ownFrom_below (Nat.le_refl _) (by omega))))
    ⟨⟨bC', bS⟩, bR', fun j h => absurd h (by simp), hB0⟩
    (fun (x : Fin s.size) => { tmps := #[.string s, .int .u8 c, undef, .pointer (some ⟨w.heap.size, 0, none⟩), .pointer (some ⟨w.heap.size + 1, 0, none⟩), .int .i64 (x.1 : Nat), .int .u8 (bt s x.1), .string s, .func (.func 163) #[] #[.pointer (some ⟨w.heap.size + 1 + 1, 0, none⟩)], .int .i64 (x.1 : Nat), .int .u8 (bt s x.1), undef, undef, undef, undef, undef, undef], defers := [] }) ?assign ?body ?done ?stop
  case assign =>
    intro l x W K hK
    gi_wp2_with fail
    exact hK
  case body =>
    rintro l pre x W ⟨⟨hC, hsB⟩, hR, hg, hB⟩ hlt
    have HG := Lib.hid hg
    clear hg
    have k1 := hC.cell
    have k2 := hR.cell
    have k3 := hR.frozen
    by_cases hx : bt s x.1 = c
    · have d1 : (((bt s x.1 : Nat) : Int) != (c : Int)) = false := by rw [hx]; simp
      have HN : Hid (∀ j ∈ pre ++ [x], bt s j.1 = c) := Lib.hid fun j hj => by
        rcases List.mem_append.1 hj with hj | hj
        · exact HG.out j hj
        · rw [List.mem_singleton] at hj; rw [hj]; exact hx
      clear hx
      gi_wp2_with fail
      exact ⟨(KeepsOthers.refl _).from _, rfl, ⟨hC, hsB⟩, hR, HN.out, hB⟩
    · have d1 : (((bt s x.1 : Nat) : Int) != (c : Int)) = true := by rw [bne_iff_ne]; omega
      have HX := Lib.hid hx
      clear hx
      gi_wp2_with fail
      exact ⟨(KeepsOthers.setCell _ _ _).from _, ⟨rfl, pre, x, rfl, HG.out, HX.out⟩, by rw [lastF_snoc]; exact hR.set _, hB.setCell (p := ⟨w.heap.size + 1, 0, none⟩) (by show w.heap.size ≤ w.heap.size + 1; omega) _⟩
  case done =>
    rintro D ys W hD hys ⟨⟨hC, hsB⟩, hR, hg, hB⟩ hK
    have HE : Hid (firstN s (· != c) = s.size) := Lib.hid (firstN_eq s _ _ (Nat.le_refl _) (fun j hj => by
      rw [bne_eq_false_iff_eq]
      have : j ∈ ys.map Fin.val := by rw [hys]; exact List.mem_range.2 hj
      obtain ⟨y, hy, rfl⟩ := List.mem_map.1 this
      exact hg y hy) (fun h => absurd h (by omega)))
    clear hg hys
    have k2 := hR.cell
    have k3 := hR.frozen
    have q1 := hR.set (.int .i64 s.size)
    have q3 : Below w.heap.size w (W.setCell ⟨w.heap.size + 1, 0, none⟩ (.int .i64 s.size)) := hB.setCell (p := ⟨w.heap.size + 1, 0, none⟩) (by show w.heap.size ≤ w.heap.size + 1; omega) _
    have hK' := (KeepsOthers.setCell W ⟨w.heap.size + 1, 0, none⟩ (.int .i64 s.size)).same D _ hK rfl
    gi_wp2_with fail
    refine ⟨by simp, .inl ⟨_, _, rfl, run_takeDeferred hK', ?_⟩⟩
    have c1 := cell_kept q1.cell (grownBy_putObj' _ D (.deferred none)) (fun r e => by cases e; exact ⟨_, hK', rfl⟩)
    refine ⟨.int .i64 s.size, by simp [results, Tryz.results102, go_sem, c1], ?_, q3.trans (belowK_b (w := w) (Nat.le_refl _) _ D _ _ (by omega) hK' rfl rfl)⟩
    rw [HE.out]
  case stop =>
    rintro D q pre W hD hpre ⟨⟨rfl, pr, x, rfl, hg, hx⟩, hR, hB⟩ hK
    rw [List.map_append] at hpre
    obtain ⟨hp1, hp2⟩ := pre_snoc hpre
    have HE : Hid (firstN s (· != c) = x.1) := Lib.hid (firstN_eq s _ _ (Nat.le_of_lt hp2) (fun j hj => by
      rw [bne_eq_false_iff_eq]
      have : j ∈ pr.map Fin.val := by rw [hp1]; exact List.mem_range.2 hj
      obtain ⟨y, hy, rfl⟩ := List.mem_map.1 this
      exact hg y hy) (fun _ => by rw [bne_iff_ne]; exact hx))
    rw [lastF_snoc] at hR
    clear hg hx hpre hp1
    gi_wp2_with fail
    refine ⟨by simp, .inl ⟨_, _, rfl, run_takeDeferred hK, ?_⟩⟩
    have c1 := cell_kept hR.cell (grownBy_putObj' _ D (.deferred none)) (fun r e => by cases e; exact ⟨_, hK, rfl⟩)
    refine ⟨.int .i64 x.1, by simp [results, Tryz.results102, go_sem, c1], ?_, hB.trans (belowK_b (w := w) (Nat.le_refl _) _ D _ _ (by omega) hK rfl rfl)⟩
    rw [HE.out]

end Go.Proofs.YtpoafhgbhnblmaaGreatDoor
